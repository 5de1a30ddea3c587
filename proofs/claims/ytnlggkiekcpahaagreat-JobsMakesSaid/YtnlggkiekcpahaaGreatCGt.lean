/- A text of the proof. -/
import Derived.Test.YtnlggkiekcpahaaGreatProg
import Derived.Test.YtnlggkiekcpahaaGreatCAmZj
import Derived.Test.YtnlggkiekcpahaaGreatCGp
namespace Go.T
open Go Go.AM Go.Proofs
def aA.enc (x : aA) : List AV := [.str x.Key, .str x.Val, .bool x.Dead, .int .i64 x.Seq]
theorem aA.eta (x : aA) : aA.mk x.Key x.Val x.Dead x.Seq = x := rfl
theorem aA.allP (l : List aA) : (l.map aA.enc).all AV.isP.isPs = true := zF (fun _ => rfl) l
theorem aA.allF (l : List aA) : (l.map aA.enc).all AV.flatR.flatRs = true := vN (fun _ => rfl) l
attribute [push_cast] aA.enc aA.eta aA.allP aA.allF
def zA.enc (x : zA) : List AV := [.int .i64 x.Id, .psl 4 (x.Entries.map aA.enc)]
theorem zA.eta (x : zA) : zA.mk x.Id x.Entries = x := rfl
theorem zA.allP (l : List zA) : (l.map zA.enc).all AV.isP.isPs = true := zF (fun _ => rfl) l
attribute [push_cast] zA.enc zA.eta zA.allP
def sA.enc (x : sA) : List AV := [.psl 2 (x.Runs.map zA.enc)]
theorem sA.eta (x : sA) : sA.mk x.Runs = x := rfl
theorem sA.allP (l : List sA) : (l.map sA.enc).all AV.isP.isPs = true := zF (fun _ => rfl) l
attribute [push_cast] sA.enc sA.eta sA.allP
def uA.enc (x : uA) : List AV := [.int .i64 x.B, .psl 1 (x.Levels.map sA.enc)]
theorem uA.eta (x : uA) : uA.mk x.B x.Levels = x := rfl
theorem uA.allP (l : List uA) : (l.map uA.enc).all AV.isP.isPs = true := zF (fun _ => rfl) l
attribute [push_cast] uA.enc uA.eta uA.allP
def eA.enc (x : eA) : List AV := [.str x.Key, .bool x.Done]
theorem eA.eta (x : eA) : eA.mk x.Key x.Done = x := rfl
theorem eA.allP (l : List eA) : (l.map eA.enc).all AV.isP.isPs = true := zF (fun _ => rfl) l
theorem eA.allF (l : List eA) : (l.map eA.enc).all AV.flatR.flatRs = true := vN (fun _ => rfl) l
attribute [push_cast] eA.enc eA.eta eA.allP eA.allF
def eB.enc (x : eB) : List AV := [.psl 2 (x.Keys.map eA.enc), .psl 1 (x.Lose.map (gA .i64)), .int .i64 x.Win]
theorem eB.eta (x : eB) : eB.mk x.Keys x.Lose x.Win = x := rfl
theorem eB.allP (l : List eB) : (l.map eB.enc).all AV.isP.isPs = true := zF (fun _ => rfl) l
attribute [push_cast] eB.enc eB.eta eB.allP
def kB.enc (x : kB) : List AV := [.psl 1 (x.Runs.map (vA 4 aA.enc)), .psl 1 (x.At.map (gA .i64)), .psl 2 (x.Tree.Keys.map eA.enc), .psl 1 (x.Tree.Lose.map (gA .i64)), .int .i64 x.Tree.Win]
theorem kB.eta (x : kB) : kB.mk x.Runs x.At x.Tree = x := rfl
theorem kB.allP (l : List kB) : (l.map kB.enc).all AV.isP.isPs = true := zF (fun _ => rfl) l
attribute [push_cast] kB.enc kB.eta kB.allP
def tB.enc (x : tB) : List AV := [.bool x.Some, .str x.Last, .bool x.Bottom]
theorem tB.eta (x : tB) : tB.mk x.Some x.Last x.Bottom = x := rfl
theorem tB.allP (l : List tB) : (l.map tB.enc).all AV.isP.isPs = true := zF (fun _ => rfl) l
theorem tB.allF (l : List tB) : (l.map tB.enc).all AV.flatR.flatRs = true := vN (fun _ => rfl) l
attribute [push_cast] tB.enc tB.eta tB.allP tB.allF
def wB.enc (x : wB) : List AV := [.psl 1 (x.Merge.Runs.map (vA 4 aA.enc)), .psl 1 (x.Merge.At.map (gA .i64)), .psl 2 (x.Merge.Tree.Keys.map eA.enc), .psl 1 (x.Merge.Tree.Lose.map (gA .i64)), .int .i64 x.Merge.Tree.Win, .bool x.Shadow.Some, .str x.Shadow.Last, .bool x.Shadow.Bottom, .psl 4 (x.Out.map aA.enc), .int .i64 x.Steps]
theorem wB.eta (x : wB) : wB.mk x.Merge x.Shadow x.Out x.Steps = x := rfl
theorem wB.allP (l : List wB) : (l.map wB.enc).all AV.isP.isPs = true := zF (fun _ => rfl) l
attribute [push_cast] wB.enc wB.eta wB.allP
def yA.enc (x : yA) : List AV := [.int .i64 x.Level, .psl 1 (x.Work.Merge.Runs.map (vA 4 aA.enc)), .psl 1 (x.Work.Merge.At.map (gA .i64)), .psl 2 (x.Work.Merge.Tree.Keys.map eA.enc), .psl 1 (x.Work.Merge.Tree.Lose.map (gA .i64)), .int .i64 x.Work.Merge.Tree.Win, .bool x.Work.Shadow.Some, .str x.Work.Shadow.Last, .bool x.Work.Shadow.Bottom, .psl 4 (x.Work.Out.map aA.enc), .int .i64 x.Work.Steps]
theorem yA.eta (x : yA) : yA.mk x.Level x.Work = x := rfl
theorem yA.allP (l : List yA) : (l.map yA.enc).all AV.isP.isPs = true := zF (fun _ => rfl) l
attribute [push_cast] yA.enc yA.eta yA.allP
def oB.enc (x : oB) : List AV := [.int .i64 x.Levels.B, .psl 1 (x.Levels.Levels.map sA.enc), .psl 11 (x.Jobs.map yA.enc), .int .i64 x.NextId]
theorem oB.eta (x : oB) : oB.mk x.Levels x.Jobs x.NextId = x := rfl
theorem oB.allP (l : List oB) : (l.map oB.enc).all AV.isP.isPs = true := zF (fun _ => rfl) l
attribute [push_cast] oB.enc oB.eta oB.allP
def kF.enc (x : kF) : List AV := [.str x.Key, .str x.Val, .bool x.Dead, .int .i64 x.Seq]
theorem kF.eta (x : kF) : kF.mk x.Key x.Val x.Dead x.Seq = x := rfl
theorem kF.allP (l : List kF) : (l.map kF.enc).all AV.isP.isPs = true := zF (fun _ => rfl) l
theorem kF.allF (l : List kF) : (l.map kF.enc).all AV.flatR.flatRs = true := vN (fun _ => rfl) l
attribute [push_cast] kF.enc kF.eta kF.allP kF.allF
def mF.enc (x : mF) : List AV := [.str x.Key, .str x.Val, .bool x.Dead, .int .i64 x.Seq]
theorem mF.eta (x : mF) : mF.mk x.Key x.Val x.Dead x.Seq = x := rfl
theorem mF.allP (l : List mF) : (l.map mF.enc).all AV.isP.isPs = true := zF (fun _ => rfl) l
theorem mF.allF (l : List mF) : (l.map mF.enc).all AV.flatR.flatRs = true := vN (fun _ => rfl) l
attribute [push_cast] mF.enc mF.eta mF.allP mF.allF
def pE.enc (x : pE) : List AV := [.str x.Key, .str x.Val, .bool x.Dead, .int .i64 x.Seq]
theorem pE.eta (x : pE) : pE.mk x.Key x.Val x.Dead x.Seq = x := rfl
theorem pE.allP (l : List pE) : (l.map pE.enc).all AV.isP.isPs = true := zF (fun _ => rfl) l
theorem pE.allF (l : List pE) : (l.map pE.enc).all AV.flatR.flatRs = true := vN (fun _ => rfl) l
attribute [push_cast] pE.enc pE.eta pE.allP pE.allF
theorem tSize2 : nB Tryz.prog 2 = some 1 := by kernel_rfl
theorem zd2 : fD Tryz.prog 2 = some 8 := by kernel_rfl
theorem tAgg2 : iD Tryz.prog 2 = some false := by kernel_rfl
theorem tUnd2 : Tryz.prog.underlying 2 = some (.int .i64) := by kernel_rfl
theorem tZero2 : qC Tryz.prog 2 = some [.int .i64 0] := by kernel_rfl
theorem tSize3 : nB Tryz.prog 3 = some 1 := by kernel_rfl
theorem zef : fD Tryz.prog 3 = some 8 := by kernel_rfl
theorem tAgg3 : iD Tryz.prog 3 = some false := by kernel_rfl
theorem tUnd3 : Tryz.prog.underlying 3 = some (.int .i64) := by kernel_rfl
theorem tZero3 : qC Tryz.prog 3 = some [.int .i64 0] := by kernel_rfl
theorem tSize4 : nB Tryz.prog 4 = some 1 := by kernel_rfl
theorem zh6 : fD Tryz.prog 4 = some 1 := by kernel_rfl
theorem tAgg4 : iD Tryz.prog 4 = some false := by kernel_rfl
theorem tUnd4 : Tryz.prog.underlying 4 = some .bool := by kernel_rfl
theorem eqTyB4 {a b : Bool} : vC Tryz.prog .eql 4 (.bool a) (.bool b) = some (.bool (a == b)) := by kernel_rfl
theorem neTyB4 {a b : Bool} : vC Tryz.prog .neq 4 (.bool a) (.bool b) = some (.bool (!(a == b))) := by kernel_rfl
theorem tZero4 : qC Tryz.prog 4 = some [.bool false] := by kernel_rfl
theorem tSize5 : nB Tryz.prog 5 = some 1 := by kernel_rfl
theorem zdL : fD Tryz.prog 5 = some 1 := by kernel_rfl
theorem tAgg5 : iD Tryz.prog 5 = some false := by kernel_rfl
theorem tUnd5 : Tryz.prog.underlying 5 = some (.int .u8) := by kernel_rfl
theorem tZero5 : qC Tryz.prog 5 = some [.int .u8 0] := by kernel_rfl
theorem tSize9 : nB Tryz.prog 9 = some 1 := by kernel_rfl
theorem zdW : fD Tryz.prog 9 = some 16 := by kernel_rfl
theorem tAgg9 : iD Tryz.prog 9 = some false := by kernel_rfl
theorem tStr9 : tStr Tryz.prog 9 = some () := by kernel_rfl
theorem tUnd9 : Tryz.prog.underlying 9 = some .string := by kernel_rfl
theorem tZero9 : qC Tryz.prog 9 = some [.str []] := by kernel_rfl
theorem zeA : nB Tryz.prog 22 = some 1 := by kernel_rfl
theorem zmZ : fD Tryz.prog 22 = some 24 := by kernel_rfl
theorem tAgg22 : iD Tryz.prog 22 = some false := by kernel_rfl
theorem ziQ : qC Tryz.prog 22 = some [.nils] := by kernel_rfl
theorem zmX : wC Tryz.prog 22 = some 89 := by kernel_rfl
theorem tUnd22 : Tryz.prog.underlying 22 = some (.slice 89) := by kernel_rfl
theorem ziR : nB Tryz.prog 24 = some 2 := by kernel_rfl
theorem zmS : fD Tryz.prog 24 = some 32 := by kernel_rfl
theorem tAgg24 : iD Tryz.prog 24 = some true := by kernel_rfl
theorem zlm : qC Tryz.prog 24 = some [.int .i64 0, .nils] := by kernel_rfl
theorem zd6 : yF Tryz.prog 24 = some [(0, 1), (1, 1)] := by kernel_rfl
theorem zj9 : xC Tryz.prog 24 0 = some (0, 3) := by kernel_rfl
theorem zfe : xC Tryz.prog 24 1 = some (1, 22) := by kernel_rfl
theorem zfJ : nB Tryz.prog 25 = some 1 := by kernel_rfl
theorem zgU : fD Tryz.prog 25 = some 24 := by kernel_rfl
theorem tAgg25 : iD Tryz.prog 25 = some false := by kernel_rfl
theorem zia : qC Tryz.prog 25 = some [.nils] := by kernel_rfl
theorem zlJ : wC Tryz.prog 25 = some 59 := by kernel_rfl
theorem tUnd25 : Tryz.prog.underlying 25 = some (.slice 59) := by kernel_rfl
theorem zmA : nB Tryz.prog 27 = some 4 := by kernel_rfl
theorem zeG : fD Tryz.prog 27 = some 64 := by kernel_rfl
theorem tAgg27 : iD Tryz.prog 27 = some true := by kernel_rfl
theorem zjA : qC Tryz.prog 27 = some [.int .i64 0, .nils, .nils, .int .i64 0] := by kernel_rfl
theorem zeL : yF Tryz.prog 27 = some [(0, 2), (2, 1), (3, 1)] := by kernel_rfl
theorem zd4 : xC Tryz.prog 27 0 = some (0, 24) := by kernel_rfl
theorem zhY : xC Tryz.prog 27 1 = some (2, 25) := by kernel_rfl
theorem zmD : xC Tryz.prog 27 2 = some (3, 3) := by kernel_rfl
theorem zmj : nB Tryz.prog 30 = some 1 := by kernel_rfl
theorem zhb : fD Tryz.prog 30 = some 8 := by kernel_rfl
theorem tAgg30 : iD Tryz.prog 30 = some false := by kernel_rfl
theorem tUnd30 : Tryz.prog.underlying 30 = some (.int .i64) := by kernel_rfl
theorem zl2 : qC Tryz.prog 30 = some [.int .i64 0] := by kernel_rfl
theorem ze8 : nB Tryz.prog 37 = some 1 := by kernel_rfl
theorem zlW : fD Tryz.prog 37 = some 24 := by kernel_rfl
theorem tAgg37 : iD Tryz.prog 37 = some false := by kernel_rfl
theorem zdZ : qC Tryz.prog 37 = some [.nils] := by kernel_rfl
theorem zf8 : wC Tryz.prog 37 = some 3 := by kernel_rfl
theorem tUnd37 : Tryz.prog.underlying 37 = some (.slice 3) := by kernel_rfl
theorem zer : nB Tryz.prog 47 = some 1 := by kernel_rfl
theorem zhy : fD Tryz.prog 47 = some 24 := by kernel_rfl
theorem tAgg47 : iD Tryz.prog 47 = some false := by kernel_rfl
theorem zgq : qC Tryz.prog 47 = some [.nils] := by kernel_rfl
theorem zin : wC Tryz.prog 47 = some 55 := by kernel_rfl
theorem tUnd47 : Tryz.prog.underlying 47 = some (.slice 55) := by kernel_rfl
theorem zlu : nB Tryz.prog 48 = some 1 := by kernel_rfl
theorem zhu : fD Tryz.prog 48 = some 24 := by kernel_rfl
theorem tAgg48 : iD Tryz.prog 48 = some false := by kernel_rfl
theorem zmW : qC Tryz.prog 48 = some [.nils] := by kernel_rfl
theorem zjI : wC Tryz.prog 48 = some 119 := by kernel_rfl
theorem tUnd48 : Tryz.prog.underlying 48 = some (.slice 119) := by kernel_rfl
theorem zfM : nB Tryz.prog 50 = some 3 := by kernel_rfl
theorem zlS : fD Tryz.prog 50 = some 56 := by kernel_rfl
theorem tAgg50 : iD Tryz.prog 50 = some true := by kernel_rfl
theorem zea : qC Tryz.prog 50 = some [.nils, .nils, .int .i64 0] := by kernel_rfl
theorem zkX : yF Tryz.prog 50 = some [(0, 1), (1, 1), (2, 1)] := by kernel_rfl
theorem zft : xC Tryz.prog 50 0 = some (0, 48) := by kernel_rfl
theorem zka : xC Tryz.prog 50 1 = some (1, 37) := by kernel_rfl
theorem zgY : xC Tryz.prog 50 2 = some (2, 3) := by kernel_rfl
theorem zfh : nB Tryz.prog 52 = some 5 := by kernel_rfl
theorem zlC : fD Tryz.prog 52 = some 104 := by kernel_rfl
theorem tAgg52 : iD Tryz.prog 52 = some true := by kernel_rfl
theorem zdN : qC Tryz.prog 52 = some [.nils, .nils, .nils, .nils, .int .i64 0] := by kernel_rfl
theorem zgs : yF Tryz.prog 52 = some [(0, 1), (1, 1), (2, 3)] := by kernel_rfl
theorem zig : xC Tryz.prog 52 0 = some (0, 47) := by kernel_rfl
theorem zd3 : xC Tryz.prog 52 1 = some (1, 37) := by kernel_rfl
theorem zkA : xC Tryz.prog 52 2 = some (2, 50) := by kernel_rfl
theorem zf9 : nB Tryz.prog 54 = some 3 := by kernel_rfl
theorem ziL : fD Tryz.prog 54 = some 32 := by kernel_rfl
theorem tAgg54 : iD Tryz.prog 54 = some true := by kernel_rfl
theorem zlR : qC Tryz.prog 54 = some [.bool false, .str [], .bool false] := by kernel_rfl
theorem zlt : yF Tryz.prog 54 = some [(0, 1), (1, 1), (2, 1)] := by kernel_rfl
theorem zhA : xC Tryz.prog 54 0 = some (0, 4) := by kernel_rfl
theorem zlM : xC Tryz.prog 54 1 = some (1, 9) := by kernel_rfl
theorem zfY : xC Tryz.prog 54 2 = some (2, 4) := by kernel_rfl
theorem ziw : nB Tryz.prog 55 = some 1 := by kernel_rfl
theorem zfP : fD Tryz.prog 55 = some 24 := by kernel_rfl
theorem tAgg55 : iD Tryz.prog 55 = some false := by kernel_rfl
theorem zjv : qC Tryz.prog 55 = some [.nils] := by kernel_rfl
theorem zgJ : wC Tryz.prog 55 = some 67 := by kernel_rfl
theorem tUnd55 : Tryz.prog.underlying 55 = some (.slice 67) := by kernel_rfl
theorem zjc : nB Tryz.prog 57 = some 10 := by kernel_rfl
theorem zeJ : fD Tryz.prog 57 = some 168 := by kernel_rfl
theorem tAgg57 : iD Tryz.prog 57 = some true := by kernel_rfl
theorem ziC : qC Tryz.prog 57 = some [.nils, .nils, .nils, .nils, .int .i64 0, .bool false, .str [], .bool false, .nils, .int .i64 0] := by kernel_rfl
theorem zmP : yF Tryz.prog 57 = some [(0, 5), (5, 3), (8, 1), (9, 1)] := by kernel_rfl
theorem zkV : xC Tryz.prog 57 0 = some (0, 52) := by kernel_rfl
theorem zlL : xC Tryz.prog 57 1 = some (5, 54) := by kernel_rfl
theorem zlf : xC Tryz.prog 57 2 = some (8, 55) := by kernel_rfl
theorem zhs : xC Tryz.prog 57 3 = some (9, 2) := by kernel_rfl
theorem zjp : nB Tryz.prog 59 = some 11 := by kernel_rfl
theorem zdQ : fD Tryz.prog 59 = some 176 := by kernel_rfl
theorem tAgg59 : iD Tryz.prog 59 = some true := by kernel_rfl
theorem zeC : qC Tryz.prog 59 = some [.int .i64 0, .nils, .nils, .nils, .nils, .int .i64 0, .bool false, .str [], .bool false, .nils, .int .i64 0] := by kernel_rfl
theorem zeY : yF Tryz.prog 59 = some [(0, 1), (1, 10)] := by kernel_rfl
theorem zet : xC Tryz.prog 59 0 = some (0, 3) := by kernel_rfl
theorem zmN : xC Tryz.prog 59 1 = some (1, 57) := by kernel_rfl
theorem zf6 : nB Tryz.prog 67 = some 4 := by kernel_rfl
theorem zkt : fD Tryz.prog 67 = some 48 := by kernel_rfl
theorem tAgg67 : iD Tryz.prog 67 = some true := by kernel_rfl
theorem zg7 : qC Tryz.prog 67 = some [.str [], .str [], .bool false, .int .i64 0] := by kernel_rfl
theorem zjf : yF Tryz.prog 67 = some [(0, 1), (1, 1), (2, 1), (3, 1)] := by kernel_rfl
theorem zlx : xC Tryz.prog 67 0 = some (0, 9) := by kernel_rfl
theorem ziK : xC Tryz.prog 67 1 = some (1, 9) := by kernel_rfl
theorem ziE : xC Tryz.prog 67 2 = some (2, 4) := by kernel_rfl
theorem zja : xC Tryz.prog 67 3 = some (3, 2) := by kernel_rfl
theorem zgV : nB Tryz.prog 87 = some 1 := by kernel_rfl
theorem zid : fD Tryz.prog 87 = some 24 := by kernel_rfl
theorem tAgg87 : iD Tryz.prog 87 = some false := by kernel_rfl
theorem zfa : qC Tryz.prog 87 = some [.nils] := by kernel_rfl
theorem zi0 : wC Tryz.prog 87 = some 94 := by kernel_rfl
theorem tUnd87 : Tryz.prog.underlying 87 = some (.slice 94) := by kernel_rfl
theorem zlr : nB Tryz.prog 89 = some 1 := by kernel_rfl
theorem zmu : fD Tryz.prog 89 = some 24 := by kernel_rfl
theorem tAgg89 : iD Tryz.prog 89 = some true := by kernel_rfl
theorem zgp : qC Tryz.prog 89 = some [.nils] := by kernel_rfl
theorem zgW : yF Tryz.prog 89 = some [(0, 1)] := by kernel_rfl
theorem zmp : xC Tryz.prog 89 0 = some (0, 87) := by kernel_rfl
theorem zek : nB Tryz.prog 94 = some 2 := by kernel_rfl
theorem zml : fD Tryz.prog 94 = some 32 := by kernel_rfl
theorem tAgg94 : iD Tryz.prog 94 = some true := by kernel_rfl
theorem zkg : qC Tryz.prog 94 = some [.int .i64 0, .nils] := by kernel_rfl
theorem zfo : yF Tryz.prog 94 = some [(0, 1), (1, 1)] := by kernel_rfl
theorem ze5 : xC Tryz.prog 94 0 = some (0, 3) := by kernel_rfl
theorem zfU : xC Tryz.prog 94 1 = some (1, 55) := by kernel_rfl
theorem zeO : nB Tryz.prog 99 = some 10 := by kernel_rfl
theorem zhl : fD Tryz.prog 99 = some 168 := by kernel_rfl
theorem tAgg99 : iD Tryz.prog 99 = some true := by kernel_rfl
theorem zej : qC Tryz.prog 99 = some [.nils, .nils, .nils, .nils, .int .i64 0, .bool false, .str [], .bool false, .nils, .int .i64 0] := by kernel_rfl
theorem zhB : yF Tryz.prog 99 = some [(0, 10)] := by kernel_rfl
theorem zgz : xC Tryz.prog 99 0 = some (0, 57) := by kernel_rfl
theorem zey : nB Tryz.prog 119 = some 2 := by kernel_rfl
theorem zi9 : fD Tryz.prog 119 = some 24 := by kernel_rfl
theorem zmm : iD Tryz.prog 119 = some true := by kernel_rfl
theorem zi2 : qC Tryz.prog 119 = some [.str [], .bool false] := by kernel_rfl
theorem zkH : yF Tryz.prog 119 = some [(0, 1), (1, 1)] := by kernel_rfl
theorem zeR : xC Tryz.prog 119 0 = some (0, 9) := by kernel_rfl
theorem zmR : xC Tryz.prog 119 1 = some (1, 4) := by kernel_rfl
theorem zm2 : nB Tryz.prog 148 = some 1 := by kernel_rfl
theorem zmb : fD Tryz.prog 148 = some 8 := by kernel_rfl
theorem zkv : iD Tryz.prog 148 = some false := by kernel_rfl
theorem zkE : qC Tryz.prog 148 = some [.nilp] := by kernel_rfl
theorem zl7 : nB Tryz.prog 150 = some 5 := by kernel_rfl
theorem zlB : fD Tryz.prog 150 = some 104 := by kernel_rfl
theorem zle : iD Tryz.prog 150 = some true := by kernel_rfl
theorem zi8 : qC Tryz.prog 150 = some [.nils, .nils, .nils, .nils, .int .i64 0] := by kernel_rfl
theorem zfA : yF Tryz.prog 150 = some [(0, 5)] := by kernel_rfl
theorem zm6 : xC Tryz.prog 150 0 = some (0, 52) := by kernel_rfl
theorem zlU : nB Tryz.prog 157 = some 4 := by kernel_rfl
theorem zgo : fD Tryz.prog 157 = some 48 := by kernel_rfl
theorem zeM : iD Tryz.prog 157 = some true := by kernel_rfl
theorem zjX : qC Tryz.prog 157 = some [.str [], .str [], .bool false, .int .i64 0] := by kernel_rfl
theorem zhU : yF Tryz.prog 157 = some [(0, 1), (1, 1), (2, 1), (3, 1)] := by kernel_rfl
theorem zj5 : xC Tryz.prog 157 0 = some (0, 9) := by kernel_rfl
theorem zjU : xC Tryz.prog 157 1 = some (1, 9) := by kernel_rfl
theorem zlV : xC Tryz.prog 157 2 = some (2, 4) := by kernel_rfl
theorem zii : xC Tryz.prog 157 3 = some (3, 2) := by kernel_rfl
attribute [push_cast] tSize2 zd2 tAgg2 tUnd2 tZero2 tSize3 zef tAgg3 tUnd3 tZero3 tSize4 zh6
attribute [push_cast] tAgg4 tUnd4 eqTyB4 neTyB4 tZero4 tSize5 zdL tAgg5 tUnd5 tZero5 tSize9 zdW
attribute [push_cast] tAgg9 tStr9 tUnd9 tZero9 zeA zmZ tAgg22 ziQ zmX tUnd22 ziR zmS
attribute [push_cast] tAgg24 zlm zd6 zj9 zfe zfJ zgU tAgg25 zia zlJ tUnd25 zmA
attribute [push_cast] zeG tAgg27 zjA zeL zd4 zhY zmD zmj zhb tAgg30 tUnd30 zl2
attribute [push_cast] ze8 zlW tAgg37 zdZ zf8 tUnd37 zer zhy tAgg47 zgq zin tUnd47
attribute [push_cast] zlu zhu tAgg48 zmW zjI tUnd48 zfM zlS tAgg50 zea zkX zft
attribute [push_cast] zka zgY zfh zlC tAgg52 zdN zgs zig zd3 zkA zf9 ziL
attribute [push_cast] tAgg54 zlR zlt zhA zlM zfY ziw zfP tAgg55 zjv zgJ tUnd55
attribute [push_cast] zjc zeJ tAgg57 ziC zmP zkV zlL zlf zhs zjp zdQ tAgg59
attribute [push_cast] zeC zeY zet zmN zf6 zkt tAgg67 zg7 zjf zlx ziK ziE
attribute [push_cast] zja zgV zid tAgg87 zfa zi0 tUnd87 zlr zmu tAgg89 zgp zgW
attribute [push_cast] zmp zek zml tAgg94 zkg zfo ze5 zfU zeO zhl tAgg99 zej
attribute [push_cast] zhB zgz zey zi9 zmm zi2 zkH zeR zmR zm2 zmb zkv
attribute [push_cast] zkE zl7 zlB zle zi8 zfA zm6 zlU zgo zeM zjX zhU
attribute [push_cast] zj5 zjU zlV zii
theorem nW : Tryz.prog.underlying 110 = some (.map 3 4) := by kernel_rfl
theorem zae : bT Tryz.prog 3 (fun n : Int => AV.int .i64 n) := zed (by kernel_rfl)
theorem zlT : eH Tryz.prog 4 = some (.bool false) := by kernel_rfl
theorem zdA : vM Tryz.prog 157 = true := by kernel_rfl
theorem ziG : vM Tryz.prog 181 = true := by kernel_rfl
theorem zgP : vM Tryz.prog 182 = true := by kernel_rfl
theorem zkF {x : AV} : dK Tryz.prog 157 (.iface 181 x) = some (.tup [.agg [.str [], .str [], .bool false, .int .i64 0], .bool false]) := by kernel_rfl
theorem zmK {x : AV} : dK Tryz.prog 157 (.iface 182 x) = some (.tup [.agg [.str [], .str [], .bool false, .int .i64 0], .bool false]) := by kernel_rfl
theorem asN157 : dK Tryz.prog 157 .nili = some (.tup [.agg [.str [], .str [], .bool false, .int .i64 0], .bool false]) := by kernel_rfl
theorem me0 : xQ Tryz.prog 157 "bookend/shadow.entry" = some 169 := by kernel_rfl
attribute [push_cast] zdA ziG zgP zkF zmK asN157 me0
theorem zlP {a0 b0 : List UInt8} {a1 b1 : Bool} : vC Tryz.prog .eql 119 (.agg [.str a0, .bool a1]) (.agg [.str b0, .bool b1]) = some (.bool (eA.eqb (eA.mk a0 a1) (eA.mk b0 b1))) := by kernel_rfl
theorem zh5 {a0 b0 : List UInt8} {a1 b1 : Bool} : vC Tryz.prog .neq 119 (.agg [.str a0, .bool a1]) (.agg [.str b0, .bool b1]) = some (.bool (!eA.eqb (eA.mk a0 a1) (eA.mk b0 b1))) := by kernel_rfl
theorem eqTy54 {a0 b0 : Bool} {a1 b1 : List UInt8} {a2 b2 : Bool} : vC Tryz.prog .eql 54 (.agg [.bool a0, .str a1, .bool a2]) (.agg [.bool b0, .str b1, .bool b2]) = some (.bool (tB.eqb (tB.mk a0 a1 a2) (tB.mk b0 b1 b2))) := by kernel_rfl
theorem neTy54 {a0 b0 : Bool} {a1 b1 : List UInt8} {a2 b2 : Bool} : vC Tryz.prog .neq 54 (.agg [.bool a0, .str a1, .bool a2]) (.agg [.bool b0, .str b1, .bool b2]) = some (.bool (!tB.eqb (tB.mk a0 a1 a2) (tB.mk b0 b1 b2))) := by kernel_rfl
theorem eqTy67 {a0 b0 : List UInt8} {a1 b1 : List UInt8} {a2 b2 : Bool} {a3 b3 : Int} : vC Tryz.prog .eql 67 (.agg [.str a0, .str a1, .bool a2, .int .i64 a3]) (.agg [.str b0, .str b1, .bool b2, .int .i64 b3]) = some (.bool (aA.eqb (aA.mk a0 a1 a2 a3) (aA.mk b0 b1 b2 b3))) := by kernel_rfl
theorem neTy67 {a0 b0 : List UInt8} {a1 b1 : List UInt8} {a2 b2 : Bool} {a3 b3 : Int} : vC Tryz.prog .neq 67 (.agg [.str a0, .str a1, .bool a2, .int .i64 a3]) (.agg [.str b0, .str b1, .bool b2, .int .i64 b3]) = some (.bool (!aA.eqb (aA.mk a0 a1 a2 a3) (aA.mk b0 b1 b2 b3))) := by kernel_rfl
attribute [push_cast] zlP zh5 eqTy54 neTy54 eqTy67 neTy67
attribute [push_cast] List.getElem?_map Option.map_some
theorem zjN (k : IntKind) (l : List Int) : (l.map (gA k)).all AV.isP.isPs = true := zF (fun _ => rfl) l
theorem zg1 (k : IntKind) (l : List Int) : (l.map (gA k)).all AV.flatR.flatRs = true := vN (fun _ => rfl) l
theorem zeP (l : List (List UInt8)) : (l.map zJ).all AV.isP.isPs = true := zF (fun _ => rfl) l
theorem zlN (l : List (List UInt8)) : (l.map zJ).all AV.flatR.flatRs = true := vN (fun _ => rfl) l
theorem zhC (l : List Bool) : (l.map cL).all AV.isP.isPs = true := zF (fun _ => rfl) l
theorem allPSl {α : Type} (z : Nat) (f : α → List AV) (l : List (List α)) : (l.map (vA z f)).all AV.isP.isPs = true := zF (fun _ => rfl) l
attribute [push_cast] zjN zg1 zeP zlN zhC allPSl
theorem rF {p : Prop} (h : p := by
  (repeat' (first | exact trivial | refine And.intro ?_ ?_ | exact AV.LeN.refl _ | exact AV.LeN.nils _ | exact AV.LeN.nilb rfl | refine AV.LeN.agg ?_ | refine AV.LeN.tup ?_ | exact AV.LeN.of_eq (by simp [mB, xA, gA, cL, zJ, vA, List.map_set, aA.enc, zA.enc, sA.enc, uA.enc, eA.enc, eB.enc, kB.enc, tB.enc, wB.enc, yA.enc, oB.enc, kF.enc, mF.enc, pE.enc])))) : p := h
theorem rE {p : Prop} (h : p := by
  (repeat' (first | exact trivial | exact qU.refl _ | exact ⟨_, rfl, rfl⟩ | exact AV.LeN.refl _ | refine And.intro ?_ ?_ | exact rfl | exact eE.refl _ | exact (fun _ => rfl) | exact (fun h => h) | exact eE.of_eq (by simp [mB, xA, gA, cL, zJ, vA, List.map_set, aA.enc, zA.enc, sA.enc, uA.enc, eA.enc, eB.enc, kB.enc, tB.enc, wB.enc, yA.enc, oB.enc, kF.enc, mF.enc, pE.enc]) | exact AV.LeN.nils _ | exact AV.LeN.nilb rfl | exact AV.LeN.of_eq (by simp [mB, xA, gA, cL, zJ, vA, List.map_set, aA.enc, zA.enc, sA.enc, uA.enc, eA.enc, eB.enc, kB.enc, tB.enc, wB.enc, yA.enc, oB.enc, kF.enc, mF.enc, pE.enc])))) : p := h
theorem rN {p : Prop} (h : p := by
  (repeat' (first | exact trivial | refine And.intro ?_ ?_ | exact Nat.le_of_ble_eq_true rfl | decide))) : p := h
theorem rR {p : Prop} (h : p := by
  (repeat' (first | exact trivial | refine And.intro ?_ ?_ | exact AV.Le.refl _))) : p := h
theorem rH {p : Prop} (h : p := by
  (repeat' (first | exact AV.Le.refl _ | exact AV.Le.nils _ | refine AV.Le.agg ?_ | refine AV.Le.tup ?_ | exact trivial | exact rfl | omega | exact AV.Le.of_eq (by simp [mB, xA, gA, cL, zJ, vA, List.map_set, aA.enc, zA.enc, sA.enc, uA.enc, eA.enc, eB.enc, kB.enc, tB.enc, wB.enc, yA.enc, oB.enc, kF.enc, mF.enc, pE.enc]) | refine And.intro ?_ ?_))) : p := h
theorem rG {p : Prop} (h : p := by
  simp (maxSteps := 1000000) only [↓reduceIte, reduceCtorEq, Nat.reduceEqDiff, Nat.reduceLT, Nat.reduceLeDiff, Nat.reduceAdd, Nat.reduceMul, Int.reduceToNat, push_cast, bC]
  (repeat' (first | exact AV.Le.refl _ | exact AV.Le.nils _ | refine AV.Le.agg ?_ | refine AV.Le.tup ?_ | exact trivial | exact rfl | omega | exact AV.Le.of_eq (by simp [mB, xA, gA, cL, zJ, vA, List.map_set, aA.enc, zA.enc, sA.enc, uA.enc, eA.enc, eB.enc, kB.enc, tB.enc, wB.enc, yA.enc, oB.enc, kF.enc, mF.enc, pE.enc]) | refine And.intro ?_ ?_))) : p := h
theorem rQ {p : Prop} (h : p := by
  simp (maxSteps := 1000000) only [↓reduceIte, reduceCtorEq, Nat.reduceEqDiff, Nat.reduceLT, Nat.reduceLeDiff, Nat.reduceAdd, Nat.reduceMul, Int.reduceToNat, push_cast, Int.reduceEq, Int.reduceLT, Int.reduceLE]
  repeat' (first | assumption | refine And.intro ?_ ?_ | exact Nat.le_refl _ | omega | (intro _) | (simp; done))) : p := h
theorem xE {P : Program} {nt : Nat} {K : Exit → St → Prop} {c : Code} {s : St} (s2 : St) (h : pA P nt c K s2) (hn : s.nx ≤ s2.nx := by exact Nat.le_of_ble_eq_true rfl) (hl : LeN [] s s2 := by exact ⟨rF, rE, rfl, rfl, trivial, trivial⟩) : pA P nt c K s := pB [] hn hl h
theorem xF {P : Program} {nt : Nat} {K : Exit → St → Prop} {ops : Array Oper} {l : List Nat} {s : St} (s2 : St) (h : yD P nt ops l K s2) (hn : s.nx ≤ s2.nx := by exact Nat.le_of_ble_eq_true rfl) (hl : LeN [] s s2 := by exact ⟨rF, rE, rfl, rfl, trivial, trivial⟩) : yD P nt ops l K s := iI [] hn hl h
end Go.T
