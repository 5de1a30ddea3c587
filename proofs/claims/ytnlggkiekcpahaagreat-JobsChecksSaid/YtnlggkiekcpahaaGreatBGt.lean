/- A text of the proof. -/
import Derived.Test.YtnlggkiekcpahaaGreatProg
import Derived.Test.YtnlggkiekcpahaaGreatBAmZj
import Derived.Test.YtnlggkiekcpahaaGreatBGp
namespace Go.T
open Go Go.AM Go.Proofs
def aA.enc (x : aA) : List AV := [.str x.Key, .str x.Val, .bool x.Dead, .int .i64 x.Seq]
theorem aA.eta (x : aA) : aA.mk x.Key x.Val x.Dead x.Seq = x := rfl
theorem aA.allP (l : List aA) : (l.map aA.enc).all AV.isP.isPs = true := wG (fun _ => rfl) l
theorem aA.allF (l : List aA) : (l.map aA.enc).all AV.flatR.flatRs = true := gQ (fun _ => rfl) l
attribute [push_cast] aA.enc aA.eta aA.allP aA.allF
def kB.enc (x : kB) : List AV := [.int .i64 x.Id, .psl 4 (x.Entries.map aA.enc)]
theorem kB.eta (x : kB) : kB.mk x.Id x.Entries = x := rfl
theorem kB.allP (l : List kB) : (l.map kB.enc).all AV.isP.isPs = true := wG (fun _ => rfl) l
attribute [push_cast] kB.enc kB.eta kB.allP
def tA.enc (x : tA) : List AV := [.psl 2 (x.Runs.map kB.enc)]
theorem tA.eta (x : tA) : tA.mk x.Runs = x := rfl
theorem tA.allP (l : List tA) : (l.map tA.enc).all AV.isP.isPs = true := wG (fun _ => rfl) l
attribute [push_cast] tA.enc tA.eta tA.allP
def iB.enc (x : iB) : List AV := [.int .i64 x.B, .psl 1 (x.Levels.map tA.enc)]
theorem iB.eta (x : iB) : iB.mk x.B x.Levels = x := rfl
theorem iB.allP (l : List iB) : (l.map iB.enc).all AV.isP.isPs = true := wG (fun _ => rfl) l
attribute [push_cast] iB.enc iB.eta iB.allP
def eA.enc (x : eA) : List AV := [.str x.Key, .bool x.Done]
theorem eA.eta (x : eA) : eA.mk x.Key x.Done = x := rfl
theorem eA.allP (l : List eA) : (l.map eA.enc).all AV.isP.isPs = true := wG (fun _ => rfl) l
theorem eA.allF (l : List eA) : (l.map eA.enc).all AV.flatR.flatRs = true := gQ (fun _ => rfl) l
attribute [push_cast] eA.enc eA.eta eA.allP eA.allF
def bB.enc (x : bB) : List AV := [.psl 2 (x.Keys.map eA.enc), .psl 1 (x.Lose.map (fA .i64)), .int .i64 x.Win]
theorem bB.eta (x : bB) : bB.mk x.Keys x.Lose x.Win = x := rfl
theorem bB.allP (l : List bB) : (l.map bB.enc).all AV.isP.isPs = true := wG (fun _ => rfl) l
attribute [push_cast] bB.enc bB.eta bB.allP
def dB.enc (x : dB) : List AV := [.psl 1 (x.Runs.map (sA 4 aA.enc)), .psl 1 (x.At.map (fA .i64)), .psl 2 (x.Tree.Keys.map eA.enc), .psl 1 (x.Tree.Lose.map (fA .i64)), .int .i64 x.Tree.Win]
theorem dB.eta (x : dB) : dB.mk x.Runs x.At x.Tree = x := rfl
theorem dB.allP (l : List dB) : (l.map dB.enc).all AV.isP.isPs = true := wG (fun _ => rfl) l
attribute [push_cast] dB.enc dB.eta dB.allP
def jB.enc (x : jB) : List AV := [.bool x.Some, .str x.Last, .bool x.Bottom]
theorem jB.eta (x : jB) : jB.mk x.Some x.Last x.Bottom = x := rfl
theorem jB.allP (l : List jB) : (l.map jB.enc).all AV.isP.isPs = true := wG (fun _ => rfl) l
theorem jB.allF (l : List jB) : (l.map jB.enc).all AV.flatR.flatRs = true := gQ (fun _ => rfl) l
attribute [push_cast] jB.enc jB.eta jB.allP jB.allF
def lB.enc (x : lB) : List AV := [.psl 1 (x.Merge.Runs.map (sA 4 aA.enc)), .psl 1 (x.Merge.At.map (fA .i64)), .psl 2 (x.Merge.Tree.Keys.map eA.enc), .psl 1 (x.Merge.Tree.Lose.map (fA .i64)), .int .i64 x.Merge.Tree.Win, .bool x.Shadow.Some, .str x.Shadow.Last, .bool x.Shadow.Bottom, .psl 4 (x.Out.map aA.enc), .int .i64 x.Steps]
theorem lB.eta (x : lB) : lB.mk x.Merge x.Shadow x.Out x.Steps = x := rfl
theorem lB.allP (l : List lB) : (l.map lB.enc).all AV.isP.isPs = true := wG (fun _ => rfl) l
attribute [push_cast] lB.enc lB.eta lB.allP
def fB.enc (x : fB) : List AV := [.int .i64 x.Level, .psl 1 (x.Work.Merge.Runs.map (sA 4 aA.enc)), .psl 1 (x.Work.Merge.At.map (fA .i64)), .psl 2 (x.Work.Merge.Tree.Keys.map eA.enc), .psl 1 (x.Work.Merge.Tree.Lose.map (fA .i64)), .int .i64 x.Work.Merge.Tree.Win, .bool x.Work.Shadow.Some, .str x.Work.Shadow.Last, .bool x.Work.Shadow.Bottom, .psl 4 (x.Work.Out.map aA.enc), .int .i64 x.Work.Steps]
theorem fB.eta (x : fB) : fB.mk x.Level x.Work = x := rfl
theorem fB.allP (l : List fB) : (l.map fB.enc).all AV.isP.isPs = true := wG (fun _ => rfl) l
attribute [push_cast] fB.enc fB.eta fB.allP
def mB.enc (x : mB) : List AV := [.int .i64 x.Levels.B, .psl 1 (x.Levels.Levels.map tA.enc), .psl 11 (x.Jobs.map fB.enc), .int .i64 x.NextId]
theorem mB.eta (x : mB) : mB.mk x.Levels x.Jobs x.NextId = x := rfl
theorem mB.allP (l : List mB) : (l.map mB.enc).all AV.isP.isPs = true := wG (fun _ => rfl) l
attribute [push_cast] mB.enc mB.eta mB.allP
def bG.enc (x : bG) : List AV := [.str x.Key, .str x.Val, .bool x.Dead, .int .i64 x.Seq]
theorem bG.eta (x : bG) : bG.mk x.Key x.Val x.Dead x.Seq = x := rfl
theorem bG.allP (l : List bG) : (l.map bG.enc).all AV.isP.isPs = true := wG (fun _ => rfl) l
theorem bG.allF (l : List bG) : (l.map bG.enc).all AV.flatR.flatRs = true := gQ (fun _ => rfl) l
attribute [push_cast] bG.enc bG.eta bG.allP bG.allF
def dG.enc (x : dG) : List AV := [.str x.Key, .str x.Val, .bool x.Dead, .int .i64 x.Seq]
theorem dG.eta (x : dG) : dG.mk x.Key x.Val x.Dead x.Seq = x := rfl
theorem dG.allP (l : List dG) : (l.map dG.enc).all AV.isP.isPs = true := wG (fun _ => rfl) l
theorem dG.allF (l : List dG) : (l.map dG.enc).all AV.flatR.flatRs = true := gQ (fun _ => rfl) l
attribute [push_cast] dG.enc dG.eta dG.allP dG.allF
def uE.enc (x : uE) : List AV := [.str x.Key, .str x.Val, .bool x.Dead, .int .i64 x.Seq]
theorem uE.eta (x : uE) : uE.mk x.Key x.Val x.Dead x.Seq = x := rfl
theorem uE.allP (l : List uE) : (l.map uE.enc).all AV.isP.isPs = true := wG (fun _ => rfl) l
theorem uE.allF (l : List uE) : (l.map uE.enc).all AV.flatR.flatRs = true := gQ (fun _ => rfl) l
attribute [push_cast] uE.enc uE.eta uE.allP uE.allF
theorem tSize2 : tB Tryz.prog 2 = some 1 := by kernel_rfl
theorem zh2 : rD Tryz.prog 2 = some 8 := by kernel_rfl
theorem tAgg2 : tD Tryz.prog 2 = some false := by kernel_rfl
theorem tUnd2 : Tryz.prog.underlying 2 = some (.int .i64) := by kernel_rfl
theorem tZero2 : xC Tryz.prog 2 = some [.int .i64 0] := by kernel_rfl
theorem tSize3 : tB Tryz.prog 3 = some 1 := by kernel_rfl
theorem zh7 : rD Tryz.prog 3 = some 8 := by kernel_rfl
theorem tAgg3 : tD Tryz.prog 3 = some false := by kernel_rfl
theorem tUnd3 : Tryz.prog.underlying 3 = some (.int .i64) := by kernel_rfl
theorem tZero3 : xC Tryz.prog 3 = some [.int .i64 0] := by kernel_rfl
theorem tSize4 : tB Tryz.prog 4 = some 1 := by kernel_rfl
theorem zph : rD Tryz.prog 4 = some 1 := by kernel_rfl
theorem tAgg4 : tD Tryz.prog 4 = some false := by kernel_rfl
theorem tUnd4 : Tryz.prog.underlying 4 = some .bool := by kernel_rfl
theorem eqTyB4 {a b : Bool} : eD Tryz.prog .eql 4 (.bool a) (.bool b) = some (.bool (a == b)) := by kernel_rfl
theorem neTyB4 {a b : Bool} : eD Tryz.prog .neq 4 (.bool a) (.bool b) = some (.bool (!(a == b))) := by kernel_rfl
theorem tZero4 : xC Tryz.prog 4 = some [.bool false] := by kernel_rfl
theorem tSize5 : tB Tryz.prog 5 = some 1 := by kernel_rfl
theorem zmJ : rD Tryz.prog 5 = some 1 := by kernel_rfl
theorem tAgg5 : tD Tryz.prog 5 = some false := by kernel_rfl
theorem tUnd5 : Tryz.prog.underlying 5 = some (.int .u8) := by kernel_rfl
theorem tZero5 : xC Tryz.prog 5 = some [.int .u8 0] := by kernel_rfl
theorem tSize9 : tB Tryz.prog 9 = some 1 := by kernel_rfl
theorem zgr : rD Tryz.prog 9 = some 16 := by kernel_rfl
theorem tAgg9 : tD Tryz.prog 9 = some false := by kernel_rfl
theorem tStr9 : tStr Tryz.prog 9 = some () := by kernel_rfl
theorem tUnd9 : Tryz.prog.underlying 9 = some .string := by kernel_rfl
theorem tZero9 : xC Tryz.prog 9 = some [.str []] := by kernel_rfl
theorem zhX : tB Tryz.prog 22 = some 1 := by kernel_rfl
theorem zk3 : rD Tryz.prog 22 = some 24 := by kernel_rfl
theorem tAgg22 : tD Tryz.prog 22 = some false := by kernel_rfl
theorem zlE : xC Tryz.prog 22 = some [.nils] := by kernel_rfl
theorem ziz : iD Tryz.prog 22 = some 89 := by kernel_rfl
theorem tUnd22 : Tryz.prog.underlying 22 = some (.slice 89) := by kernel_rfl
theorem zf4 : tB Tryz.prog 24 = some 2 := by kernel_rfl
theorem zhG : rD Tryz.prog 24 = some 32 := by kernel_rfl
theorem tAgg24 : tD Tryz.prog 24 = some true := by kernel_rfl
theorem zm5 : xC Tryz.prog 24 = some [.int .i64 0, .nils] := by kernel_rfl
theorem znf : vG Tryz.prog 24 = some [(0, 1), (1, 1)] := by kernel_rfl
theorem zlX : lD Tryz.prog 24 0 = some (0, 3) := by kernel_rfl
theorem zjk : lD Tryz.prog 24 1 = some (1, 22) := by kernel_rfl
theorem zgA : tB Tryz.prog 25 = some 1 := by kernel_rfl
theorem zlL : rD Tryz.prog 25 = some 24 := by kernel_rfl
theorem tAgg25 : tD Tryz.prog 25 = some false := by kernel_rfl
theorem zkh : xC Tryz.prog 25 = some [.nils] := by kernel_rfl
theorem zog : iD Tryz.prog 25 = some 59 := by kernel_rfl
theorem tUnd25 : Tryz.prog.underlying 25 = some (.slice 59) := by kernel_rfl
theorem zhO : tB Tryz.prog 27 = some 4 := by kernel_rfl
theorem zl0 : rD Tryz.prog 27 = some 64 := by kernel_rfl
theorem tAgg27 : tD Tryz.prog 27 = some true := by kernel_rfl
theorem zfl : xC Tryz.prog 27 = some [.int .i64 0, .nils, .nils, .int .i64 0] := by kernel_rfl
theorem zir : vG Tryz.prog 27 = some [(0, 2), (2, 1), (3, 1)] := by kernel_rfl
theorem znB : lD Tryz.prog 27 0 = some (0, 24) := by kernel_rfl
theorem zhx : lD Tryz.prog 27 1 = some (2, 25) := by kernel_rfl
theorem zgO : lD Tryz.prog 27 2 = some (3, 3) := by kernel_rfl
theorem zoN : tB Tryz.prog 30 = some 1 := by kernel_rfl
theorem zgx : rD Tryz.prog 30 = some 8 := by kernel_rfl
theorem tAgg30 : tD Tryz.prog 30 = some false := by kernel_rfl
theorem tUnd30 : Tryz.prog.underlying 30 = some (.int .i64) := by kernel_rfl
theorem zlF : xC Tryz.prog 30 = some [.int .i64 0] := by kernel_rfl
theorem ziV : tB Tryz.prog 37 = some 1 := by kernel_rfl
theorem zmL : rD Tryz.prog 37 = some 24 := by kernel_rfl
theorem tAgg37 : tD Tryz.prog 37 = some false := by kernel_rfl
theorem znj : xC Tryz.prog 37 = some [.nils] := by kernel_rfl
theorem zlh : iD Tryz.prog 37 = some 3 := by kernel_rfl
theorem tUnd37 : Tryz.prog.underlying 37 = some (.slice 3) := by kernel_rfl
theorem zlO : tB Tryz.prog 47 = some 1 := by kernel_rfl
theorem zfQ : rD Tryz.prog 47 = some 24 := by kernel_rfl
theorem tAgg47 : tD Tryz.prog 47 = some false := by kernel_rfl
theorem zn2 : xC Tryz.prog 47 = some [.nils] := by kernel_rfl
theorem zkV : iD Tryz.prog 47 = some 55 := by kernel_rfl
theorem tUnd47 : Tryz.prog.underlying 47 = some (.slice 55) := by kernel_rfl
theorem zjl : tB Tryz.prog 48 = some 1 := by kernel_rfl
theorem zje : rD Tryz.prog 48 = some 24 := by kernel_rfl
theorem tAgg48 : tD Tryz.prog 48 = some false := by kernel_rfl
theorem zjN : xC Tryz.prog 48 = some [.nils] := by kernel_rfl
theorem zo8 : iD Tryz.prog 48 = some 119 := by kernel_rfl
theorem tUnd48 : Tryz.prog.underlying 48 = some (.slice 119) := by kernel_rfl
theorem zjc : tB Tryz.prog 50 = some 3 := by kernel_rfl
theorem zox : rD Tryz.prog 50 = some 56 := by kernel_rfl
theorem tAgg50 : tD Tryz.prog 50 = some true := by kernel_rfl
theorem znL : xC Tryz.prog 50 = some [.nils, .nils, .int .i64 0] := by kernel_rfl
theorem zjg : vG Tryz.prog 50 = some [(0, 1), (1, 1), (2, 1)] := by kernel_rfl
theorem zlT : lD Tryz.prog 50 0 = some (0, 48) := by kernel_rfl
theorem zo0 : lD Tryz.prog 50 1 = some (1, 37) := by kernel_rfl
theorem zio : lD Tryz.prog 50 2 = some (2, 3) := by kernel_rfl
theorem znx : tB Tryz.prog 52 = some 5 := by kernel_rfl
theorem zfC : rD Tryz.prog 52 = some 104 := by kernel_rfl
theorem tAgg52 : tD Tryz.prog 52 = some true := by kernel_rfl
theorem zpc : xC Tryz.prog 52 = some [.nils, .nils, .nils, .nils, .int .i64 0] := by kernel_rfl
theorem zj5 : vG Tryz.prog 52 = some [(0, 1), (1, 1), (2, 3)] := by kernel_rfl
theorem zhY : lD Tryz.prog 52 0 = some (0, 47) := by kernel_rfl
theorem zjB : lD Tryz.prog 52 1 = some (1, 37) := by kernel_rfl
theorem zmG : lD Tryz.prog 52 2 = some (2, 50) := by kernel_rfl
theorem zga : tB Tryz.prog 54 = some 3 := by kernel_rfl
theorem zhy : rD Tryz.prog 54 = some 32 := by kernel_rfl
theorem tAgg54 : tD Tryz.prog 54 = some true := by kernel_rfl
theorem zoD : xC Tryz.prog 54 = some [.bool false, .str [], .bool false] := by kernel_rfl
theorem zfz : vG Tryz.prog 54 = some [(0, 1), (1, 1), (2, 1)] := by kernel_rfl
theorem ziv : lD Tryz.prog 54 0 = some (0, 4) := by kernel_rfl
theorem zn8 : lD Tryz.prog 54 1 = some (1, 9) := by kernel_rfl
theorem zhP : lD Tryz.prog 54 2 = some (2, 4) := by kernel_rfl
theorem zgl : tB Tryz.prog 55 = some 1 := by kernel_rfl
theorem zfp : rD Tryz.prog 55 = some 24 := by kernel_rfl
theorem tAgg55 : tD Tryz.prog 55 = some false := by kernel_rfl
theorem zoa : xC Tryz.prog 55 = some [.nils] := by kernel_rfl
theorem zjI : iD Tryz.prog 55 = some 67 := by kernel_rfl
theorem tUnd55 : Tryz.prog.underlying 55 = some (.slice 67) := by kernel_rfl
theorem zkW : tB Tryz.prog 57 = some 10 := by kernel_rfl
theorem zfW : rD Tryz.prog 57 = some 168 := by kernel_rfl
theorem tAgg57 : tD Tryz.prog 57 = some true := by kernel_rfl
theorem zmA : xC Tryz.prog 57 = some [.nils, .nils, .nils, .nils, .int .i64 0, .bool false, .str [], .bool false, .nils, .int .i64 0] := by kernel_rfl
theorem zhQ : vG Tryz.prog 57 = some [(0, 5), (5, 3), (8, 1), (9, 1)] := by kernel_rfl
theorem zo4 : lD Tryz.prog 57 0 = some (0, 52) := by kernel_rfl
theorem zhu : lD Tryz.prog 57 1 = some (5, 54) := by kernel_rfl
theorem zkG : lD Tryz.prog 57 2 = some (8, 55) := by kernel_rfl
theorem zkg : lD Tryz.prog 57 3 = some (9, 2) := by kernel_rfl
theorem zkO : tB Tryz.prog 59 = some 11 := by kernel_rfl
theorem zjn : rD Tryz.prog 59 = some 176 := by kernel_rfl
theorem tAgg59 : tD Tryz.prog 59 = some true := by kernel_rfl
theorem zgU : xC Tryz.prog 59 = some [.int .i64 0, .nils, .nils, .nils, .nils, .int .i64 0, .bool false, .str [], .bool false, .nils, .int .i64 0] := by kernel_rfl
theorem zkq : vG Tryz.prog 59 = some [(0, 1), (1, 10)] := by kernel_rfl
theorem zlN : lD Tryz.prog 59 0 = some (0, 3) := by kernel_rfl
theorem zg8 : lD Tryz.prog 59 1 = some (1, 57) := by kernel_rfl
theorem zkY : tB Tryz.prog 67 = some 4 := by kernel_rfl
theorem zfq : rD Tryz.prog 67 = some 48 := by kernel_rfl
theorem tAgg67 : tD Tryz.prog 67 = some true := by kernel_rfl
theorem zmt : xC Tryz.prog 67 = some [.str [], .str [], .bool false, .int .i64 0] := by kernel_rfl
theorem zl1 : vG Tryz.prog 67 = some [(0, 1), (1, 1), (2, 1), (3, 1)] := by kernel_rfl
theorem znY : lD Tryz.prog 67 0 = some (0, 9) := by kernel_rfl
theorem zmS : lD Tryz.prog 67 1 = some (1, 9) := by kernel_rfl
theorem zi1 : lD Tryz.prog 67 2 = some (2, 4) := by kernel_rfl
theorem zmj : lD Tryz.prog 67 3 = some (3, 2) := by kernel_rfl
theorem zlU : tB Tryz.prog 87 = some 1 := by kernel_rfl
theorem zgy : rD Tryz.prog 87 = some 24 := by kernel_rfl
theorem tAgg87 : tD Tryz.prog 87 = some false := by kernel_rfl
theorem zkn : xC Tryz.prog 87 = some [.nils] := by kernel_rfl
theorem zjr : iD Tryz.prog 87 = some 94 := by kernel_rfl
theorem tUnd87 : Tryz.prog.underlying 87 = some (.slice 94) := by kernel_rfl
theorem zjo : tB Tryz.prog 89 = some 1 := by kernel_rfl
theorem zge : rD Tryz.prog 89 = some 24 := by kernel_rfl
theorem tAgg89 : tD Tryz.prog 89 = some true := by kernel_rfl
theorem zlj : xC Tryz.prog 89 = some [.nils] := by kernel_rfl
theorem zmW : vG Tryz.prog 89 = some [(0, 1)] := by kernel_rfl
theorem zlV : lD Tryz.prog 89 0 = some (0, 87) := by kernel_rfl
theorem zfD : tB Tryz.prog 94 = some 2 := by kernel_rfl
theorem zhM : rD Tryz.prog 94 = some 32 := by kernel_rfl
theorem tAgg94 : tD Tryz.prog 94 = some true := by kernel_rfl
theorem zfT : xC Tryz.prog 94 = some [.int .i64 0, .nils] := by kernel_rfl
theorem zok : vG Tryz.prog 94 = some [(0, 1), (1, 1)] := by kernel_rfl
theorem zhR : lD Tryz.prog 94 0 = some (0, 3) := by kernel_rfl
theorem zof : lD Tryz.prog 94 1 = some (1, 55) := by kernel_rfl
theorem zgu : tB Tryz.prog 99 = some 10 := by kernel_rfl
theorem zfV : rD Tryz.prog 99 = some 168 := by kernel_rfl
theorem tAgg99 : tD Tryz.prog 99 = some true := by kernel_rfl
theorem zg1 : xC Tryz.prog 99 = some [.nils, .nils, .nils, .nils, .int .i64 0, .bool false, .str [], .bool false, .nils, .int .i64 0] := by kernel_rfl
theorem zjO : vG Tryz.prog 99 = some [(0, 10)] := by kernel_rfl
theorem znR : lD Tryz.prog 99 0 = some (0, 57) := by kernel_rfl
theorem zmb : tB Tryz.prog 119 = some 2 := by kernel_rfl
theorem zgk : rD Tryz.prog 119 = some 24 := by kernel_rfl
theorem zmX : tD Tryz.prog 119 = some true := by kernel_rfl
theorem zg7 : xC Tryz.prog 119 = some [.str [], .bool false] := by kernel_rfl
theorem zlC : vG Tryz.prog 119 = some [(0, 1), (1, 1)] := by kernel_rfl
theorem zoF : lD Tryz.prog 119 0 = some (0, 9) := by kernel_rfl
theorem zjV : lD Tryz.prog 119 1 = some (1, 4) := by kernel_rfl
theorem zgT : tB Tryz.prog 148 = some 1 := by kernel_rfl
theorem zjA : rD Tryz.prog 148 = some 8 := by kernel_rfl
theorem zh0 : tD Tryz.prog 148 = some false := by kernel_rfl
theorem zkH : xC Tryz.prog 148 = some [.nilp] := by kernel_rfl
theorem zk0 : tB Tryz.prog 150 = some 5 := by kernel_rfl
theorem zn4 : rD Tryz.prog 150 = some 104 := by kernel_rfl
theorem zmn : tD Tryz.prog 150 = some true := by kernel_rfl
theorem znq : xC Tryz.prog 150 = some [.nils, .nils, .nils, .nils, .int .i64 0] := by kernel_rfl
theorem zoc : vG Tryz.prog 150 = some [(0, 5)] := by kernel_rfl
theorem zlq : lD Tryz.prog 150 0 = some (0, 52) := by kernel_rfl
theorem zlP : tB Tryz.prog 157 = some 4 := by kernel_rfl
theorem znI : rD Tryz.prog 157 = some 48 := by kernel_rfl
theorem zif : tD Tryz.prog 157 = some true := by kernel_rfl
theorem zjF : xC Tryz.prog 157 = some [.str [], .str [], .bool false, .int .i64 0] := by kernel_rfl
theorem znu : vG Tryz.prog 157 = some [(0, 1), (1, 1), (2, 1), (3, 1)] := by kernel_rfl
theorem zoE : lD Tryz.prog 157 0 = some (0, 9) := by kernel_rfl
theorem zf8 : lD Tryz.prog 157 1 = some (1, 9) := by kernel_rfl
theorem zmH : lD Tryz.prog 157 2 = some (2, 4) := by kernel_rfl
theorem zmi : lD Tryz.prog 157 3 = some (3, 2) := by kernel_rfl
attribute [push_cast] tSize2 zh2 tAgg2 tUnd2 tZero2 tSize3 zh7 tAgg3 tUnd3 tZero3 tSize4 zph
attribute [push_cast] tAgg4 tUnd4 eqTyB4 neTyB4 tZero4 tSize5 zmJ tAgg5 tUnd5 tZero5 tSize9 zgr
attribute [push_cast] tAgg9 tStr9 tUnd9 tZero9 zhX zk3 tAgg22 zlE ziz tUnd22 zf4 zhG
attribute [push_cast] tAgg24 zm5 znf zlX zjk zgA zlL tAgg25 zkh zog tUnd25 zhO
attribute [push_cast] zl0 tAgg27 zfl zir znB zhx zgO zoN zgx tAgg30 tUnd30 zlF
attribute [push_cast] ziV zmL tAgg37 znj zlh tUnd37 zlO zfQ tAgg47 zn2 zkV tUnd47
attribute [push_cast] zjl zje tAgg48 zjN zo8 tUnd48 zjc zox tAgg50 znL zjg zlT
attribute [push_cast] zo0 zio znx zfC tAgg52 zpc zj5 zhY zjB zmG zga zhy
attribute [push_cast] tAgg54 zoD zfz ziv zn8 zhP zgl zfp tAgg55 zoa zjI tUnd55
attribute [push_cast] zkW zfW tAgg57 zmA zhQ zo4 zhu zkG zkg zkO zjn tAgg59
attribute [push_cast] zgU zkq zlN zg8 zkY zfq tAgg67 zmt zl1 znY zmS zi1
attribute [push_cast] zmj zlU zgy tAgg87 zkn zjr tUnd87 zjo zge tAgg89 zlj zmW
attribute [push_cast] zlV zfD zhM tAgg94 zfT zok zhR zof zgu zfV tAgg99 zg1
attribute [push_cast] zjO znR zmb zgk zmX zg7 zlC zoF zjV zgT zjA zh0
attribute [push_cast] zkH zk0 zn4 zmn znq zoc zlq zlP znI zif zjF znu
attribute [push_cast] zoE zf8 zmH zmi
theorem nY : Tryz.prog.underlying 110 = some (.map 3 4) := by kernel_rfl
theorem zbZ : aU Tryz.prog 3 (fun n : Int => AV.int .i64 n) := znk (by kernel_rfl)
theorem zla : pI Tryz.prog 4 = some (.bool false) := by kernel_rfl
theorem zoq : tO Tryz.prog 157 = true := by kernel_rfl
theorem zgt : tO Tryz.prog 181 = true := by kernel_rfl
theorem zll : tO Tryz.prog 182 = true := by kernel_rfl
theorem znW {x : AV} : eM Tryz.prog 157 (.iface 181 x) = some (.tup [.agg [.str [], .str [], .bool false, .int .i64 0], .bool false]) := by kernel_rfl
theorem zmr {x : AV} : eM Tryz.prog 157 (.iface 182 x) = some (.tup [.agg [.str [], .str [], .bool false, .int .i64 0], .bool false]) := by kernel_rfl
theorem asN157 : eM Tryz.prog 157 .nili = some (.tup [.agg [.str [], .str [], .bool false, .int .i64 0], .bool false]) := by kernel_rfl
theorem me0 : lT Tryz.prog 157 "bookend/shadow.entry" = some 169 := by kernel_rfl
attribute [push_cast] zoq zgt zll znW zmr asN157 me0
theorem ziw {a0 b0 : List UInt8} {a1 b1 : Bool} : eD Tryz.prog .eql 119 (.agg [.str a0, .bool a1]) (.agg [.str b0, .bool b1]) = some (.bool (eA.eqb (eA.mk a0 a1) (eA.mk b0 b1))) := by kernel_rfl
theorem znH {a0 b0 : List UInt8} {a1 b1 : Bool} : eD Tryz.prog .neq 119 (.agg [.str a0, .bool a1]) (.agg [.str b0, .bool b1]) = some (.bool (!eA.eqb (eA.mk a0 a1) (eA.mk b0 b1))) := by kernel_rfl
theorem eqTy54 {a0 b0 : Bool} {a1 b1 : List UInt8} {a2 b2 : Bool} : eD Tryz.prog .eql 54 (.agg [.bool a0, .str a1, .bool a2]) (.agg [.bool b0, .str b1, .bool b2]) = some (.bool (jB.eqb (jB.mk a0 a1 a2) (jB.mk b0 b1 b2))) := by kernel_rfl
theorem neTy54 {a0 b0 : Bool} {a1 b1 : List UInt8} {a2 b2 : Bool} : eD Tryz.prog .neq 54 (.agg [.bool a0, .str a1, .bool a2]) (.agg [.bool b0, .str b1, .bool b2]) = some (.bool (!jB.eqb (jB.mk a0 a1 a2) (jB.mk b0 b1 b2))) := by kernel_rfl
theorem eqTy67 {a0 b0 : List UInt8} {a1 b1 : List UInt8} {a2 b2 : Bool} {a3 b3 : Int} : eD Tryz.prog .eql 67 (.agg [.str a0, .str a1, .bool a2, .int .i64 a3]) (.agg [.str b0, .str b1, .bool b2, .int .i64 b3]) = some (.bool (aA.eqb (aA.mk a0 a1 a2 a3) (aA.mk b0 b1 b2 b3))) := by kernel_rfl
theorem neTy67 {a0 b0 : List UInt8} {a1 b1 : List UInt8} {a2 b2 : Bool} {a3 b3 : Int} : eD Tryz.prog .neq 67 (.agg [.str a0, .str a1, .bool a2, .int .i64 a3]) (.agg [.str b0, .str b1, .bool b2, .int .i64 b3]) = some (.bool (!aA.eqb (aA.mk a0 a1 a2 a3) (aA.mk b0 b1 b2 b3))) := by kernel_rfl
attribute [push_cast] ziw znH eqTy54 neTy54 eqTy67 neTy67
attribute [push_cast] List.getElem?_map Option.map_some
theorem zkb (k : IntKind) (l : List Int) : (l.map (fA k)).all AV.isP.isPs = true := wG (fun _ => rfl) l
theorem zmT (k : IntKind) (l : List Int) : (l.map (fA k)).all AV.flatR.flatRs = true := gQ (fun _ => rfl) l
theorem zi6 (l : List (List UInt8)) : (l.map zL).all AV.isP.isPs = true := wG (fun _ => rfl) l
theorem zoG (l : List (List UInt8)) : (l.map zL).all AV.flatR.flatRs = true := gQ (fun _ => rfl) l
theorem zhk (l : List Bool) : (l.map jO).all AV.isP.isPs = true := wG (fun _ => rfl) l
theorem allPSl {α : Type} (z : Nat) (f : α → List AV) (l : List (List α)) : (l.map (sA z f)).all AV.isP.isPs = true := wG (fun _ => rfl) l
attribute [push_cast] zkb zmT zi6 zoG zhk allPSl
theorem rF {p : Prop} (h : p := by
  (repeat' (first | exact trivial | refine And.intro ?_ ?_ | exact AV.LeN.refl _ | exact AV.LeN.nils _ | exact AV.LeN.nilb rfl | refine AV.LeN.agg ?_ | refine AV.LeN.tup ?_ | exact AV.LeN.of_eq (by simp [pB, vA, fA, jO, zL, sA, List.map_set, aA.enc, kB.enc, tA.enc, iB.enc, eA.enc, bB.enc, dB.enc, jB.enc, lB.enc, fB.enc, mB.enc, bG.enc, dG.enc, uE.enc])))) : p := h
theorem rE {p : Prop} (h : p := by
  (repeat' (first | exact trivial | exact dW.refl _ | exact ⟨_, rfl, rfl⟩ | exact AV.LeN.refl _ | refine And.intro ?_ ?_ | exact rfl | exact qE.refl _ | exact (fun _ => rfl) | exact (fun h => h) | exact qE.of_eq (by simp [pB, vA, fA, jO, zL, sA, List.map_set, aA.enc, kB.enc, tA.enc, iB.enc, eA.enc, bB.enc, dB.enc, jB.enc, lB.enc, fB.enc, mB.enc, bG.enc, dG.enc, uE.enc]) | exact AV.LeN.nils _ | exact AV.LeN.nilb rfl | exact AV.LeN.of_eq (by simp [pB, vA, fA, jO, zL, sA, List.map_set, aA.enc, kB.enc, tA.enc, iB.enc, eA.enc, bB.enc, dB.enc, jB.enc, lB.enc, fB.enc, mB.enc, bG.enc, dG.enc, uE.enc])))) : p := h
theorem rN {p : Prop} (h : p := by
  (repeat' (first | exact trivial | refine And.intro ?_ ?_ | exact Nat.le_of_ble_eq_true rfl | decide))) : p := h
theorem rR {p : Prop} (h : p := by
  (repeat' (first | exact trivial | refine And.intro ?_ ?_ | exact AV.Le.refl _))) : p := h
theorem rH {p : Prop} (h : p := by
  (repeat' (first | exact AV.Le.refl _ | exact AV.Le.nils _ | refine AV.Le.agg ?_ | refine AV.Le.tup ?_ | exact trivial | exact rfl | omega | exact AV.Le.of_eq (by simp [pB, vA, fA, jO, zL, sA, List.map_set, aA.enc, kB.enc, tA.enc, iB.enc, eA.enc, bB.enc, dB.enc, jB.enc, lB.enc, fB.enc, mB.enc, bG.enc, dG.enc, uE.enc]) | refine And.intro ?_ ?_))) : p := h
theorem rG {p : Prop} (h : p := by
  simp (maxSteps := 1000000) only [↓reduceIte, reduceCtorEq, Nat.reduceEqDiff, Nat.reduceLT, Nat.reduceLeDiff, Nat.reduceAdd, Nat.reduceMul, Int.reduceToNat, push_cast, eT]
  (repeat' (first | exact AV.Le.refl _ | exact AV.Le.nils _ | refine AV.Le.agg ?_ | refine AV.Le.tup ?_ | exact trivial | exact rfl | omega | exact AV.Le.of_eq (by simp [pB, vA, fA, jO, zL, sA, List.map_set, aA.enc, kB.enc, tA.enc, iB.enc, eA.enc, bB.enc, dB.enc, jB.enc, lB.enc, fB.enc, mB.enc, bG.enc, dG.enc, uE.enc]) | refine And.intro ?_ ?_))) : p := h
theorem rW {q k p : Prop} (f : q) (hK : k) (h : q → k → p := by
  intro f hK
  simp (maxSteps := 1000000) only [↓reduceIte, reduceCtorEq, Nat.reduceEqDiff, Nat.reduceLT, Nat.reduceLeDiff, Nat.reduceAdd, Nat.reduceMul, Int.reduceToNat, push_cast, ↓f]
  try simp only [↓f] at hK
  all_goals (repeat' (first | assumption | refine And.intro ?_ ?_ | exact Nat.le_refl _ | omega | (intro _) | (simp; done)))) : p := h f hK
theorem iI {q t k p : Prop} (f : q) (c : t) (hK : k) (h : q → t → k → p := by
  intro f c hK
  simp (maxSteps := 1000000) only [↓reduceIte, reduceCtorEq, Nat.reduceEqDiff, Nat.reduceLT, Nat.reduceLeDiff, Nat.reduceAdd, Nat.reduceMul, Int.reduceToNat, push_cast, ↓f]
  try simp only [↓f] at hK
  all_goals (repeat' (first | assumption | refine And.intro ?_ ?_ | exact Nat.le_refl _ | omega | (intro _) | (simp; done)))) : p := h f c hK
theorem sD {q r k p : Prop} (f : q) (g : r) (hK : k) (h : q → r → k → p := by
  intro f g hK
  simp (maxSteps := 1000000) only [↓reduceIte, reduceCtorEq, Nat.reduceEqDiff, Nat.reduceLT, Nat.reduceLeDiff, Nat.reduceAdd, Nat.reduceMul, Int.reduceToNat, push_cast, g, ↓f]
  try simp only [↓f] at hK
  all_goals (repeat' (first | assumption | refine And.intro ?_ ?_ | exact Nat.le_refl _ | omega | (intro _) | (simp; done)))) : p := h f g hK
theorem yI {q r t k p : Prop} (f : q) (g : r) (c : t) (hK : k) (h : q → r → t → k → p := by
  intro f g c hK
  simp (maxSteps := 1000000) only [↓reduceIte, reduceCtorEq, Nat.reduceEqDiff, Nat.reduceLT, Nat.reduceLeDiff, Nat.reduceAdd, Nat.reduceMul, Int.reduceToNat, push_cast, g, ↓f]
  try simp only [↓f] at hK
  all_goals (repeat' (first | assumption | refine And.intro ?_ ?_ | exact Nat.le_refl _ | omega | (intro _) | (simp; done)))) : p := h f g c hK
theorem hO {q k p : Prop} (f : q) (hK : k) (h : q → k → p := by
  intro f hK
  simp (maxSteps := 1000000) only [↓reduceIte, reduceCtorEq, Nat.reduceEqDiff, Nat.reduceLT, Nat.reduceLeDiff, Nat.reduceAdd, Nat.reduceMul, Int.reduceToNat, push_cast, ↓f]
  try simp only [↓f] at hK
  all_goals (repeat' (first | assumption | (show aH _ _ _ = true; kernel_rfl) | refine And.intro ?_ ?_ | exact Nat.le_refl _ | omega | (intro _) | (simp; done)))) : p := h f hK
theorem rWcd {q t k p : Prop} (f : q) (c : t) (hK : k) (h : q → t → k → p := by
  intro f c hK
  simp (maxSteps := 1000000) only [↓reduceIte, reduceCtorEq, Nat.reduceEqDiff, Nat.reduceLT, Nat.reduceLeDiff, Nat.reduceAdd, Nat.reduceMul, Int.reduceToNat, push_cast, ↓f]
  try simp only [↓f] at hK
  all_goals (repeat' (first | assumption | (show aH _ _ _ = true; kernel_rfl) | refine And.intro ?_ ?_ | exact Nat.le_refl _ | omega | (intro _) | (simp; done)))) : p := h f c hK
theorem tG {q r k p : Prop} (f : q) (g : r) (hK : k) (h : q → r → k → p := by
  intro f g hK
  simp (maxSteps := 1000000) only [↓reduceIte, reduceCtorEq, Nat.reduceEqDiff, Nat.reduceLT, Nat.reduceLeDiff, Nat.reduceAdd, Nat.reduceMul, Int.reduceToNat, push_cast, g, ↓f]
  try simp only [↓f] at hK
  all_goals (repeat' (first | assumption | (show aH _ _ _ = true; kernel_rfl) | refine And.intro ?_ ?_ | exact Nat.le_refl _ | omega | (intro _) | (simp; done)))) : p := h f g hK
theorem gY {q r t k p : Prop} (f : q) (g : r) (c : t) (hK : k) (h : q → r → t → k → p := by
  intro f g c hK
  simp (maxSteps := 1000000) only [↓reduceIte, reduceCtorEq, Nat.reduceEqDiff, Nat.reduceLT, Nat.reduceLeDiff, Nat.reduceAdd, Nat.reduceMul, Int.reduceToNat, push_cast, g, ↓f]
  try simp only [↓f] at hK
  all_goals (repeat' (first | assumption | (show aH _ _ _ = true; kernel_rfl) | refine And.intro ?_ ?_ | exact Nat.le_refl _ | omega | (intro _) | (simp; done)))) : p := h f g c hK
theorem rJ {q p : Prop} (f : q) (h : q → p := by
  intro f
  simp (maxSteps := 1000000) only [↓reduceIte, reduceCtorEq, Nat.reduceEqDiff, Nat.reduceLT, Nat.reduceLeDiff, Nat.reduceAdd, Nat.reduceMul, Int.reduceToNat, push_cast, eT, f]
  all_goals exact rH) : p := h f
theorem rQ {p : Prop} (h : p := by
  simp (maxSteps := 1000000) only [↓reduceIte, reduceCtorEq, Nat.reduceEqDiff, Nat.reduceLT, Nat.reduceLeDiff, Nat.reduceAdd, Nat.reduceMul, Int.reduceToNat, push_cast, Int.reduceEq, Int.reduceLT, Int.reduceLE]
  repeat' (first | assumption | refine And.intro ?_ ?_ | exact Nat.le_refl _ | omega | (intro _) | (simp; done))) : p := h
theorem rQd {p : Prop} (h : p := by
  simp (maxSteps := 1000000) only [↓reduceIte, reduceCtorEq, Nat.reduceEqDiff, Nat.reduceLT, Nat.reduceLeDiff, Nat.reduceAdd, Nat.reduceMul, Int.reduceToNat, push_cast, Int.reduceEq, Int.reduceLT, Int.reduceLE]
  repeat' (first | assumption | (show aH _ _ _ = true; kernel_rfl) | refine And.intro ?_ ?_ | exact Nat.le_refl _ | omega | (intro _) | (simp; done))) : p := h
theorem xE {P : Program} {nt : Nat} {K : Exit → St → Prop} {c : Code} {s : St} (s2 : St) (h : vB P nt c K s2) (hn : s.nx ≤ s2.nx := by exact Nat.le_of_ble_eq_true rfl) (hl : LeN [] s s2 := by exact ⟨rF, rE, rfl, rfl, trivial, trivial⟩) : vB P nt c K s := oB [] hn hl h
theorem xF {P : Program} {nt : Nat} {K : Exit → St → Prop} {ops : Array Oper} {l : List Nat} {s : St} (s2 : St) (h : lE P nt ops l K s2) (hn : s.nx ≤ s2.nx := by exact Nat.le_of_ble_eq_true rfl) (hl : LeN [] s s2 := by exact ⟨rF, rE, rfl, rfl, trivial, trivial⟩) : lE P nt ops l K s := iK [] hn hl h
end Go.T
