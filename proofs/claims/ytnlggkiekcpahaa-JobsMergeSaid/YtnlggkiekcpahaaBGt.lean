/- A text of the proof. -/
import Derived.Test.YtnlggkiekcpahaaProg
import Derived.Test.YtnlggkiekcpahaaBAmZj
import Derived.Test.YtnlggkiekcpahaaBGp
namespace Go.T
open Go Go.AM Go.Proofs
def aA.enc (x : aA) : List AV := [.str x.Key, .str x.Val, .bool x.Dead, .int .i64 x.Seq]
theorem aA.eta (x : aA) : aA.mk x.Key x.Val x.Dead x.Seq = x := rfl
theorem aA.allP (l : List aA) : (l.map aA.enc).all AV.isP.isPs = true := sG (fun _ => rfl) l
theorem aA.allF (l : List aA) : (l.map aA.enc).all AV.flatR.flatRs = true := cO (fun _ => rfl) l
attribute [push_cast] aA.enc aA.eta aA.allP aA.allF
def eB.enc (x : eB) : List AV := [.int .i64 x.Id, .psl 4 (x.Entries.map aA.enc)]
theorem eB.eta (x : eB) : eB.mk x.Id x.Entries = x := rfl
theorem eB.allP (l : List eB) : (l.map eB.enc).all AV.isP.isPs = true := sG (fun _ => rfl) l
attribute [push_cast] eB.enc eB.eta eB.allP
def tA.enc (x : tA) : List AV := [.psl 2 (x.Runs.map eB.enc)]
theorem tA.eta (x : tA) : tA.mk x.Runs = x := rfl
theorem tA.allP (l : List tA) : (l.map tA.enc).all AV.isP.isPs = true := sG (fun _ => rfl) l
attribute [push_cast] tA.enc tA.eta tA.allP
def yA.enc (x : yA) : List AV := [.int .i64 x.B, .psl 1 (x.Levels.map tA.enc)]
theorem yA.eta (x : yA) : yA.mk x.B x.Levels = x := rfl
theorem yA.allP (l : List yA) : (l.map yA.enc).all AV.isP.isPs = true := sG (fun _ => rfl) l
attribute [push_cast] yA.enc yA.eta yA.allP
def cA.enc (x : cA) : List AV := [.str x.Key, .bool x.Done]
theorem cA.eta (x : cA) : cA.mk x.Key x.Done = x := rfl
theorem cA.allP (l : List cA) : (l.map cA.enc).all AV.isP.isPs = true := sG (fun _ => rfl) l
theorem cA.allF (l : List cA) : (l.map cA.enc).all AV.flatR.flatRs = true := cO (fun _ => rfl) l
attribute [push_cast] cA.enc cA.eta cA.allP cA.allF
def cB.enc (x : cB) : List AV := [.psl 2 (x.Keys.map cA.enc), .psl 1 (x.Lose.map (dA .i64)), .int .i64 x.Win]
theorem cB.eta (x : cB) : cB.mk x.Keys x.Lose x.Win = x := rfl
theorem cB.allP (l : List cB) : (l.map cB.enc).all AV.isP.isPs = true := sG (fun _ => rfl) l
attribute [push_cast] cB.enc cB.eta cB.allP
def gB.enc (x : gB) : List AV := [.psl 1 (x.Runs.map (sA 4 aA.enc)), .psl 1 (x.At.map (dA .i64)), .psl 2 (x.Tree.Keys.map cA.enc), .psl 1 (x.Tree.Lose.map (dA .i64)), .int .i64 x.Tree.Win]
theorem gB.eta (x : gB) : gB.mk x.Runs x.At x.Tree = x := rfl
theorem gB.allP (l : List gB) : (l.map gB.enc).all AV.isP.isPs = true := sG (fun _ => rfl) l
attribute [push_cast] gB.enc gB.eta gB.allP
def fB.enc (x : fB) : List AV := [.bool x.Some, .str x.Last, .bool x.Bottom]
theorem fB.eta (x : fB) : fB.mk x.Some x.Last x.Bottom = x := rfl
theorem fB.allP (l : List fB) : (l.map fB.enc).all AV.isP.isPs = true := sG (fun _ => rfl) l
theorem fB.allF (l : List fB) : (l.map fB.enc).all AV.flatR.flatRs = true := cO (fun _ => rfl) l
attribute [push_cast] fB.enc fB.eta fB.allP fB.allF
def vB.enc (x : vB) : List AV := [.psl 1 (x.Merge.Runs.map (sA 4 aA.enc)), .psl 1 (x.Merge.At.map (dA .i64)), .psl 2 (x.Merge.Tree.Keys.map cA.enc), .psl 1 (x.Merge.Tree.Lose.map (dA .i64)), .int .i64 x.Merge.Tree.Win, .bool x.Shadow.Some, .str x.Shadow.Last, .bool x.Shadow.Bottom, .psl 4 (x.Out.map aA.enc), .int .i64 x.Steps]
theorem vB.eta (x : vB) : vB.mk x.Merge x.Shadow x.Out x.Steps = x := rfl
theorem vB.allP (l : List vB) : (l.map vB.enc).all AV.isP.isPs = true := sG (fun _ => rfl) l
attribute [push_cast] vB.enc vB.eta vB.allP
def bB.enc (x : bB) : List AV := [.int .i64 x.Level, .psl 1 (x.Work.Merge.Runs.map (sA 4 aA.enc)), .psl 1 (x.Work.Merge.At.map (dA .i64)), .psl 2 (x.Work.Merge.Tree.Keys.map cA.enc), .psl 1 (x.Work.Merge.Tree.Lose.map (dA .i64)), .int .i64 x.Work.Merge.Tree.Win, .bool x.Work.Shadow.Some, .str x.Work.Shadow.Last, .bool x.Work.Shadow.Bottom, .psl 4 (x.Work.Out.map aA.enc), .int .i64 x.Work.Steps]
theorem bB.eta (x : bB) : bB.mk x.Level x.Work = x := rfl
theorem bB.allP (l : List bB) : (l.map bB.enc).all AV.isP.isPs = true := sG (fun _ => rfl) l
attribute [push_cast] bB.enc bB.eta bB.allP
def oB.enc (x : oB) : List AV := [.int .i64 x.Levels.B, .psl 1 (x.Levels.Levels.map tA.enc), .psl 11 (x.Jobs.map bB.enc), .int .i64 x.NextId]
theorem oB.eta (x : oB) : oB.mk x.Levels x.Jobs x.NextId = x := rfl
theorem oB.allP (l : List oB) : (l.map oB.enc).all AV.isP.isPs = true := sG (fun _ => rfl) l
attribute [push_cast] oB.enc oB.eta oB.allP
def eG.enc (x : eG) : List AV := [.str x.Key, .str x.Val, .bool x.Dead, .int .i64 x.Seq]
theorem eG.eta (x : eG) : eG.mk x.Key x.Val x.Dead x.Seq = x := rfl
theorem eG.allP (l : List eG) : (l.map eG.enc).all AV.isP.isPs = true := sG (fun _ => rfl) l
theorem eG.allF (l : List eG) : (l.map eG.enc).all AV.flatR.flatRs = true := cO (fun _ => rfl) l
attribute [push_cast] eG.enc eG.eta eG.allP eG.allF
def fG.enc (x : fG) : List AV := [.str x.Key, .str x.Val, .bool x.Dead, .int .i64 x.Seq]
theorem fG.eta (x : fG) : fG.mk x.Key x.Val x.Dead x.Seq = x := rfl
theorem fG.allP (l : List fG) : (l.map fG.enc).all AV.isP.isPs = true := sG (fun _ => rfl) l
theorem fG.allF (l : List fG) : (l.map fG.enc).all AV.flatR.flatRs = true := cO (fun _ => rfl) l
attribute [push_cast] fG.enc fG.eta fG.allP fG.allF
def dF.enc (x : dF) : List AV := [.str x.Key, .str x.Val, .bool x.Dead, .int .i64 x.Seq]
theorem dF.eta (x : dF) : dF.mk x.Key x.Val x.Dead x.Seq = x := rfl
theorem dF.allP (l : List dF) : (l.map dF.enc).all AV.isP.isPs = true := sG (fun _ => rfl) l
theorem dF.allF (l : List dF) : (l.map dF.enc).all AV.flatR.flatRs = true := cO (fun _ => rfl) l
attribute [push_cast] dF.enc dF.eta dF.allP dF.allF
def jG.enc (x : jG) : List AV := [.int .u8 x.e0, .int .u8 x.e1]
theorem jG.eta (x : jG) : jG.mk x.e0 x.e1 = x := rfl
theorem jG.allP (l : List jG) : (l.map jG.enc).all AV.isP.isPs = true := sG (fun _ => rfl) l
theorem jG.allF (l : List jG) : (l.map jG.enc).all AV.flatR.flatRs = true := cO (fun _ => rfl) l
attribute [push_cast] jG.enc jG.eta jG.allP jG.allF
theorem tSize2 : nB Try.prog 2 = some 1 := by kernel_rfl
theorem zhN : mD Try.prog 2 = some 8 := by kernel_rfl
theorem tAgg2 : rD Try.prog 2 = some false := by kernel_rfl
theorem tUnd2 : Try.prog.underlying 2 = some (.int .i64) := by kernel_rfl
theorem tZero2 : tC Try.prog 2 = some [.int .i64 0] := by kernel_rfl
theorem tSize3 : nB Try.prog 3 = some 1 := by kernel_rfl
theorem zfK : mD Try.prog 3 = some 8 := by kernel_rfl
theorem tAgg3 : rD Try.prog 3 = some false := by kernel_rfl
theorem tUnd3 : Try.prog.underlying 3 = some (.int .i64) := by kernel_rfl
theorem tZero3 : tC Try.prog 3 = some [.int .i64 0] := by kernel_rfl
theorem tSize4 : nB Try.prog 4 = some 1 := by kernel_rfl
theorem zor : mD Try.prog 4 = some 1 := by kernel_rfl
theorem tAgg4 : rD Try.prog 4 = some false := by kernel_rfl
theorem tUnd4 : Try.prog.underlying 4 = some .bool := by kernel_rfl
theorem eqTyB4 {a b : Bool} : zC Try.prog .eql 4 (.bool a) (.bool b) = some (.bool (a == b)) := by kernel_rfl
theorem neTyB4 {a b : Bool} : zC Try.prog .neq 4 (.bool a) (.bool b) = some (.bool (!(a == b))) := by kernel_rfl
theorem tZero4 : tC Try.prog 4 = some [.bool false] := by kernel_rfl
theorem tSize5 : nB Try.prog 5 = some 1 := by kernel_rfl
theorem zgg : mD Try.prog 5 = some 1 := by kernel_rfl
theorem tAgg5 : rD Try.prog 5 = some false := by kernel_rfl
theorem tUnd5 : Try.prog.underlying 5 = some (.int .u8) := by kernel_rfl
theorem tZero5 : tC Try.prog 5 = some [.int .u8 0] := by kernel_rfl
theorem tSize9 : nB Try.prog 9 = some 1 := by kernel_rfl
theorem zg3 : mD Try.prog 9 = some 16 := by kernel_rfl
theorem tAgg9 : rD Try.prog 9 = some false := by kernel_rfl
theorem tStr9 : tStr Try.prog 9 = some () := by kernel_rfl
theorem tUnd9 : Try.prog.underlying 9 = some .string := by kernel_rfl
theorem tZero9 : tC Try.prog 9 = some [.str []] := by kernel_rfl
theorem zlI : nB Try.prog 22 = some 1 := by kernel_rfl
theorem zli : mD Try.prog 22 = some 24 := by kernel_rfl
theorem tAgg22 : rD Try.prog 22 = some false := by kernel_rfl
theorem zgs : tC Try.prog 22 = some [.nils] := by kernel_rfl
theorem zfb : dD Try.prog 22 = some 38 := by kernel_rfl
theorem tUnd22 : Try.prog.underlying 22 = some (.slice 38) := by kernel_rfl
theorem znZ : nB Try.prog 24 = some 2 := by kernel_rfl
theorem zfC : mD Try.prog 24 = some 32 := by kernel_rfl
theorem tAgg24 : rD Try.prog 24 = some true := by kernel_rfl
theorem ziU : tC Try.prog 24 = some [.int .i64 0, .nils] := by kernel_rfl
theorem zfn : uG Try.prog 24 = some [(0, 1), (1, 1)] := by kernel_rfl
theorem zkN : jD Try.prog 24 0 = some (0, 3) := by kernel_rfl
theorem zeM : jD Try.prog 24 1 = some (1, 22) := by kernel_rfl
theorem zkx : nB Try.prog 25 = some 1 := by kernel_rfl
theorem zmZ : mD Try.prog 25 = some 24 := by kernel_rfl
theorem tAgg25 : rD Try.prog 25 = some false := by kernel_rfl
theorem zix : tC Try.prog 25 = some [.nils] := by kernel_rfl
theorem zgt : dD Try.prog 25 = some 5 := by kernel_rfl
theorem tUnd25 : Try.prog.underlying 25 = some (.slice 5) := by kernel_rfl
theorem zmE : nB Try.prog 28 = some 1 := by kernel_rfl
theorem zmh : mD Try.prog 28 = some 24 := by kernel_rfl
theorem tAgg28 : rD Try.prog 28 = some false := by kernel_rfl
theorem zi7 : tC Try.prog 28 = some [.nils] := by kernel_rfl
theorem zgN : dD Try.prog 28 = some 61 := by kernel_rfl
theorem tUnd28 : Try.prog.underlying 28 = some (.slice 61) := by kernel_rfl
theorem zjf : nB Try.prog 30 = some 4 := by kernel_rfl
theorem ziL : mD Try.prog 30 = some 64 := by kernel_rfl
theorem tAgg30 : rD Try.prog 30 = some true := by kernel_rfl
theorem zl2 : tC Try.prog 30 = some [.int .i64 0, .nils, .nils, .int .i64 0] := by kernel_rfl
theorem zf8 : uG Try.prog 30 = some [(0, 2), (2, 1), (3, 1)] := by kernel_rfl
theorem znz : jD Try.prog 30 0 = some (0, 24) := by kernel_rfl
theorem zie : jD Try.prog 30 1 = some (2, 28) := by kernel_rfl
theorem zly : jD Try.prog 30 2 = some (3, 3) := by kernel_rfl
theorem zlM : nB Try.prog 31 = some 1 := by kernel_rfl
theorem zi4 : mD Try.prog 31 = some 8 := by kernel_rfl
theorem tAgg31 : rD Try.prog 31 = some false := by kernel_rfl
theorem tUnd31 : Try.prog.underlying 31 = some (.int .i64) := by kernel_rfl
theorem zfw : tC Try.prog 31 = some [.int .i64 0] := by kernel_rfl
theorem zgc : nB Try.prog 36 = some 1 := by kernel_rfl
theorem zeW : mD Try.prog 36 = some 24 := by kernel_rfl
theorem tAgg36 : rD Try.prog 36 = some false := by kernel_rfl
theorem zk2 : tC Try.prog 36 = some [.nils] := by kernel_rfl
theorem zg5 : dD Try.prog 36 = some 44 := by kernel_rfl
theorem tUnd36 : Try.prog.underlying 36 = some (.slice 44) := by kernel_rfl
theorem znP : nB Try.prog 38 = some 1 := by kernel_rfl
theorem zlX : mD Try.prog 38 = some 24 := by kernel_rfl
theorem tAgg38 : rD Try.prog 38 = some true := by kernel_rfl
theorem zgM : tC Try.prog 38 = some [.nils] := by kernel_rfl
theorem zhA : uG Try.prog 38 = some [(0, 1)] := by kernel_rfl
theorem zgw : jD Try.prog 38 0 = some (0, 36) := by kernel_rfl
theorem znB : nB Try.prog 39 = some 1 := by kernel_rfl
theorem zh8 : mD Try.prog 39 = some 24 := by kernel_rfl
theorem tAgg39 : rD Try.prog 39 = some false := by kernel_rfl
theorem zgX : tC Try.prog 39 = some [.nils] := by kernel_rfl
theorem zfQ : dD Try.prog 39 = some 71 := by kernel_rfl
theorem tUnd39 : Try.prog.underlying 39 = some (.slice 71) := by kernel_rfl
theorem zj9 : nB Try.prog 40 = some 1 := by kernel_rfl
theorem znQ : mD Try.prog 40 = some 24 := by kernel_rfl
theorem tAgg40 : rD Try.prog 40 = some false := by kernel_rfl
theorem zhk : tC Try.prog 40 = some [.nils] := by kernel_rfl
theorem zj7 : dD Try.prog 40 = some 3 := by kernel_rfl
theorem tUnd40 : Try.prog.underlying 40 = some (.slice 3) := by kernel_rfl
theorem zg7 : nB Try.prog 44 = some 2 := by kernel_rfl
theorem zl8 : mD Try.prog 44 = some 32 := by kernel_rfl
theorem tAgg44 : rD Try.prog 44 = some true := by kernel_rfl
theorem zlg : tC Try.prog 44 = some [.int .i64 0, .nils] := by kernel_rfl
theorem zfG : uG Try.prog 44 = some [(0, 1), (1, 1)] := by kernel_rfl
theorem zic : jD Try.prog 44 0 = some (0, 3) := by kernel_rfl
theorem zhO : jD Try.prog 44 1 = some (1, 39) := by kernel_rfl
theorem zmg : nB Try.prog 45 = some 1 := by kernel_rfl
theorem zoj : mD Try.prog 45 = some 24 := by kernel_rfl
theorem tAgg45 : rD Try.prog 45 = some false := by kernel_rfl
theorem znV : tC Try.prog 45 = some [.nils] := by kernel_rfl
theorem zfo : dD Try.prog 45 = some 39 := by kernel_rfl
theorem tUnd45 : Try.prog.underlying 45 = some (.slice 39) := by kernel_rfl
theorem zgl : nB Try.prog 51 = some 1 := by kernel_rfl
theorem znu : mD Try.prog 51 = some 24 := by kernel_rfl
theorem tAgg51 : rD Try.prog 51 = some false := by kernel_rfl
theorem zfV : tC Try.prog 51 = some [.nils] := by kernel_rfl
theorem zgV : dD Try.prog 51 = some 122 := by kernel_rfl
theorem tUnd51 : Try.prog.underlying 51 = some (.slice 122) := by kernel_rfl
theorem znN : nB Try.prog 53 = some 3 := by kernel_rfl
theorem zmv : mD Try.prog 53 = some 56 := by kernel_rfl
theorem tAgg53 : rD Try.prog 53 = some true := by kernel_rfl
theorem zmR : tC Try.prog 53 = some [.nils, .nils, .int .i64 0] := by kernel_rfl
theorem zlf : uG Try.prog 53 = some [(0, 1), (1, 1), (2, 1)] := by kernel_rfl
theorem zhu : jD Try.prog 53 0 = some (0, 51) := by kernel_rfl
theorem zky : jD Try.prog 53 1 = some (1, 40) := by kernel_rfl
theorem zms : jD Try.prog 53 2 = some (2, 3) := by kernel_rfl
theorem zju : nB Try.prog 55 = some 5 := by kernel_rfl
theorem ziq : mD Try.prog 55 = some 104 := by kernel_rfl
theorem tAgg55 : rD Try.prog 55 = some true := by kernel_rfl
theorem zfL : tC Try.prog 55 = some [.nils, .nils, .nils, .nils, .int .i64 0] := by kernel_rfl
theorem zgk : uG Try.prog 55 = some [(0, 1), (1, 1), (2, 3)] := by kernel_rfl
theorem zj5 : jD Try.prog 55 0 = some (0, 45) := by kernel_rfl
theorem zl1 : jD Try.prog 55 1 = some (1, 40) := by kernel_rfl
theorem zgL : jD Try.prog 55 2 = some (2, 53) := by kernel_rfl
theorem ziT : nB Try.prog 57 = some 3 := by kernel_rfl
theorem zhx : mD Try.prog 57 = some 32 := by kernel_rfl
theorem tAgg57 : rD Try.prog 57 = some true := by kernel_rfl
theorem ziz : tC Try.prog 57 = some [.bool false, .str [], .bool false] := by kernel_rfl
theorem zfe : uG Try.prog 57 = some [(0, 1), (1, 1), (2, 1)] := by kernel_rfl
theorem zgp : jD Try.prog 57 0 = some (0, 4) := by kernel_rfl
theorem zkY : jD Try.prog 57 1 = some (1, 9) := by kernel_rfl
theorem zfA : jD Try.prog 57 2 = some (2, 4) := by kernel_rfl
theorem ziF : nB Try.prog 59 = some 10 := by kernel_rfl
theorem zit : mD Try.prog 59 = some 168 := by kernel_rfl
theorem tAgg59 : rD Try.prog 59 = some true := by kernel_rfl
theorem zfx : tC Try.prog 59 = some [.nils, .nils, .nils, .nils, .int .i64 0, .bool false, .str [], .bool false, .nils, .int .i64 0] := by kernel_rfl
theorem zn9 : uG Try.prog 59 = some [(0, 5), (5, 3), (8, 1), (9, 1)] := by kernel_rfl
theorem zjO : jD Try.prog 59 0 = some (0, 55) := by kernel_rfl
theorem zkf : jD Try.prog 59 1 = some (5, 57) := by kernel_rfl
theorem zfJ : jD Try.prog 59 2 = some (8, 39) := by kernel_rfl
theorem znl : jD Try.prog 59 3 = some (9, 2) := by kernel_rfl
theorem zkD : nB Try.prog 61 = some 11 := by kernel_rfl
theorem zmn : mD Try.prog 61 = some 176 := by kernel_rfl
theorem tAgg61 : rD Try.prog 61 = some true := by kernel_rfl
theorem zfd : tC Try.prog 61 = some [.int .i64 0, .nils, .nils, .nils, .nils, .int .i64 0, .bool false, .str [], .bool false, .nils, .int .i64 0] := by kernel_rfl
theorem zhG : uG Try.prog 61 = some [(0, 1), (1, 10)] := by kernel_rfl
theorem zng : jD Try.prog 61 0 = some (0, 3) := by kernel_rfl
theorem zk0 : jD Try.prog 61 1 = some (1, 59) := by kernel_rfl
theorem zk7 : nB Try.prog 63 = some 2 := by kernel_rfl
theorem zol : mD Try.prog 63 = some 2 := by kernel_rfl
theorem tAgg63 : rD Try.prog 63 = some true := by kernel_rfl
theorem znx : tC Try.prog 63 = some [.int .u8 0, .int .u8 0] := by kernel_rfl
theorem tArr63 : hM Try.prog 63 = some (2, 5) := by kernel_rfl
theorem zl0 : nB Try.prog 71 = some 4 := by kernel_rfl
theorem zhf : mD Try.prog 71 = some 48 := by kernel_rfl
theorem tAgg71 : rD Try.prog 71 = some true := by kernel_rfl
theorem znI : tC Try.prog 71 = some [.str [], .str [], .bool false, .int .i64 0] := by kernel_rfl
theorem zfm : uG Try.prog 71 = some [(0, 1), (1, 1), (2, 1), (3, 1)] := by kernel_rfl
theorem zmt : jD Try.prog 71 0 = some (0, 9) := by kernel_rfl
theorem zi8 : jD Try.prog 71 1 = some (1, 9) := by kernel_rfl
theorem zmr : jD Try.prog 71 2 = some (2, 4) := by kernel_rfl
theorem zlj : jD Try.prog 71 3 = some (3, 2) := by kernel_rfl
theorem ziM : nB Try.prog 107 = some 10 := by kernel_rfl
theorem zl4 : mD Try.prog 107 = some 168 := by kernel_rfl
theorem zjC : rD Try.prog 107 = some true := by kernel_rfl
theorem ze0 : tC Try.prog 107 = some [.nils, .nils, .nils, .nils, .int .i64 0, .bool false, .str [], .bool false, .nils, .int .i64 0] := by kernel_rfl
theorem zfU : uG Try.prog 107 = some [(0, 10)] := by kernel_rfl
theorem zjU : jD Try.prog 107 0 = some (0, 59) := by kernel_rfl
theorem zf0 : nB Try.prog 122 = some 2 := by kernel_rfl
theorem zka : mD Try.prog 122 = some 24 := by kernel_rfl
theorem zlU : rD Try.prog 122 = some true := by kernel_rfl
theorem zmD : tC Try.prog 122 = some [.str [], .bool false] := by kernel_rfl
theorem zgy : uG Try.prog 122 = some [(0, 1), (1, 1)] := by kernel_rfl
theorem ziR : jD Try.prog 122 0 = some (0, 9) := by kernel_rfl
theorem zjb : jD Try.prog 122 1 = some (1, 4) := by kernel_rfl
theorem zfc : nB Try.prog 134 = some 1 := by kernel_rfl
theorem zgv : mD Try.prog 134 = some 8 := by kernel_rfl
theorem zgT : rD Try.prog 134 = some false := by kernel_rfl
theorem zlz : tC Try.prog 134 = some [.nilp] := by kernel_rfl
theorem ziQ : nB Try.prog 136 = some 5 := by kernel_rfl
theorem zhj : mD Try.prog 136 = some 104 := by kernel_rfl
theorem zog : rD Try.prog 136 = some true := by kernel_rfl
theorem ze7 : tC Try.prog 136 = some [.nils, .nils, .nils, .nils, .int .i64 0] := by kernel_rfl
theorem zjS : uG Try.prog 136 = some [(0, 5)] := by kernel_rfl
theorem zg9 : jD Try.prog 136 0 = some (0, 55) := by kernel_rfl
theorem zif : nB Try.prog 143 = some 4 := by kernel_rfl
theorem ziP : mD Try.prog 143 = some 48 := by kernel_rfl
theorem zle : rD Try.prog 143 = some true := by kernel_rfl
theorem zm4 : tC Try.prog 143 = some [.str [], .str [], .bool false, .int .i64 0] := by kernel_rfl
theorem zkA : uG Try.prog 143 = some [(0, 1), (1, 1), (2, 1), (3, 1)] := by kernel_rfl
theorem zi9 : jD Try.prog 143 0 = some (0, 9) := by kernel_rfl
theorem zhP : jD Try.prog 143 1 = some (1, 9) := by kernel_rfl
theorem zn2 : jD Try.prog 143 2 = some (2, 4) := by kernel_rfl
theorem zi2 : jD Try.prog 143 3 = some (3, 2) := by kernel_rfl
attribute [push_cast] tSize2 zhN tAgg2 tUnd2 tZero2 tSize3 zfK tAgg3 tUnd3 tZero3 tSize4 zor
attribute [push_cast] tAgg4 tUnd4 eqTyB4 neTyB4 tZero4 tSize5 zgg tAgg5 tUnd5 tZero5 tSize9 zg3
attribute [push_cast] tAgg9 tStr9 tUnd9 tZero9 zlI zli tAgg22 zgs zfb tUnd22 znZ zfC
attribute [push_cast] tAgg24 ziU zfn zkN zeM zkx zmZ tAgg25 zix zgt tUnd25 zmE
attribute [push_cast] zmh tAgg28 zi7 zgN tUnd28 zjf ziL tAgg30 zl2 zf8 znz zie
attribute [push_cast] zly zlM zi4 tAgg31 tUnd31 zfw zgc zeW tAgg36 zk2 zg5 tUnd36
attribute [push_cast] znP zlX tAgg38 zgM zhA zgw znB zh8 tAgg39 zgX zfQ tUnd39
attribute [push_cast] zj9 znQ tAgg40 zhk zj7 tUnd40 zg7 zl8 tAgg44 zlg zfG zic
attribute [push_cast] zhO zmg zoj tAgg45 znV zfo tUnd45 zgl znu tAgg51 zfV zgV
attribute [push_cast] tUnd51 znN zmv tAgg53 zmR zlf zhu zky zms zju ziq tAgg55
attribute [push_cast] zfL zgk zj5 zl1 zgL ziT zhx tAgg57 ziz zfe zgp zkY
attribute [push_cast] zfA ziF zit tAgg59 zfx zn9 zjO zkf zfJ znl zkD zmn
attribute [push_cast] tAgg61 zfd zhG zng zk0 zk7 zol tAgg63 znx tArr63 zl0 zhf
attribute [push_cast] tAgg71 znI zfm zmt zi8 zmr zlj ziM zl4 zjC ze0 zfU
attribute [push_cast] zjU zf0 zka zlU zmD zgy ziR zjb zfc zgv zgT zlz
attribute [push_cast] ziQ zhj zog ze7 zjS zg9 zif ziP zle zm4 zkA zi9
attribute [push_cast] zhP zn2 zi2
theorem rX : Try.prog.underlying 96 = some (.map 3 4) := by kernel_rfl
theorem zaM : bS Try.prog 3 (fun n : Int => AV.int .i64 n) := zmy (by kernel_rfl)
theorem zgm : tI Try.prog 4 = some (.bool false) := by kernel_rfl
theorem zhV : nN Try.prog 143 = true := by kernel_rfl
theorem zeO : nN Try.prog 163 = true := by kernel_rfl
theorem zlr : nN Try.prog 164 = true := by kernel_rfl
theorem zfR {x : AV} : cL Try.prog 143 (.iface 163 x) = some (.tup [.agg [.str [], .str [], .bool false, .int .i64 0], .bool false]) := by kernel_rfl
theorem zi6 {x : AV} : cL Try.prog 143 (.iface 164 x) = some (.tup [.agg [.str [], .str [], .bool false, .int .i64 0], .bool false]) := by kernel_rfl
theorem asN143 : cL Try.prog 143 .nili = some (.tup [.agg [.str [], .str [], .bool false, .int .i64 0], .bool false]) := by kernel_rfl
theorem me0 : sS Try.prog 143 "bookend/shadow.entry" = some 127 := by kernel_rfl
attribute [push_cast] zhV zeO zlr zfR zi6 asN143 me0
theorem zeQ {a0 b0 : List UInt8} {a1 b1 : Bool} : zC Try.prog .eql 122 (.agg [.str a0, .bool a1]) (.agg [.str b0, .bool b1]) = some (.bool (cA.eqb (cA.mk a0 a1) (cA.mk b0 b1))) := by kernel_rfl
theorem zg0 {a0 b0 : List UInt8} {a1 b1 : Bool} : zC Try.prog .neq 122 (.agg [.str a0, .bool a1]) (.agg [.str b0, .bool b1]) = some (.bool (!cA.eqb (cA.mk a0 a1) (cA.mk b0 b1))) := by kernel_rfl
theorem eqTy57 {a0 b0 : Bool} {a1 b1 : List UInt8} {a2 b2 : Bool} : zC Try.prog .eql 57 (.agg [.bool a0, .str a1, .bool a2]) (.agg [.bool b0, .str b1, .bool b2]) = some (.bool (fB.eqb (fB.mk a0 a1 a2) (fB.mk b0 b1 b2))) := by kernel_rfl
theorem neTy57 {a0 b0 : Bool} {a1 b1 : List UInt8} {a2 b2 : Bool} : zC Try.prog .neq 57 (.agg [.bool a0, .str a1, .bool a2]) (.agg [.bool b0, .str b1, .bool b2]) = some (.bool (!fB.eqb (fB.mk a0 a1 a2) (fB.mk b0 b1 b2))) := by kernel_rfl
theorem eqTy71 {a0 b0 : List UInt8} {a1 b1 : List UInt8} {a2 b2 : Bool} {a3 b3 : Int} : zC Try.prog .eql 71 (.agg [.str a0, .str a1, .bool a2, .int .i64 a3]) (.agg [.str b0, .str b1, .bool b2, .int .i64 b3]) = some (.bool (aA.eqb (aA.mk a0 a1 a2 a3) (aA.mk b0 b1 b2 b3))) := by kernel_rfl
theorem neTy71 {a0 b0 : List UInt8} {a1 b1 : List UInt8} {a2 b2 : Bool} {a3 b3 : Int} : zC Try.prog .neq 71 (.agg [.str a0, .str a1, .bool a2, .int .i64 a3]) (.agg [.str b0, .str b1, .bool b2, .int .i64 b3]) = some (.bool (!aA.eqb (aA.mk a0 a1 a2 a3) (aA.mk b0 b1 b2 b3))) := by kernel_rfl
theorem ze8 {n : Int} : nS Try.prog 5 3 (.int .u8 n) = some (.int .i64 (IntKind.i64.wrap n)) := by kernel_rfl
attribute [push_cast] zeQ zg0 eqTy57 neTy57 eqTy71 neTy71 ze8
attribute [push_cast] List.getElem?_map Option.map_some
theorem zii (k : IntKind) (l : List Int) : (l.map (dA k)).all AV.isP.isPs = true := sG (fun _ => rfl) l
theorem zou (k : IntKind) (l : List Int) : (l.map (dA k)).all AV.flatR.flatRs = true := cO (fun _ => rfl) l
theorem zkK (l : List (List UInt8)) : (l.map nL).all AV.isP.isPs = true := sG (fun _ => rfl) l
theorem zgK (l : List (List UInt8)) : (l.map nL).all AV.flatR.flatRs = true := cO (fun _ => rfl) l
theorem zl7 (l : List Bool) : (l.map mM).all AV.isP.isPs = true := sG (fun _ => rfl) l
theorem allPSl {α : Type} (z : Nat) (f : α → List AV) (l : List (List α)) : (l.map (sA z f)).all AV.isP.isPs = true := sG (fun _ => rfl) l
attribute [push_cast] zii zou zkK zgK zl7 allPSl
theorem rF {p : Prop} (h : p := by
  (repeat' (first | exact trivial | refine And.intro ?_ ?_ | exact AV.LeN.refl _ | exact AV.LeN.nils _ | exact AV.LeN.nilb rfl | refine AV.LeN.agg ?_ | refine AV.LeN.tup ?_ | exact AV.LeN.of_eq (by simp [mB, wA, dA, mM, nL, sA, List.map_set, aA.enc, eB.enc, tA.enc, yA.enc, cA.enc, cB.enc, gB.enc, fB.enc, vB.enc, bB.enc, oB.enc, eG.enc, fG.enc, dF.enc, jG.enc])))) : p := h
theorem rE {p : Prop} (h : p := by
  (repeat' (first | exact trivial | exact mV.refl _ | exact ⟨_, rfl, rfl⟩ | exact AV.LeN.refl _ | refine And.intro ?_ ?_ | exact rfl | exact sE.refl _ | exact (fun _ => rfl) | exact (fun h => h) | exact sE.of_eq (by simp [mB, wA, dA, mM, nL, sA, List.map_set, aA.enc, eB.enc, tA.enc, yA.enc, cA.enc, cB.enc, gB.enc, fB.enc, vB.enc, bB.enc, oB.enc, eG.enc, fG.enc, dF.enc, jG.enc]) | exact AV.LeN.nils _ | exact AV.LeN.nilb rfl | exact AV.LeN.of_eq (by simp [mB, wA, dA, mM, nL, sA, List.map_set, aA.enc, eB.enc, tA.enc, yA.enc, cA.enc, cB.enc, gB.enc, fB.enc, vB.enc, bB.enc, oB.enc, eG.enc, fG.enc, dF.enc, jG.enc])))) : p := h
theorem rN {p : Prop} (h : p := by
  (repeat' (first | exact trivial | refine And.intro ?_ ?_ | exact Nat.le_of_ble_eq_true rfl | decide))) : p := h
theorem rR {p : Prop} (h : p := by
  (repeat' (first | exact trivial | refine And.intro ?_ ?_ | exact AV.Le.refl _))) : p := h
theorem rH {p : Prop} (h : p := by
  (repeat' (first | exact AV.Le.refl _ | exact AV.Le.nils _ | refine AV.Le.agg ?_ | refine AV.Le.tup ?_ | exact trivial | exact rfl | omega | exact AV.Le.of_eq (by simp [mB, wA, dA, mM, nL, sA, List.map_set, aA.enc, eB.enc, tA.enc, yA.enc, cA.enc, cB.enc, gB.enc, fB.enc, vB.enc, bB.enc, oB.enc, eG.enc, fG.enc, dF.enc, jG.enc]) | refine And.intro ?_ ?_))) : p := h
theorem rG {p : Prop} (h : p := by
  simp (maxSteps := 1000000) only [↓reduceIte, reduceCtorEq, Nat.reduceEqDiff, Nat.reduceLT, Nat.reduceLeDiff, Nat.reduceAdd, Nat.reduceMul, Int.reduceToNat, push_cast, mC]
  (repeat' (first | exact AV.Le.refl _ | exact AV.Le.nils _ | refine AV.Le.agg ?_ | refine AV.Le.tup ?_ | exact trivial | exact rfl | omega | exact AV.Le.of_eq (by simp [mB, wA, dA, mM, nL, sA, List.map_set, aA.enc, eB.enc, tA.enc, yA.enc, cA.enc, cB.enc, gB.enc, fB.enc, vB.enc, bB.enc, oB.enc, eG.enc, fG.enc, dF.enc, jG.enc]) | refine And.intro ?_ ?_))) : p := h
theorem xE {P : Program} {nt : Nat} {K : Exit → St → Prop} {c : Code} {s : St} (s2 : St) (h : pA P nt c K s2) (hn : s.nx ≤ s2.nx := by exact Nat.le_of_ble_eq_true rfl) (hl : LeN [] s s2 := by exact ⟨rF, rE, rfl, rfl, trivial, trivial⟩) : pA P nt c K s := dC [] hn hl h
theorem xF {P : Program} {nt : Nat} {K : Exit → St → Prop} {ops : Array Oper} {l : List Nat} {s : St} (s2 : St) (h : kE P nt ops l K s2) (hn : s.nx ≤ s2.nx := by exact Nat.le_of_ble_eq_true rfl) (hl : LeN [] s s2 := by exact ⟨rF, rE, rfl, rfl, trivial, trivial⟩) : kE P nt ops l K s := uJ [] hn hl h
end Go.T
