/- A text of the proof. -/
import Derived.Test.YtnlggkiekcpahaaProg
import Derived.Test.YtnlggkiekcpahaaCAmZj
import Derived.Test.YtnlggkiekcpahaaCGp
namespace Go.T
open Go Go.AM Go.Proofs
def aA.enc (x : aA) : List AV := [.str x.Key, .str x.Val, .bool x.Dead, .int .i64 x.Seq]
theorem aA.eta (x : aA) : aA.mk x.Key x.Val x.Dead x.Seq = x := rfl
theorem aA.allP (l : List aA) : (l.map aA.enc).all AV.isP.isPs = true := iG (fun _ => rfl) l
theorem aA.allF (l : List aA) : (l.map aA.enc).all AV.flatR.flatRs = true := cO (fun _ => rfl) l
attribute [push_cast] aA.enc aA.eta aA.allP aA.allF
def eB.enc (x : eB) : List AV := [.int .i64 x.Id, .psl 4 (x.Entries.map aA.enc)]
theorem eB.eta (x : eB) : eB.mk x.Id x.Entries = x := rfl
theorem eB.allP (l : List eB) : (l.map eB.enc).all AV.isP.isPs = true := iG (fun _ => rfl) l
attribute [push_cast] eB.enc eB.eta eB.allP
def sA.enc (x : sA) : List AV := [.psl 2 (x.Runs.map eB.enc)]
theorem sA.eta (x : sA) : sA.mk x.Runs = x := rfl
theorem sA.allP (l : List sA) : (l.map sA.enc).all AV.isP.isPs = true := iG (fun _ => rfl) l
attribute [push_cast] sA.enc sA.eta sA.allP
def dB.enc (x : dB) : List AV := [.int .i64 x.B, .psl 1 (x.Levels.map sA.enc)]
theorem dB.eta (x : dB) : dB.mk x.B x.Levels = x := rfl
theorem dB.allP (l : List dB) : (l.map dB.enc).all AV.isP.isPs = true := iG (fun _ => rfl) l
attribute [push_cast] dB.enc dB.eta dB.allP
def cA.enc (x : cA) : List AV := [.str x.Key, .bool x.Done]
theorem cA.eta (x : cA) : cA.mk x.Key x.Done = x := rfl
theorem cA.allP (l : List cA) : (l.map cA.enc).all AV.isP.isPs = true := iG (fun _ => rfl) l
theorem cA.allF (l : List cA) : (l.map cA.enc).all AV.flatR.flatRs = true := cO (fun _ => rfl) l
attribute [push_cast] cA.enc cA.eta cA.allP cA.allF
def zA.enc (x : zA) : List AV := [.psl 2 (x.Keys.map cA.enc), .psl 1 (x.Lose.map (iA .i64)), .int .i64 x.Win]
theorem zA.eta (x : zA) : zA.mk x.Keys x.Lose x.Win = x := rfl
theorem zA.allP (l : List zA) : (l.map zA.enc).all AV.isP.isPs = true := iG (fun _ => rfl) l
attribute [push_cast] zA.enc zA.eta zA.allP
def gB.enc (x : gB) : List AV := [.psl 1 (x.Runs.map (wA 4 aA.enc)), .psl 1 (x.At.map (iA .i64)), .psl 2 (x.Tree.Keys.map cA.enc), .psl 1 (x.Tree.Lose.map (iA .i64)), .int .i64 x.Tree.Win]
theorem gB.eta (x : gB) : gB.mk x.Runs x.At x.Tree = x := rfl
theorem gB.allP (l : List gB) : (l.map gB.enc).all AV.isP.isPs = true := iG (fun _ => rfl) l
attribute [push_cast] gB.enc gB.eta gB.allP
def mB.enc (x : mB) : List AV := [.bool x.Some, .str x.Last, .bool x.Bottom]
theorem mB.eta (x : mB) : mB.mk x.Some x.Last x.Bottom = x := rfl
theorem mB.allP (l : List mB) : (l.map mB.enc).all AV.isP.isPs = true := iG (fun _ => rfl) l
theorem mB.allF (l : List mB) : (l.map mB.enc).all AV.flatR.flatRs = true := cO (fun _ => rfl) l
attribute [push_cast] mB.enc mB.eta mB.allP mB.allF
def pB.enc (x : pB) : List AV := [.psl 1 (x.Merge.Runs.map (wA 4 aA.enc)), .psl 1 (x.Merge.At.map (iA .i64)), .psl 2 (x.Merge.Tree.Keys.map cA.enc), .psl 1 (x.Merge.Tree.Lose.map (iA .i64)), .int .i64 x.Merge.Tree.Win, .bool x.Shadow.Some, .str x.Shadow.Last, .bool x.Shadow.Bottom, .psl 4 (x.Out.map aA.enc), .int .i64 x.Steps]
theorem pB.eta (x : pB) : pB.mk x.Merge x.Shadow x.Out x.Steps = x := rfl
theorem pB.allP (l : List pB) : (l.map pB.enc).all AV.isP.isPs = true := iG (fun _ => rfl) l
attribute [push_cast] pB.enc pB.eta pB.allP
def xA.enc (x : xA) : List AV := [.int .i64 x.Level, .psl 1 (x.Work.Merge.Runs.map (wA 4 aA.enc)), .psl 1 (x.Work.Merge.At.map (iA .i64)), .psl 2 (x.Work.Merge.Tree.Keys.map cA.enc), .psl 1 (x.Work.Merge.Tree.Lose.map (iA .i64)), .int .i64 x.Work.Merge.Tree.Win, .bool x.Work.Shadow.Some, .str x.Work.Shadow.Last, .bool x.Work.Shadow.Bottom, .psl 4 (x.Work.Out.map aA.enc), .int .i64 x.Work.Steps]
theorem xA.eta (x : xA) : xA.mk x.Level x.Work = x := rfl
theorem xA.allP (l : List xA) : (l.map xA.enc).all AV.isP.isPs = true := iG (fun _ => rfl) l
attribute [push_cast] xA.enc xA.eta xA.allP
def bB.enc (x : bB) : List AV := [.int .i64 x.Levels.B, .psl 1 (x.Levels.Levels.map sA.enc), .psl 11 (x.Jobs.map xA.enc), .int .i64 x.NextId]
theorem bB.eta (x : bB) : bB.mk x.Levels x.Jobs x.NextId = x := rfl
theorem bB.allP (l : List bB) : (l.map bB.enc).all AV.isP.isPs = true := iG (fun _ => rfl) l
attribute [push_cast] bB.enc bB.eta bB.allP
def eG.enc (x : eG) : List AV := [.str x.Key, .str x.Val, .bool x.Dead, .int .i64 x.Seq]
theorem eG.eta (x : eG) : eG.mk x.Key x.Val x.Dead x.Seq = x := rfl
theorem eG.allP (l : List eG) : (l.map eG.enc).all AV.isP.isPs = true := iG (fun _ => rfl) l
theorem eG.allF (l : List eG) : (l.map eG.enc).all AV.flatR.flatRs = true := cO (fun _ => rfl) l
attribute [push_cast] eG.enc eG.eta eG.allP eG.allF
def aG.enc (x : aG) : List AV := [.str x.Key, .str x.Val, .bool x.Dead, .int .i64 x.Seq]
theorem aG.eta (x : aG) : aG.mk x.Key x.Val x.Dead x.Seq = x := rfl
theorem aG.allP (l : List aG) : (l.map aG.enc).all AV.isP.isPs = true := iG (fun _ => rfl) l
theorem aG.allF (l : List aG) : (l.map aG.enc).all AV.flatR.flatRs = true := cO (fun _ => rfl) l
attribute [push_cast] aG.enc aG.eta aG.allP aG.allF
def vE.enc (x : vE) : List AV := [.str x.Key, .str x.Val, .bool x.Dead, .int .i64 x.Seq]
theorem vE.eta (x : vE) : vE.mk x.Key x.Val x.Dead x.Seq = x := rfl
theorem vE.allP (l : List vE) : (l.map vE.enc).all AV.isP.isPs = true := iG (fun _ => rfl) l
theorem vE.allF (l : List vE) : (l.map vE.enc).all AV.flatR.flatRs = true := cO (fun _ => rfl) l
attribute [push_cast] vE.enc vE.eta vE.allP vE.allF
def fE.enc (x : fE) : List AV := [.int .u8 x.e0, .int .u8 x.e1]
theorem fE.eta (x : fE) : fE.mk x.e0 x.e1 = x := rfl
theorem fE.allP (l : List fE) : (l.map fE.enc).all AV.isP.isPs = true := iG (fun _ => rfl) l
theorem fE.allF (l : List fE) : (l.map fE.enc).all AV.flatR.flatRs = true := cO (fun _ => rfl) l
attribute [push_cast] fE.enc fE.eta fE.allP fE.allF
theorem tSize2 : oB Try.prog 2 = some 1 := by kernel_rfl
theorem znS : qD Try.prog 2 = some 8 := by kernel_rfl
theorem tAgg2 : tD Try.prog 2 = some false := by kernel_rfl
theorem tUnd2 : Try.prog.underlying 2 = some (.int .i64) := by kernel_rfl
theorem tZero2 : tC Try.prog 2 = some [.int .i64 0] := by kernel_rfl
theorem tSize3 : oB Try.prog 3 = some 1 := by kernel_rfl
theorem zfR : qD Try.prog 3 = some 8 := by kernel_rfl
theorem tAgg3 : tD Try.prog 3 = some false := by kernel_rfl
theorem tUnd3 : Try.prog.underlying 3 = some (.int .i64) := by kernel_rfl
theorem tZero3 : tC Try.prog 3 = some [.int .i64 0] := by kernel_rfl
theorem tSize4 : oB Try.prog 4 = some 1 := by kernel_rfl
theorem zhI : qD Try.prog 4 = some 1 := by kernel_rfl
theorem tAgg4 : tD Try.prog 4 = some false := by kernel_rfl
theorem tUnd4 : Try.prog.underlying 4 = some .bool := by kernel_rfl
theorem eqTyB4 {a b : Bool} : aD Try.prog .eql 4 (.bool a) (.bool b) = some (.bool (a == b)) := by kernel_rfl
theorem neTyB4 {a b : Bool} : aD Try.prog .neq 4 (.bool a) (.bool b) = some (.bool (!(a == b))) := by kernel_rfl
theorem tZero4 : tC Try.prog 4 = some [.bool false] := by kernel_rfl
theorem tSize5 : oB Try.prog 5 = some 1 := by kernel_rfl
theorem zgO : qD Try.prog 5 = some 1 := by kernel_rfl
theorem tAgg5 : tD Try.prog 5 = some false := by kernel_rfl
theorem tUnd5 : Try.prog.underlying 5 = some (.int .u8) := by kernel_rfl
theorem tZero5 : tC Try.prog 5 = some [.int .u8 0] := by kernel_rfl
theorem tSize9 : oB Try.prog 9 = some 1 := by kernel_rfl
theorem zn5 : qD Try.prog 9 = some 16 := by kernel_rfl
theorem tAgg9 : tD Try.prog 9 = some false := by kernel_rfl
theorem tStr9 : tStr Try.prog 9 = some () := by kernel_rfl
theorem tUnd9 : Try.prog.underlying 9 = some .string := by kernel_rfl
theorem tZero9 : tC Try.prog 9 = some [.str []] := by kernel_rfl
theorem zi5 : oB Try.prog 22 = some 1 := by kernel_rfl
theorem zfy : qD Try.prog 22 = some 24 := by kernel_rfl
theorem tAgg22 : tD Try.prog 22 = some false := by kernel_rfl
theorem zhu : tC Try.prog 22 = some [.nils] := by kernel_rfl
theorem zlE : iD Try.prog 22 = some 38 := by kernel_rfl
theorem tUnd22 : Try.prog.underlying 22 = some (.slice 38) := by kernel_rfl
theorem zh0 : oB Try.prog 24 = some 2 := by kernel_rfl
theorem zgE : qD Try.prog 24 = some 32 := by kernel_rfl
theorem tAgg24 : tD Try.prog 24 = some true := by kernel_rfl
theorem ziN : tC Try.prog 24 = some [.int .i64 0, .nils] := by kernel_rfl
theorem zmQ : sG Try.prog 24 = some [(0, 1), (1, 1)] := by kernel_rfl
theorem zkU : nD Try.prog 24 0 = some (0, 3) := by kernel_rfl
theorem zgd : nD Try.prog 24 1 = some (1, 22) := by kernel_rfl
theorem zfe : oB Try.prog 25 = some 1 := by kernel_rfl
theorem zl5 : qD Try.prog 25 = some 24 := by kernel_rfl
theorem tAgg25 : tD Try.prog 25 = some false := by kernel_rfl
theorem zlU : tC Try.prog 25 = some [.nils] := by kernel_rfl
theorem zkw : iD Try.prog 25 = some 5 := by kernel_rfl
theorem tUnd25 : Try.prog.underlying 25 = some (.slice 5) := by kernel_rfl
theorem zoE : oB Try.prog 28 = some 1 := by kernel_rfl
theorem zj6 : qD Try.prog 28 = some 24 := by kernel_rfl
theorem tAgg28 : tD Try.prog 28 = some false := by kernel_rfl
theorem zlh : tC Try.prog 28 = some [.nils] := by kernel_rfl
theorem zlm : iD Try.prog 28 = some 61 := by kernel_rfl
theorem tUnd28 : Try.prog.underlying 28 = some (.slice 61) := by kernel_rfl
theorem ziO : oB Try.prog 30 = some 4 := by kernel_rfl
theorem zlw : qD Try.prog 30 = some 64 := by kernel_rfl
theorem tAgg30 : tD Try.prog 30 = some true := by kernel_rfl
theorem zki : tC Try.prog 30 = some [.int .i64 0, .nils, .nils, .int .i64 0] := by kernel_rfl
theorem zfH : sG Try.prog 30 = some [(0, 2), (2, 1), (3, 1)] := by kernel_rfl
theorem zjg : nD Try.prog 30 0 = some (0, 24) := by kernel_rfl
theorem zm1 : nD Try.prog 30 1 = some (2, 28) := by kernel_rfl
theorem ziY : nD Try.prog 30 2 = some (3, 3) := by kernel_rfl
theorem zl0 : oB Try.prog 31 = some 1 := by kernel_rfl
theorem ze4 : qD Try.prog 31 = some 8 := by kernel_rfl
theorem tAgg31 : tD Try.prog 31 = some false := by kernel_rfl
theorem tUnd31 : Try.prog.underlying 31 = some (.int .i64) := by kernel_rfl
theorem zk2 : tC Try.prog 31 = some [.int .i64 0] := by kernel_rfl
theorem zfw : oB Try.prog 36 = some 1 := by kernel_rfl
theorem zk5 : qD Try.prog 36 = some 24 := by kernel_rfl
theorem tAgg36 : tD Try.prog 36 = some false := by kernel_rfl
theorem zff : tC Try.prog 36 = some [.nils] := by kernel_rfl
theorem zgm : iD Try.prog 36 = some 44 := by kernel_rfl
theorem tUnd36 : Try.prog.underlying 36 = some (.slice 44) := by kernel_rfl
theorem zhC : oB Try.prog 38 = some 1 := by kernel_rfl
theorem zgy : qD Try.prog 38 = some 24 := by kernel_rfl
theorem tAgg38 : tD Try.prog 38 = some true := by kernel_rfl
theorem zmh : tC Try.prog 38 = some [.nils] := by kernel_rfl
theorem zjB : sG Try.prog 38 = some [(0, 1)] := by kernel_rfl
theorem zop : nD Try.prog 38 0 = some (0, 36) := by kernel_rfl
theorem ziu : oB Try.prog 39 = some 1 := by kernel_rfl
theorem zfg : qD Try.prog 39 = some 24 := by kernel_rfl
theorem tAgg39 : tD Try.prog 39 = some false := by kernel_rfl
theorem ziC : tC Try.prog 39 = some [.nils] := by kernel_rfl
theorem zmP : iD Try.prog 39 = some 71 := by kernel_rfl
theorem tUnd39 : Try.prog.underlying 39 = some (.slice 71) := by kernel_rfl
theorem ziV : oB Try.prog 40 = some 1 := by kernel_rfl
theorem zhR : qD Try.prog 40 = some 24 := by kernel_rfl
theorem tAgg40 : tD Try.prog 40 = some false := by kernel_rfl
theorem zjz : tC Try.prog 40 = some [.nils] := by kernel_rfl
theorem zjH : iD Try.prog 40 = some 3 := by kernel_rfl
theorem tUnd40 : Try.prog.underlying 40 = some (.slice 3) := by kernel_rfl
theorem zie : oB Try.prog 44 = some 2 := by kernel_rfl
theorem ziZ : qD Try.prog 44 = some 32 := by kernel_rfl
theorem tAgg44 : tD Try.prog 44 = some true := by kernel_rfl
theorem znc : tC Try.prog 44 = some [.int .i64 0, .nils] := by kernel_rfl
theorem zmp : sG Try.prog 44 = some [(0, 1), (1, 1)] := by kernel_rfl
theorem zjP : nD Try.prog 44 0 = some (0, 3) := by kernel_rfl
theorem ziR : nD Try.prog 44 1 = some (1, 39) := by kernel_rfl
theorem zgX : oB Try.prog 45 = some 1 := by kernel_rfl
theorem znm : qD Try.prog 45 = some 24 := by kernel_rfl
theorem tAgg45 : tD Try.prog 45 = some false := by kernel_rfl
theorem zlB : tC Try.prog 45 = some [.nils] := by kernel_rfl
theorem zmN : iD Try.prog 45 = some 39 := by kernel_rfl
theorem tUnd45 : Try.prog.underlying 45 = some (.slice 39) := by kernel_rfl
theorem zlP : oB Try.prog 51 = some 1 := by kernel_rfl
theorem zmr : qD Try.prog 51 = some 24 := by kernel_rfl
theorem tAgg51 : tD Try.prog 51 = some false := by kernel_rfl
theorem zia : tC Try.prog 51 = some [.nils] := by kernel_rfl
theorem zfP : iD Try.prog 51 = some 122 := by kernel_rfl
theorem tUnd51 : Try.prog.underlying 51 = some (.slice 122) := by kernel_rfl
theorem zjY : oB Try.prog 53 = some 3 := by kernel_rfl
theorem zmd : qD Try.prog 53 = some 56 := by kernel_rfl
theorem tAgg53 : tD Try.prog 53 = some true := by kernel_rfl
theorem zoH : tC Try.prog 53 = some [.nils, .nils, .int .i64 0] := by kernel_rfl
theorem zgV : sG Try.prog 53 = some [(0, 1), (1, 1), (2, 1)] := by kernel_rfl
theorem zfE : nD Try.prog 53 0 = some (0, 51) := by kernel_rfl
theorem zgs : nD Try.prog 53 1 = some (1, 40) := by kernel_rfl
theorem zhL : nD Try.prog 53 2 = some (2, 3) := by kernel_rfl
theorem zfI : oB Try.prog 55 = some 5 := by kernel_rfl
theorem zgH : qD Try.prog 55 = some 104 := by kernel_rfl
theorem tAgg55 : tD Try.prog 55 = some true := by kernel_rfl
theorem zmb : tC Try.prog 55 = some [.nils, .nils, .nils, .nils, .int .i64 0] := by kernel_rfl
theorem zoU : sG Try.prog 55 = some [(0, 1), (1, 1), (2, 3)] := by kernel_rfl
theorem zhl : nD Try.prog 55 0 = some (0, 45) := by kernel_rfl
theorem zlJ : nD Try.prog 55 1 = some (1, 40) := by kernel_rfl
theorem zlX : nD Try.prog 55 2 = some (2, 53) := by kernel_rfl
theorem zhe : oB Try.prog 57 = some 3 := by kernel_rfl
theorem znH : qD Try.prog 57 = some 32 := by kernel_rfl
theorem tAgg57 : tD Try.prog 57 = some true := by kernel_rfl
theorem ziE : tC Try.prog 57 = some [.bool false, .str [], .bool false] := by kernel_rfl
theorem zkv : sG Try.prog 57 = some [(0, 1), (1, 1), (2, 1)] := by kernel_rfl
theorem zf6 : nD Try.prog 57 0 = some (0, 4) := by kernel_rfl
theorem zgv : nD Try.prog 57 1 = some (1, 9) := by kernel_rfl
theorem zgM : nD Try.prog 57 2 = some (2, 4) := by kernel_rfl
theorem ziP : oB Try.prog 59 = some 10 := by kernel_rfl
theorem zjx : qD Try.prog 59 = some 168 := by kernel_rfl
theorem tAgg59 : tD Try.prog 59 = some true := by kernel_rfl
theorem zmJ : tC Try.prog 59 = some [.nils, .nils, .nils, .nils, .int .i64 0, .bool false, .str [], .bool false, .nils, .int .i64 0] := by kernel_rfl
theorem znf : sG Try.prog 59 = some [(0, 5), (5, 3), (8, 1), (9, 1)] := by kernel_rfl
theorem zog : nD Try.prog 59 0 = some (0, 55) := by kernel_rfl
theorem zju : nD Try.prog 59 1 = some (5, 57) := by kernel_rfl
theorem zoa : nD Try.prog 59 2 = some (8, 39) := by kernel_rfl
theorem zj7 : nD Try.prog 59 3 = some (9, 2) := by kernel_rfl
theorem zhE : oB Try.prog 61 = some 11 := by kernel_rfl
theorem zkB : qD Try.prog 61 = some 176 := by kernel_rfl
theorem tAgg61 : tD Try.prog 61 = some true := by kernel_rfl
theorem zmT : tC Try.prog 61 = some [.int .i64 0, .nils, .nils, .nils, .nils, .int .i64 0, .bool false, .str [], .bool false, .nils, .int .i64 0] := by kernel_rfl
theorem ziW : sG Try.prog 61 = some [(0, 1), (1, 10)] := by kernel_rfl
theorem zgR : nD Try.prog 61 0 = some (0, 3) := by kernel_rfl
theorem zjy : nD Try.prog 61 1 = some (1, 59) := by kernel_rfl
theorem ziz : oB Try.prog 63 = some 2 := by kernel_rfl
theorem zlp : qD Try.prog 63 = some 2 := by kernel_rfl
theorem tAgg63 : tD Try.prog 63 = some true := by kernel_rfl
theorem zf9 : tC Try.prog 63 = some [.int .u8 0, .int .u8 0] := by kernel_rfl
theorem tArr63 : eN Try.prog 63 = some (2, 5) := by kernel_rfl
theorem zfC : oB Try.prog 71 = some 4 := by kernel_rfl
theorem zok : qD Try.prog 71 = some 48 := by kernel_rfl
theorem tAgg71 : tD Try.prog 71 = some true := by kernel_rfl
theorem zkW : tC Try.prog 71 = some [.str [], .str [], .bool false, .int .i64 0] := by kernel_rfl
theorem zne : sG Try.prog 71 = some [(0, 1), (1, 1), (2, 1), (3, 1)] := by kernel_rfl
theorem zoP : nD Try.prog 71 0 = some (0, 9) := by kernel_rfl
theorem zin : nD Try.prog 71 1 = some (1, 9) := by kernel_rfl
theorem zgC : nD Try.prog 71 2 = some (2, 4) := by kernel_rfl
theorem znt : nD Try.prog 71 3 = some (3, 2) := by kernel_rfl
theorem zlv : oB Try.prog 107 = some 10 := by kernel_rfl
theorem zn7 : qD Try.prog 107 = some 168 := by kernel_rfl
theorem znY : tD Try.prog 107 = some true := by kernel_rfl
theorem zgr : tC Try.prog 107 = some [.nils, .nils, .nils, .nils, .int .i64 0, .bool false, .str [], .bool false, .nils, .int .i64 0] := by kernel_rfl
theorem zka : sG Try.prog 107 = some [(0, 10)] := by kernel_rfl
theorem zoN : nD Try.prog 107 0 = some (0, 59) := by kernel_rfl
theorem zjt : oB Try.prog 122 = some 2 := by kernel_rfl
theorem zfF : qD Try.prog 122 = some 24 := by kernel_rfl
theorem zlz : tD Try.prog 122 = some true := by kernel_rfl
theorem zhq : tC Try.prog 122 = some [.str [], .bool false] := by kernel_rfl
theorem zh3 : sG Try.prog 122 = some [(0, 1), (1, 1)] := by kernel_rfl
theorem zox : nD Try.prog 122 0 = some (0, 9) := by kernel_rfl
theorem ziq : nD Try.prog 122 1 = some (1, 4) := by kernel_rfl
theorem zlc : oB Try.prog 134 = some 1 := by kernel_rfl
theorem zmG : qD Try.prog 134 = some 8 := by kernel_rfl
theorem zhN : tD Try.prog 134 = some false := by kernel_rfl
theorem zjc : tC Try.prog 134 = some [.nilp] := by kernel_rfl
theorem zjO : oB Try.prog 136 = some 5 := by kernel_rfl
theorem znZ : qD Try.prog 136 = some 104 := by kernel_rfl
theorem zkm : tD Try.prog 136 = some true := by kernel_rfl
theorem zmy : tC Try.prog 136 = some [.nils, .nils, .nils, .nils, .int .i64 0] := by kernel_rfl
theorem zk8 : sG Try.prog 136 = some [(0, 5)] := by kernel_rfl
theorem zlr : nD Try.prog 136 0 = some (0, 55) := by kernel_rfl
theorem zk0 : oB Try.prog 143 = some 4 := by kernel_rfl
theorem ziF : qD Try.prog 143 = some 48 := by kernel_rfl
theorem zkz : tD Try.prog 143 = some true := by kernel_rfl
theorem zi2 : tC Try.prog 143 = some [.str [], .str [], .bool false, .int .i64 0] := by kernel_rfl
theorem zfo : sG Try.prog 143 = some [(0, 1), (1, 1), (2, 1), (3, 1)] := by kernel_rfl
theorem zmZ : nD Try.prog 143 0 = some (0, 9) := by kernel_rfl
theorem zh8 : nD Try.prog 143 1 = some (1, 9) := by kernel_rfl
theorem zfm : nD Try.prog 143 2 = some (2, 4) := by kernel_rfl
theorem zfk : nD Try.prog 143 3 = some (3, 2) := by kernel_rfl
attribute [push_cast] tSize2 znS tAgg2 tUnd2 tZero2 tSize3 zfR tAgg3 tUnd3 tZero3 tSize4 zhI
attribute [push_cast] tAgg4 tUnd4 eqTyB4 neTyB4 tZero4 tSize5 zgO tAgg5 tUnd5 tZero5 tSize9 zn5
attribute [push_cast] tAgg9 tStr9 tUnd9 tZero9 zi5 zfy tAgg22 zhu zlE tUnd22 zh0 zgE
attribute [push_cast] tAgg24 ziN zmQ zkU zgd zfe zl5 tAgg25 zlU zkw tUnd25 zoE
attribute [push_cast] zj6 tAgg28 zlh zlm tUnd28 ziO zlw tAgg30 zki zfH zjg zm1
attribute [push_cast] ziY zl0 ze4 tAgg31 tUnd31 zk2 zfw zk5 tAgg36 zff zgm tUnd36
attribute [push_cast] zhC zgy tAgg38 zmh zjB zop ziu zfg tAgg39 ziC zmP tUnd39
attribute [push_cast] ziV zhR tAgg40 zjz zjH tUnd40 zie ziZ tAgg44 znc zmp zjP
attribute [push_cast] ziR zgX znm tAgg45 zlB zmN tUnd45 zlP zmr tAgg51 zia zfP
attribute [push_cast] tUnd51 zjY zmd tAgg53 zoH zgV zfE zgs zhL zfI zgH tAgg55
attribute [push_cast] zmb zoU zhl zlJ zlX zhe znH tAgg57 ziE zkv zf6 zgv
attribute [push_cast] zgM ziP zjx tAgg59 zmJ znf zog zju zoa zj7 zhE zkB
attribute [push_cast] tAgg61 zmT ziW zgR zjy ziz zlp tAgg63 zf9 tArr63 zfC zok
attribute [push_cast] tAgg71 zkW zne zoP zin zgC znt zlv zn7 znY zgr zka
attribute [push_cast] zoN zjt zfF zlz zhq zh3 zox ziq zlc zmG zhN zjc
attribute [push_cast] zjO znZ zkm zmy zk8 zlr zk0 ziF zkz zi2 zfo zmZ
attribute [push_cast] zh8 zfm zfk
theorem cY : Try.prog.underlying 96 = some (.map 3 4) := by kernel_rfl
theorem xZ : aT Try.prog 3 (fun n : Int => AV.int .i64 n) := zjp (by kernel_rfl)
theorem zoA : vH Try.prog 4 = some (.bool false) := by kernel_rfl
theorem zmW : aP Try.prog 143 = true := by kernel_rfl
theorem zgA : aP Try.prog 163 = true := by kernel_rfl
theorem zoM : aP Try.prog 164 = true := by kernel_rfl
theorem ziG {x : AV} : wK Try.prog 143 (.iface 163 x) = some (.tup [.agg [.str [], .str [], .bool false, .int .i64 0], .bool false]) := by kernel_rfl
theorem zmt {x : AV} : wK Try.prog 143 (.iface 164 x) = some (.tup [.agg [.str [], .str [], .bool false, .int .i64 0], .bool false]) := by kernel_rfl
theorem asN143 : wK Try.prog 143 .nili = some (.tup [.agg [.str [], .str [], .bool false, .int .i64 0], .bool false]) := by kernel_rfl
theorem me0 : sS Try.prog 143 "bookend/shadow.entry" = some 127 := by kernel_rfl
attribute [push_cast] zmW zgA zoM ziG zmt asN143 me0
theorem zoD {a0 b0 : List UInt8} {a1 b1 : Bool} : aD Try.prog .eql 122 (.agg [.str a0, .bool a1]) (.agg [.str b0, .bool b1]) = some (.bool (cA.eqb (cA.mk a0 a1) (cA.mk b0 b1))) := by kernel_rfl
theorem ze6 {a0 b0 : List UInt8} {a1 b1 : Bool} : aD Try.prog .neq 122 (.agg [.str a0, .bool a1]) (.agg [.str b0, .bool b1]) = some (.bool (!cA.eqb (cA.mk a0 a1) (cA.mk b0 b1))) := by kernel_rfl
theorem eqTy57 {a0 b0 : Bool} {a1 b1 : List UInt8} {a2 b2 : Bool} : aD Try.prog .eql 57 (.agg [.bool a0, .str a1, .bool a2]) (.agg [.bool b0, .str b1, .bool b2]) = some (.bool (mB.eqb (mB.mk a0 a1 a2) (mB.mk b0 b1 b2))) := by kernel_rfl
theorem neTy57 {a0 b0 : Bool} {a1 b1 : List UInt8} {a2 b2 : Bool} : aD Try.prog .neq 57 (.agg [.bool a0, .str a1, .bool a2]) (.agg [.bool b0, .str b1, .bool b2]) = some (.bool (!mB.eqb (mB.mk a0 a1 a2) (mB.mk b0 b1 b2))) := by kernel_rfl
theorem eqTy71 {a0 b0 : List UInt8} {a1 b1 : List UInt8} {a2 b2 : Bool} {a3 b3 : Int} : aD Try.prog .eql 71 (.agg [.str a0, .str a1, .bool a2, .int .i64 a3]) (.agg [.str b0, .str b1, .bool b2, .int .i64 b3]) = some (.bool (aA.eqb (aA.mk a0 a1 a2 a3) (aA.mk b0 b1 b2 b3))) := by kernel_rfl
theorem neTy71 {a0 b0 : List UInt8} {a1 b1 : List UInt8} {a2 b2 : Bool} {a3 b3 : Int} : aD Try.prog .neq 71 (.agg [.str a0, .str a1, .bool a2, .int .i64 a3]) (.agg [.str b0, .str b1, .bool b2, .int .i64 b3]) = some (.bool (!aA.eqb (aA.mk a0 a1 a2 a3) (aA.mk b0 b1 b2 b3))) := by kernel_rfl
theorem zih {n : Int} : pU Try.prog 5 3 (.int .u8 n) = some (.int .i64 (IntKind.i64.wrap n)) := by kernel_rfl
attribute [push_cast] zoD ze6 eqTy57 neTy57 eqTy71 neTy71 zih
attribute [push_cast] List.getElem?_map Option.map_some
theorem zjD (k : IntKind) (l : List Int) : (l.map (iA k)).all AV.isP.isPs = true := iG (fun _ => rfl) l
theorem zh5 (k : IntKind) (l : List Int) : (l.map (iA k)).all AV.flatR.flatRs = true := cO (fun _ => rfl) l
theorem zlS (l : List (List UInt8)) : (l.map qK).all AV.isP.isPs = true := iG (fun _ => rfl) l
theorem zoX (l : List (List UInt8)) : (l.map qK).all AV.flatR.flatRs = true := cO (fun _ => rfl) l
theorem zgI (l : List Bool) : (l.map jM).all AV.isP.isPs = true := iG (fun _ => rfl) l
theorem allPSl {α : Type} (z : Nat) (f : α → List AV) (l : List (List α)) : (l.map (wA z f)).all AV.isP.isPs = true := iG (fun _ => rfl) l
attribute [push_cast] zjD zh5 zlS zoX zgI allPSl
theorem rF {p : Prop} (h : p := by
  (repeat' (first | exact trivial | refine And.intro ?_ ?_ | exact AV.LeN.refl _ | exact AV.LeN.nils _ | exact AV.LeN.nilb rfl | refine AV.LeN.agg ?_ | refine AV.LeN.tup ?_ | exact AV.LeN.of_eq (by simp [nB, uA, iA, jM, qK, wA, List.map_set, aA.enc, eB.enc, sA.enc, dB.enc, cA.enc, zA.enc, gB.enc, mB.enc, pB.enc, xA.enc, bB.enc, eG.enc, aG.enc, vE.enc, fE.enc])))) : p := h
theorem rE {p : Prop} (h : p := by
  (repeat' (first | exact trivial | exact nW.refl _ | exact ⟨_, rfl, rfl⟩ | exact AV.LeN.refl _ | refine And.intro ?_ ?_ | exact rfl | exact qE.refl _ | exact (fun _ => rfl) | exact (fun h => h) | exact qE.of_eq (by simp [nB, uA, iA, jM, qK, wA, List.map_set, aA.enc, eB.enc, sA.enc, dB.enc, cA.enc, zA.enc, gB.enc, mB.enc, pB.enc, xA.enc, bB.enc, eG.enc, aG.enc, vE.enc, fE.enc]) | exact AV.LeN.nils _ | exact AV.LeN.nilb rfl | exact AV.LeN.of_eq (by simp [nB, uA, iA, jM, qK, wA, List.map_set, aA.enc, eB.enc, sA.enc, dB.enc, cA.enc, zA.enc, gB.enc, mB.enc, pB.enc, xA.enc, bB.enc, eG.enc, aG.enc, vE.enc, fE.enc])))) : p := h
theorem rN {p : Prop} (h : p := by
  (repeat' (first | exact trivial | refine And.intro ?_ ?_ | exact Nat.le_of_ble_eq_true rfl | decide))) : p := h
theorem rR {p : Prop} (h : p := by
  (repeat' (first | exact trivial | refine And.intro ?_ ?_ | exact AV.Le.refl _))) : p := h
theorem rH {p : Prop} (h : p := by
  (repeat' (first | exact AV.Le.refl _ | exact AV.Le.nils _ | refine AV.Le.agg ?_ | refine AV.Le.tup ?_ | exact trivial | exact rfl | omega | exact AV.Le.of_eq (by simp [nB, uA, iA, jM, qK, wA, List.map_set, aA.enc, eB.enc, sA.enc, dB.enc, cA.enc, zA.enc, gB.enc, mB.enc, pB.enc, xA.enc, bB.enc, eG.enc, aG.enc, vE.enc, fE.enc]) | refine And.intro ?_ ?_))) : p := h
theorem rG {p : Prop} (h : p := by
  simp (maxSteps := 1000000) only [↓reduceIte, reduceCtorEq, Nat.reduceEqDiff, Nat.reduceLT, Nat.reduceLeDiff, Nat.reduceAdd, Nat.reduceMul, Int.reduceToNat, push_cast, lC]
  (repeat' (first | exact AV.Le.refl _ | exact AV.Le.nils _ | refine AV.Le.agg ?_ | refine AV.Le.tup ?_ | exact trivial | exact rfl | omega | exact AV.Le.of_eq (by simp [nB, uA, iA, jM, qK, wA, List.map_set, aA.enc, eB.enc, sA.enc, dB.enc, cA.enc, zA.enc, gB.enc, mB.enc, pB.enc, xA.enc, bB.enc, eG.enc, aG.enc, vE.enc, fE.enc]) | refine And.intro ?_ ?_))) : p := h
theorem xE {P : Program} {nt : Nat} {K : Exit → St → Prop} {c : Code} {s : St} (s2 : St) (h : pA P nt c K s2) (hn : s.nx ≤ s2.nx := by exact Nat.le_of_ble_eq_true rfl) (hl : LeN [] s s2 := by exact ⟨rF, rE, rfl, rfl, trivial, trivial⟩) : pA P nt c K s := zB [] hn hl h
theorem xF {P : Program} {nt : Nat} {K : Exit → St → Prop} {ops : Array Oper} {l : List Nat} {s : St} (s2 : St) (h : lE P nt ops l K s2) (hn : s.nx ≤ s2.nx := by exact Nat.le_of_ble_eq_true rfl) (hl : LeN [] s s2 := by exact ⟨rF, rE, rfl, rfl, trivial, trivial⟩) : lE P nt ops l K s := iJ [] hn hl h
end Go.T
