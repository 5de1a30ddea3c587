/- A text of the proof. -/
import Derived.Test.YtnlggkiekcpahaaProg
import Derived.Test.YtnlggkiekcpahaaAAmZj
import Derived.Test.YtnlggkiekcpahaaAGp
namespace Go.T
open Go Go.AM Go.Proofs
def TApiEntry.enc (x : TApiEntry) : List AV := [.str x.Key, .str x.Val, .bool x.Dead, .int .i64 x.Seq]
theorem TApiEntry.eta (x : TApiEntry) : TApiEntry.mk x.Key x.Val x.Dead x.Seq = x := rfl
theorem TApiEntry.allP (l : List TApiEntry) : (l.map TApiEntry.enc).all AV.isP.isPs = true := pures_map (fun _ => rfl) l
theorem TApiEntry.allF (l : List TApiEntry) : (l.map TApiEntry.enc).all AV.flatR.flatRs = true := flats_map (fun _ => rfl) l
attribute [push_cast] TApiEntry.enc TApiEntry.eta TApiEntry.allP TApiEntry.allF
def TApiRun.enc (x : TApiRun) : List AV := [.int .i64 x.Id, .psl 4 (x.Entries.map TApiEntry.enc)]
theorem TApiRun.eta (x : TApiRun) : TApiRun.mk x.Id x.Entries = x := rfl
theorem TApiRun.allP (l : List TApiRun) : (l.map TApiRun.enc).all AV.isP.isPs = true := pures_map (fun _ => rfl) l
attribute [push_cast] TApiRun.enc TApiRun.eta TApiRun.allP
def TApiLvLevel.enc (x : TApiLvLevel) : List AV := [.psl 2 (x.Runs.map TApiRun.enc)]
theorem TApiLvLevel.eta (x : TApiLvLevel) : TApiLvLevel.mk x.Runs = x := rfl
theorem TApiLvLevel.allP (l : List TApiLvLevel) : (l.map TApiLvLevel.enc).all AV.isP.isPs = true := pures_map (fun _ => rfl) l
attribute [push_cast] TApiLvLevel.enc TApiLvLevel.eta TApiLvLevel.allP
def TApiLvLevels.enc (x : TApiLvLevels) : List AV := [.int .i64 x.B, .psl 1 (x.Levels.map TApiLvLevel.enc)]
theorem TApiLvLevels.eta (x : TApiLvLevels) : TApiLvLevels.mk x.B x.Levels = x := rfl
theorem TApiLvLevels.allP (l : List TApiLvLevels) : (l.map TApiLvLevels.enc).all AV.isP.isPs = true := pures_map (fun _ => rfl) l
attribute [push_cast] TApiLvLevels.enc TApiLvLevels.eta TApiLvLevels.allP
def TApiLsKey.enc (x : TApiLsKey) : List AV := [.str x.Key, .bool x.Done]
theorem TApiLsKey.eta (x : TApiLsKey) : TApiLsKey.mk x.Key x.Done = x := rfl
theorem TApiLsKey.allP (l : List TApiLsKey) : (l.map TApiLsKey.enc).all AV.isP.isPs = true := pures_map (fun _ => rfl) l
theorem TApiLsKey.allF (l : List TApiLsKey) : (l.map TApiLsKey.enc).all AV.flatR.flatRs = true := flats_map (fun _ => rfl) l
attribute [push_cast] TApiLsKey.enc TApiLsKey.eta TApiLsKey.allP TApiLsKey.allF
def TApiLsTree.enc (x : TApiLsTree) : List AV := [.psl 2 (x.Keys.map TApiLsKey.enc), .psl 1 (x.Lose.map (encInt .i64)), .int .i64 x.Win]
theorem TApiLsTree.eta (x : TApiLsTree) : TApiLsTree.mk x.Keys x.Lose x.Win = x := rfl
theorem TApiLsTree.allP (l : List TApiLsTree) : (l.map TApiLsTree.enc).all AV.isP.isPs = true := pures_map (fun _ => rfl) l
attribute [push_cast] TApiLsTree.enc TApiLsTree.eta TApiLsTree.allP
def TApiMgState.enc (x : TApiMgState) : List AV := [.psl 1 (x.Runs.map (encSl 4 TApiEntry.enc)), .psl 1 (x.At.map (encInt .i64)), .psl 2 (x.Tree.Keys.map TApiLsKey.enc), .psl 1 (x.Tree.Lose.map (encInt .i64)), .int .i64 x.Tree.Win]
theorem TApiMgState.eta (x : TApiMgState) : TApiMgState.mk x.Runs x.At x.Tree = x := rfl
theorem TApiMgState.allP (l : List TApiMgState) : (l.map TApiMgState.enc).all AV.isP.isPs = true := pures_map (fun _ => rfl) l
attribute [push_cast] TApiMgState.enc TApiMgState.eta TApiMgState.allP
def TApiShState.enc (x : TApiShState) : List AV := [.bool x.Some, .str x.Last, .bool x.Bottom]
theorem TApiShState.eta (x : TApiShState) : TApiShState.mk x.Some x.Last x.Bottom = x := rfl
theorem TApiShState.allP (l : List TApiShState) : (l.map TApiShState.enc).all AV.isP.isPs = true := pures_map (fun _ => rfl) l
theorem TApiShState.allF (l : List TApiShState) : (l.map TApiShState.enc).all AV.flatR.flatRs = true := flats_map (fun _ => rfl) l
attribute [push_cast] TApiShState.enc TApiShState.eta TApiShState.allP TApiShState.allF
def TApiSlState.enc (x : TApiSlState) : List AV := [.psl 1 (x.Merge.Runs.map (encSl 4 TApiEntry.enc)), .psl 1 (x.Merge.At.map (encInt .i64)), .psl 2 (x.Merge.Tree.Keys.map TApiLsKey.enc), .psl 1 (x.Merge.Tree.Lose.map (encInt .i64)), .int .i64 x.Merge.Tree.Win, .bool x.Shadow.Some, .str x.Shadow.Last, .bool x.Shadow.Bottom, .psl 4 (x.Out.map TApiEntry.enc), .int .i64 x.Steps]
theorem TApiSlState.eta (x : TApiSlState) : TApiSlState.mk x.Merge x.Shadow x.Out x.Steps = x := rfl
theorem TApiSlState.allP (l : List TApiSlState) : (l.map TApiSlState.enc).all AV.isP.isPs = true := pures_map (fun _ => rfl) l
attribute [push_cast] TApiSlState.enc TApiSlState.eta TApiSlState.allP
def TApiJbJob.enc (x : TApiJbJob) : List AV := [.int .i64 x.Level, .psl 1 (x.Work.Merge.Runs.map (encSl 4 TApiEntry.enc)), .psl 1 (x.Work.Merge.At.map (encInt .i64)), .psl 2 (x.Work.Merge.Tree.Keys.map TApiLsKey.enc), .psl 1 (x.Work.Merge.Tree.Lose.map (encInt .i64)), .int .i64 x.Work.Merge.Tree.Win, .bool x.Work.Shadow.Some, .str x.Work.Shadow.Last, .bool x.Work.Shadow.Bottom, .psl 4 (x.Work.Out.map TApiEntry.enc), .int .i64 x.Work.Steps]
theorem TApiJbJob.eta (x : TApiJbJob) : TApiJbJob.mk x.Level x.Work = x := rfl
theorem TApiJbJob.allP (l : List TApiJbJob) : (l.map TApiJbJob.enc).all AV.isP.isPs = true := pures_map (fun _ => rfl) l
attribute [push_cast] TApiJbJob.enc TApiJbJob.eta TApiJbJob.allP
def TApiJbState.enc (x : TApiJbState) : List AV := [.int .i64 x.Levels.B, .psl 1 (x.Levels.Levels.map TApiLvLevel.enc), .psl 11 (x.Jobs.map TApiJbJob.enc), .int .i64 x.NextId]
theorem TApiJbState.eta (x : TApiJbState) : TApiJbState.mk x.Levels x.Jobs x.NextId = x := rfl
theorem TApiJbState.allP (l : List TApiJbState) : (l.map TApiJbState.enc).all AV.isP.isPs = true := pures_map (fun _ => rfl) l
attribute [push_cast] TApiJbState.enc TApiJbState.eta TApiJbState.allP
def TShadowShadowed.enc (x : TShadowShadowed) : List AV := [.str x.Key, .str x.Val, .bool x.Dead, .int .i64 x.Seq]
theorem TShadowShadowed.eta (x : TShadowShadowed) : TShadowShadowed.mk x.Key x.Val x.Dead x.Seq = x := rfl
theorem TShadowShadowed.allP (l : List TShadowShadowed) : (l.map TShadowShadowed.enc).all AV.isP.isPs = true := pures_map (fun _ => rfl) l
theorem TShadowShadowed.allF (l : List TShadowShadowed) : (l.map TShadowShadowed.enc).all AV.flatR.flatRs = true := flats_map (fun _ => rfl) l
attribute [push_cast] TShadowShadowed.enc TShadowShadowed.eta TShadowShadowed.allP TShadowShadowed.allF
def TShadowDropped.enc (x : TShadowDropped) : List AV := [.str x.Key, .str x.Val, .bool x.Dead, .int .i64 x.Seq]
theorem TShadowDropped.eta (x : TShadowDropped) : TShadowDropped.mk x.Key x.Val x.Dead x.Seq = x := rfl
theorem TShadowDropped.allP (l : List TShadowDropped) : (l.map TShadowDropped.enc).all AV.isP.isPs = true := pures_map (fun _ => rfl) l
theorem TShadowDropped.allF (l : List TShadowDropped) : (l.map TShadowDropped.enc).all AV.flatR.flatRs = true := flats_map (fun _ => rfl) l
attribute [push_cast] TShadowDropped.enc TShadowDropped.eta TShadowDropped.allP TShadowDropped.allF
def TShadowKept.enc (x : TShadowKept) : List AV := [.str x.Key, .str x.Val, .bool x.Dead, .int .i64 x.Seq]
theorem TShadowKept.eta (x : TShadowKept) : TShadowKept.mk x.Key x.Val x.Dead x.Seq = x := rfl
theorem TShadowKept.allP (l : List TShadowKept) : (l.map TShadowKept.enc).all AV.isP.isPs = true := pures_map (fun _ => rfl) l
theorem TShadowKept.allF (l : List TShadowKept) : (l.map TShadowKept.enc).all AV.flatR.flatRs = true := flats_map (fun _ => rfl) l
attribute [push_cast] TShadowKept.enc TShadowKept.eta TShadowKept.allP TShadowKept.allF
def T2Uint8.enc (x : T2Uint8) : List AV := [.int .u8 x.e0, .int .u8 x.e1]
theorem T2Uint8.eta (x : T2Uint8) : T2Uint8.mk x.e0 x.e1 = x := rfl
theorem T2Uint8.allP (l : List T2Uint8) : (l.map T2Uint8.enc).all AV.isP.isPs = true := pures_map (fun _ => rfl) l
theorem T2Uint8.allF (l : List T2Uint8) : (l.map T2Uint8.enc).all AV.flatR.flatRs = true := flats_map (fun _ => rfl) l
attribute [push_cast] T2Uint8.enc T2Uint8.eta T2Uint8.allP T2Uint8.allF
theorem tSize2 : tSize Try.prog 2 = some 1 := by kernel_rfl
theorem tBytes2 : tBytes Try.prog 2 = some 8 := by kernel_rfl
theorem tAgg2 : tAgg Try.prog 2 = some false := by kernel_rfl
theorem tUnd2 : Try.prog.underlying 2 = some (.int .i64) := by kernel_rfl
theorem tZero2 : tZero Try.prog 2 = some [.int .i64 0] := by kernel_rfl
theorem tSize3 : tSize Try.prog 3 = some 1 := by kernel_rfl
theorem tBytes3 : tBytes Try.prog 3 = some 8 := by kernel_rfl
theorem tAgg3 : tAgg Try.prog 3 = some false := by kernel_rfl
theorem tUnd3 : Try.prog.underlying 3 = some (.int .i64) := by kernel_rfl
theorem tZero3 : tZero Try.prog 3 = some [.int .i64 0] := by kernel_rfl
theorem tSize4 : tSize Try.prog 4 = some 1 := by kernel_rfl
theorem tBytes4 : tBytes Try.prog 4 = some 1 := by kernel_rfl
theorem tAgg4 : tAgg Try.prog 4 = some false := by kernel_rfl
theorem tUnd4 : Try.prog.underlying 4 = some .bool := by kernel_rfl
theorem eqTyB4 {a b : Bool} : aBin Try.prog .eql 4 (.bool a) (.bool b) = some (.bool (a == b)) := by kernel_rfl
theorem neTyB4 {a b : Bool} : aBin Try.prog .neq 4 (.bool a) (.bool b) = some (.bool (!(a == b))) := by kernel_rfl
theorem tZero4 : tZero Try.prog 4 = some [.bool false] := by kernel_rfl
theorem tSize5 : tSize Try.prog 5 = some 1 := by kernel_rfl
theorem tBytes5 : tBytes Try.prog 5 = some 1 := by kernel_rfl
theorem tAgg5 : tAgg Try.prog 5 = some false := by kernel_rfl
theorem tUnd5 : Try.prog.underlying 5 = some (.int .u8) := by kernel_rfl
theorem tZero5 : tZero Try.prog 5 = some [.int .u8 0] := by kernel_rfl
theorem tSize9 : tSize Try.prog 9 = some 1 := by kernel_rfl
theorem tBytes9 : tBytes Try.prog 9 = some 16 := by kernel_rfl
theorem tAgg9 : tAgg Try.prog 9 = some false := by kernel_rfl
theorem tStr9 : tStr Try.prog 9 = some () := by kernel_rfl
theorem tUnd9 : Try.prog.underlying 9 = some .string := by kernel_rfl
theorem tZero9 : tZero Try.prog 9 = some [.str []] := by kernel_rfl
theorem tSize22 : tSize Try.prog 22 = some 1 := by kernel_rfl
theorem tBytes22 : tBytes Try.prog 22 = some 24 := by kernel_rfl
theorem tAgg22 : tAgg Try.prog 22 = some false := by kernel_rfl
theorem tZero22 : tZero Try.prog 22 = some [.nils] := by kernel_rfl
theorem tSlice22 : tSlice Try.prog 22 = some 38 := by kernel_rfl
theorem tUnd22 : Try.prog.underlying 22 = some (.slice 38) := by kernel_rfl
theorem tSize24 : tSize Try.prog 24 = some 2 := by kernel_rfl
theorem tBytes24 : tBytes Try.prog 24 = some 32 := by kernel_rfl
theorem tAgg24 : tAgg Try.prog 24 = some true := by kernel_rfl
theorem tZero24 : tZero Try.prog 24 = some [.int .i64 0, .nils] := by kernel_rfl
theorem tPlaces24 : tPlaces Try.prog 24 = some [(0, 1), (1, 1)] := by kernel_rfl
theorem tField24_0 : tField Try.prog 24 0 = some (0, 3) := by kernel_rfl
theorem tField24_1 : tField Try.prog 24 1 = some (1, 22) := by kernel_rfl
theorem tSize25 : tSize Try.prog 25 = some 1 := by kernel_rfl
theorem tBytes25 : tBytes Try.prog 25 = some 24 := by kernel_rfl
theorem tAgg25 : tAgg Try.prog 25 = some false := by kernel_rfl
theorem tZero25 : tZero Try.prog 25 = some [.nils] := by kernel_rfl
theorem tSlice25 : tSlice Try.prog 25 = some 5 := by kernel_rfl
theorem tUnd25 : Try.prog.underlying 25 = some (.slice 5) := by kernel_rfl
theorem tSize28 : tSize Try.prog 28 = some 1 := by kernel_rfl
theorem tBytes28 : tBytes Try.prog 28 = some 24 := by kernel_rfl
theorem tAgg28 : tAgg Try.prog 28 = some false := by kernel_rfl
theorem tZero28 : tZero Try.prog 28 = some [.nils] := by kernel_rfl
theorem tSlice28 : tSlice Try.prog 28 = some 61 := by kernel_rfl
theorem tUnd28 : Try.prog.underlying 28 = some (.slice 61) := by kernel_rfl
theorem tSize30 : tSize Try.prog 30 = some 4 := by kernel_rfl
theorem tBytes30 : tBytes Try.prog 30 = some 64 := by kernel_rfl
theorem tAgg30 : tAgg Try.prog 30 = some true := by kernel_rfl
theorem tZero30 : tZero Try.prog 30 = some [.int .i64 0, .nils, .nils, .int .i64 0] := by kernel_rfl
theorem tPlaces30 : tPlaces Try.prog 30 = some [(0, 2), (2, 1), (3, 1)] := by kernel_rfl
theorem tField30_0 : tField Try.prog 30 0 = some (0, 24) := by kernel_rfl
theorem tField30_1 : tField Try.prog 30 1 = some (2, 28) := by kernel_rfl
theorem tField30_2 : tField Try.prog 30 2 = some (3, 3) := by kernel_rfl
theorem tSize31 : tSize Try.prog 31 = some 1 := by kernel_rfl
theorem tBytes31 : tBytes Try.prog 31 = some 8 := by kernel_rfl
theorem tAgg31 : tAgg Try.prog 31 = some false := by kernel_rfl
theorem tUnd31 : Try.prog.underlying 31 = some (.int .i64) := by kernel_rfl
theorem tZero31 : tZero Try.prog 31 = some [.int .i64 0] := by kernel_rfl
theorem tSize36 : tSize Try.prog 36 = some 1 := by kernel_rfl
theorem tBytes36 : tBytes Try.prog 36 = some 24 := by kernel_rfl
theorem tAgg36 : tAgg Try.prog 36 = some false := by kernel_rfl
theorem tZero36 : tZero Try.prog 36 = some [.nils] := by kernel_rfl
theorem tSlice36 : tSlice Try.prog 36 = some 44 := by kernel_rfl
theorem tUnd36 : Try.prog.underlying 36 = some (.slice 44) := by kernel_rfl
theorem tSize38 : tSize Try.prog 38 = some 1 := by kernel_rfl
theorem tBytes38 : tBytes Try.prog 38 = some 24 := by kernel_rfl
theorem tAgg38 : tAgg Try.prog 38 = some true := by kernel_rfl
theorem tZero38 : tZero Try.prog 38 = some [.nils] := by kernel_rfl
theorem tPlaces38 : tPlaces Try.prog 38 = some [(0, 1)] := by kernel_rfl
theorem tField38_0 : tField Try.prog 38 0 = some (0, 36) := by kernel_rfl
theorem tSize39 : tSize Try.prog 39 = some 1 := by kernel_rfl
theorem tBytes39 : tBytes Try.prog 39 = some 24 := by kernel_rfl
theorem tAgg39 : tAgg Try.prog 39 = some false := by kernel_rfl
theorem tZero39 : tZero Try.prog 39 = some [.nils] := by kernel_rfl
theorem tSlice39 : tSlice Try.prog 39 = some 71 := by kernel_rfl
theorem tUnd39 : Try.prog.underlying 39 = some (.slice 71) := by kernel_rfl
theorem tSize40 : tSize Try.prog 40 = some 1 := by kernel_rfl
theorem tBytes40 : tBytes Try.prog 40 = some 24 := by kernel_rfl
theorem tAgg40 : tAgg Try.prog 40 = some false := by kernel_rfl
theorem tZero40 : tZero Try.prog 40 = some [.nils] := by kernel_rfl
theorem tSlice40 : tSlice Try.prog 40 = some 3 := by kernel_rfl
theorem tUnd40 : Try.prog.underlying 40 = some (.slice 3) := by kernel_rfl
theorem tSize44 : tSize Try.prog 44 = some 2 := by kernel_rfl
theorem tBytes44 : tBytes Try.prog 44 = some 32 := by kernel_rfl
theorem tAgg44 : tAgg Try.prog 44 = some true := by kernel_rfl
theorem tZero44 : tZero Try.prog 44 = some [.int .i64 0, .nils] := by kernel_rfl
theorem tPlaces44 : tPlaces Try.prog 44 = some [(0, 1), (1, 1)] := by kernel_rfl
theorem tField44_0 : tField Try.prog 44 0 = some (0, 3) := by kernel_rfl
theorem tField44_1 : tField Try.prog 44 1 = some (1, 39) := by kernel_rfl
theorem tSize45 : tSize Try.prog 45 = some 1 := by kernel_rfl
theorem tBytes45 : tBytes Try.prog 45 = some 24 := by kernel_rfl
theorem tAgg45 : tAgg Try.prog 45 = some false := by kernel_rfl
theorem tZero45 : tZero Try.prog 45 = some [.nils] := by kernel_rfl
theorem tSlice45 : tSlice Try.prog 45 = some 39 := by kernel_rfl
theorem tUnd45 : Try.prog.underlying 45 = some (.slice 39) := by kernel_rfl
theorem tSize51 : tSize Try.prog 51 = some 1 := by kernel_rfl
theorem tBytes51 : tBytes Try.prog 51 = some 24 := by kernel_rfl
theorem tAgg51 : tAgg Try.prog 51 = some false := by kernel_rfl
theorem tZero51 : tZero Try.prog 51 = some [.nils] := by kernel_rfl
theorem tSlice51 : tSlice Try.prog 51 = some 122 := by kernel_rfl
theorem tUnd51 : Try.prog.underlying 51 = some (.slice 122) := by kernel_rfl
theorem tSize53 : tSize Try.prog 53 = some 3 := by kernel_rfl
theorem tBytes53 : tBytes Try.prog 53 = some 56 := by kernel_rfl
theorem tAgg53 : tAgg Try.prog 53 = some true := by kernel_rfl
theorem tZero53 : tZero Try.prog 53 = some [.nils, .nils, .int .i64 0] := by kernel_rfl
theorem tPlaces53 : tPlaces Try.prog 53 = some [(0, 1), (1, 1), (2, 1)] := by kernel_rfl
theorem tField53_0 : tField Try.prog 53 0 = some (0, 51) := by kernel_rfl
theorem tField53_1 : tField Try.prog 53 1 = some (1, 40) := by kernel_rfl
theorem tField53_2 : tField Try.prog 53 2 = some (2, 3) := by kernel_rfl
theorem tSize55 : tSize Try.prog 55 = some 5 := by kernel_rfl
theorem tBytes55 : tBytes Try.prog 55 = some 104 := by kernel_rfl
theorem tAgg55 : tAgg Try.prog 55 = some true := by kernel_rfl
theorem tZero55 : tZero Try.prog 55 = some [.nils, .nils, .nils, .nils, .int .i64 0] := by kernel_rfl
theorem tPlaces55 : tPlaces Try.prog 55 = some [(0, 1), (1, 1), (2, 3)] := by kernel_rfl
theorem tField55_0 : tField Try.prog 55 0 = some (0, 45) := by kernel_rfl
theorem tField55_1 : tField Try.prog 55 1 = some (1, 40) := by kernel_rfl
theorem tField55_2 : tField Try.prog 55 2 = some (2, 53) := by kernel_rfl
theorem tSize57 : tSize Try.prog 57 = some 3 := by kernel_rfl
theorem tBytes57 : tBytes Try.prog 57 = some 32 := by kernel_rfl
theorem tAgg57 : tAgg Try.prog 57 = some true := by kernel_rfl
theorem tZero57 : tZero Try.prog 57 = some [.bool false, .str [], .bool false] := by kernel_rfl
theorem tPlaces57 : tPlaces Try.prog 57 = some [(0, 1), (1, 1), (2, 1)] := by kernel_rfl
theorem tField57_0 : tField Try.prog 57 0 = some (0, 4) := by kernel_rfl
theorem tField57_1 : tField Try.prog 57 1 = some (1, 9) := by kernel_rfl
theorem tField57_2 : tField Try.prog 57 2 = some (2, 4) := by kernel_rfl
theorem tSize59 : tSize Try.prog 59 = some 10 := by kernel_rfl
theorem tBytes59 : tBytes Try.prog 59 = some 168 := by kernel_rfl
theorem tAgg59 : tAgg Try.prog 59 = some true := by kernel_rfl
theorem tZero59 : tZero Try.prog 59 = some [.nils, .nils, .nils, .nils, .int .i64 0, .bool false, .str [], .bool false, .nils, .int .i64 0] := by kernel_rfl
theorem tPlaces59 : tPlaces Try.prog 59 = some [(0, 5), (5, 3), (8, 1), (9, 1)] := by kernel_rfl
theorem tField59_0 : tField Try.prog 59 0 = some (0, 55) := by kernel_rfl
theorem tField59_1 : tField Try.prog 59 1 = some (5, 57) := by kernel_rfl
theorem tField59_2 : tField Try.prog 59 2 = some (8, 39) := by kernel_rfl
theorem tField59_3 : tField Try.prog 59 3 = some (9, 2) := by kernel_rfl
theorem tSize61 : tSize Try.prog 61 = some 11 := by kernel_rfl
theorem tBytes61 : tBytes Try.prog 61 = some 176 := by kernel_rfl
theorem tAgg61 : tAgg Try.prog 61 = some true := by kernel_rfl
theorem tZero61 : tZero Try.prog 61 = some [.int .i64 0, .nils, .nils, .nils, .nils, .int .i64 0, .bool false, .str [], .bool false, .nils, .int .i64 0] := by kernel_rfl
theorem tPlaces61 : tPlaces Try.prog 61 = some [(0, 1), (1, 10)] := by kernel_rfl
theorem tField61_0 : tField Try.prog 61 0 = some (0, 3) := by kernel_rfl
theorem tField61_1 : tField Try.prog 61 1 = some (1, 59) := by kernel_rfl
theorem tSize63 : tSize Try.prog 63 = some 2 := by kernel_rfl
theorem tBytes63 : tBytes Try.prog 63 = some 2 := by kernel_rfl
theorem tAgg63 : tAgg Try.prog 63 = some true := by kernel_rfl
theorem tZero63 : tZero Try.prog 63 = some [.int .u8 0, .int .u8 0] := by kernel_rfl
theorem tArr63 : tArr Try.prog 63 = some (2, 5) := by kernel_rfl
theorem tSize71 : tSize Try.prog 71 = some 4 := by kernel_rfl
theorem tBytes71 : tBytes Try.prog 71 = some 48 := by kernel_rfl
theorem tAgg71 : tAgg Try.prog 71 = some true := by kernel_rfl
theorem tZero71 : tZero Try.prog 71 = some [.str [], .str [], .bool false, .int .i64 0] := by kernel_rfl
theorem tPlaces71 : tPlaces Try.prog 71 = some [(0, 1), (1, 1), (2, 1), (3, 1)] := by kernel_rfl
theorem tField71_0 : tField Try.prog 71 0 = some (0, 9) := by kernel_rfl
theorem tField71_1 : tField Try.prog 71 1 = some (1, 9) := by kernel_rfl
theorem tField71_2 : tField Try.prog 71 2 = some (2, 4) := by kernel_rfl
theorem tField71_3 : tField Try.prog 71 3 = some (3, 2) := by kernel_rfl
theorem tSize107 : tSize Try.prog 107 = some 10 := by kernel_rfl
theorem tBytes107 : tBytes Try.prog 107 = some 168 := by kernel_rfl
theorem tAgg107 : tAgg Try.prog 107 = some true := by kernel_rfl
theorem tZero107 : tZero Try.prog 107 = some [.nils, .nils, .nils, .nils, .int .i64 0, .bool false, .str [], .bool false, .nils, .int .i64 0] := by kernel_rfl
theorem tPlaces107 : tPlaces Try.prog 107 = some [(0, 10)] := by kernel_rfl
theorem tField107_0 : tField Try.prog 107 0 = some (0, 59) := by kernel_rfl
theorem tSize122 : tSize Try.prog 122 = some 2 := by kernel_rfl
theorem tBytes122 : tBytes Try.prog 122 = some 24 := by kernel_rfl
theorem tAgg122 : tAgg Try.prog 122 = some true := by kernel_rfl
theorem tZero122 : tZero Try.prog 122 = some [.str [], .bool false] := by kernel_rfl
theorem tPlaces122 : tPlaces Try.prog 122 = some [(0, 1), (1, 1)] := by kernel_rfl
theorem tField122_0 : tField Try.prog 122 0 = some (0, 9) := by kernel_rfl
theorem tField122_1 : tField Try.prog 122 1 = some (1, 4) := by kernel_rfl
theorem tSize134 : tSize Try.prog 134 = some 1 := by kernel_rfl
theorem tBytes134 : tBytes Try.prog 134 = some 8 := by kernel_rfl
theorem tAgg134 : tAgg Try.prog 134 = some false := by kernel_rfl
theorem tZero134 : tZero Try.prog 134 = some [.nilp] := by kernel_rfl
theorem tSize136 : tSize Try.prog 136 = some 5 := by kernel_rfl
theorem tBytes136 : tBytes Try.prog 136 = some 104 := by kernel_rfl
theorem tAgg136 : tAgg Try.prog 136 = some true := by kernel_rfl
theorem tZero136 : tZero Try.prog 136 = some [.nils, .nils, .nils, .nils, .int .i64 0] := by kernel_rfl
theorem tPlaces136 : tPlaces Try.prog 136 = some [(0, 5)] := by kernel_rfl
theorem tField136_0 : tField Try.prog 136 0 = some (0, 55) := by kernel_rfl
theorem tSize143 : tSize Try.prog 143 = some 4 := by kernel_rfl
theorem tBytes143 : tBytes Try.prog 143 = some 48 := by kernel_rfl
theorem tAgg143 : tAgg Try.prog 143 = some true := by kernel_rfl
theorem tZero143 : tZero Try.prog 143 = some [.str [], .str [], .bool false, .int .i64 0] := by kernel_rfl
theorem tPlaces143 : tPlaces Try.prog 143 = some [(0, 1), (1, 1), (2, 1), (3, 1)] := by kernel_rfl
theorem tField143_0 : tField Try.prog 143 0 = some (0, 9) := by kernel_rfl
theorem tField143_1 : tField Try.prog 143 1 = some (1, 9) := by kernel_rfl
theorem tField143_2 : tField Try.prog 143 2 = some (2, 4) := by kernel_rfl
theorem tField143_3 : tField Try.prog 143 3 = some (3, 2) := by kernel_rfl
attribute [push_cast] tSize2 tBytes2 tAgg2 tUnd2 tZero2 tSize3 tBytes3 tAgg3 tUnd3 tZero3 tSize4 tBytes4
attribute [push_cast] tAgg4 tUnd4 eqTyB4 neTyB4 tZero4 tSize5 tBytes5 tAgg5 tUnd5 tZero5 tSize9 tBytes9
attribute [push_cast] tAgg9 tStr9 tUnd9 tZero9 tSize22 tBytes22 tAgg22 tZero22 tSlice22 tUnd22 tSize24 tBytes24
attribute [push_cast] tAgg24 tZero24 tPlaces24 tField24_0 tField24_1 tSize25 tBytes25 tAgg25 tZero25 tSlice25 tUnd25 tSize28
attribute [push_cast] tBytes28 tAgg28 tZero28 tSlice28 tUnd28 tSize30 tBytes30 tAgg30 tZero30 tPlaces30 tField30_0 tField30_1
attribute [push_cast] tField30_2 tSize31 tBytes31 tAgg31 tUnd31 tZero31 tSize36 tBytes36 tAgg36 tZero36 tSlice36 tUnd36
attribute [push_cast] tSize38 tBytes38 tAgg38 tZero38 tPlaces38 tField38_0 tSize39 tBytes39 tAgg39 tZero39 tSlice39 tUnd39
attribute [push_cast] tSize40 tBytes40 tAgg40 tZero40 tSlice40 tUnd40 tSize44 tBytes44 tAgg44 tZero44 tPlaces44 tField44_0
attribute [push_cast] tField44_1 tSize45 tBytes45 tAgg45 tZero45 tSlice45 tUnd45 tSize51 tBytes51 tAgg51 tZero51 tSlice51
attribute [push_cast] tUnd51 tSize53 tBytes53 tAgg53 tZero53 tPlaces53 tField53_0 tField53_1 tField53_2 tSize55 tBytes55 tAgg55
attribute [push_cast] tZero55 tPlaces55 tField55_0 tField55_1 tField55_2 tSize57 tBytes57 tAgg57 tZero57 tPlaces57 tField57_0 tField57_1
attribute [push_cast] tField57_2 tSize59 tBytes59 tAgg59 tZero59 tPlaces59 tField59_0 tField59_1 tField59_2 tField59_3 tSize61 tBytes61
attribute [push_cast] tAgg61 tZero61 tPlaces61 tField61_0 tField61_1 tSize63 tBytes63 tAgg63 tZero63 tArr63 tSize71 tBytes71
attribute [push_cast] tAgg71 tZero71 tPlaces71 tField71_0 tField71_1 tField71_2 tField71_3 tSize107 tBytes107 tAgg107 tZero107 tPlaces107
attribute [push_cast] tField107_0 tSize122 tBytes122 tAgg122 tZero122 tPlaces122 tField122_0 tField122_1 tSize134 tBytes134 tAgg134 tZero134
attribute [push_cast] tSize136 tBytes136 tAgg136 tZero136 tPlaces136 tField136_0 tSize143 tBytes143 tAgg143 tZero143 tPlaces143 tField143_0
attribute [push_cast] tField143_1 tField143_2 tField143_3
theorem tMap96 : Try.prog.underlying 96 = some (.map 3 4) := by kernel_rfl
theorem tKey3 : KeyOk Try.prog 3 (fun n : Int => AV.int .i64 n) := keyOk_int (by kernel_rfl)
theorem tZeroV4 : tZeroV Try.prog 4 = some (.bool false) := by kernel_rfl
theorem tConc143 : tConc Try.prog 143 = true := by kernel_rfl
theorem tConc163 : tConc Try.prog 163 = true := by kernel_rfl
theorem tConc164 : tConc Try.prog 164 = true := by kernel_rfl
theorem as163_143 {x : AV} : assertO Try.prog 143 (.iface 163 x) = some (.tup [.agg [.str [], .str [], .bool false, .int .i64 0], .bool false]) := by kernel_rfl
theorem as164_143 {x : AV} : assertO Try.prog 143 (.iface 164 x) = some (.tup [.agg [.str [], .str [], .bool false, .int .i64 0], .bool false]) := by kernel_rfl
theorem asN143 : assertO Try.prog 143 .nili = some (.tup [.agg [.str [], .str [], .bool false, .int .i64 0], .bool false]) := by kernel_rfl
theorem me0 : aMethod Try.prog 143 "bookend/shadow.entry" = some 127 := by kernel_rfl
attribute [push_cast] tConc143 tConc163 tConc164 as163_143 as164_143 asN143 me0
theorem eqTy122 {a0 b0 : List UInt8} {a1 b1 : Bool} : aBin Try.prog .eql 122 (.agg [.str a0, .bool a1]) (.agg [.str b0, .bool b1]) = some (.bool (TApiLsKey.eqb (TApiLsKey.mk a0 a1) (TApiLsKey.mk b0 b1))) := by kernel_rfl
theorem neTy122 {a0 b0 : List UInt8} {a1 b1 : Bool} : aBin Try.prog .neq 122 (.agg [.str a0, .bool a1]) (.agg [.str b0, .bool b1]) = some (.bool (!TApiLsKey.eqb (TApiLsKey.mk a0 a1) (TApiLsKey.mk b0 b1))) := by kernel_rfl
theorem eqTy57 {a0 b0 : Bool} {a1 b1 : List UInt8} {a2 b2 : Bool} : aBin Try.prog .eql 57 (.agg [.bool a0, .str a1, .bool a2]) (.agg [.bool b0, .str b1, .bool b2]) = some (.bool (TApiShState.eqb (TApiShState.mk a0 a1 a2) (TApiShState.mk b0 b1 b2))) := by kernel_rfl
theorem neTy57 {a0 b0 : Bool} {a1 b1 : List UInt8} {a2 b2 : Bool} : aBin Try.prog .neq 57 (.agg [.bool a0, .str a1, .bool a2]) (.agg [.bool b0, .str b1, .bool b2]) = some (.bool (!TApiShState.eqb (TApiShState.mk a0 a1 a2) (TApiShState.mk b0 b1 b2))) := by kernel_rfl
theorem eqTy71 {a0 b0 : List UInt8} {a1 b1 : List UInt8} {a2 b2 : Bool} {a3 b3 : Int} : aBin Try.prog .eql 71 (.agg [.str a0, .str a1, .bool a2, .int .i64 a3]) (.agg [.str b0, .str b1, .bool b2, .int .i64 b3]) = some (.bool (TApiEntry.eqb (TApiEntry.mk a0 a1 a2 a3) (TApiEntry.mk b0 b1 b2 b3))) := by kernel_rfl
theorem neTy71 {a0 b0 : List UInt8} {a1 b1 : List UInt8} {a2 b2 : Bool} {a3 b3 : Int} : aBin Try.prog .neq 71 (.agg [.str a0, .str a1, .bool a2, .int .i64 a3]) (.agg [.str b0, .str b1, .bool b2, .int .i64 b3]) = some (.bool (!TApiEntry.eqb (TApiEntry.mk a0 a1 a2 a3) (TApiEntry.mk b0 b1 b2 b3))) := by kernel_rfl
theorem convTy5_3 {n : Int} : aConv Try.prog 5 3 (.int .u8 n) = some (.int .i64 (IntKind.i64.wrap n)) := by kernel_rfl
attribute [push_cast] eqTy122 neTy122 eqTy57 neTy57 eqTy71 neTy71 convTy5_3
attribute [push_cast] List.getElem?_map Option.map_some
theorem allPInt (k : IntKind) (l : List Int) : (l.map (encInt k)).all AV.isP.isPs = true := pures_map (fun _ => rfl) l
theorem allFInt (k : IntKind) (l : List Int) : (l.map (encInt k)).all AV.flatR.flatRs = true := flats_map (fun _ => rfl) l
theorem allPStr (l : List (List UInt8)) : (l.map encStr).all AV.isP.isPs = true := pures_map (fun _ => rfl) l
theorem allFStr (l : List (List UInt8)) : (l.map encStr).all AV.flatR.flatRs = true := flats_map (fun _ => rfl) l
theorem allPBool (l : List Bool) : (l.map encBool).all AV.isP.isPs = true := pures_map (fun _ => rfl) l
theorem allPSl {α : Type} (z : Nat) (f : α → List AV) (l : List (List α)) : (l.map (encSl z f)).all AV.isP.isPs = true := pures_map (fun _ => rfl) l
attribute [push_cast] allPInt allFInt allPStr allFStr allPBool allPSl
theorem rF {p : Prop} (h : p := by
  (repeat' (first | exact trivial | refine And.intro ?_ ?_ | exact AV.LeN.refl _ | exact AV.LeN.nils _ | exact AV.LeN.nilb rfl | refine AV.LeN.agg ?_ | refine AV.LeN.tup ?_ | exact AV.LeN.of_eq (by simp [frGet, alg, encInt, encBool, encStr, encSl, List.map_set, TApiEntry.enc, TApiRun.enc, TApiLvLevel.enc, TApiLvLevels.enc, TApiLsKey.enc, TApiLsTree.enc, TApiMgState.enc, TApiShState.enc, TApiSlState.enc, TApiJbJob.enc, TApiJbState.enc, TShadowShadowed.enc, TShadowDropped.enc, TShadowKept.enc, T2Uint8.enc])))) : p := h
theorem rE {p : Prop} (h : p := by
  (repeat' (first | exact trivial | exact BLeN.refl _ | exact ⟨_, rfl, rfl⟩ | exact AV.LeN.refl _ | refine And.intro ?_ ?_ | exact rfl | exact EsLe.refl _ | exact (fun _ => rfl) | exact (fun h => h) | exact EsLe.of_eq (by simp [frGet, alg, encInt, encBool, encStr, encSl, List.map_set, TApiEntry.enc, TApiRun.enc, TApiLvLevel.enc, TApiLvLevels.enc, TApiLsKey.enc, TApiLsTree.enc, TApiMgState.enc, TApiShState.enc, TApiSlState.enc, TApiJbJob.enc, TApiJbState.enc, TShadowShadowed.enc, TShadowDropped.enc, TShadowKept.enc, T2Uint8.enc]) | exact AV.LeN.nils _ | exact AV.LeN.nilb rfl | exact AV.LeN.of_eq (by simp [frGet, alg, encInt, encBool, encStr, encSl, List.map_set, TApiEntry.enc, TApiRun.enc, TApiLvLevel.enc, TApiLvLevels.enc, TApiLsKey.enc, TApiLsTree.enc, TApiMgState.enc, TApiShState.enc, TApiSlState.enc, TApiJbJob.enc, TApiJbState.enc, TShadowShadowed.enc, TShadowDropped.enc, TShadowKept.enc, T2Uint8.enc])))) : p := h
theorem rN {p : Prop} (h : p := by
  (repeat' (first | exact trivial | refine And.intro ?_ ?_ | exact Nat.le_of_ble_eq_true rfl | decide))) : p := h
theorem rR {p : Prop} (h : p := by
  (repeat' (first | exact trivial | refine And.intro ?_ ?_ | exact AV.Le.refl _))) : p := h
theorem rH {p : Prop} (h : p := by
  (repeat' (first | exact AV.Le.refl _ | exact AV.Le.nils _ | refine AV.Le.agg ?_ | refine AV.Le.tup ?_ | exact trivial | exact rfl | omega | exact AV.Le.of_eq (by simp [frGet, alg, encInt, encBool, encStr, encSl, List.map_set, TApiEntry.enc, TApiRun.enc, TApiLvLevel.enc, TApiLvLevels.enc, TApiLsKey.enc, TApiLsTree.enc, TApiMgState.enc, TApiShState.enc, TApiSlState.enc, TApiJbJob.enc, TApiJbState.enc, TShadowShadowed.enc, TShadowDropped.enc, TShadowKept.enc, T2Uint8.enc]) | refine And.intro ?_ ?_))) : p := h
theorem rG {p : Prop} (h : p := by
  simp (maxSteps := 1000000) only [↓reduceIte, reduceCtorEq, Nat.reduceEqDiff, Nat.reduceLT, Nat.reduceLeDiff, Nat.reduceAdd, Nat.reduceMul, Int.reduceToNat, push_cast, Gives]
  (repeat' (first | exact AV.Le.refl _ | exact AV.Le.nils _ | refine AV.Le.agg ?_ | refine AV.Le.tup ?_ | exact trivial | exact rfl | omega | exact AV.Le.of_eq (by simp [frGet, alg, encInt, encBool, encStr, encSl, List.map_set, TApiEntry.enc, TApiRun.enc, TApiLvLevel.enc, TApiLvLevels.enc, TApiLsKey.enc, TApiLsTree.enc, TApiMgState.enc, TApiShState.enc, TApiSlState.enc, TApiJbJob.enc, TApiJbState.enc, TShadowShadowed.enc, TShadowDropped.enc, TShadowKept.enc, T2Uint8.enc]) | refine And.intro ?_ ?_))) : p := h
end Go.T
