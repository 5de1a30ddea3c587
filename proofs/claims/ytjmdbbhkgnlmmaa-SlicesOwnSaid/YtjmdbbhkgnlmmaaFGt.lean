/- A text of the proof. -/
import Derived.Test.YtjmdbbhkgnlmmaaProg
import Derived.Test.YtjmdbbhkgnlmmaaFAmZd
import Derived.Test.YtjmdbbhkgnlmmaaFGp
namespace Go.T
open Go Go.AM Go.Proofs
def TApiEntry.enc (x : TApiEntry) : List AV := [.str x.Key, .str x.Val, .bool x.Dead, .int .i64 x.Seq]
theorem TApiEntry.eta (x : TApiEntry) : TApiEntry.mk x.Key x.Val x.Dead x.Seq = x := rfl
theorem TApiEntry.allP (l : List TApiEntry) : (l.map TApiEntry.enc).all AV.isP.isPs = true := pures_map (fun _ => rfl) l
theorem TApiEntry.allF (l : List TApiEntry) : (l.map TApiEntry.enc).all AV.flatR.flatRs = true := flats_map (fun _ => rfl) l
attribute [push_cast] TApiEntry.enc TApiEntry.eta TApiEntry.allP TApiEntry.allF
def TApiLsKey.enc (x : TApiLsKey) : List AV := [.str x.Key, .bool x.Done]
theorem TApiLsKey.eta (x : TApiLsKey) : TApiLsKey.mk x.Key x.Done = x := rfl
theorem TApiLsKey.allP (l : List TApiLsKey) : (l.map TApiLsKey.enc).all AV.isP.isPs = true := pures_map (fun _ => rfl) l
theorem TApiLsKey.allF (l : List TApiLsKey) : (l.map TApiLsKey.enc).all AV.flatR.flatRs = true := flats_map (fun _ => rfl) l
attribute [push_cast] TApiLsKey.enc TApiLsKey.eta TApiLsKey.allP TApiLsKey.allF
def TApiLsTree.enc (x : TApiLsTree) : List AV := [.psl 2 (x.Keys.map TApiLsKey.enc), .psl 1 (x.Lose.map (encInt .i64)), .int .i64 x.Win]
theorem TApiLsTree.eta (x : TApiLsTree) : TApiLsTree.mk x.Keys x.Lose x.Win = x := rfl
theorem TApiLsTree.allP (l : List TApiLsTree) : (l.map TApiLsTree.enc).all AV.isP.isPs = true := pures_map (fun _ => rfl) l
attribute [push_cast] TApiLsTree.enc TApiLsTree.eta TApiLsTree.allP
def TApiMgState.enc (x : TApiMgState) : List AV := [.psl 1 (x.Runs.map (encSl 4 TApiEntry.enc)), .psl 1 (x.At.map (encInt .i64)), .psl 2 (x.Tree.Keys.map TApiLsKey.enc), .psl 1 (x.Tree.Lose.map (encInt .i64)), .int .i64 x.Tree.Win]
theorem TApiMgState.eta (x : TApiMgState) : TApiMgState.mk x.Runs x.At x.Tree = x := rfl
theorem TApiMgState.allP (l : List TApiMgState) : (l.map TApiMgState.enc).all AV.isP.isPs = true := pures_map (fun _ => rfl) l
attribute [push_cast] TApiMgState.enc TApiMgState.eta TApiMgState.allP
def TApiShState.enc (x : TApiShState) : List AV := [.bool x.Some, .str x.Last, .bool x.Bottom]
theorem TApiShState.eta (x : TApiShState) : TApiShState.mk x.Some x.Last x.Bottom = x := rfl
theorem TApiShState.allP (l : List TApiShState) : (l.map TApiShState.enc).all AV.isP.isPs = true := pures_map (fun _ => rfl) l
theorem TApiShState.allF (l : List TApiShState) : (l.map TApiShState.enc).all AV.flatR.flatRs = true := flats_map (fun _ => rfl) l
attribute [push_cast] TApiShState.enc TApiShState.eta TApiShState.allP TApiShState.allF
def TApiSlState.enc (x : TApiSlState) : List AV := [.psl 1 (x.Merge.Runs.map (encSl 4 TApiEntry.enc)), .psl 1 (x.Merge.At.map (encInt .i64)), .psl 2 (x.Merge.Tree.Keys.map TApiLsKey.enc), .psl 1 (x.Merge.Tree.Lose.map (encInt .i64)), .int .i64 x.Merge.Tree.Win, .bool x.Shadow.Some, .str x.Shadow.Last, .bool x.Shadow.Bottom, .psl 4 (x.Out.map TApiEntry.enc), .int .i64 x.Steps]
theorem TApiSlState.eta (x : TApiSlState) : TApiSlState.mk x.Merge x.Shadow x.Out x.Steps = x := rfl
theorem TApiSlState.allP (l : List TApiSlState) : (l.map TApiSlState.enc).all AV.isP.isPs = true := pures_map (fun _ => rfl) l
attribute [push_cast] TApiSlState.enc TApiSlState.eta TApiSlState.allP
def TShadowShadowed.enc (x : TShadowShadowed) : List AV := [.str x.Key, .str x.Val, .bool x.Dead, .int .i64 x.Seq]
theorem TShadowShadowed.eta (x : TShadowShadowed) : TShadowShadowed.mk x.Key x.Val x.Dead x.Seq = x := rfl
theorem TShadowShadowed.allP (l : List TShadowShadowed) : (l.map TShadowShadowed.enc).all AV.isP.isPs = true := pures_map (fun _ => rfl) l
theorem TShadowShadowed.allF (l : List TShadowShadowed) : (l.map TShadowShadowed.enc).all AV.flatR.flatRs = true := flats_map (fun _ => rfl) l
attribute [push_cast] TShadowShadowed.enc TShadowShadowed.eta TShadowShadowed.allP TShadowShadowed.allF
def TShadowDropped.enc (x : TShadowDropped) : List AV := [.str x.Key, .str x.Val, .bool x.Dead, .int .i64 x.Seq]
theorem TShadowDropped.eta (x : TShadowDropped) : TShadowDropped.mk x.Key x.Val x.Dead x.Seq = x := rfl
theorem TShadowDropped.allP (l : List TShadowDropped) : (l.map TShadowDropped.enc).all AV.isP.isPs = true := pures_map (fun _ => rfl) l
theorem TShadowDropped.allF (l : List TShadowDropped) : (l.map TShadowDropped.enc).all AV.flatR.flatRs = true := flats_map (fun _ => rfl) l
attribute [push_cast] TShadowDropped.enc TShadowDropped.eta TShadowDropped.allP TShadowDropped.allF
def TShadowKept.enc (x : TShadowKept) : List AV := [.str x.Key, .str x.Val, .bool x.Dead, .int .i64 x.Seq]
theorem TShadowKept.eta (x : TShadowKept) : TShadowKept.mk x.Key x.Val x.Dead x.Seq = x := rfl
theorem TShadowKept.allP (l : List TShadowKept) : (l.map TShadowKept.enc).all AV.isP.isPs = true := pures_map (fun _ => rfl) l
theorem TShadowKept.allF (l : List TShadowKept) : (l.map TShadowKept.enc).all AV.flatR.flatRs = true := flats_map (fun _ => rfl) l
attribute [push_cast] TShadowKept.enc TShadowKept.eta TShadowKept.allP TShadowKept.allF
def T2Uint8.enc (x : T2Uint8) : List AV := [.int .u8 x.e0, .int .u8 x.e1]
theorem T2Uint8.eta (x : T2Uint8) : T2Uint8.mk x.e0 x.e1 = x := rfl
theorem T2Uint8.allP (l : List T2Uint8) : (l.map T2Uint8.enc).all AV.isP.isPs = true := pures_map (fun _ => rfl) l
theorem T2Uint8.allF (l : List T2Uint8) : (l.map T2Uint8.enc).all AV.flatR.flatRs = true := flats_map (fun _ => rfl) l
attribute [push_cast] T2Uint8.enc T2Uint8.eta T2Uint8.allP T2Uint8.allF
theorem tSize2 : tSize Try.prog 2 = some 1 := by kernel_rfl
theorem tBytes2 : tBytes Try.prog 2 = some 8 := by kernel_rfl
theorem tAgg2 : tAgg Try.prog 2 = some false := by kernel_rfl
theorem tUnd2 : Try.prog.underlying 2 = some (.int .i64) := by kernel_rfl
theorem tZero2 : tZero Try.prog 2 = some [.int .i64 0] := by kernel_rfl
theorem tSize3 : tSize Try.prog 3 = some 1 := by kernel_rfl
theorem tBytes3 : tBytes Try.prog 3 = some 8 := by kernel_rfl
theorem tAgg3 : tAgg Try.prog 3 = some false := by kernel_rfl
theorem tUnd3 : Try.prog.underlying 3 = some (.int .i64) := by kernel_rfl
theorem tZero3 : tZero Try.prog 3 = some [.int .i64 0] := by kernel_rfl
theorem tSize4 : tSize Try.prog 4 = some 1 := by kernel_rfl
theorem tBytes4 : tBytes Try.prog 4 = some 1 := by kernel_rfl
theorem tAgg4 : tAgg Try.prog 4 = some false := by kernel_rfl
theorem tUnd4 : Try.prog.underlying 4 = some .bool := by kernel_rfl
theorem eqTyB4 {a b : Bool} : aBin Try.prog .eql 4 (.bool a) (.bool b) = some (.bool (a == b)) := by kernel_rfl
theorem neTyB4 {a b : Bool} : aBin Try.prog .neq 4 (.bool a) (.bool b) = some (.bool (!(a == b))) := by kernel_rfl
theorem tZero4 : tZero Try.prog 4 = some [.bool false] := by kernel_rfl
theorem tSize5 : tSize Try.prog 5 = some 1 := by kernel_rfl
theorem tBytes5 : tBytes Try.prog 5 = some 1 := by kernel_rfl
theorem tAgg5 : tAgg Try.prog 5 = some false := by kernel_rfl
theorem tUnd5 : Try.prog.underlying 5 = some (.int .u8) := by kernel_rfl
theorem tZero5 : tZero Try.prog 5 = some [.int .u8 0] := by kernel_rfl
theorem tSize9 : tSize Try.prog 9 = some 1 := by kernel_rfl
theorem tBytes9 : tBytes Try.prog 9 = some 16 := by kernel_rfl
theorem tAgg9 : tAgg Try.prog 9 = some false := by kernel_rfl
theorem tUnd9 : Try.prog.underlying 9 = some .string := by kernel_rfl
theorem tZero9 : tZero Try.prog 9 = some [.str []] := by kernel_rfl
theorem tSize22 : tSize Try.prog 22 = some 1 := by kernel_rfl
theorem tBytes22 : tBytes Try.prog 22 = some 24 := by kernel_rfl
theorem tAgg22 : tAgg Try.prog 22 = some false := by kernel_rfl
theorem tZero22 : tZero Try.prog 22 = some [.nils] := by kernel_rfl
theorem tSlice22 : tSlice Try.prog 22 = some 33 := by kernel_rfl
theorem tUnd22 : Try.prog.underlying 22 = some (.slice 33) := by kernel_rfl
theorem tSize25 : tSize Try.prog 25 = some 1 := by kernel_rfl
theorem tBytes25 : tBytes Try.prog 25 = some 24 := by kernel_rfl
theorem tAgg25 : tAgg Try.prog 25 = some false := by kernel_rfl
theorem tZero25 : tZero Try.prog 25 = some [.nils] := by kernel_rfl
theorem tSlice25 : tSlice Try.prog 25 = some 3 := by kernel_rfl
theorem tUnd25 : Try.prog.underlying 25 = some (.slice 3) := by kernel_rfl
theorem tSize26 : tSize Try.prog 26 = some 1 := by kernel_rfl
theorem tBytes26 : tBytes Try.prog 26 = some 24 := by kernel_rfl
theorem tAgg26 : tAgg Try.prog 26 = some false := by kernel_rfl
theorem tZero26 : tZero Try.prog 26 = some [.nils] := by kernel_rfl
theorem tSlice26 : tSlice Try.prog 26 = some 71 := by kernel_rfl
theorem tUnd26 : Try.prog.underlying 26 = some (.slice 71) := by kernel_rfl
theorem tSize28 : tSize Try.prog 28 = some 3 := by kernel_rfl
theorem tBytes28 : tBytes Try.prog 28 = some 56 := by kernel_rfl
theorem tAgg28 : tAgg Try.prog 28 = some true := by kernel_rfl
theorem tZero28 : tZero Try.prog 28 = some [.nils, .nils, .int .i64 0] := by kernel_rfl
theorem tPlaces28 : tPlaces Try.prog 28 = some [(0, 1), (1, 1), (2, 1)] := by kernel_rfl
theorem tField28_0 : tField Try.prog 28 0 = some (0, 26) := by kernel_rfl
theorem tField28_1 : tField Try.prog 28 1 = some (1, 25) := by kernel_rfl
theorem tField28_2 : tField Try.prog 28 2 = some (2, 3) := by kernel_rfl
theorem tSize30 : tSize Try.prog 30 = some 5 := by kernel_rfl
theorem tBytes30 : tBytes Try.prog 30 = some 104 := by kernel_rfl
theorem tAgg30 : tAgg Try.prog 30 = some true := by kernel_rfl
theorem tZero30 : tZero Try.prog 30 = some [.nils, .nils, .nils, .nils, .int .i64 0] := by kernel_rfl
theorem tPlaces30 : tPlaces Try.prog 30 = some [(0, 1), (1, 1), (2, 3)] := by kernel_rfl
theorem tField30_0 : tField Try.prog 30 0 = some (0, 22) := by kernel_rfl
theorem tField30_1 : tField Try.prog 30 1 = some (1, 25) := by kernel_rfl
theorem tField30_2 : tField Try.prog 30 2 = some (2, 28) := by kernel_rfl
theorem tSize32 : tSize Try.prog 32 = some 3 := by kernel_rfl
theorem tBytes32 : tBytes Try.prog 32 = some 32 := by kernel_rfl
theorem tAgg32 : tAgg Try.prog 32 = some true := by kernel_rfl
theorem tZero32 : tZero Try.prog 32 = some [.bool false, .str [], .bool false] := by kernel_rfl
theorem tPlaces32 : tPlaces Try.prog 32 = some [(0, 1), (1, 1), (2, 1)] := by kernel_rfl
theorem tField32_0 : tField Try.prog 32 0 = some (0, 4) := by kernel_rfl
theorem tField32_1 : tField Try.prog 32 1 = some (1, 9) := by kernel_rfl
theorem tField32_2 : tField Try.prog 32 2 = some (2, 4) := by kernel_rfl
theorem tSize33 : tSize Try.prog 33 = some 1 := by kernel_rfl
theorem tBytes33 : tBytes Try.prog 33 = some 24 := by kernel_rfl
theorem tAgg33 : tAgg Try.prog 33 = some false := by kernel_rfl
theorem tZero33 : tZero Try.prog 33 = some [.nils] := by kernel_rfl
theorem tSlice33 : tSlice Try.prog 33 = some 61 := by kernel_rfl
theorem tUnd33 : Try.prog.underlying 33 = some (.slice 61) := by kernel_rfl
theorem tSize35 : tSize Try.prog 35 = some 10 := by kernel_rfl
theorem tBytes35 : tBytes Try.prog 35 = some 168 := by kernel_rfl
theorem tAgg35 : tAgg Try.prog 35 = some true := by kernel_rfl
theorem tZero35 : tZero Try.prog 35 = some [.nils, .nils, .nils, .nils, .int .i64 0, .bool false, .str [], .bool false, .nils, .int .i64 0] := by kernel_rfl
theorem tPlaces35 : tPlaces Try.prog 35 = some [(0, 5), (5, 3), (8, 1), (9, 1)] := by kernel_rfl
theorem tField35_0 : tField Try.prog 35 0 = some (0, 30) := by kernel_rfl
theorem tField35_1 : tField Try.prog 35 1 = some (5, 32) := by kernel_rfl
theorem tField35_2 : tField Try.prog 35 2 = some (8, 33) := by kernel_rfl
theorem tField35_3 : tField Try.prog 35 3 = some (9, 2) := by kernel_rfl
theorem tSize36 : tSize Try.prog 36 = some 1 := by kernel_rfl
theorem tBytes36 : tBytes Try.prog 36 = some 8 := by kernel_rfl
theorem tAgg36 : tAgg Try.prog 36 = some false := by kernel_rfl
theorem tUnd36 : Try.prog.underlying 36 = some (.int .i64) := by kernel_rfl
theorem tZero36 : tZero Try.prog 36 = some [.int .i64 0] := by kernel_rfl
theorem tSize52 : tSize Try.prog 52 = some 1 := by kernel_rfl
theorem tBytes52 : tBytes Try.prog 52 = some 24 := by kernel_rfl
theorem tAgg52 : tAgg Try.prog 52 = some false := by kernel_rfl
theorem tZero52 : tZero Try.prog 52 = some [.nils] := by kernel_rfl
theorem tSlice52 : tSlice Try.prog 52 = some 5 := by kernel_rfl
theorem tUnd52 : Try.prog.underlying 52 = some (.slice 5) := by kernel_rfl
theorem tSize54 : tSize Try.prog 54 = some 2 := by kernel_rfl
theorem tBytes54 : tBytes Try.prog 54 = some 2 := by kernel_rfl
theorem tAgg54 : tAgg Try.prog 54 = some true := by kernel_rfl
theorem tZero54 : tZero Try.prog 54 = some [.int .u8 0, .int .u8 0] := by kernel_rfl
theorem tArr54 : tArr Try.prog 54 = some (2, 5) := by kernel_rfl
theorem tSize61 : tSize Try.prog 61 = some 4 := by kernel_rfl
theorem tBytes61 : tBytes Try.prog 61 = some 48 := by kernel_rfl
theorem tAgg61 : tAgg Try.prog 61 = some true := by kernel_rfl
theorem tZero61 : tZero Try.prog 61 = some [.str [], .str [], .bool false, .int .i64 0] := by kernel_rfl
theorem tPlaces61 : tPlaces Try.prog 61 = some [(0, 1), (1, 1), (2, 1), (3, 1)] := by kernel_rfl
theorem tField61_0 : tField Try.prog 61 0 = some (0, 9) := by kernel_rfl
theorem tField61_1 : tField Try.prog 61 1 = some (1, 9) := by kernel_rfl
theorem tField61_2 : tField Try.prog 61 2 = some (2, 4) := by kernel_rfl
theorem tField61_3 : tField Try.prog 61 3 = some (3, 2) := by kernel_rfl
theorem tSize71 : tSize Try.prog 71 = some 2 := by kernel_rfl
theorem tBytes71 : tBytes Try.prog 71 = some 24 := by kernel_rfl
theorem tAgg71 : tAgg Try.prog 71 = some true := by kernel_rfl
theorem tZero71 : tZero Try.prog 71 = some [.str [], .bool false] := by kernel_rfl
theorem tPlaces71 : tPlaces Try.prog 71 = some [(0, 1), (1, 1)] := by kernel_rfl
theorem tField71_0 : tField Try.prog 71 0 = some (0, 9) := by kernel_rfl
theorem tField71_1 : tField Try.prog 71 1 = some (1, 4) := by kernel_rfl
theorem tSize73 : tSize Try.prog 73 = some 10 := by kernel_rfl
theorem tBytes73 : tBytes Try.prog 73 = some 168 := by kernel_rfl
theorem tAgg73 : tAgg Try.prog 73 = some true := by kernel_rfl
theorem tZero73 : tZero Try.prog 73 = some [.nils, .nils, .nils, .nils, .int .i64 0, .bool false, .str [], .bool false, .nils, .int .i64 0] := by kernel_rfl
theorem tPlaces73 : tPlaces Try.prog 73 = some [(0, 10)] := by kernel_rfl
theorem tField73_0 : tField Try.prog 73 0 = some (0, 35) := by kernel_rfl
theorem tSize89 : tSize Try.prog 89 = some 1 := by kernel_rfl
theorem tBytes89 : tBytes Try.prog 89 = some 8 := by kernel_rfl
theorem tAgg89 : tAgg Try.prog 89 = some false := by kernel_rfl
theorem tZero89 : tZero Try.prog 89 = some [.nilp] := by kernel_rfl
theorem tSize91 : tSize Try.prog 91 = some 5 := by kernel_rfl
theorem tBytes91 : tBytes Try.prog 91 = some 104 := by kernel_rfl
theorem tAgg91 : tAgg Try.prog 91 = some true := by kernel_rfl
theorem tZero91 : tZero Try.prog 91 = some [.nils, .nils, .nils, .nils, .int .i64 0] := by kernel_rfl
theorem tPlaces91 : tPlaces Try.prog 91 = some [(0, 5)] := by kernel_rfl
theorem tField91_0 : tField Try.prog 91 0 = some (0, 30) := by kernel_rfl
theorem tSize98 : tSize Try.prog 98 = some 4 := by kernel_rfl
theorem tBytes98 : tBytes Try.prog 98 = some 48 := by kernel_rfl
theorem tAgg98 : tAgg Try.prog 98 = some true := by kernel_rfl
theorem tZero98 : tZero Try.prog 98 = some [.str [], .str [], .bool false, .int .i64 0] := by kernel_rfl
theorem tPlaces98 : tPlaces Try.prog 98 = some [(0, 1), (1, 1), (2, 1), (3, 1)] := by kernel_rfl
theorem tField98_0 : tField Try.prog 98 0 = some (0, 9) := by kernel_rfl
theorem tField98_1 : tField Try.prog 98 1 = some (1, 9) := by kernel_rfl
theorem tField98_2 : tField Try.prog 98 2 = some (2, 4) := by kernel_rfl
theorem tField98_3 : tField Try.prog 98 3 = some (3, 2) := by kernel_rfl
attribute [push_cast] tSize2 tBytes2 tAgg2 tUnd2 tZero2 tSize3 tBytes3 tAgg3 tUnd3 tZero3 tSize4 tBytes4
attribute [push_cast] tAgg4 tUnd4 eqTyB4 neTyB4 tZero4 tSize5 tBytes5 tAgg5 tUnd5 tZero5 tSize9 tBytes9
attribute [push_cast] tAgg9 tUnd9 tZero9 tSize22 tBytes22 tAgg22 tZero22 tSlice22 tUnd22 tSize25 tBytes25 tAgg25
attribute [push_cast] tZero25 tSlice25 tUnd25 tSize26 tBytes26 tAgg26 tZero26 tSlice26 tUnd26 tSize28 tBytes28 tAgg28
attribute [push_cast] tZero28 tPlaces28 tField28_0 tField28_1 tField28_2 tSize30 tBytes30 tAgg30 tZero30 tPlaces30 tField30_0 tField30_1
attribute [push_cast] tField30_2 tSize32 tBytes32 tAgg32 tZero32 tPlaces32 tField32_0 tField32_1 tField32_2 tSize33 tBytes33 tAgg33
attribute [push_cast] tZero33 tSlice33 tUnd33 tSize35 tBytes35 tAgg35 tZero35 tPlaces35 tField35_0 tField35_1 tField35_2 tField35_3
attribute [push_cast] tSize36 tBytes36 tAgg36 tUnd36 tZero36 tSize52 tBytes52 tAgg52 tZero52 tSlice52 tUnd52 tSize54
attribute [push_cast] tBytes54 tAgg54 tZero54 tArr54 tSize61 tBytes61 tAgg61 tZero61 tPlaces61 tField61_0 tField61_1 tField61_2
attribute [push_cast] tField61_3 tSize71 tBytes71 tAgg71 tZero71 tPlaces71 tField71_0 tField71_1 tSize73 tBytes73 tAgg73 tZero73
attribute [push_cast] tPlaces73 tField73_0 tSize89 tBytes89 tAgg89 tZero89 tSize91 tBytes91 tAgg91 tZero91 tPlaces91 tField91_0
attribute [push_cast] tSize98 tBytes98 tAgg98 tZero98 tPlaces98 tField98_0 tField98_1 tField98_2 tField98_3
theorem tConc98 : tConc Try.prog 98 = true := by kernel_rfl
theorem tConc129 : tConc Try.prog 129 = true := by kernel_rfl
theorem tConc130 : tConc Try.prog 130 = true := by kernel_rfl
theorem as129_98 {x : AV} : assertO Try.prog 98 (.iface 129 x) = some (.tup [.agg [.str [], .str [], .bool false, .int .i64 0], .bool false]) := by kernel_rfl
theorem as130_98 {x : AV} : assertO Try.prog 98 (.iface 130 x) = some (.tup [.agg [.str [], .str [], .bool false, .int .i64 0], .bool false]) := by kernel_rfl
theorem asN98 : assertO Try.prog 98 .nili = some (.tup [.agg [.str [], .str [], .bool false, .int .i64 0], .bool false]) := by kernel_rfl
theorem me0 : aMethod Try.prog 98 "bookend/shadow.entry" = some 117 := by kernel_rfl
attribute [push_cast] tConc98 tConc129 tConc130 as129_98 as130_98 asN98 me0
theorem eqTy32 {a0 b0 : Bool} {a1 b1 : List UInt8} {a2 b2 : Bool} : aBin Try.prog .eql 32 (.agg [.bool a0, .str a1, .bool a2]) (.agg [.bool b0, .str b1, .bool b2]) = some (.bool (TApiShState.eqb (TApiShState.mk a0 a1 a2) (TApiShState.mk b0 b1 b2))) := by kernel_rfl
theorem neTy32 {a0 b0 : Bool} {a1 b1 : List UInt8} {a2 b2 : Bool} : aBin Try.prog .neq 32 (.agg [.bool a0, .str a1, .bool a2]) (.agg [.bool b0, .str b1, .bool b2]) = some (.bool (!TApiShState.eqb (TApiShState.mk a0 a1 a2) (TApiShState.mk b0 b1 b2))) := by kernel_rfl
theorem eqTy61 {a0 b0 : List UInt8} {a1 b1 : List UInt8} {a2 b2 : Bool} {a3 b3 : Int} : aBin Try.prog .eql 61 (.agg [.str a0, .str a1, .bool a2, .int .i64 a3]) (.agg [.str b0, .str b1, .bool b2, .int .i64 b3]) = some (.bool (TApiEntry.eqb (TApiEntry.mk a0 a1 a2 a3) (TApiEntry.mk b0 b1 b2 b3))) := by kernel_rfl
theorem neTy61 {a0 b0 : List UInt8} {a1 b1 : List UInt8} {a2 b2 : Bool} {a3 b3 : Int} : aBin Try.prog .neq 61 (.agg [.str a0, .str a1, .bool a2, .int .i64 a3]) (.agg [.str b0, .str b1, .bool b2, .int .i64 b3]) = some (.bool (!TApiEntry.eqb (TApiEntry.mk a0 a1 a2 a3) (TApiEntry.mk b0 b1 b2 b3))) := by kernel_rfl
theorem eqTy71 {a0 b0 : List UInt8} {a1 b1 : Bool} : aBin Try.prog .eql 71 (.agg [.str a0, .bool a1]) (.agg [.str b0, .bool b1]) = some (.bool (TApiLsKey.eqb (TApiLsKey.mk a0 a1) (TApiLsKey.mk b0 b1))) := by kernel_rfl
theorem neTy71 {a0 b0 : List UInt8} {a1 b1 : Bool} : aBin Try.prog .neq 71 (.agg [.str a0, .bool a1]) (.agg [.str b0, .bool b1]) = some (.bool (!TApiLsKey.eqb (TApiLsKey.mk a0 a1) (TApiLsKey.mk b0 b1))) := by kernel_rfl
theorem convTy5_3 {n : Int} : aConv Try.prog 5 3 (.int .u8 n) = some (.int .i64 (IntKind.i64.wrap n)) := by kernel_rfl
attribute [push_cast] eqTy32 neTy32 eqTy61 neTy61 eqTy71 neTy71 convTy5_3
attribute [push_cast] List.getElem?_map Option.map_some
theorem allPInt (k : IntKind) (l : List Int) : (l.map (encInt k)).all AV.isP.isPs = true := pures_map (fun _ => rfl) l
theorem allFInt (k : IntKind) (l : List Int) : (l.map (encInt k)).all AV.flatR.flatRs = true := flats_map (fun _ => rfl) l
theorem allPStr (l : List (List UInt8)) : (l.map encStr).all AV.isP.isPs = true := pures_map (fun _ => rfl) l
theorem allFStr (l : List (List UInt8)) : (l.map encStr).all AV.flatR.flatRs = true := flats_map (fun _ => rfl) l
theorem allPBool (l : List Bool) : (l.map encBool).all AV.isP.isPs = true := pures_map (fun _ => rfl) l
theorem allPSl {α : Type} (z : Nat) (f : α → List AV) (l : List (List α)) : (l.map (encSl z f)).all AV.isP.isPs = true := pures_map (fun _ => rfl) l
attribute [push_cast] allPInt allFInt allPStr allFStr allPBool allPSl
theorem rF {p : Prop} (h : p := by
  (repeat' (first | exact trivial | refine And.intro ?_ ?_ | exact AV.LeN.refl _ | exact AV.LeN.nils _ | exact AV.LeN.nilb rfl | refine AV.LeN.agg ?_ | refine AV.LeN.tup ?_ | exact AV.LeN.of_eq (by simp [frGet, alg, encInt, encBool, encStr, encSl, List.map_set, TApiEntry.enc, TApiLsKey.enc, TApiLsTree.enc, TApiMgState.enc, TApiShState.enc, TApiSlState.enc, TShadowShadowed.enc, TShadowDropped.enc, TShadowKept.enc, T2Uint8.enc])))) : p := h
theorem rE {p : Prop} (h : p := by
  (repeat' (first | exact trivial | exact BLeN.refl _ | exact ⟨_, rfl, rfl⟩ | exact AV.LeN.refl _ | refine And.intro ?_ ?_ | exact rfl | exact EsLe.refl _ | exact (fun _ => rfl) | exact (fun h => h) | exact EsLe.of_eq (by simp [frGet, alg, encInt, encBool, encStr, encSl, List.map_set, TApiEntry.enc, TApiLsKey.enc, TApiLsTree.enc, TApiMgState.enc, TApiShState.enc, TApiSlState.enc, TShadowShadowed.enc, TShadowDropped.enc, TShadowKept.enc, T2Uint8.enc]) | exact AV.LeN.nils _ | exact AV.LeN.nilb rfl | exact AV.LeN.of_eq (by simp [frGet, alg, encInt, encBool, encStr, encSl, List.map_set, TApiEntry.enc, TApiLsKey.enc, TApiLsTree.enc, TApiMgState.enc, TApiShState.enc, TApiSlState.enc, TShadowShadowed.enc, TShadowDropped.enc, TShadowKept.enc, T2Uint8.enc])))) : p := h
theorem rN {p : Prop} (h : p := by
  (repeat' (first | exact trivial | refine And.intro ?_ ?_ | exact Nat.le_of_ble_eq_true rfl | decide))) : p := h
theorem rR {p : Prop} (h : p := by
  (repeat' (first | exact trivial | refine And.intro ?_ ?_ | exact AV.Le.refl _))) : p := h
theorem rH {p : Prop} (h : p := by
  (repeat' (first | exact AV.Le.refl _ | exact AV.Le.nils _ | refine AV.Le.agg ?_ | refine AV.Le.tup ?_ | exact trivial | exact rfl | omega | exact AV.Le.of_eq (by simp [frGet, alg, encInt, encBool, encStr, encSl, List.map_set, TApiEntry.enc, TApiLsKey.enc, TApiLsTree.enc, TApiMgState.enc, TApiShState.enc, TApiSlState.enc, TShadowShadowed.enc, TShadowDropped.enc, TShadowKept.enc, T2Uint8.enc]) | refine And.intro ?_ ?_))) : p := h
theorem rG {p : Prop} (h : p := by
  simp (maxSteps := 1000000) only [↓reduceIte, reduceCtorEq, Nat.reduceEqDiff, Nat.reduceLT, Nat.reduceLeDiff, Nat.reduceAdd, Nat.reduceMul, Int.reduceToNat, push_cast, Gives]
  (repeat' (first | exact AV.Le.refl _ | exact AV.Le.nils _ | refine AV.Le.agg ?_ | refine AV.Le.tup ?_ | exact trivial | exact rfl | omega | exact AV.Le.of_eq (by simp [frGet, alg, encInt, encBool, encStr, encSl, List.map_set, TApiEntry.enc, TApiLsKey.enc, TApiLsTree.enc, TApiMgState.enc, TApiShState.enc, TApiSlState.enc, TShadowShadowed.enc, TShadowDropped.enc, TShadowKept.enc, T2Uint8.enc]) | refine And.intro ?_ ?_))) : p := h
end Go.T
