/- Facts about the types. -/
import Derived.Test.YtfbaoblejikccaaProg
import Derived.Test.YtfbaoblejikccaaAmZd
import Derived.Test.YtfbaoblejikccaaGp
namespace Go.T
open Go Go.AM Go.Proofs
def TApiEntry.enc (x : TApiEntry) : List AV := [.str x.Key, .str x.Val, .bool x.Dead, .int .i64 x.Seq]
theorem TApiEntry.eta (x : TApiEntry) : TApiEntry.mk x.Key x.Val x.Dead x.Seq = x := rfl
theorem TApiEntry.allP (l : List TApiEntry) : (l.map TApiEntry.enc).all AV.isP.isPs = true := pures_map (fun _ => rfl) l
theorem TApiEntry.allF (l : List TApiEntry) : (l.map TApiEntry.enc).all AV.flatR.flatRs = true := flats_map (fun _ => rfl) l
attribute [push_cast] TApiEntry.enc TApiEntry.eta TApiEntry.allP TApiEntry.allF
def TApiLsKey.enc (x : TApiLsKey) : List AV := [.str x.Key, .bool x.Done]
theorem TApiLsKey.eta (x : TApiLsKey) : TApiLsKey.mk x.Key x.Done = x := rfl
theorem TApiLsKey.allP (l : List TApiLsKey) : (l.map TApiLsKey.enc).all AV.isP.isPs = true := pures_map (fun _ => rfl) l
theorem TApiLsKey.allF (l : List TApiLsKey) : (l.map TApiLsKey.enc).all AV.flatR.flatRs = true := flats_map (fun _ => rfl) l
attribute [push_cast] TApiLsKey.enc TApiLsKey.eta TApiLsKey.allP TApiLsKey.allF
def TApiLsTree.enc (x : TApiLsTree) : List AV := [.psl 2 (x.Keys.map TApiLsKey.enc), .psl 1 (x.Lose.map (encInt .i64)), .int .i64 x.Win]
theorem TApiLsTree.eta (x : TApiLsTree) : TApiLsTree.mk x.Keys x.Lose x.Win = x := rfl
theorem TApiLsTree.allP (l : List TApiLsTree) : (l.map TApiLsTree.enc).all AV.isP.isPs = true := pures_map (fun _ => rfl) l
attribute [push_cast] TApiLsTree.enc TApiLsTree.eta TApiLsTree.allP
def TApiMgState.enc (x : TApiMgState) : List AV := [.psl 1 (x.Runs.map (encSl 4 TApiEntry.enc)), .psl 1 (x.At.map (encInt .i64)), .psl 2 (x.Tree.Keys.map TApiLsKey.enc), .psl 1 (x.Tree.Lose.map (encInt .i64)), .int .i64 x.Tree.Win]
theorem TApiMgState.eta (x : TApiMgState) : TApiMgState.mk x.Runs x.At x.Tree = x := rfl
theorem TApiMgState.allP (l : List TApiMgState) : (l.map TApiMgState.enc).all AV.isP.isPs = true := pures_map (fun _ => rfl) l
attribute [push_cast] TApiMgState.enc TApiMgState.eta TApiMgState.allP
theorem tSize2 : tSize Try.prog 2 = some 1 := by kernel_rfl
theorem tBytes2 : tBytes Try.prog 2 = some 8 := by kernel_rfl
theorem tAgg2 : tAgg Try.prog 2 = some false := by kernel_rfl
theorem tUnd2 : Try.prog.underlying 2 = some (.int .i64) := by kernel_rfl
theorem tZero2 : tZero Try.prog 2 = some [.int .i64 0] := by kernel_rfl
theorem tSize3 : tSize Try.prog 3 = some 1 := by kernel_rfl
theorem tBytes3 : tBytes Try.prog 3 = some 8 := by kernel_rfl
theorem tAgg3 : tAgg Try.prog 3 = some false := by kernel_rfl
theorem tUnd3 : Try.prog.underlying 3 = some (.int .i64) := by kernel_rfl
theorem tZero3 : tZero Try.prog 3 = some [.int .i64 0] := by kernel_rfl
theorem tSize4 : tSize Try.prog 4 = some 1 := by kernel_rfl
theorem tBytes4 : tBytes Try.prog 4 = some 1 := by kernel_rfl
theorem tAgg4 : tAgg Try.prog 4 = some false := by kernel_rfl
theorem tUnd4 : Try.prog.underlying 4 = some .bool := by kernel_rfl
theorem eqTyB4 {a b : Bool} : aBin Try.prog .eql 4 (.bool a) (.bool b) = some (.bool (a == b)) := by kernel_rfl
theorem neTyB4 {a b : Bool} : aBin Try.prog .neq 4 (.bool a) (.bool b) = some (.bool (!(a == b))) := by kernel_rfl
theorem tZero4 : tZero Try.prog 4 = some [.bool false] := by kernel_rfl
theorem tSize5 : tSize Try.prog 5 = some 1 := by kernel_rfl
theorem tBytes5 : tBytes Try.prog 5 = some 1 := by kernel_rfl
theorem tAgg5 : tAgg Try.prog 5 = some false := by kernel_rfl
theorem tUnd5 : Try.prog.underlying 5 = some (.int .u8) := by kernel_rfl
theorem tZero5 : tZero Try.prog 5 = some [.int .u8 0] := by kernel_rfl
theorem tSize9 : tSize Try.prog 9 = some 1 := by kernel_rfl
theorem tBytes9 : tBytes Try.prog 9 = some 16 := by kernel_rfl
theorem tAgg9 : tAgg Try.prog 9 = some false := by kernel_rfl
theorem tUnd9 : Try.prog.underlying 9 = some .string := by kernel_rfl
theorem tZero9 : tZero Try.prog 9 = some [.str []] := by kernel_rfl
theorem tSize22 : tSize Try.prog 22 = some 1 := by kernel_rfl
theorem tBytes22 : tBytes Try.prog 22 = some 24 := by kernel_rfl
theorem tAgg22 : tAgg Try.prog 22 = some false := by kernel_rfl
theorem tZero22 : tZero Try.prog 22 = some [.nils] := by kernel_rfl
theorem tSlice22 : tSlice Try.prog 22 = some 34 := by kernel_rfl
theorem tUnd22 : Try.prog.underlying 22 = some (.slice 34) := by kernel_rfl
theorem tSize25 : tSize Try.prog 25 = some 1 := by kernel_rfl
theorem tBytes25 : tBytes Try.prog 25 = some 24 := by kernel_rfl
theorem tAgg25 : tAgg Try.prog 25 = some false := by kernel_rfl
theorem tZero25 : tZero Try.prog 25 = some [.nils] := by kernel_rfl
theorem tSlice25 : tSlice Try.prog 25 = some 3 := by kernel_rfl
theorem tUnd25 : Try.prog.underlying 25 = some (.slice 3) := by kernel_rfl
theorem tSize26 : tSize Try.prog 26 = some 1 := by kernel_rfl
theorem tBytes26 : tBytes Try.prog 26 = some 24 := by kernel_rfl
theorem tAgg26 : tAgg Try.prog 26 = some false := by kernel_rfl
theorem tZero26 : tZero Try.prog 26 = some [.nils] := by kernel_rfl
theorem tSlice26 : tSlice Try.prog 26 = some 52 := by kernel_rfl
theorem tUnd26 : Try.prog.underlying 26 = some (.slice 52) := by kernel_rfl
theorem tSize28 : tSize Try.prog 28 = some 3 := by kernel_rfl
theorem tBytes28 : tBytes Try.prog 28 = some 56 := by kernel_rfl
theorem tAgg28 : tAgg Try.prog 28 = some true := by kernel_rfl
theorem tZero28 : tZero Try.prog 28 = some [.nils, .nils, .int .i64 0] := by kernel_rfl
theorem tPlaces28 : tPlaces Try.prog 28 = some [(0, 1), (1, 1), (2, 1)] := by kernel_rfl
theorem tField28_0 : tField Try.prog 28 0 = some (0, 26) := by kernel_rfl
theorem tField28_1 : tField Try.prog 28 1 = some (1, 25) := by kernel_rfl
theorem tField28_2 : tField Try.prog 28 2 = some (2, 3) := by kernel_rfl
theorem tSize30 : tSize Try.prog 30 = some 5 := by kernel_rfl
theorem tBytes30 : tBytes Try.prog 30 = some 104 := by kernel_rfl
theorem tAgg30 : tAgg Try.prog 30 = some true := by kernel_rfl
theorem tZero30 : tZero Try.prog 30 = some [.nils, .nils, .nils, .nils, .int .i64 0] := by kernel_rfl
theorem tPlaces30 : tPlaces Try.prog 30 = some [(0, 1), (1, 1), (2, 3)] := by kernel_rfl
theorem tField30_0 : tField Try.prog 30 0 = some (0, 22) := by kernel_rfl
theorem tField30_1 : tField Try.prog 30 1 = some (1, 25) := by kernel_rfl
theorem tField30_2 : tField Try.prog 30 2 = some (2, 28) := by kernel_rfl
theorem tSize31 : tSize Try.prog 31 = some 1 := by kernel_rfl
theorem tBytes31 : tBytes Try.prog 31 = some 8 := by kernel_rfl
theorem tAgg31 : tAgg Try.prog 31 = some false := by kernel_rfl
theorem tUnd31 : Try.prog.underlying 31 = some (.int .i64) := by kernel_rfl
theorem tZero31 : tZero Try.prog 31 = some [.int .i64 0] := by kernel_rfl
theorem tSize34 : tSize Try.prog 34 = some 1 := by kernel_rfl
theorem tBytes34 : tBytes Try.prog 34 = some 24 := by kernel_rfl
theorem tAgg34 : tAgg Try.prog 34 = some false := by kernel_rfl
theorem tZero34 : tZero Try.prog 34 = some [.nils] := by kernel_rfl
theorem tSlice34 : tSlice Try.prog 34 = some 41 := by kernel_rfl
theorem tUnd34 : Try.prog.underlying 34 = some (.slice 41) := by kernel_rfl
theorem tSize41 : tSize Try.prog 41 = some 4 := by kernel_rfl
theorem tBytes41 : tBytes Try.prog 41 = some 48 := by kernel_rfl
theorem tAgg41 : tAgg Try.prog 41 = some true := by kernel_rfl
theorem tZero41 : tZero Try.prog 41 = some [.str [], .str [], .bool false, .int .i64 0] := by kernel_rfl
theorem tPlaces41 : tPlaces Try.prog 41 = some [(0, 1), (1, 1), (2, 1), (3, 1)] := by kernel_rfl
theorem tField41_0 : tField Try.prog 41 0 = some (0, 9) := by kernel_rfl
theorem tField41_1 : tField Try.prog 41 1 = some (1, 9) := by kernel_rfl
theorem tField41_2 : tField Try.prog 41 2 = some (2, 4) := by kernel_rfl
theorem tField41_3 : tField Try.prog 41 3 = some (3, 2) := by kernel_rfl
theorem tSize52 : tSize Try.prog 52 = some 2 := by kernel_rfl
theorem tBytes52 : tBytes Try.prog 52 = some 24 := by kernel_rfl
theorem tAgg52 : tAgg Try.prog 52 = some true := by kernel_rfl
theorem tZero52 : tZero Try.prog 52 = some [.str [], .bool false] := by kernel_rfl
theorem tPlaces52 : tPlaces Try.prog 52 = some [(0, 1), (1, 1)] := by kernel_rfl
theorem tField52_0 : tField Try.prog 52 0 = some (0, 9) := by kernel_rfl
theorem tField52_1 : tField Try.prog 52 1 = some (1, 4) := by kernel_rfl
theorem tSize60 : tSize Try.prog 60 = some 1 := by kernel_rfl
theorem tBytes60 : tBytes Try.prog 60 = some 8 := by kernel_rfl
theorem tAgg60 : tAgg Try.prog 60 = some false := by kernel_rfl
theorem tZero60 : tZero Try.prog 60 = some [.nilp] := by kernel_rfl
theorem tSize62 : tSize Try.prog 62 = some 5 := by kernel_rfl
theorem tBytes62 : tBytes Try.prog 62 = some 104 := by kernel_rfl
theorem tAgg62 : tAgg Try.prog 62 = some true := by kernel_rfl
theorem tZero62 : tZero Try.prog 62 = some [.nils, .nils, .nils, .nils, .int .i64 0] := by kernel_rfl
theorem tPlaces62 : tPlaces Try.prog 62 = some [(0, 5)] := by kernel_rfl
theorem tField62_0 : tField Try.prog 62 0 = some (0, 30) := by kernel_rfl
attribute [push_cast] tSize2 tBytes2 tAgg2 tUnd2 tZero2 tSize3 tBytes3 tAgg3 tUnd3 tZero3 tSize4 tBytes4
attribute [push_cast] tAgg4 tUnd4 eqTyB4 neTyB4 tZero4 tSize5 tBytes5 tAgg5 tUnd5 tZero5 tSize9 tBytes9
attribute [push_cast] tAgg9 tUnd9 tZero9 tSize22 tBytes22 tAgg22 tZero22 tSlice22 tUnd22 tSize25 tBytes25 tAgg25
attribute [push_cast] tZero25 tSlice25 tUnd25 tSize26 tBytes26 tAgg26 tZero26 tSlice26 tUnd26 tSize28 tBytes28 tAgg28
attribute [push_cast] tZero28 tPlaces28 tField28_0 tField28_1 tField28_2 tSize30 tBytes30 tAgg30 tZero30 tPlaces30 tField30_0 tField30_1
attribute [push_cast] tField30_2 tSize31 tBytes31 tAgg31 tUnd31 tZero31 tSize34 tBytes34 tAgg34 tZero34 tSlice34 tUnd34
attribute [push_cast] tSize41 tBytes41 tAgg41 tZero41 tPlaces41 tField41_0 tField41_1 tField41_2 tField41_3 tSize52 tBytes52 tAgg52
attribute [push_cast] tZero52 tPlaces52 tField52_0 tField52_1 tSize60 tBytes60 tAgg60 tZero60 tSize62 tBytes62 tAgg62 tZero62
attribute [push_cast] tPlaces62 tField62_0
theorem eqTy41 {a0 b0 : List UInt8} {a1 b1 : List UInt8} {a2 b2 : Bool} {a3 b3 : Int} : aBin Try.prog .eql 41 (.agg [.str a0, .str a1, .bool a2, .int .i64 a3]) (.agg [.str b0, .str b1, .bool b2, .int .i64 b3]) = some (.bool (TApiEntry.eqb (TApiEntry.mk a0 a1 a2 a3) (TApiEntry.mk b0 b1 b2 b3))) := by kernel_rfl
theorem neTy41 {a0 b0 : List UInt8} {a1 b1 : List UInt8} {a2 b2 : Bool} {a3 b3 : Int} : aBin Try.prog .neq 41 (.agg [.str a0, .str a1, .bool a2, .int .i64 a3]) (.agg [.str b0, .str b1, .bool b2, .int .i64 b3]) = some (.bool (!TApiEntry.eqb (TApiEntry.mk a0 a1 a2 a3) (TApiEntry.mk b0 b1 b2 b3))) := by kernel_rfl
theorem eqTy52 {a0 b0 : List UInt8} {a1 b1 : Bool} : aBin Try.prog .eql 52 (.agg [.str a0, .bool a1]) (.agg [.str b0, .bool b1]) = some (.bool (TApiLsKey.eqb (TApiLsKey.mk a0 a1) (TApiLsKey.mk b0 b1))) := by kernel_rfl
theorem neTy52 {a0 b0 : List UInt8} {a1 b1 : Bool} : aBin Try.prog .neq 52 (.agg [.str a0, .bool a1]) (.agg [.str b0, .bool b1]) = some (.bool (!TApiLsKey.eqb (TApiLsKey.mk a0 a1) (TApiLsKey.mk b0 b1))) := by kernel_rfl
theorem convTy5_3 {n : Int} : aConv Try.prog 5 3 (.int .u8 n) = some (.int .i64 (IntKind.i64.wrap n)) := by kernel_rfl
attribute [push_cast] eqTy41 neTy41 eqTy52 neTy52 convTy5_3
attribute [push_cast] List.getElem?_map Option.map_some
theorem allPInt (k : IntKind) (l : List Int) : (l.map (encInt k)).all AV.isP.isPs = true := pures_map (fun _ => rfl) l
theorem allFInt (k : IntKind) (l : List Int) : (l.map (encInt k)).all AV.flatR.flatRs = true := flats_map (fun _ => rfl) l
theorem allPStr (l : List (List UInt8)) : (l.map encStr).all AV.isP.isPs = true := pures_map (fun _ => rfl) l
theorem allFStr (l : List (List UInt8)) : (l.map encStr).all AV.flatR.flatRs = true := flats_map (fun _ => rfl) l
theorem allPBool (l : List Bool) : (l.map encBool).all AV.isP.isPs = true := pures_map (fun _ => rfl) l
theorem allPSl {α : Type} (z : Nat) (f : α → List AV) (l : List (List α)) : (l.map (encSl z f)).all AV.isP.isPs = true := pures_map (fun _ => rfl) l
attribute [push_cast] allPInt allFInt allPStr allFStr allPBool allPSl
theorem rF {p : Prop} (h : p := by
  (repeat' (first | exact trivial | refine And.intro ?_ ?_ | exact AV.LeN.refl _ | exact AV.LeN.nils _ | exact AV.LeN.nilb rfl | refine AV.LeN.agg ?_ | refine AV.LeN.tup ?_ | exact AV.LeN.of_eq (by simp [frGet, alg, encInt, encBool, encStr, encSl, List.map_set, TApiEntry.enc, TApiLsKey.enc, TApiLsTree.enc, TApiMgState.enc])))) : p := h
theorem rE {p : Prop} (h : p := by
  (repeat' (first | exact trivial | exact BLeN.refl _ | exact ⟨_, rfl, rfl⟩ | exact AV.LeN.refl _ | refine And.intro ?_ ?_ | exact rfl | exact EsLe.refl _ | exact (fun _ => rfl) | exact (fun h => h) | exact EsLe.of_eq (by simp [frGet, alg, encInt, encBool, encStr, encSl, List.map_set, TApiEntry.enc, TApiLsKey.enc, TApiLsTree.enc, TApiMgState.enc]) | exact AV.LeN.nils _ | exact AV.LeN.nilb rfl | exact AV.LeN.of_eq (by simp [frGet, alg, encInt, encBool, encStr, encSl, List.map_set, TApiEntry.enc, TApiLsKey.enc, TApiLsTree.enc, TApiMgState.enc])))) : p := h
theorem rN {p : Prop} (h : p := by
  (repeat' (first | exact trivial | refine And.intro ?_ ?_ | exact Nat.le_of_ble_eq_true rfl | decide))) : p := h
theorem rR {p : Prop} (h : p := by
  (repeat' (first | exact trivial | refine And.intro ?_ ?_ | exact AV.Le.refl _))) : p := h
theorem rH {p : Prop} (h : p := by
  (repeat' (first | exact AV.Le.refl _ | exact AV.Le.nils _ | refine AV.Le.agg ?_ | refine AV.Le.tup ?_ | exact trivial | exact rfl | omega | exact AV.Le.of_eq (by simp [frGet, alg, encInt, encBool, encStr, encSl, List.map_set, TApiEntry.enc, TApiLsKey.enc, TApiLsTree.enc, TApiMgState.enc]) | refine And.intro ?_ ?_))) : p := h
theorem rG {p : Prop} (h : p := by
  simp (maxSteps := 1000000) only [↓reduceIte, reduceCtorEq, Nat.reduceEqDiff, Nat.reduceLT, Nat.reduceLeDiff, Nat.reduceAdd, Nat.reduceMul, Int.reduceToNat, push_cast, Gives]
  (repeat' (first | exact AV.Le.refl _ | exact AV.Le.nils _ | refine AV.Le.agg ?_ | refine AV.Le.tup ?_ | exact trivial | exact rfl | omega | exact AV.Le.of_eq (by simp [frGet, alg, encInt, encBool, encStr, encSl, List.map_set, TApiEntry.enc, TApiLsKey.enc, TApiLsTree.enc, TApiMgState.enc]) | refine And.intro ?_ ?_))) : p := h
end Go.T
