/- A text of the proof. -/
import Derived.Test.YtfbigpneliegfaaGreatDoorProg
import Derived.Test.YtfbigpneliegfaaGreatDoorKAmZc
import Derived.Test.YtfbigpneliegfaaGreatDoorKGp
namespace Go.T
open Go Go.AM Go.Proofs
def TApiStLevel.enc (x : TApiStLevel) : List AV := [.int .i64 x.Runs, .int .i64 x.Entries, .int .i64 x.Dead, .bool x.Job, .int .i64 x.Left]
theorem TApiStLevel.eta (x : TApiStLevel) : TApiStLevel.mk x.Runs x.Entries x.Dead x.Job x.Left = x := rfl
theorem TApiStLevel.allP (l : List TApiStLevel) : (l.map TApiStLevel.enc).all AV.isP.isPs = true := pures_map (fun _ => rfl) l
theorem TApiStLevel.allF (l : List TApiStLevel) : (l.map TApiStLevel.enc).all AV.flatR.flatRs = true := flats_map (fun _ => rfl) l
attribute [push_cast] TApiStLevel.enc TApiStLevel.eta TApiStLevel.allP TApiStLevel.allF
theorem tSize3 : tSize Tryz.prog 3 = some 1 := by kernel_rfl
theorem tBytes3 : tBytes Tryz.prog 3 = some 8 := by kernel_rfl
theorem tAgg3 : tAgg Tryz.prog 3 = some false := by kernel_rfl
theorem tUnd3 : Tryz.prog.underlying 3 = some (.int .i64) := by kernel_rfl
theorem tZero3 : tZero Tryz.prog 3 = some [.int .i64 0] := by kernel_rfl
theorem tSize4 : tSize Tryz.prog 4 = some 1 := by kernel_rfl
theorem tBytes4 : tBytes Tryz.prog 4 = some 1 := by kernel_rfl
theorem tAgg4 : tAgg Tryz.prog 4 = some false := by kernel_rfl
theorem tUnd4 : Tryz.prog.underlying 4 = some .bool := by kernel_rfl
theorem eqTyB4 {a b : Bool} : aBin Tryz.prog .eql 4 (.bool a) (.bool b) = some (.bool (a == b)) := by kernel_rfl
theorem neTyB4 {a b : Bool} : aBin Tryz.prog .neq 4 (.bool a) (.bool b) = some (.bool (!(a == b))) := by kernel_rfl
theorem tZero4 : tZero Tryz.prog 4 = some [.bool false] := by kernel_rfl
theorem tSize22 : tSize Tryz.prog 22 = some 1 := by kernel_rfl
theorem tBytes22 : tBytes Tryz.prog 22 = some 24 := by kernel_rfl
theorem tAgg22 : tAgg Tryz.prog 22 = some false := by kernel_rfl
theorem tZero22 : tZero Tryz.prog 22 = some [.nils] := by kernel_rfl
theorem tSlice22 : tSlice Tryz.prog 22 = some 25 := by kernel_rfl
theorem tUnd22 : Tryz.prog.underlying 22 = some (.slice 25) := by kernel_rfl
theorem tSize25 : tSize Tryz.prog 25 = some 5 := by kernel_rfl
theorem tBytes25 : tBytes Tryz.prog 25 = some 40 := by kernel_rfl
theorem tAgg25 : tAgg Tryz.prog 25 = some true := by kernel_rfl
theorem tZero25 : tZero Tryz.prog 25 = some [.int .i64 0, .int .i64 0, .int .i64 0, .bool false, .int .i64 0] := by kernel_rfl
theorem tPlaces25 : tPlaces Tryz.prog 25 = some [(0, 1), (1, 1), (2, 1), (3, 1), (4, 1)] := by kernel_rfl
theorem tField25_0 : tField Tryz.prog 25 0 = some (0, 3) := by kernel_rfl
theorem tField25_1 : tField Tryz.prog 25 1 = some (1, 3) := by kernel_rfl
theorem tField25_2 : tField Tryz.prog 25 2 = some (2, 3) := by kernel_rfl
theorem tField25_3 : tField Tryz.prog 25 3 = some (3, 4) := by kernel_rfl
theorem tField25_4 : tField Tryz.prog 25 4 = some (4, 3) := by kernel_rfl
theorem tSize26 : tSize Tryz.prog 26 = some 1 := by kernel_rfl
theorem tBytes26 : tBytes Tryz.prog 26 = some 8 := by kernel_rfl
theorem tAgg26 : tAgg Tryz.prog 26 = some false := by kernel_rfl
theorem tUnd26 : Tryz.prog.underlying 26 = some (.int .i64) := by kernel_rfl
theorem tZero26 : tZero Tryz.prog 26 = some [.int .i64 0] := by kernel_rfl
theorem tSize70 : tSize Tryz.prog 70 = some 1 := by kernel_rfl
theorem tBytes70 : tBytes Tryz.prog 70 = some 24 := by kernel_rfl
theorem tAgg70 : tAgg Tryz.prog 70 = some false := by kernel_rfl
theorem tZero70 : tZero Tryz.prog 70 = some [.nils] := by kernel_rfl
theorem tSlice70 : tSlice Tryz.prog 70 = some 3 := by kernel_rfl
theorem tUnd70 : Tryz.prog.underlying 70 = some (.slice 3) := by kernel_rfl
attribute [push_cast] tSize3 tBytes3 tAgg3 tUnd3 tZero3 tSize4 tBytes4 tAgg4 tUnd4 eqTyB4 neTyB4 tZero4
attribute [push_cast] tSize22 tBytes22 tAgg22 tZero22 tSlice22 tUnd22 tSize25 tBytes25 tAgg25 tZero25 tPlaces25 tField25_0
attribute [push_cast] tField25_1 tField25_2 tField25_3 tField25_4 tSize26 tBytes26 tAgg26 tUnd26 tZero26 tSize70 tBytes70 tAgg70
attribute [push_cast] tZero70 tSlice70 tUnd70
theorem eqTy25 {a0 b0 : Int} {a1 b1 : Int} {a2 b2 : Int} {a3 b3 : Bool} {a4 b4 : Int} : aBin Tryz.prog .eql 25 (.agg [.int .i64 a0, .int .i64 a1, .int .i64 a2, .bool a3, .int .i64 a4]) (.agg [.int .i64 b0, .int .i64 b1, .int .i64 b2, .bool b3, .int .i64 b4]) = some (.bool (TApiStLevel.eqb (TApiStLevel.mk a0 a1 a2 a3 a4) (TApiStLevel.mk b0 b1 b2 b3 b4))) := by kernel_rfl
theorem neTy25 {a0 b0 : Int} {a1 b1 : Int} {a2 b2 : Int} {a3 b3 : Bool} {a4 b4 : Int} : aBin Tryz.prog .neq 25 (.agg [.int .i64 a0, .int .i64 a1, .int .i64 a2, .bool a3, .int .i64 a4]) (.agg [.int .i64 b0, .int .i64 b1, .int .i64 b2, .bool b3, .int .i64 b4]) = some (.bool (!TApiStLevel.eqb (TApiStLevel.mk a0 a1 a2 a3 a4) (TApiStLevel.mk b0 b1 b2 b3 b4))) := by kernel_rfl
attribute [push_cast] eqTy25 neTy25
attribute [push_cast] List.getElem?_map Option.map_some
theorem allPInt (k : IntKind) (l : List Int) : (l.map (encInt k)).all AV.isP.isPs = true := pures_map (fun _ => rfl) l
theorem allFInt (k : IntKind) (l : List Int) : (l.map (encInt k)).all AV.flatR.flatRs = true := flats_map (fun _ => rfl) l
theorem allPStr (l : List (List UInt8)) : (l.map encStr).all AV.isP.isPs = true := pures_map (fun _ => rfl) l
theorem allFStr (l : List (List UInt8)) : (l.map encStr).all AV.flatR.flatRs = true := flats_map (fun _ => rfl) l
theorem allPBool (l : List Bool) : (l.map encBool).all AV.isP.isPs = true := pures_map (fun _ => rfl) l
theorem allPSl {α : Type} (z : Nat) (f : α → List AV) (l : List (List α)) : (l.map (encSl z f)).all AV.isP.isPs = true := pures_map (fun _ => rfl) l
attribute [push_cast] allPInt allFInt allPStr allFStr allPBool allPSl
theorem rF {p : Prop} (h : p := by
  (repeat' (first | exact trivial | refine And.intro ?_ ?_ | exact AV.LeN.refl _ | exact AV.LeN.nils _ | exact AV.LeN.nilb rfl | refine AV.LeN.agg ?_ | refine AV.LeN.tup ?_ | exact AV.LeN.of_eq (by simp [frGet, alg, encInt, encBool, encStr, encSl, List.map_set, TApiStLevel.enc])))) : p := h
theorem rE {p : Prop} (h : p := by
  (repeat' (first | exact trivial | exact BLeN.refl _ | exact ⟨_, rfl, rfl⟩ | exact AV.LeN.refl _ | refine And.intro ?_ ?_ | exact rfl | exact EsLe.refl _ | exact (fun _ => rfl) | exact (fun h => h) | exact EsLe.of_eq (by simp [frGet, alg, encInt, encBool, encStr, encSl, List.map_set, TApiStLevel.enc]) | exact AV.LeN.nils _ | exact AV.LeN.nilb rfl | exact AV.LeN.of_eq (by simp [frGet, alg, encInt, encBool, encStr, encSl, List.map_set, TApiStLevel.enc])))) : p := h
theorem rH {p : Prop} (h : p := by
  (repeat' (first | exact AV.Le.refl _ | exact AV.Le.nils _ | refine AV.Le.agg ?_ | refine AV.Le.tup ?_ | exact trivial | exact rfl | omega | exact AV.Le.of_eq (by simp [frGet, alg, encInt, encBool, encStr, encSl, List.map_set, TApiStLevel.enc]) | refine And.intro ?_ ?_))) : p := h
theorem rG {p : Prop} (h : p := by
  simp (maxSteps := 1000000) only [↓reduceIte, reduceCtorEq, Nat.reduceEqDiff, Nat.reduceLT, Nat.reduceLeDiff, Nat.reduceAdd, Nat.reduceMul, Int.reduceToNat, push_cast, Gives]
  (repeat' (first | exact AV.Le.refl _ | exact AV.Le.nils _ | refine AV.Le.agg ?_ | refine AV.Le.tup ?_ | exact trivial | exact rfl | omega | exact AV.Le.of_eq (by simp [frGet, alg, encInt, encBool, encStr, encSl, List.map_set, TApiStLevel.enc]) | refine And.intro ?_ ?_))) : p := h
theorem rW {q k p : Prop} (f : q) (hK : k) (h : q → k → p := by
  intro f hK
  simp (maxSteps := 1000000) only [↓reduceIte, reduceCtorEq, Nat.reduceEqDiff, Nat.reduceLT, Nat.reduceLeDiff, Nat.reduceAdd, Nat.reduceMul, Int.reduceToNat, push_cast, ↓f]
  try simp only [↓f] at hK
  all_goals (repeat' (first | assumption | refine And.intro ?_ ?_ | exact Nat.le_refl _ | omega | (intro _) | (simp; done)))) : p := h f hK
theorem rWc {q t k p : Prop} (f : q) (c : t) (hK : k) (h : q → t → k → p := by
  intro f c hK
  simp (maxSteps := 1000000) only [↓reduceIte, reduceCtorEq, Nat.reduceEqDiff, Nat.reduceLT, Nat.reduceLeDiff, Nat.reduceAdd, Nat.reduceMul, Int.reduceToNat, push_cast, ↓f]
  try simp only [↓f] at hK
  all_goals (repeat' (first | assumption | refine And.intro ?_ ?_ | exact Nat.le_refl _ | omega | (intro _) | (simp; done)))) : p := h f c hK
theorem rWg {q r k p : Prop} (f : q) (g : r) (hK : k) (h : q → r → k → p := by
  intro f g hK
  simp (maxSteps := 1000000) only [↓reduceIte, reduceCtorEq, Nat.reduceEqDiff, Nat.reduceLT, Nat.reduceLeDiff, Nat.reduceAdd, Nat.reduceMul, Int.reduceToNat, push_cast, g, ↓f]
  try simp only [↓f] at hK
  all_goals (repeat' (first | assumption | refine And.intro ?_ ?_ | exact Nat.le_refl _ | omega | (intro _) | (simp; done)))) : p := h f g hK
theorem rWgc {q r t k p : Prop} (f : q) (g : r) (c : t) (hK : k) (h : q → r → t → k → p := by
  intro f g c hK
  simp (maxSteps := 1000000) only [↓reduceIte, reduceCtorEq, Nat.reduceEqDiff, Nat.reduceLT, Nat.reduceLeDiff, Nat.reduceAdd, Nat.reduceMul, Int.reduceToNat, push_cast, g, ↓f]
  try simp only [↓f] at hK
  all_goals (repeat' (first | assumption | refine And.intro ?_ ?_ | exact Nat.le_refl _ | omega | (intro _) | (simp; done)))) : p := h f g c hK
theorem rJ {q p : Prop} (f : q) (h : q → p := by
  intro f
  simp (maxSteps := 1000000) only [↓reduceIte, reduceCtorEq, Nat.reduceEqDiff, Nat.reduceLT, Nat.reduceLeDiff, Nat.reduceAdd, Nat.reduceMul, Int.reduceToNat, push_cast, Gives, f]
  all_goals exact rH) : p := h f
theorem xE [Adr] {P : Program} {nt : Nat} {K : Exit → St → Prop} {c : Code} {s : St} (s2 : St) (h : AWP P nt c K s2) (hn : s.nx ≤ s2.nx := by exact Nat.le_of_ble_eq_true rfl) (hl : LeN [] s s2 := by exact ⟨rF, rE, rfl, rfl, trivial, trivial⟩) : AWP P nt c K s := awp_re [] hn hl h
end Go.T
