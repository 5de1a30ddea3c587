/- A text of the proof. -/
import Derived.Test.YtbinmepkdbkffaaGreatDoorProg
import Derived.Test.YtbinmepkdbkffaaGreatDoorKAmZc
import Derived.Test.YtbinmepkdbkffaaGreatDoorKGp
namespace Go.T
open Go Go.AM Go.Proofs
def TApiHandle.enc (x : TApiHandle) : List AV := [.int .i64 x.Index, .int .i64 x.Gen]
theorem TApiHandle.eta (x : TApiHandle) : TApiHandle.mk x.Index x.Gen = x := rfl
theorem TApiHandle.allP (l : List TApiHandle) : (l.map TApiHandle.enc).all AV.isP.isPs = true := pures_map (fun _ => rfl) l
theorem TApiHandle.allF (l : List TApiHandle) : (l.map TApiHandle.enc).all AV.flatR.flatRs = true := flats_map (fun _ => rfl) l
attribute [push_cast] TApiHandle.enc TApiHandle.eta TApiHandle.allP TApiHandle.allF
def TApiDfItem.enc (x : TApiDfItem) : List AV := [.int .i64 x.Kind, .str x.Key, .str x.Old, .str x.New]
theorem TApiDfItem.eta (x : TApiDfItem) : TApiDfItem.mk x.Kind x.Key x.Old x.New = x := rfl
theorem TApiDfItem.allP (l : List TApiDfItem) : (l.map TApiDfItem.enc).all AV.isP.isPs = true := pures_map (fun _ => rfl) l
theorem TApiDfItem.allF (l : List TApiDfItem) : (l.map TApiDfItem.enc).all AV.flatR.flatRs = true := flats_map (fun _ => rfl) l
attribute [push_cast] TApiDfItem.enc TApiDfItem.eta TApiDfItem.allP TApiDfItem.allF
def TApiStStats.enc (x : TApiStStats) : List AV := [.int .i64 x.Live, .int .i64 x.Entries, .int .i64 x.Dead, .int .i64 x.Buffered, .int .i64 x.Runs, .int .i64 x.Height, .int .i64 x.Jobs, .int .i64 x.Debt, .int .i64 x.Pins, .int .i64 x.Cursors, .int .i64 x.Held, .int .i64 x.Writes, .int .i64 x.Busy, .int .i64 x.Seals, .int .i64 x.Installs, .int .i64 x.Steps, .int .i64 x.Lost]
theorem TApiStStats.eta (x : TApiStStats) : TApiStStats.mk x.Live x.Entries x.Dead x.Buffered x.Runs x.Height x.Jobs x.Debt x.Pins x.Cursors x.Held x.Writes x.Busy x.Seals x.Installs x.Steps x.Lost = x := rfl
theorem TApiStStats.allP (l : List TApiStStats) : (l.map TApiStStats.enc).all AV.isP.isPs = true := pures_map (fun _ => rfl) l
theorem TApiStStats.allF (l : List TApiStStats) : (l.map TApiStStats.enc).all AV.flatR.flatRs = true := flats_map (fun _ => rfl) l
attribute [push_cast] TApiStStats.enc TApiStStats.eta TApiStStats.allP TApiStStats.allF
def TApiOpAnswer.enc (x : TApiOpAnswer) : List AV := [.int .i64 x.E, .str x.Key, .str x.Val, .int .i64 x.N, .int .i64 x.Handle.Index, .int .i64 x.Handle.Gen, .psl 4 (x.Items.map TApiDfItem.enc), .int .i64 x.Stats.Live, .int .i64 x.Stats.Entries, .int .i64 x.Stats.Dead, .int .i64 x.Stats.Buffered, .int .i64 x.Stats.Runs, .int .i64 x.Stats.Height, .int .i64 x.Stats.Jobs, .int .i64 x.Stats.Debt, .int .i64 x.Stats.Pins, .int .i64 x.Stats.Cursors, .int .i64 x.Stats.Held, .int .i64 x.Stats.Writes, .int .i64 x.Stats.Busy, .int .i64 x.Stats.Seals, .int .i64 x.Stats.Installs, .int .i64 x.Stats.Steps, .int .i64 x.Stats.Lost]
theorem TApiOpAnswer.eta (x : TApiOpAnswer) : TApiOpAnswer.mk x.E x.Key x.Val x.N x.Handle x.Items x.Stats = x := rfl
theorem TApiOpAnswer.allP (l : List TApiOpAnswer) : (l.map TApiOpAnswer.enc).all AV.isP.isPs = true := pures_map (fun _ => rfl) l
attribute [push_cast] TApiOpAnswer.enc TApiOpAnswer.eta TApiOpAnswer.allP
theorem tSize2 : tSize Tryz.prog 2 = some 1 := by kernel_rfl
theorem tBytes2 : tBytes Tryz.prog 2 = some 8 := by kernel_rfl
theorem tAgg2 : tAgg Tryz.prog 2 = some false := by kernel_rfl
theorem tUnd2 : Tryz.prog.underlying 2 = some (.int .i64) := by kernel_rfl
theorem tZero2 : tZero Tryz.prog 2 = some [.int .i64 0] := by kernel_rfl
theorem tSize3 : tSize Tryz.prog 3 = some 1 := by kernel_rfl
theorem tBytes3 : tBytes Tryz.prog 3 = some 8 := by kernel_rfl
theorem tAgg3 : tAgg Tryz.prog 3 = some false := by kernel_rfl
theorem tUnd3 : Tryz.prog.underlying 3 = some (.int .i64) := by kernel_rfl
theorem tZero3 : tZero Tryz.prog 3 = some [.int .i64 0] := by kernel_rfl
theorem tSize4 : tSize Tryz.prog 4 = some 1 := by kernel_rfl
theorem tBytes4 : tBytes Tryz.prog 4 = some 1 := by kernel_rfl
theorem tAgg4 : tAgg Tryz.prog 4 = some false := by kernel_rfl
theorem tUnd4 : Tryz.prog.underlying 4 = some .bool := by kernel_rfl
theorem eqTyB4 {a b : Bool} : aBin Tryz.prog .eql 4 (.bool a) (.bool b) = some (.bool (a == b)) := by kernel_rfl
theorem neTyB4 {a b : Bool} : aBin Tryz.prog .neq 4 (.bool a) (.bool b) = some (.bool (!(a == b))) := by kernel_rfl
theorem tZero4 : tZero Tryz.prog 4 = some [.bool false] := by kernel_rfl
theorem tSize9 : tSize Tryz.prog 9 = some 1 := by kernel_rfl
theorem tBytes9 : tBytes Tryz.prog 9 = some 16 := by kernel_rfl
theorem tAgg9 : tAgg Tryz.prog 9 = some false := by kernel_rfl
theorem tStr9 : tStr Tryz.prog 9 = some () := by kernel_rfl
theorem tUnd9 : Tryz.prog.underlying 9 = some .string := by kernel_rfl
theorem tZero9 : tZero Tryz.prog 9 = some [.str []] := by kernel_rfl
theorem tSize22 : tSize Tryz.prog 22 = some 1 := by kernel_rfl
theorem tBytes22 : tBytes Tryz.prog 22 = some 24 := by kernel_rfl
theorem tAgg22 : tAgg Tryz.prog 22 = some false := by kernel_rfl
theorem tZero22 : tZero Tryz.prog 22 = some [.nils] := by kernel_rfl
theorem tSlice22 : tSlice Tryz.prog 22 = some 38 := by kernel_rfl
theorem tUnd22 : Tryz.prog.underlying 22 = some (.slice 38) := by kernel_rfl
theorem tSize25 : tSize Tryz.prog 25 = some 1 := by kernel_rfl
theorem tBytes25 : tBytes Tryz.prog 25 = some 8 := by kernel_rfl
theorem tAgg25 : tAgg Tryz.prog 25 = some false := by kernel_rfl
theorem tUnd25 : Tryz.prog.underlying 25 = some (.int .i64) := by kernel_rfl
theorem tZero25 : tZero Tryz.prog 25 = some [.int .i64 0] := by kernel_rfl
theorem tSize33 : tSize Tryz.prog 33 = some 2 := by kernel_rfl
theorem tBytes33 : tBytes Tryz.prog 33 = some 16 := by kernel_rfl
theorem tAgg33 : tAgg Tryz.prog 33 = some true := by kernel_rfl
theorem tZero33 : tZero Tryz.prog 33 = some [.int .i64 0, .int .i64 0] := by kernel_rfl
theorem tPlaces33 : tPlaces Tryz.prog 33 = some [(0, 1), (1, 1)] := by kernel_rfl
theorem tField33_0 : tField Tryz.prog 33 0 = some (0, 3) := by kernel_rfl
theorem tField33_1 : tField Tryz.prog 33 1 = some (1, 3) := by kernel_rfl
theorem tSize34 : tSize Tryz.prog 34 = some 1 := by kernel_rfl
theorem tBytes34 : tBytes Tryz.prog 34 = some 24 := by kernel_rfl
theorem tAgg34 : tAgg Tryz.prog 34 = some false := by kernel_rfl
theorem tZero34 : tZero Tryz.prog 34 = some [.nils] := by kernel_rfl
theorem tSlice34 : tSlice Tryz.prog 34 = some 74 := by kernel_rfl
theorem tUnd34 : Tryz.prog.underlying 34 = some (.slice 74) := by kernel_rfl
theorem tSize36 : tSize Tryz.prog 36 = some 17 := by kernel_rfl
theorem tBytes36 : tBytes Tryz.prog 36 = some 136 := by kernel_rfl
theorem tAgg36 : tAgg Tryz.prog 36 = some true := by kernel_rfl
theorem tZero36 : tZero Tryz.prog 36 = some [.int .i64 0, .int .i64 0, .int .i64 0, .int .i64 0, .int .i64 0, .int .i64 0, .int .i64 0, .int .i64 0, .int .i64 0, .int .i64 0, .int .i64 0, .int .i64 0, .int .i64 0, .int .i64 0, .int .i64 0, .int .i64 0, .int .i64 0] := by kernel_rfl
theorem tPlaces36 : tPlaces Tryz.prog 36 = some [(0, 1), (1, 1), (2, 1), (3, 1), (4, 1), (5, 1), (6, 1), (7, 1), (8, 1), (9, 1), (10, 1), (11, 1), (12, 1), (13, 1), (14, 1), (15, 1), (16, 1)] := by kernel_rfl
theorem tField36_0 : tField Tryz.prog 36 0 = some (0, 3) := by kernel_rfl
theorem tField36_1 : tField Tryz.prog 36 1 = some (1, 3) := by kernel_rfl
theorem tField36_2 : tField Tryz.prog 36 2 = some (2, 3) := by kernel_rfl
theorem tField36_3 : tField Tryz.prog 36 3 = some (3, 3) := by kernel_rfl
theorem tField36_4 : tField Tryz.prog 36 4 = some (4, 3) := by kernel_rfl
theorem tField36_5 : tField Tryz.prog 36 5 = some (5, 3) := by kernel_rfl
theorem tField36_6 : tField Tryz.prog 36 6 = some (6, 3) := by kernel_rfl
theorem tField36_7 : tField Tryz.prog 36 7 = some (7, 3) := by kernel_rfl
theorem tField36_8 : tField Tryz.prog 36 8 = some (8, 3) := by kernel_rfl
theorem tField36_9 : tField Tryz.prog 36 9 = some (9, 3) := by kernel_rfl
theorem tField36_10 : tField Tryz.prog 36 10 = some (10, 3) := by kernel_rfl
theorem tField36_11 : tField Tryz.prog 36 11 = some (11, 2) := by kernel_rfl
theorem tField36_12 : tField Tryz.prog 36 12 = some (12, 2) := by kernel_rfl
theorem tField36_13 : tField Tryz.prog 36 13 = some (13, 2) := by kernel_rfl
theorem tField36_14 : tField Tryz.prog 36 14 = some (14, 2) := by kernel_rfl
theorem tField36_15 : tField Tryz.prog 36 15 = some (15, 2) := by kernel_rfl
theorem tField36_16 : tField Tryz.prog 36 16 = some (16, 2) := by kernel_rfl
theorem tSize38 : tSize Tryz.prog 38 = some 24 := by kernel_rfl
theorem tBytes38 : tBytes Tryz.prog 38 = some 224 := by kernel_rfl
theorem tAgg38 : tAgg Tryz.prog 38 = some true := by kernel_rfl
theorem tZero38 : tZero Tryz.prog 38 = some [.int .i64 0, .str [], .str [], .int .i64 0, .int .i64 0, .int .i64 0, .nils, .int .i64 0, .int .i64 0, .int .i64 0, .int .i64 0, .int .i64 0, .int .i64 0, .int .i64 0, .int .i64 0, .int .i64 0, .int .i64 0, .int .i64 0, .int .i64 0, .int .i64 0, .int .i64 0, .int .i64 0, .int .i64 0, .int .i64 0] := by kernel_rfl
theorem tPlaces38 : tPlaces Tryz.prog 38 = some [(0, 1), (1, 1), (2, 1), (3, 1), (4, 2), (6, 1), (7, 17)] := by kernel_rfl
theorem tField38_0 : tField Tryz.prog 38 0 = some (0, 25) := by kernel_rfl
theorem tField38_1 : tField Tryz.prog 38 1 = some (1, 9) := by kernel_rfl
theorem tField38_2 : tField Tryz.prog 38 2 = some (2, 9) := by kernel_rfl
theorem tField38_3 : tField Tryz.prog 38 3 = some (3, 3) := by kernel_rfl
theorem tField38_4 : tField Tryz.prog 38 4 = some (4, 33) := by kernel_rfl
theorem tField38_5 : tField Tryz.prog 38 5 = some (6, 34) := by kernel_rfl
theorem tField38_6 : tField Tryz.prog 38 6 = some (7, 36) := by kernel_rfl
theorem tSize74 : tSize Tryz.prog 74 = some 4 := by kernel_rfl
theorem tBytes74 : tBytes Tryz.prog 74 = some 56 := by kernel_rfl
theorem tAgg74 : tAgg Tryz.prog 74 = some true := by kernel_rfl
theorem tZero74 : tZero Tryz.prog 74 = some [.int .i64 0, .str [], .str [], .str []] := by kernel_rfl
theorem tPlaces74 : tPlaces Tryz.prog 74 = some [(0, 1), (1, 1), (2, 1), (3, 1)] := by kernel_rfl
theorem tField74_0 : tField Tryz.prog 74 0 = some (0, 3) := by kernel_rfl
theorem tField74_1 : tField Tryz.prog 74 1 = some (1, 9) := by kernel_rfl
theorem tField74_2 : tField Tryz.prog 74 2 = some (2, 9) := by kernel_rfl
theorem tField74_3 : tField Tryz.prog 74 3 = some (3, 9) := by kernel_rfl
attribute [push_cast] tSize2 tBytes2 tAgg2 tUnd2 tZero2 tSize3 tBytes3 tAgg3 tUnd3 tZero3 tSize4 tBytes4
attribute [push_cast] tAgg4 tUnd4 eqTyB4 neTyB4 tZero4 tSize9 tBytes9 tAgg9 tStr9 tUnd9 tZero9 tSize22
attribute [push_cast] tBytes22 tAgg22 tZero22 tSlice22 tUnd22 tSize25 tBytes25 tAgg25 tUnd25 tZero25 tSize33 tBytes33
attribute [push_cast] tAgg33 tZero33 tPlaces33 tField33_0 tField33_1 tSize34 tBytes34 tAgg34 tZero34 tSlice34 tUnd34 tSize36
attribute [push_cast] tBytes36 tAgg36 tZero36 tPlaces36 tField36_0 tField36_1 tField36_2 tField36_3 tField36_4 tField36_5 tField36_6 tField36_7
attribute [push_cast] tField36_8 tField36_9 tField36_10 tField36_11 tField36_12 tField36_13 tField36_14 tField36_15 tField36_16 tSize38 tBytes38 tAgg38
attribute [push_cast] tZero38 tPlaces38 tField38_0 tField38_1 tField38_2 tField38_3 tField38_4 tField38_5 tField38_6 tSize74 tBytes74 tAgg74
attribute [push_cast] tZero74 tPlaces74 tField74_0 tField74_1 tField74_2 tField74_3
theorem eqTy33 {a0 b0 : Int} {a1 b1 : Int} : aBin Tryz.prog .eql 33 (.agg [.int .i64 a0, .int .i64 a1]) (.agg [.int .i64 b0, .int .i64 b1]) = some (.bool (TApiHandle.eqb (TApiHandle.mk a0 a1) (TApiHandle.mk b0 b1))) := by kernel_rfl
theorem neTy33 {a0 b0 : Int} {a1 b1 : Int} : aBin Tryz.prog .neq 33 (.agg [.int .i64 a0, .int .i64 a1]) (.agg [.int .i64 b0, .int .i64 b1]) = some (.bool (!TApiHandle.eqb (TApiHandle.mk a0 a1) (TApiHandle.mk b0 b1))) := by kernel_rfl
theorem eqTy36 {a0 b0 : Int} {a1 b1 : Int} {a2 b2 : Int} {a3 b3 : Int} {a4 b4 : Int} {a5 b5 : Int} {a6 b6 : Int} {a7 b7 : Int} {a8 b8 : Int} {a9 b9 : Int} {a10 b10 : Int} {a11 b11 : Int} {a12 b12 : Int} {a13 b13 : Int} {a14 b14 : Int} {a15 b15 : Int} {a16 b16 : Int} : aBin Tryz.prog .eql 36 (.agg [.int .i64 a0, .int .i64 a1, .int .i64 a2, .int .i64 a3, .int .i64 a4, .int .i64 a5, .int .i64 a6, .int .i64 a7, .int .i64 a8, .int .i64 a9, .int .i64 a10, .int .i64 a11, .int .i64 a12, .int .i64 a13, .int .i64 a14, .int .i64 a15, .int .i64 a16]) (.agg [.int .i64 b0, .int .i64 b1, .int .i64 b2, .int .i64 b3, .int .i64 b4, .int .i64 b5, .int .i64 b6, .int .i64 b7, .int .i64 b8, .int .i64 b9, .int .i64 b10, .int .i64 b11, .int .i64 b12, .int .i64 b13, .int .i64 b14, .int .i64 b15, .int .i64 b16]) = some (.bool (TApiStStats.eqb (TApiStStats.mk a0 a1 a2 a3 a4 a5 a6 a7 a8 a9 a10 a11 a12 a13 a14 a15 a16) (TApiStStats.mk b0 b1 b2 b3 b4 b5 b6 b7 b8 b9 b10 b11 b12 b13 b14 b15 b16))) := by kernel_rfl
theorem neTy36 {a0 b0 : Int} {a1 b1 : Int} {a2 b2 : Int} {a3 b3 : Int} {a4 b4 : Int} {a5 b5 : Int} {a6 b6 : Int} {a7 b7 : Int} {a8 b8 : Int} {a9 b9 : Int} {a10 b10 : Int} {a11 b11 : Int} {a12 b12 : Int} {a13 b13 : Int} {a14 b14 : Int} {a15 b15 : Int} {a16 b16 : Int} : aBin Tryz.prog .neq 36 (.agg [.int .i64 a0, .int .i64 a1, .int .i64 a2, .int .i64 a3, .int .i64 a4, .int .i64 a5, .int .i64 a6, .int .i64 a7, .int .i64 a8, .int .i64 a9, .int .i64 a10, .int .i64 a11, .int .i64 a12, .int .i64 a13, .int .i64 a14, .int .i64 a15, .int .i64 a16]) (.agg [.int .i64 b0, .int .i64 b1, .int .i64 b2, .int .i64 b3, .int .i64 b4, .int .i64 b5, .int .i64 b6, .int .i64 b7, .int .i64 b8, .int .i64 b9, .int .i64 b10, .int .i64 b11, .int .i64 b12, .int .i64 b13, .int .i64 b14, .int .i64 b15, .int .i64 b16]) = some (.bool (!TApiStStats.eqb (TApiStStats.mk a0 a1 a2 a3 a4 a5 a6 a7 a8 a9 a10 a11 a12 a13 a14 a15 a16) (TApiStStats.mk b0 b1 b2 b3 b4 b5 b6 b7 b8 b9 b10 b11 b12 b13 b14 b15 b16))) := by kernel_rfl
theorem eqTy74 {a0 b0 : Int} {a1 b1 : List UInt8} {a2 b2 : List UInt8} {a3 b3 : List UInt8} : aBin Tryz.prog .eql 74 (.agg [.int .i64 a0, .str a1, .str a2, .str a3]) (.agg [.int .i64 b0, .str b1, .str b2, .str b3]) = some (.bool (TApiDfItem.eqb (TApiDfItem.mk a0 a1 a2 a3) (TApiDfItem.mk b0 b1 b2 b3))) := by kernel_rfl
theorem neTy74 {a0 b0 : Int} {a1 b1 : List UInt8} {a2 b2 : List UInt8} {a3 b3 : List UInt8} : aBin Tryz.prog .neq 74 (.agg [.int .i64 a0, .str a1, .str a2, .str a3]) (.agg [.int .i64 b0, .str b1, .str b2, .str b3]) = some (.bool (!TApiDfItem.eqb (TApiDfItem.mk a0 a1 a2 a3) (TApiDfItem.mk b0 b1 b2 b3))) := by kernel_rfl
attribute [push_cast] eqTy33 neTy33 eqTy36 neTy36 eqTy74 neTy74
attribute [push_cast] List.getElem?_map Option.map_some
theorem allPInt (k : IntKind) (l : List Int) : (l.map (encInt k)).all AV.isP.isPs = true := pures_map (fun _ => rfl) l
theorem allFInt (k : IntKind) (l : List Int) : (l.map (encInt k)).all AV.flatR.flatRs = true := flats_map (fun _ => rfl) l
theorem allPStr (l : List (List UInt8)) : (l.map encStr).all AV.isP.isPs = true := pures_map (fun _ => rfl) l
theorem allFStr (l : List (List UInt8)) : (l.map encStr).all AV.flatR.flatRs = true := flats_map (fun _ => rfl) l
theorem allPBool (l : List Bool) : (l.map encBool).all AV.isP.isPs = true := pures_map (fun _ => rfl) l
theorem allPSl {α : Type} (z : Nat) (f : α → List AV) (l : List (List α)) : (l.map (encSl z f)).all AV.isP.isPs = true := pures_map (fun _ => rfl) l
attribute [push_cast] allPInt allFInt allPStr allFStr allPBool allPSl
theorem rF {p : Prop} (h : p := by
  (repeat' (first | exact trivial | refine And.intro ?_ ?_ | exact AV.LeN.refl _ | exact AV.LeN.nils _ | exact AV.LeN.nilb rfl | refine AV.LeN.agg ?_ | refine AV.LeN.tup ?_ | exact AV.LeN.of_eq (by simp [frGet, alg, encInt, encBool, encStr, encSl, List.map_set, TApiHandle.enc, TApiDfItem.enc, TApiStStats.enc, TApiOpAnswer.enc])))) : p := h
theorem rE {p : Prop} (h : p := by
  (repeat' (first | exact trivial | exact BLeN.refl _ | exact ⟨_, rfl, rfl⟩ | exact AV.LeN.refl _ | refine And.intro ?_ ?_ | exact rfl | exact EsLe.refl _ | exact (fun _ => rfl) | exact (fun h => h) | exact EsLe.of_eq (by simp [frGet, alg, encInt, encBool, encStr, encSl, List.map_set, TApiHandle.enc, TApiDfItem.enc, TApiStStats.enc, TApiOpAnswer.enc]) | exact AV.LeN.nils _ | exact AV.LeN.nilb rfl | exact AV.LeN.of_eq (by simp [frGet, alg, encInt, encBool, encStr, encSl, List.map_set, TApiHandle.enc, TApiDfItem.enc, TApiStStats.enc, TApiOpAnswer.enc])))) : p := h
theorem rN {p : Prop} (h : p := by
  (repeat' (first | exact trivial | refine And.intro ?_ ?_ | exact Nat.le_of_ble_eq_true rfl | decide))) : p := h
theorem rH {p : Prop} (h : p := by
  (repeat' (first | exact AV.Le.refl _ | exact AV.Le.nils _ | refine AV.Le.agg ?_ | refine AV.Le.tup ?_ | exact trivial | exact rfl | omega | exact AV.Le.of_eq (by simp [frGet, alg, encInt, encBool, encStr, encSl, List.map_set, TApiHandle.enc, TApiDfItem.enc, TApiStStats.enc, TApiOpAnswer.enc]) | refine And.intro ?_ ?_))) : p := h
theorem rG {p : Prop} (h : p := by
  simp (maxSteps := 1000000) only [↓reduceIte, reduceCtorEq, Nat.reduceEqDiff, Nat.reduceLT, Nat.reduceLeDiff, Nat.reduceAdd, Nat.reduceMul, Int.reduceToNat, push_cast, Gives]
  (repeat' (first | exact AV.Le.refl _ | exact AV.Le.nils _ | refine AV.Le.agg ?_ | refine AV.Le.tup ?_ | exact trivial | exact rfl | omega | exact AV.Le.of_eq (by simp [frGet, alg, encInt, encBool, encStr, encSl, List.map_set, TApiHandle.enc, TApiDfItem.enc, TApiStStats.enc, TApiOpAnswer.enc]) | refine And.intro ?_ ?_))) : p := h
theorem rW {q k p : Prop} (f : q) (hK : k) (h : q → k → p := by
  intro f hK
  simp (maxSteps := 1000000) only [↓reduceIte, reduceCtorEq, Nat.reduceEqDiff, Nat.reduceLT, Nat.reduceLeDiff, Nat.reduceAdd, Nat.reduceMul, Int.reduceToNat, push_cast, ↓f]
  try simp only [↓f] at hK
  all_goals (repeat' (first | assumption | refine And.intro ?_ ?_ | exact Nat.le_refl _ | omega | (intro _) | (simp; done)))) : p := h f hK
theorem rWc {q t k p : Prop} (f : q) (c : t) (hK : k) (h : q → t → k → p := by
  intro f c hK
  simp (maxSteps := 1000000) only [↓reduceIte, reduceCtorEq, Nat.reduceEqDiff, Nat.reduceLT, Nat.reduceLeDiff, Nat.reduceAdd, Nat.reduceMul, Int.reduceToNat, push_cast, ↓f]
  try simp only [↓f] at hK
  all_goals (repeat' (first | assumption | refine And.intro ?_ ?_ | exact Nat.le_refl _ | omega | (intro _) | (simp; done)))) : p := h f c hK
theorem rWg {q r k p : Prop} (f : q) (g : r) (hK : k) (h : q → r → k → p := by
  intro f g hK
  simp (maxSteps := 1000000) only [↓reduceIte, reduceCtorEq, Nat.reduceEqDiff, Nat.reduceLT, Nat.reduceLeDiff, Nat.reduceAdd, Nat.reduceMul, Int.reduceToNat, push_cast, g, ↓f]
  try simp only [↓f] at hK
  all_goals (repeat' (first | assumption | refine And.intro ?_ ?_ | exact Nat.le_refl _ | omega | (intro _) | (simp; done)))) : p := h f g hK
theorem rWgc {q r t k p : Prop} (f : q) (g : r) (c : t) (hK : k) (h : q → r → t → k → p := by
  intro f g c hK
  simp (maxSteps := 1000000) only [↓reduceIte, reduceCtorEq, Nat.reduceEqDiff, Nat.reduceLT, Nat.reduceLeDiff, Nat.reduceAdd, Nat.reduceMul, Int.reduceToNat, push_cast, g, ↓f]
  try simp only [↓f] at hK
  all_goals (repeat' (first | assumption | refine And.intro ?_ ?_ | exact Nat.le_refl _ | omega | (intro _) | (simp; done)))) : p := h f g c hK
theorem rJ {q p : Prop} (f : q) (h : q → p := by
  intro f
  simp (maxSteps := 1000000) only [↓reduceIte, reduceCtorEq, Nat.reduceEqDiff, Nat.reduceLT, Nat.reduceLeDiff, Nat.reduceAdd, Nat.reduceMul, Int.reduceToNat, push_cast, Gives, f]
  all_goals exact rH) : p := h f
theorem xE [Adr] {P : Program} {nt : Nat} {K : Exit → St → Prop} {c : Code} {s : St} (s2 : St) (h : AWP P nt c K s2) (hn : s.nx ≤ s2.nx := by exact Nat.le_of_ble_eq_true rfl) (hl : LeN [] s s2 := by exact ⟨rF, rE, rfl, rfl, trivial, trivial⟩) : AWP P nt c K s := awp_re [] hn hl h
end Go.T
