/- A text of the proof. -/
import Derived.Test.YtbjmeobodbgdbaaGreatDoorRows
import Derived.Test.YtbjmeobodbgdbaaGreatDoorCards
import Derived.Test.YtbjmeobodbgdbaaGreatDoorTie
import Derived.Test.YtbjmeobodbgdbaaGreatDoorKAs
import Derived.Test.YtbjmeobodbgdbaaGreatDoorKTb
import Derived.Test.YtbjmeobodbgdbaaGreatDoorKAmZe
import Derived.Test.YtbjmeobodbgdbaaGreatDoorKGp
import Derived.Test.YtbjmeobodbgdbaaGreatDoorKGt
import Derived.SevenTiedAt
import Derived.ChangeSame
import Derived.ChangeVars
import Derived.JoinedOf
import Derived.RowKit
import Derived.RowKitTokens
import Derived.LaidLaws
import Derived.LaidHandle
import Derived.Stop.Joined
import Derived.Carry
import Derived.ProofKit
set_option linter.unusedSimpArgs false
set_option linter.unusedVariables false
set_option maxRecDepth 100000
namespace Go.Proofs.YtbjmeobodbgdbaaGreatDoor
open Go.ChangeShapes Go.WideShapes Go.RowKit Go.AM
theorem Tryz.own : ownKnob Tryz.prog.godebug = none := by kernel_rfl
theorem gn1 : Tryz.prog.globalNamed "errors.errorType" = some 1 := by kernel_rfl
theorem gn2 : Tryz.prog.globalNamed "bookend/ops.table" = some 2 := by kernel_rfl
theorem gn3 : Tryz.prog.globalNamed "bookend/debt.errSettled" = some 3 := by kernel_rfl
theorem gn0 : Tryz.prog.globalNamed "bookend/store.errBusy" = some 0 := by kernel_rfl
theorem rtT : (Tryz.prog.cutTypes.find? (·.1 == "internal/reflectlite.rtype")).map (·.2) = some 288 := by kernel_rfl
theorem sizeT : Tryz.prog.types.size = 619 := by kernel_rfl
theorem oneRow : ((List.range 619).filter fun t => Tryz.prog.rowNamed t [101, 114, 114, 111, 114]) = [133] := by kernel_rfl
theorem handleT : typeHandle Tryz.prog 133 = .pointer (some ⟨5, 133, none⟩) := by kernel_rfl
theorem star : "*" ++ "errors.errorString" = "*errors.errorString" := by decide
theorem rowES (u : TypeId) (h : Tryz.prog.typeName? 3 u = some "*errors.errorString") : u = 587 :=
  typeName_ptr_named (nm := "errors.errorString") (by rw [star]; kernel_rfl) (by kernel_rfl) (by decide) u (by rw [star]; exact h)
theorem cellsES : Tryz.prog.cellsOf 607 = 1 := by kernel_rfl
theorem cellsS : Tryz.prog.cellsOf 9 = 1 := by kernel_rfl
theorem ty3 : (Tryz.prog.globals[3]?).map (·.type) = some 133 := by kernel_rfl
theorem ty0 : (Tryz.prog.globals[0]?).map (·.type) = some 133 := by kernel_rfl
theorem ty2 : ((Tryz.prog.globals[2]?).map (·.type)).bind (fun t => undat Tryz.prog 9 t (Rows.laid_bookend_ops_table : DataW Unit)) = some [.str [], .str [], .str [112, 117, 116], .str [107, 118], .str [100, 101, 108], .str [107], .str [98, 97, 116, 99, 104], .str [119], .str [103, 101, 116], .str [104, 107], .str [102, 108, 111, 111, 114], .str [104, 107], .str [99, 101, 105, 108, 105, 110, 103], .str [104, 107], .str [99, 111, 117, 110, 116], .str [104, 114], .str [112, 105, 110], .str [], .str [117, 110, 112, 105, 110], .str [104], .str [111, 112, 101, 110], .str [104, 114], .str [110, 101, 120, 116], .str [104], .str [112, 114, 101, 118], .str [104], .str [115, 104, 117, 116], .str [104], .str [100, 105, 102, 102], .str [104, 111], .str [119, 111, 114, 107], .str [], .str [99, 111, 109, 112, 97, 99, 116], .str [], .str [115, 116, 97, 116, 115], .str []] := by kernel_rfl
theorem laid_of {W : World} (h : laidMetH Tryz.prog [("errors.errorType", Rows.laid_errors_errorType), ("bookend/ops.table", Rows.laid_bookend_ops_table), ("bookend/debt.errSettled", Rows.laid_bookend_debt_errSettled), ("bookend/store.errBusy", Rows.laid_bookend_store_errBusy)] W) :
    ∃ (a3 : Addr) (s3 : ByteArray) (a0 : Addr) (s0 : ByteArray), W.cell? ⟨1, 0, none⟩ = some (.iface 288 (.agg #[.pointer (some ⟨5, 133, none⟩)])) ∧
      (∃ (cs : Array Value) (fuel : Nat) (p : List MemPlace) (t : TypeId), W.var? Tryz.prog "bookend/ops.table" = some cs ∧ (Tryz.prog.globals[2]?).map (·.type) = some t ∧ DataW.trod (fun _ => ()) Tryz.prog W 0 (fun _ => true) false fuel t cs.toList = some (Rows.laid_bookend_ops_table, p)) ∧
      W.cell? ⟨3, 0, none⟩ = some (.iface 587 (.pointer (some a3))) ∧
      W.cell? a3 = some (.string s3) ∧
      s3.data.toList = [115, 101, 116, 116, 108, 101, 100] ∧
      W.cell? ⟨0, 0, none⟩ = some (.iface 587 (.pointer (some a0))) ∧
      W.cell? a0 = some (.string s0) ∧
      s0.data.toList = [98, 117, 115, 121] := by
  have h' : laidMet Tryz.prog [("bookend/ops.table", Rows.laid_bookend_ops_table), ("bookend/debt.errSettled", Rows.laid_bookend_debt_errSettled), ("bookend/store.errBusy", Rows.laid_bookend_store_errBusy)] W ∧ handlesMet Tryz.prog [("errors.errorType", Rows.laid_errors_errorType)] W := h
  obtain ⟨h1, h2⟩ := h'
  obtain ⟨name, u, ty, e1, e2, e3, e4, e5⟩ := h2 _ (List.mem_singleton.2 rfl)
  have en : name = [101, 114, 114, 111, 114] := (Option.some.inj e1).symm
  subst en
  obtain rfl := Option.some.inj (rtT.symm.trans e2)
  have hm : ty ∈ (List.range 619).filter fun t => Tryz.prog.rowNamed t [101, 114, 114, 111, 114] := List.mem_filter.2 ⟨List.mem_range.2 (by rw [← sizeT]; exact e3), e4⟩
  rw [oneRow] at hm
  obtain rfl := List.mem_singleton.1 hm
  rw [handleT] at e5
  have c1 : W.cell? ⟨1, 0, none⟩ = some (.iface 288 (.agg #[.pointer (some ⟨5, 133, none⟩)])) := by simpa using World.var?_cell gn1 e5 0
  obtain ⟨ps, ⟨g2, t2, cs2, f2, p2, q2, hg2, ht2, hv2, hd2, ⟨g3, t3, cs3, f3, p3, q3, hg3, ht3, hv3, hd3, ⟨g0, t0, cs0, f0, p0, q0, hg0, ht0, hv0, hd0, hq, e0⟩, e3⟩, e2⟩, hnd, hrows⟩ := h1
  have hq' : q0 = [] := hq
  subst hq'
  obtain rfl := Option.some.inj (gn0.symm.trans hg0)
  obtain rfl := Option.some.inj (gn3.symm.trans hg3)
  obtain rfl := Option.some.inj (gn2.symm.trans hg2)
  have c2 := (⟨cs2, f2, p2, t2, hv2, ht2, hd2⟩ : ∃ (cs : Array Value) (fuel : Nat) (p : List MemPlace) (t : TypeId), W.var? Tryz.prog "bookend/ops.table" = some cs ∧ (Tryz.prog.globals[2]?).map (·.type) = some t ∧ DataW.trod (fun _ => ()) Tryz.prog W 0 (fun _ => true) false fuel t cs.toList = some (Rows.laid_bookend_ops_table, p))
  subst e0
  subst e3
  subst e2
  obtain rfl := Option.some.inj (ty3.symm.trans ht3)
  obtain ⟨l3⟩ := cs3
  have ok3 : ∀ u v, l3 = [.iface u v] → Value.okWide Tryz.prog W .any 0 u v := fun u v e => by
    subst e
    exact (hrows 3 0 (by simp [MemPlace.row])).2 u v (by simpa using World.var?_cell gn3 hv3 0)
  obtain rfl := Option.some.inj (ty0.symm.trans ht0)
  obtain ⟨l0⟩ := cs0
  have ok0 : ∀ u v, l0 = [.iface u v] → Value.okWide Tryz.prog W .any 0 u v := fun u v e => by
    subst e
    exact (hrows 0 0 (by simp [MemPlace.row])).2 u v (by simpa using World.var?_cell gn0 hv0 0)
  obtain ⟨a3, s3, rfl, hc3, hs3, hz3, rfl⟩ := errorString_of_trod Tryz.underlying133 rowES Tryz.underlying587 Tryz.underlying607 rfl rfl Tryz.underlying9 cellsES cellsS hd3 ok3
  obtain ⟨a0, s0, rfl, hc0, hs0, hz0, rfl⟩ := errorString_of_trod Tryz.underlying133 rowES Tryz.underlying587 Tryz.underlying607 rfl rfl Tryz.underlying9 cellsES cellsS hd0 ok0
  exact ⟨a3, s3, a0, s0, c1, c2, by simpa using World.var?_cell gn3 hv3 0, hc3, hs3, by simpa using World.var?_cell gn0 hv0 0, hc0, hs0⟩
def adF (b3 o3 b0 o0 : Nat) : Nat → Nat := fun k => if k = 999 then 5 else if k = 1256 then b0 else if k = 1200 then b3 else k
def ofF (b3 o3 b0 o0 : Nat) : Nat → Nat := fun k => if k = 1256 then o0 else if k = 1200 then o3 else 0
theorem crel_old [Adr] {W : World} {F : Nat → Prop} {φ : Emb} {a : AV} {l : List AV} {b o : Nat} (h : CRel W F φ (a :: l) b o) : oldF W b := by
  simp only [CRel] at h
  obtain ⟨⟨v, hv, -⟩, -⟩ := h
  exact (cell_old hv).2
theorem bytes_of {s : ByteArray} {l : List UInt8} (h : s.data.toList = l) : Value.string s = .string ⟨l.toArray⟩ := by
  subst h
  simp
theorem addr_of {W : World} {a : Addr} {v : Value} (h : W.cell? a = some v) : (⟨a.block, a.off, none⟩ : Addr) = a := by
  letI : Adr := ⟨fun k => k, fun _ => 0, fun _ => .top⟩
  have := (cell_old h).1
  cases a
  simp_all
theorem gok {W : World} (h : laidMetH Tryz.prog [("errors.errorType", Rows.laid_errors_errorType), ("bookend/ops.table", Rows.laid_bookend_ops_table), ("bookend/debt.errSettled", Rows.laid_bookend_debt_errSettled), ("bookend/store.errBusy", Rows.laid_bookend_store_errBusy)] W) : ∃ b3 o3 b0 o0 : Nat, @GOk (adrOf (adF b3 o3 b0 o0) (ofF b3 o3 b0 o0)) W (oldF W) := by
  obtain ⟨a3, s3, a0, s0, c1, c2, c3, k3, z3, c0, k0, z0⟩ := laid_of h
  refine ⟨a3.block, a3.off, a0.block, a0.off, ?_⟩
  letI : Adr := adrOf (adF a3.block a3.off a0.block a0.off) (ofF a3.block a3.off a0.block a0.off)
  intro g
  match g with
  | 0 =>
    have e : Adr.ad 0 = 0 := rfl
    have f : Adr.of 0 = 0 := rfl
    change VRel W (oldF W) Emb.zero (.gp 0 0 [.iface 587 (.gp 1256 0 [.str [98, 117, 115, 121]])]) (.pointer (some ⟨0, 0, none⟩))
    have e2 : Adr.ad 1256 = a0.block := rfl
    have f2 : Adr.of 1256 = a0.off := rfl
    simp only [VRel, VRels, CRel, e, f, e2, f2, Nat.add_zero, Nat.zero_add, ne_eq, not_true_eq_false, false_implies, and_true, true_and, forall_const]
    exact fun _ => ⟨(cell_old c0).2, _, c0, rfl, _, rfl, by rw [addr_of k0], fun _ => ⟨(cell_old k0).2, _, by rw [addr_of k0]; exact k0, rfl, bytes_of z0⟩⟩
  | 1 =>
    have e : Adr.ad 1 = 1 := rfl
    have f : Adr.of 1 = 0 := rfl
    change VRel W (oldF W) Emb.zero (.gp 1 0 [.iface 288 (.agg [.gp 999 133 []])]) (.pointer (some ⟨1, 0, none⟩))
    have e2 : Adr.ad 999 = 5 := rfl
    have f2 : Adr.of 999 = 0 := rfl
    simp only [VRel, VRels, CRel, e, f, e2, f2, Nat.add_zero, Nat.zero_add, ne_eq, not_true_eq_false, false_implies, and_true, true_and, forall_const]
    exact fun _ => ⟨(cell_old c1).2, _, c1, rfl, _, rfl, [_], rfl, ⟨_, [], rfl, rfl, rfl⟩, by simp [Value.oneCell']⟩
  | 2 =>
    have e : Adr.ad 2 = 2 := rfl
    have f : Adr.of 2 = 0 := rfl
    change VRel W (oldF W) Emb.zero (.gp 2 0 [.str [], .str [], .str [112, 117, 116], .str [107, 118], .str [100, 101, 108], .str [107], .str [98, 97, 116, 99, 104], .str [119], .str [103, 101, 116], .str [104, 107], .str [102, 108, 111, 111, 114], .str [104, 107], .str [99, 101, 105, 108, 105, 110, 103], .str [104, 107], .str [99, 111, 117, 110, 116], .str [104, 114], .str [112, 105, 110], .str [], .str [117, 110, 112, 105, 110], .str [104], .str [111, 112, 101, 110], .str [104, 114], .str [110, 101, 120, 116], .str [104], .str [112, 114, 101, 118], .str [104], .str [115, 104, 117, 116], .str [104], .str [100, 105, 102, 102], .str [104, 111], .str [119, 111, 114, 107], .str [], .str [99, 111, 109, 112, 97, 99, 116], .str [], .str [115, 116, 97, 116, 115], .str []]) (.pointer (some ⟨2, 0, none⟩))
    obtain ⟨cs, fu, p, t, hv, ht, hd⟩ := c2
    have hu := ty2
    rw [ht] at hu
    obtain ⟨q1, q2⟩ := undat_ok (W := W) (F := oldF W) _ _ _ _ _ _ hd hu
    have hcr := laid_cells gn2 hv q1 q2
    rw [VRel, e, f]
    exact ⟨rfl, fun _ => ⟨crel_old hcr, hcr⟩⟩
  | 3 =>
    have e : Adr.ad 3 = 3 := rfl
    have f : Adr.of 3 = 0 := rfl
    change VRel W (oldF W) Emb.zero (.gp 3 0 [.iface 587 (.gp 1200 0 [.str [115, 101, 116, 116, 108, 101, 100]])]) (.pointer (some ⟨3, 0, none⟩))
    have e2 : Adr.ad 1200 = a3.block := rfl
    have f2 : Adr.of 1200 = a3.off := rfl
    simp only [VRel, VRels, CRel, e, f, e2, f2, Nat.add_zero, Nat.zero_add, ne_eq, not_true_eq_false, false_implies, and_true, true_and, forall_const]
    exact fun _ => ⟨(cell_old c3).2, _, c3, rfl, _, rfl, by rw [addr_of k3], fun _ => ⟨(cell_old k3).2, _, by rw [addr_of k3]; exact k3, rfl, bytes_of z3⟩⟩
  | 4 =>
    have e : Adr.ad 4 = 4 := rfl
    have f : Adr.of 4 = 0 := rfl
    change VRel W (oldF W) Emb.zero (.gp 4 0 []) (.pointer (some ⟨4, 0, none⟩))
    rw [VRel, e, f]
    exact ⟨rfl, fun e => absurd rfl e⟩
  | _ + 5 => trivial
noncomputable def lowB : Nat := (World.holding Tryz.prog default ⟨#[], #[], []⟩).heap.size
noncomputable def laidWorld (os : Os) : World :=
  let w0 := World.holding Tryz.prog os ⟨#[.cells #[.string ⟨#[115, 101, 116, 116, 108, 101, 100]⟩] 607, .cells #[.string ⟨#[98, 117, 115, 121]⟩] 607], #[], []⟩
  { w0 with heap := ((((w0.heap.modify 1 fun | .cells _ t frozen => .cells #[.iface 288 (.agg #[.pointer (some ⟨5, 133, none⟩)])] t frozen | o => o).modify 2 fun | .cells _ t frozen => .cells #[.string ⟨#[]⟩, .string ⟨#[]⟩, .string ⟨#[112, 117, 116]⟩, .string ⟨#[107, 118]⟩, .string ⟨#[100, 101, 108]⟩, .string ⟨#[107]⟩, .string ⟨#[98, 97, 116, 99, 104]⟩, .string ⟨#[119]⟩, .string ⟨#[103, 101, 116]⟩, .string ⟨#[104, 107]⟩, .string ⟨#[102, 108, 111, 111, 114]⟩, .string ⟨#[104, 107]⟩, .string ⟨#[99, 101, 105, 108, 105, 110, 103]⟩, .string ⟨#[104, 107]⟩, .string ⟨#[99, 111, 117, 110, 116]⟩, .string ⟨#[104, 114]⟩, .string ⟨#[112, 105, 110]⟩, .string ⟨#[]⟩, .string ⟨#[117, 110, 112, 105, 110]⟩, .string ⟨#[104]⟩, .string ⟨#[111, 112, 101, 110]⟩, .string ⟨#[104, 114]⟩, .string ⟨#[110, 101, 120, 116]⟩, .string ⟨#[104]⟩, .string ⟨#[112, 114, 101, 118]⟩, .string ⟨#[104]⟩, .string ⟨#[115, 104, 117, 116]⟩, .string ⟨#[104]⟩, .string ⟨#[100, 105, 102, 102]⟩, .string ⟨#[104, 111]⟩, .string ⟨#[119, 111, 114, 107]⟩, .string ⟨#[]⟩, .string ⟨#[99, 111, 109, 112, 97, 99, 116]⟩, .string ⟨#[]⟩, .string ⟨#[115, 116, 97, 116, 115]⟩, .string ⟨#[]⟩] t frozen | o => o).modify 3 fun | .cells _ t frozen => .cells #[.iface 587 (.pointer (some ⟨lowB + 0, 0, none⟩))] t frozen | o => o).modify 0 fun | .cells _ t frozen => .cells #[.iface 587 (.pointer (some ⟨lowB + 1, 0, none⟩))] t frozen | o => o) }
theorem laidWorld_met (os : Os) (args : Array Value) : laidMetH Tryz.prog [("errors.errorType", Rows.laid_errors_errorType), ("bookend/ops.table", Rows.laid_bookend_ops_table), ("bookend/debt.errSettled", Rows.laid_bookend_debt_errSettled), ("bookend/store.errBusy", Rows.laid_bookend_store_errBusy)] ((laidWorld os).forCall (fun _ _ => 0) ⟨#[], args, []⟩).memory :=
  laidMetH_of_parts (laidMet_of_run' 12 (by kernel_rfl) (by kernel_rfl)) (by kernel_rfl)
open Go.T
def W3 (x : Int) : Prop := (Lit.int .i64 x).wf = true
theorem shp3 {n : Nat} {x : List AV} (h : Shp Tryz.prog (n + 1) 3 x) : ∃ e : Int, x = (encInt .i64) e ∧ W3 e := by
  obtain ⟨b, rfl, hb⟩ := shp_int (n := n) Tryz.underlying3 h
  exact ⟨b, rfl, hb⟩
def W9 (x : List UInt8) : Prop := x.length ≤ maxLen
theorem shp9 {n : Nat} {x : List AV} (h : Shp Tryz.prog (n + 1) 9 x) : ∃ e : List UInt8, x = encStr e ∧ W9 e := by
  obtain ⟨b, rfl, hb⟩ := shp_string (n := n) Tryz.underlying9 h
  exact ⟨b, rfl, hb⟩
def W4 (x : Bool) : Prop := True
theorem shp4 {n : Nat} {x : List AV} (h : Shp Tryz.prog (n + 1) 4 x) : ∃ e : Bool, x = encBool e ∧ W4 e := by
  obtain ⟨b, rfl⟩ := shp_bool (n := n) Tryz.underlying4 h
  exact ⟨b, rfl, trivial⟩
def W42 (x : TApiKeRange) : Prop := W9 x.Low ∧ W9 x.High ∧ W4 x.Bound
theorem shp42 {n : Nat} {x : List AV} (h : Shp Tryz.prog (n + 2) 42 x) : ∃ e : TApiKeRange, x = TApiKeRange.enc e ∧ W42 e := by
  obtain ⟨_, _, rfl, h0, _, _, rfl, h1, _, _, rfl, h2, rfl⟩ := shp_struct (n := n + 1) Tryz.underlying42 h
  obtain ⟨e0, rfl, w0⟩ := shp9 (n := n + 0) h0
  obtain ⟨e1, rfl, w1⟩ := shp9 (n := n + 0) h1
  obtain ⟨e2, rfl, w2⟩ := shp4 (n := n + 0) h2
  exact ⟨⟨e0, e1, e2⟩, rfl, ⟨w0, w1, w2⟩⟩
def W29 (x : TApiHandle) : Prop := W3 x.Index ∧ W3 x.Gen
theorem shp29 {n : Nat} {x : List AV} (h : Shp Tryz.prog (n + 2) 29 x) : ∃ e : TApiHandle, x = TApiHandle.enc e ∧ W29 e := by
  obtain ⟨_, _, rfl, h0, _, _, rfl, h1, rfl⟩ := shp_struct (n := n + 1) Tryz.underlying29 h
  obtain ⟨e0, rfl, w0⟩ := shp3 (n := n + 0) h0
  obtain ⟨e1, rfl, w1⟩ := shp3 (n := n + 0) h1
  exact ⟨⟨e0, e1⟩, rfl, ⟨w0, w1⟩⟩
def W86 (x : TApiOpWrite) : Prop := W9 x.Key ∧ W9 x.Val ∧ W4 x.Dead
theorem shp86 {n : Nat} {x : List AV} (h : Shp Tryz.prog (n + 2) 86 x) : ∃ e : TApiOpWrite, x = TApiOpWrite.enc e ∧ W86 e := by
  obtain ⟨_, _, rfl, h0, _, _, rfl, h1, _, _, rfl, h2, rfl⟩ := shp_struct (n := n + 1) Tryz.underlying86 h
  obtain ⟨e0, rfl, w0⟩ := shp9 (n := n + 0) h0
  obtain ⟨e1, rfl, w1⟩ := shp9 (n := n + 0) h1
  obtain ⟨e2, rfl, w2⟩ := shp4 (n := n + 0) h2
  exact ⟨⟨e0, e1, e2⟩, rfl, ⟨w0, w1, w2⟩⟩
def W43 (x : List TApiOpWrite) : Prop := x.length ≤ maxLen ∧ ∀ e ∈ x, W86 e
theorem cellsN86 : Tryz.prog.cellsOf 86 = 3 := by kernel_rfl
theorem shp43 {n : Nat} {x : List AV} (h : Shp Tryz.prog (n + 3) 43 x) : ∃ e : List TApiOpWrite, x = (encSl 3 TApiOpWrite.enc) e ∧ W43 e := by
  obtain ⟨es, rfl, hl, h⟩ := shp_slice (n := n + 2) Tryz.underlying43 h
  obtain ⟨l, rfl, hw⟩ := list_of fun y hy => shp86 (n := n) (h y hy)
  exact ⟨l, by rw [cellsN86]; rfl, by simpa using hl, hw⟩
def W45 (x : TApiOpCall) : Prop := W3 x.Kind ∧ W3 x.Grant ∧ W9 x.Key ∧ W9 x.Val ∧ W42 x.Range ∧ W29 x.Handle ∧ W29 x.Other ∧ W43 x.Writes
theorem shp45 {n : Nat} {x : List AV} (h : Shp Tryz.prog (n + 4) 45 x) : ∃ e : TApiOpCall, x = TApiOpCall.enc e ∧ W45 e := by
  obtain ⟨_, _, rfl, h0, _, _, rfl, h1, _, _, rfl, h2, _, _, rfl, h3, _, _, rfl, h4, _, _, rfl, h5, _, _, rfl, h6, _, _, rfl, h7, rfl⟩ := shp_struct (n := n + 3) Tryz.underlying45 h
  obtain ⟨e0, rfl, w0⟩ := shp3 (n := n + 2) h0
  obtain ⟨e1, rfl, w1⟩ := shp3 (n := n + 2) h1
  obtain ⟨e2, rfl, w2⟩ := shp9 (n := n + 2) h2
  obtain ⟨e3, rfl, w3⟩ := shp9 (n := n + 2) h3
  obtain ⟨e4, rfl, w4⟩ := shp42 (n := n + 1) h4
  obtain ⟨e5, rfl, w5⟩ := shp29 (n := n + 1) h5
  obtain ⟨e6, rfl, w6⟩ := shp29 (n := n + 1) h6
  obtain ⟨e7, rfl, w7⟩ := shp43 (n := n + 0) h7
  exact ⟨⟨e0, e1, e2, e3, e4, e5, e6, e7⟩, rfl, ⟨w0, w1, w2, w3, w4, w5, w6, w7⟩⟩
def W22 (x : List TApiOpCall) : Prop := x.length ≤ maxLen ∧ ∀ e ∈ x, W45 e
theorem cellsN45 : Tryz.prog.cellsOf 45 = 12 := by kernel_rfl
theorem shp22 {n : Nat} {x : List AV} (h : Shp Tryz.prog (n + 5) 22 x) : ∃ e : List TApiOpCall, x = (encSl 12 TApiOpCall.enc) e ∧ W22 e := by
  obtain ⟨es, rfl, hl, h⟩ := shp_slice (n := n + 4) Tryz.underlying22 h
  obtain ⟨l, rfl, hw⟩ := list_of fun y hy => shp45 (n := n) (h y hy)
  exact ⟨l, by rw [cellsN45]; rfl, by simpa using hl, hw⟩
def W27 (x : Int) : Prop := (Lit.int .i64 x).wf = true
theorem shp27 {n : Nat} {x : List AV} (h : Shp Tryz.prog (n + 1) 27 x) : ∃ e : Int, x = (encInt .i64) e ∧ W27 e := by
  obtain ⟨b, rfl, hb⟩ := shp_int (n := n) Tryz.underlying27 h
  exact ⟨b, rfl, hb⟩
def W82 (x : TApiDfItem) : Prop := W3 x.Kind ∧ W9 x.Key ∧ W9 x.Old ∧ W9 x.New
theorem shp82 {n : Nat} {x : List AV} (h : Shp Tryz.prog (n + 2) 82 x) : ∃ e : TApiDfItem, x = TApiDfItem.enc e ∧ W82 e := by
  obtain ⟨_, _, rfl, h0, _, _, rfl, h1, _, _, rfl, h2, _, _, rfl, h3, rfl⟩ := shp_struct (n := n + 1) Tryz.underlying82 h
  obtain ⟨e0, rfl, w0⟩ := shp3 (n := n + 0) h0
  obtain ⟨e1, rfl, w1⟩ := shp9 (n := n + 0) h1
  obtain ⟨e2, rfl, w2⟩ := shp9 (n := n + 0) h2
  obtain ⟨e3, rfl, w3⟩ := shp9 (n := n + 0) h3
  exact ⟨⟨e0, e1, e2, e3⟩, rfl, ⟨w0, w1, w2, w3⟩⟩
def W30 (x : List TApiDfItem) : Prop := x.length ≤ maxLen ∧ ∀ e ∈ x, W82 e
theorem cellsN82 : Tryz.prog.cellsOf 82 = 4 := by kernel_rfl
theorem shp30 {n : Nat} {x : List AV} (h : Shp Tryz.prog (n + 3) 30 x) : ∃ e : List TApiDfItem, x = (encSl 4 TApiDfItem.enc) e ∧ W30 e := by
  obtain ⟨es, rfl, hl, h⟩ := shp_slice (n := n + 2) Tryz.underlying30 h
  obtain ⟨l, rfl, hw⟩ := list_of fun y hy => shp82 (n := n) (h y hy)
  exact ⟨l, by rw [cellsN82]; rfl, by simpa using hl, hw⟩
def W2 (x : Int) : Prop := (Lit.int .i64 x).wf = true
theorem shp2 {n : Nat} {x : List AV} (h : Shp Tryz.prog (n + 1) 2 x) : ∃ e : Int, x = (encInt .i64) e ∧ W2 e := by
  obtain ⟨b, rfl, hb⟩ := shp_int (n := n) Tryz.underlying2 h
  exact ⟨b, rfl, hb⟩
def W32 (x : TApiStStats) : Prop := W3 x.Live ∧ W3 x.Entries ∧ W3 x.Dead ∧ W3 x.Buffered ∧ W3 x.Runs ∧ W3 x.Height ∧ W3 x.Jobs ∧ W3 x.Debt ∧ W3 x.Pins ∧ W3 x.Cursors ∧ W3 x.Held ∧ W2 x.Writes ∧ W2 x.Busy ∧ W2 x.Seals ∧ W2 x.Installs ∧ W2 x.Steps ∧ W2 x.Lost
theorem shp32 {n : Nat} {x : List AV} (h : Shp Tryz.prog (n + 2) 32 x) : ∃ e : TApiStStats, x = TApiStStats.enc e ∧ W32 e := by
  obtain ⟨_, _, rfl, h0, _, _, rfl, h1, _, _, rfl, h2, _, _, rfl, h3, _, _, rfl, h4, _, _, rfl, h5, _, _, rfl, h6, _, _, rfl, h7, _, _, rfl, h8, _, _, rfl, h9, _, _, rfl, h10, _, _, rfl, h11, _, _, rfl, h12, _, _, rfl, h13, _, _, rfl, h14, _, _, rfl, h15, _, _, rfl, h16, rfl⟩ := shp_struct (n := n + 1) Tryz.underlying32 h
  obtain ⟨e0, rfl, w0⟩ := shp3 (n := n + 0) h0
  obtain ⟨e1, rfl, w1⟩ := shp3 (n := n + 0) h1
  obtain ⟨e2, rfl, w2⟩ := shp3 (n := n + 0) h2
  obtain ⟨e3, rfl, w3⟩ := shp3 (n := n + 0) h3
  obtain ⟨e4, rfl, w4⟩ := shp3 (n := n + 0) h4
  obtain ⟨e5, rfl, w5⟩ := shp3 (n := n + 0) h5
  obtain ⟨e6, rfl, w6⟩ := shp3 (n := n + 0) h6
  obtain ⟨e7, rfl, w7⟩ := shp3 (n := n + 0) h7
  obtain ⟨e8, rfl, w8⟩ := shp3 (n := n + 0) h8
  obtain ⟨e9, rfl, w9⟩ := shp3 (n := n + 0) h9
  obtain ⟨e10, rfl, w10⟩ := shp3 (n := n + 0) h10
  obtain ⟨e11, rfl, w11⟩ := shp2 (n := n + 0) h11
  obtain ⟨e12, rfl, w12⟩ := shp2 (n := n + 0) h12
  obtain ⟨e13, rfl, w13⟩ := shp2 (n := n + 0) h13
  obtain ⟨e14, rfl, w14⟩ := shp2 (n := n + 0) h14
  obtain ⟨e15, rfl, w15⟩ := shp2 (n := n + 0) h15
  obtain ⟨e16, rfl, w16⟩ := shp2 (n := n + 0) h16
  exact ⟨⟨e0, e1, e2, e3, e4, e5, e6, e7, e8, e9, e10, e11, e12, e13, e14, e15, e16⟩, rfl, ⟨w0, w1, w2, w3, w4, w5, w6, w7, w8, w9, w10, w11, w12, w13, w14, w15, w16⟩⟩
def W34 (x : TApiOpAnswer) : Prop := W27 x.E ∧ W9 x.Key ∧ W9 x.Val ∧ W3 x.N ∧ W29 x.Handle ∧ W30 x.Items ∧ W32 x.Stats
theorem shp34 {n : Nat} {x : List AV} (h : Shp Tryz.prog (n + 4) 34 x) : ∃ e : TApiOpAnswer, x = TApiOpAnswer.enc e ∧ W34 e := by
  obtain ⟨_, _, rfl, h0, _, _, rfl, h1, _, _, rfl, h2, _, _, rfl, h3, _, _, rfl, h4, _, _, rfl, h5, _, _, rfl, h6, rfl⟩ := shp_struct (n := n + 3) Tryz.underlying34 h
  obtain ⟨e0, rfl, w0⟩ := shp27 (n := n + 2) h0
  obtain ⟨e1, rfl, w1⟩ := shp9 (n := n + 2) h1
  obtain ⟨e2, rfl, w2⟩ := shp9 (n := n + 2) h2
  obtain ⟨e3, rfl, w3⟩ := shp3 (n := n + 2) h3
  obtain ⟨e4, rfl, w4⟩ := shp29 (n := n + 1) h4
  obtain ⟨e5, rfl, w5⟩ := shp30 (n := n + 0) h5
  obtain ⟨e6, rfl, w6⟩ := shp32 (n := n + 1) h6
  exact ⟨⟨e0, e1, e2, e3, e4, e5, e6⟩, rfl, ⟨w0, w1, w2, w3, w4, w5, w6⟩⟩
def W23 (x : List TApiOpAnswer) : Prop := x.length ≤ maxLen ∧ ∀ e ∈ x, W34 e
theorem cellsN34 : Tryz.prog.cellsOf 34 = 24 := by kernel_rfl
theorem shp23 {n : Nat} {x : List AV} (h : Shp Tryz.prog (n + 5) 23 x) : ∃ e : List TApiOpAnswer, x = (encSl 24 TApiOpAnswer.enc) e ∧ W23 e := by
  obtain ⟨es, rfl, hl, h⟩ := shp_slice (n := n + 4) Tryz.underlying23 h
  obtain ⟨l, rfl, hw⟩ := list_of fun y hy => shp34 (n := n) (h y hy)
  exact ⟨l, by rw [cellsN34]; rfl, by simpa using hl, hw⟩
theorem Tryz.laidOut : laidOutB Tryz.prog = true := by kernel_rfl
theorem plain22 : plainB Tryz.prog 6 22 = true := by kernel_rfl
theorem plain23 : plainB Tryz.prog 6 23 = true := by kernel_rfl
theorem statsEvents_lifted (hC : ∀ ad off : Nat → Nat, ad 999 = 5 → off 999 = 0 → ∀ (x0 : List TApiOpCall) (x1 : List TApiOpAnswer), W22 x0 → W23 x1 → ∃ blks, @PCall (adrOf ad off) Tryz.prog 3 [.psl 12 (x0.map TApiOpCall.enc), .psl 24 (x1.map TApiOpAnswer.enc)] (.bool true) blks) (os : Os) (started : os.Started) (H : Type) (enc : TypeId × Value → H) :
    ReturnsInHanded {} Tryz.checked os 3 .any (fun w args => (Rows.statsEventsSpec.pre enc Tryz.prog Tryz.f3 [] false w args ∧ laidMetH Tryz.prog [("errors.errorType", Rows.laid_errors_errorType), ("bookend/ops.table", Rows.laid_bookend_ops_table), ("bookend/debt.errSettled", Rows.laid_bookend_debt_errSettled), ("bookend/store.errBusy", Rows.laid_bookend_store_errBusy)] w) ∧ sizedMet enc Tryz.prog Tryz.f3 (OpenSpec.ofChange Rows.statsEventsSpec) false w args)
      (Rows.statsEventsSpec.post enc Tryz.prog Tryz.f3 false true false false) := by
  refine returnsInHanded_of_change_and (C := Tryz.checked) (X := fun w _ => laidMetH Tryz.prog [("errors.errorType", Rows.laid_errors_errorType), ("bookend/ops.table", Rows.laid_bookend_ops_table), ("bookend/debt.errSettled", Rows.laid_bookend_debt_errSettled), ("bookend/store.errBusy", Rows.laid_bookend_store_errBusy)] w) (fun _ _ _ hh h => h.of_heap hh) Tryz.own started (by kernel_rfl) Tryz.func3
    (ChangeSpec.witness_at (enc := enc) (C := Tryz.checked) (os := os) (X := fun w _ => laidMetH Tryz.prog [("errors.errorType", Rows.laid_errors_errorType), ("bookend/ops.table", Rows.laid_bookend_ops_table), ("bookend/debt.errSettled", Rows.laid_bookend_debt_errSettled), ("bookend/store.errBusy", Rows.laid_bookend_store_errBusy)] w) false (laidWorld os) #[.slice none 0 0, .slice none 0 0] 8 rfl (by kernel_rfl) (by kernel_rfl) (by kernel_rfl) (by kernel_rfl) (by kernel_rfl) (laidWorld_met os _)) ?_
  intro W base args ds gs before hval0 hW _ _ hL _
  have hval : ∀ (j : Nat) t v, Tryz.f3.params[j]? = some t → args[j]? = some v → Value.okWide Tryz.prog W .any base t v := hval0
  have hW' := hW
  obtain ⟨p, q, hA0, hV0, rfl, hfz, hnd⟩ := hW
  have hA : DataW.TrodAll enc Tryz.prog W 0 (fun _ => true) true Tryz.f3.params.toList args.toList ds p := hA0
  have hV : DataW.TrodVars enc Tryz.prog W (fun _ => true) [] gs q := hV0
  rw [Tryz.params3] at hA hval
  obtain ⟨v0, vs0, d0, ds0, p0, q0, hargs, rfl, rfl, h0, r0⟩ := trodAll_cons hA
  obtain ⟨v1, vs1, d1, ds1, p1, q1, rfl, rfl, rfl, h1, r1⟩ := trodAll_cons r0
  obtain ⟨rfl, rfl, rfl⟩ := trodAll_nil r1
  obtain rfl : args = #[v0, v1] := by cases args; simp_all
  obtain ⟨rfl, rfl⟩ : gs = [] ∧ q = [] := by
    cases gs with
    | nil => exact ⟨rfl, hV⟩
    | cons g r => exact absurd hV (by intro h; cases h)
  obtain ⟨b3, o3, b0, o0, hgk⟩ := gok hL
  letI : Adr := adrOf (adF b3 o3 b0 o0) (ofF b3 o3 b0 o0)
  obtain ⟨a0, len0, cap0, rfl⟩ := okWide_slice Tryz.underlying22 (hval 0 22 v0 rfl rfl)
  obtain ⟨a1, len1, cap1, rfl⟩ := okWide_slice Tryz.underlying23 (hval 1 23 v1 rfl rfl)
  have k0 := h0
  have lt0 : ∀ x ∈ p0, x.block < W.heap.size := by obtain ⟨m, hm⟩ := k0; exact DataW.trod_lt m _ _ _ hm
  obtain ⟨m0, hm0⟩ := k0
  obtain ⟨as0, s0q, w0, oc0⟩ := dec_ok 6 22 _ _ _ plain22 hm0
  obtain ⟨x0, rfl, y0⟩ := shp22 (n := 1) s0q
  have k1 := h1
  have lt1 : ∀ x ∈ p1, x.block < W.heap.size := by obtain ⟨m, hm⟩ := k1; exact DataW.trod_lt m _ _ _ hm
  obtain ⟨m1, hm1⟩ := k1
  obtain ⟨as1, s1q, w1, oc1⟩ := dec_ok 6 23 _ _ _ plain23 hm1
  obtain ⟨x1, rfl, y1⟩ := shp23 (n := 1) s1q
  clear hA0 hV0 hval0
  obtain ⟨blks, -, hk⟩ := hC (adF b3 o3 b0 o0) (ofF b3 o3 b0 o0) (by simp [adF]) (by simp [ofF]) x0 x1 y0 y1
  have u0 : VRels W (oldF W) Emb.zero [.psl 12 (x0.map TApiOpCall.enc)] [.slice a0 len0 cap0] := w0
  have u1 : VRels W (oldF W) Emb.zero [.psl 24 (x1.map TApiOpAnswer.enc)] [.slice a1 len1 cap1] := w1
  have u : VRels W (oldF W) Emb.zero [.psl 12 (x0.map TApiOpCall.enc), .psl 24 (x1.map TApiOpAnswer.enc)] [.slice a0 len0 cap0, .slice a1 len1 cap1] := (VRels.append u0 u1)
  refine (hk W (oldF W) _ (oldF_ok W) hgk u).mono fun e W' he => ?_
  obtain ⟨v, φ', F', rfl, -, -, hr, hv⟩ := he
  simp only [VRel] at hv
  subst hv
  have bel := hr.below
  have z0 := Below.trod Tryz.laidOut (t := 22) (by kernel_rfl) (of_decide_eq_true (by kernel_rfl)) h0 bel lt0
  have z1 := Below.trod Tryz.laidOut (t := 23) (by kernel_rfl) (of_decide_eq_true (by kernel_rfl)) h1 bel lt1
  exact ⟨_, rfl, _, _, _, [], _, [], hW', trodAll_mk1 (shut_bool Tryz.underlying4 _), ⟨_, _, z0, ⟨_, _, z1, rfl, rfl⟩, rfl⟩, rfl, bel.frame _, fun h => by cases h⟩
theorem j_inPlace : Tryz.prog.inPlace 3 = Rows.statsEventsRow.inPlace := by kernel_rfl
theorem j_unfollowed : Tryz.prog.unfollowed 3 = true := by kernel_rfl
theorem j_recurses : Tryz.prog.recurses 3 = true := by kernel_rfl
theorem j_named : Tryz.prog.varsNamed 3 = Rows.statsEventsRow.named := by kernel_rfl
theorem and_tt {a b : Bool} (h : a = true) (k : b = true) : (a && b) = true := by rw [h, k]; rfl
set_option maxHeartbeats 40000000 in
theorem j_all : joinedFacts Tryz.prog 3 Tryz.f3 Rows.statsEventsSpec Rows.statsEventsRow = true := by
  unfold joinedFacts
  rw [j_inPlace, j_unfollowed, j_recurses, j_named]
  repeat' (with_reducible refine and_tt ?_ ?_)
  all_goals as_aux_lemma => kernel_rfl
theorem j_name : Tryz.prog.funcNamed "bookend/bookendlaw31.StatsEvents" = some 3 := by kernel_rfl
theorem statsEvents_holds (hC : ∀ ad off : Nat → Nat, ad 999 = 5 → off 999 = 0 → ∀ (x0 : List TApiOpCall) (x1 : List TApiOpAnswer), W22 x0 → W23 x1 → ∃ blks, @PCall (adrOf ad off) Tryz.prog 3 [.psl 12 (x0.map TApiOpCall.enc), .psl 24 (x1.map TApiOpAnswer.enc)] (.bool true) blks) : Rows.StatsEventsSaid :=
  OpenClaim.holds_of_wide 3 Tryz.f3 rfl rfl rfl rfl rfl rfl rfl ⟨rfl, rfl, rfl, rfl, rfl⟩ rfl rfl rfl rfl rfl j_name Tryz.func3 j_all
    (of_decide_eq_true (by kernel_rfl)) (by unfold Func.isWrapper; first | (rw [if_pos (by decide +kernel)]; kernel_rfl) | (rw [if_neg (by decide +kernel)]; exact ⟨rfl, rfl⟩))
    (fun os started H enc _ => statsEvents_lifted hC os started H enc)
theorem goes_none {P : Program} (h : (P.funcs.toList.all fun fn => !fn.goes) = true) (f : FuncId) : P.goes f = false := by
  have key : ∀ (g : Nat), (P.funcs[g]?).any Func.goes = false := by
    intro g
    cases hg : P.funcs[g]? with
    | none => rfl
    | some fn =>
      rw [List.all_eq_true] at h
      have := h fn (by rw [← Array.getElem?_toList] at hg; exact List.mem_of_getElem? hg)
      simpa using this
  have hall : P.funcs.any Func.goes = false := by
    rw [Bool.eq_false_iff]
    intro q
    rw [Array.any_eq_true'] at q
    obtain ⟨fn, hm, hq⟩ := q
    rw [List.all_eq_true] at h
    have := h fn (by simpa using hm)
    rw [hq] at this
    cases this
  unfold Program.goes
  rw [hall, Bool.and_false, Bool.or_false, Bool.eq_false_iff]
  intro q
  rw [List.any_eq_true] at q
  obtain ⟨g, -, hq⟩ := q
  rw [key g] at hq
  cases hq
theorem goesBy_none {P : Program} {c : OpenClaim} (h : (P.funcs.toList.all fun fn => !fn.goes) = true) (hs : c.start = .entering) : false = c.goesBy P := by
  unfold OpenClaim.goesBy Program.goesAt Program.goesFrom
  rw [hs]
  cases P.funcNamed c.func with
  | none => rfl
  | some f => simp [goes_none h f]
theorem goes_no : (Tryz.prog.funcs.toList.all fun fn => !fn.goes) = true := by kernel_rfl
theorem statsEvents_card (hC : ∀ ad off : Nat → Nat, ad 999 = 5 → off 999 = 0 → ∀ (x0 : List TApiOpCall) (x1 : List TApiOpAnswer), W22 x0 → W23 x1 → ∃ blks, @PCall (adrOf ad off) Tryz.prog 3 [.psl 12 (x0.map TApiOpCall.enc), .psl 24 (x1.map TApiOpAnswer.enc)] (.bool true) blks) : Rows.StatsEventsCardSaid :=
  Claim7.holds_tied_plain_at .later [] [.handle, .data, .sentinel, .sentinel] true (true, "1474ed841e86d643a80f8ed5c159fdaf2547286a51fb495f6584edcff527633b") true
    (statsEvents_holds hC) (fun _ h => by cases h) (by kernel_rfl) (fun _ h => by cases h) statsEvents_row_tie rfl ⟨rfl, rfl⟩ (by kernel_rfl) rfl
    (fun f fn hf hfn => by
      obtain rfl : f = 3 := Option.some.inj (j_name.symm.trans hf) |>.symm
      obtain rfl : fn = Tryz.f3 := (Option.some.inj (Tryz.func3.symm.trans hfn)).symm
      exact ⟨by kernel_rfl, fun j t ht => by
        rw [Tryz.params3] at ht
        rcases j with _ | j
        · simp at ht; subst ht; exact (show Tryz.prog.wantsStandIn 22 = false by kernel_rfl)
        rcases j with _ | j
        · simp at ht; subst ht; exact (show Tryz.prog.wantsStandIn 23 = false by kernel_rfl)
        simp at ht⟩)
    (goesBy_none goes_no rfl)
end Go.Proofs.YtbjmeobodbgdbaaGreatDoor
