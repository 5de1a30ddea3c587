import Derived.Test.YtfbaoblejikccaaRows
import Derived.Test.YtfbaoblejikccaaAmZe
import Derived.Test.YtfbaoblejikccaaGp
import Derived.Test.YtfbaoblejikccaaGt
import Derived.ProofKit
import Derived.Carry
set_option linter.unusedSimpArgs false
set_option linter.unusedVariables false
namespace Go.Proofs.Ytfbaoblejikccaa
open Go.ChangeShapes Go.WideShapes Go.ChangeAt Go.RowKit Go.AM

theorem Try.own : ownKnob Try.prog.godebug = none := by kernel_rfl
theorem Try.laidOut : laidOutB Try.prog = true := by kernel_rfl

open Go.T

def WEntry (e : TApiEntry) : Prop := e.Key.length ≤ maxLen ∧ e.Val.length ≤ maxLen ∧ (Lit.int .i64 e.Seq).wf = true
def WRun (l : List TApiEntry) : Prop := l.length ≤ maxLen ∧ ∀ e ∈ l, WEntry e
def WRuns (l : List (List TApiEntry)) : Prop := l.length ≤ maxLen ∧ ∀ e ∈ l, WRun e

set_option maxRecDepth 100000
theorem shp_entry {n : Nat} {x : List AV} (h : Shp Try.prog (n + 2) 41 x) : ∃ e, x = TApiEntry.enc e ∧ WEntry e := by
  obtain ⟨_, _, rfl, h1, _, _, rfl, h2, _, _, rfl, h3, _, _, rfl, h4, rfl⟩ := shp_struct (n := n + 1) Try.underlying41 h
  obtain ⟨k, rfl, hk⟩ := shp_string (n := n) Try.underlying9 h1
  obtain ⟨v, rfl, hv⟩ := shp_string (n := n) Try.underlying9 h2
  obtain ⟨d, rfl⟩ := shp_bool (n := n) Try.underlying4 h3
  obtain ⟨s, rfl, hs⟩ := shp_int (n := n) Try.underlying2 h4
  exact ⟨⟨k, v, d, s⟩, rfl, hk, hv, hs⟩
theorem cells41 : Try.prog.cellsOf 41 = 4 := by kernel_rfl
theorem cells34 : Try.prog.cellsOf 34 = 1 := by kernel_rfl
theorem shp_run {n : Nat} {x : List AV} (h : Shp Try.prog (n + 3) 34 x) : ∃ e, x = encSl 4 TApiEntry.enc e ∧ WRun e := by
  obtain ⟨es, rfl, hl, h⟩ := shp_slice (n := n + 2) Try.underlying34 h
  obtain ⟨l, rfl, hw⟩ := list_of fun y hy => shp_entry (n := n) (h y hy)
  exact ⟨l, by rw [cells41]; rfl, by simpa using hl, hw⟩
theorem shp_runs {n : Nat} {x : List AV} (h : Shp Try.prog (n + 4) 22 x) : ∃ e, x = encSl 1 (encSl 4 TApiEntry.enc) e ∧ WRuns e := by
  obtain ⟨es, rfl, hl, h⟩ := shp_slice (n := n + 3) Try.underlying22 h
  obtain ⟨l, rfl, hw⟩ := list_of fun y hy => shp_run (n := n) (h y hy)
  exact ⟨l, by rw [cells34]; rfl, by simpa using hl, hw⟩

theorem plain22 : plainB Try.prog 5 22 = true := by kernel_rfl

def wcall (f : FuncId) (args : List AV) : Prop := ∃ blks, PCall Try.prog f args (.bool true) blks

/-- a value that is one cell -/
theorem one_cell {P : Program} {W : World} {t : TypeId} {e : TypeId} {v : Value} {r : Reach} {b0 : Nat} (hu : P.underlying t = some (.slice e)) (h : Value.okWide P W r b0 t v) : ∃ a l c, v = .slice a l c := by
  exact okWide_slice hu h

set_option maxRecDepth 100000 in
theorem mergeBegins_lifted (key : ∀ runs, WRuns runs → wcall 3 [.psl 1 (runs.map (encSl 4 TApiEntry.enc))]) (os : Os) (started : os.Started) (H : Type) (enc : TypeId × Value → H) :
    ReturnsInHanded {} Try.checked os 3 .any (Rows.mergeBeginsSpec.pre6 enc Try.prog Try.f3 Rows.mergeBeginsRow.domain false) (Rows.mergeBeginsSpec.post enc Try.prog Try.f3 false true false false) := by
  refine returnsInHanded_of_change (C := Try.checked) Try.own started (by kernel_rfl) Try.func3
    (ChangeSpec.witness6 (enc := enc) (C := Try.checked) false ⟨#[], #[.slice none 0 0], []⟩ 8 (by kernel_rfl) (by kernel_rfl) (by kernel_rfl) (by kernel_rfl)) ?_
  intro W base args ds gs before hval0 hW hcnd _
  have hval : ∀ (j : Nat) t v, Try.f3.params[j]? = some t → args[j]? = some v → Value.okWide Try.prog W .any base t v := hval0
  have hW' := hW
  obtain ⟨p, q, hA0, hV, rfl, hfz, hnd⟩ := hW
  have hA : DataW.TrodAll enc Try.prog W 0 (fun _ => true) true Try.f3.params.toList args.toList ds p := hA0
  rw [Try.params3] at hA hval
  obtain ⟨v0, vs0, d0, ds0, p0, q0, hargs, rfl, rfl, h0, r0⟩ := trodAll_cons hA
  obtain ⟨rfl, rfl, rfl⟩ := trodAll_nil r0
  obtain rfl : args = #[v0] := by cases args; simp_all
  obtain ⟨rfl, rfl⟩ := trodVars_none hV
  obtain ⟨a0, len0, cap0, rfl⟩ := okWide_slice Try.underlying22 (hval 0 22 v0 rfl rfl)
  have k0 := h0
  have lt0 : ∀ x ∈ p0, x.block < W.heap.size := by obtain ⟨m, hm⟩ := k0; exact DataW.trod_lt m _ _ _ hm
  obtain ⟨m0, hm0⟩ := k0
  obtain ⟨as0, s0, w0, -⟩ := dec_ok 5 22 _ _ _ plain22 hm0
  obtain ⟨x0, rfl, y0⟩ := shp_runs (n := 1) s0
  clear hA0 hval0
  obtain ⟨blks, -, hk⟩ := key x0 y0
  refine (hk W (oldF W) _ (oldF_ok W) w0).mono fun e W' he => ?_
  obtain ⟨v, φ', F', rfl, -, -, hr, hv⟩ := he
  simp only [VRel] at hv
  subst hv
  have bel := hr.below
  exact ⟨_, rfl, _, _, _, [], _, [], hW', trodAll_mk1 (shut_bool Try.underlying4 _), (⟨_, _, Below.trod Try.laidOut (by kernel_rfl) (of_decide_eq_true (by kernel_rfl)) h0 bel lt0, rfl, rfl⟩), rfl, bel.frame _, fun h => by cases h⟩

theorem mergeBegins_over (key : ∀ runs, WRuns runs → wcall 3 [.psl 1 (runs.map (encSl 4 TApiEntry.enc))]) : Rows.MergeBeginsSaid :=
  OpenClaim.holds_of_wide 3 Try.f3 rfl rfl rfl rfl rfl rfl rfl ⟨rfl, rfl, rfl, rfl, rfl⟩ rfl rfl rfl rfl rfl (by kernel_rfl) Try.func3 (by kernel_rfl)
    (of_decide_eq_true (by kernel_rfl)) (by unfold Func.isWrapper; first | (rw [if_pos (by decide +kernel)]; kernel_rfl) | (rw [if_neg (by decide +kernel)]; exact ⟨rfl, rfl⟩))
    (fun os started H enc _ => mergeBegins_lifted key os started H enc)
end Go.Proofs.Ytfbaoblejikccaa
