/- A text of the proof. -/
import Derived.Test.YtjmdbbhkgnlmmaaDLk
set_option linter.unusedSimpArgs false
set_option linter.unusedVariables false
namespace Go.Proofs.Ytjmdbbhkgnlmmaa
open Go.ChangeShapes Go.WideShapes Go.ChangeAt Go.RowKit Go.AM Go.T
set_option maxRecDepth 100000
theorem slicesOutputs_lifted (key : ∀ (x0 : List (List TApiEntry)) (x1 : Bool), W22 x0 → W4 x1 → wcall 7 [.psl 1 (x0.map (encSl 4 TApiEntry.enc)), .bool x1]) (os : Os) (started : os.Started) (H : Type) (enc : TypeId × Value → H) :
    ReturnsInHanded {} Try.checked os 7 .any (Rows.slicesOutputsSpec.pre6 enc Try.prog Try.f7 Rows.slicesOutputsRow.domain false) (Rows.slicesOutputsSpec.post enc Try.prog Try.f7 false true false false) := by
  refine returnsInHanded_of_change (C := Try.checked) Try.own started (by kernel_rfl) Try.func7
    (ChangeSpec.witness6 (enc := enc) (C := Try.checked) false ⟨#[], #[.slice none 0 0, .bool false], []⟩ 8 (by kernel_rfl) (by kernel_rfl) (by kernel_rfl) (by kernel_rfl)) ?_
  intro W base args ds gs before hval0 hW hcnd _
  have hval : ∀ (j : Nat) t v, Try.f7.params[j]? = some t → args[j]? = some v → Value.okWide Try.prog W .any base t v := hval0
  have hW' := hW
  obtain ⟨p, q, hA0, hV, rfl, hfz, hnd⟩ := hW
  have hA : DataW.TrodAll enc Try.prog W 0 (fun _ => true) true Try.f7.params.toList args.toList ds p := hA0
  rw [Try.params7] at hA hval
  obtain ⟨v0, vs0, d0, ds0, p0, q0, hargs, rfl, rfl, h0, r0⟩ := trodAll_cons hA
  obtain ⟨v1, vs1, d1, ds1, p1, q1, rfl, rfl, rfl, h1, r1⟩ := trodAll_cons r0
  obtain ⟨rfl, rfl, rfl⟩ := trodAll_nil r1
  obtain rfl : args = #[v0, v1] := by cases args; simp_all
  obtain ⟨rfl, rfl⟩ := trodVars_none hV
  obtain ⟨a0, len0, cap0, rfl⟩ := okWide_slice Try.underlying22 (hval 0 22 v0 rfl rfl)
  obtain ⟨b1, rfl⟩ := okWide_bool Try.underlying4 (hval 1 4 v1 rfl rfl)
  have k0 := h0
  have lt0 : ∀ x ∈ p0, x.block < W.heap.size := by obtain ⟨m, hm⟩ := k0; exact DataW.trod_lt m _ _ _ hm
  obtain ⟨m0, hm0⟩ := k0
  obtain ⟨as0, s0q, w0, oc0⟩ := dec_ok 5 22 _ _ _ plain22 hm0
  obtain ⟨x0, rfl, y0⟩ := shp22 (n := 1) s0q
  have k1 := h1
  have lt1 : ∀ x ∈ p1, x.block < W.heap.size := by obtain ⟨m, hm⟩ := k1; exact DataW.trod_lt m _ _ _ hm
  obtain ⟨m1, hm1⟩ := k1
  obtain ⟨as1, s1q, w1, oc1⟩ := dec_ok 2 4 _ _ _ plain4 hm1
  obtain ⟨x1, rfl, y1⟩ := shp4 (n := 1) s1q
  clear hA0 hval0
  obtain ⟨blks, -, hk⟩ := key x0 x1 y0 y1
  have u0 : VRels W (oldF W) Emb.zero [.psl 1 (x0.map (encSl 4 TApiEntry.enc))] [.slice a0 len0 cap0] := w0
  have u1 : VRels W (oldF W) Emb.zero [.bool x1] [.bool b1] := w1
  have u : VRels W (oldF W) Emb.zero [.psl 1 (x0.map (encSl 4 TApiEntry.enc)), .bool x1] [.slice a0 len0 cap0, .bool b1] := (VRels.append u0 u1)
  refine (hk W (oldF W) _ (oldF_ok W) u).mono fun e W' he => ?_
  obtain ⟨v, φ', F', rfl, -, -, hr, hv⟩ := he
  simp only [VRel] at hv
  subst hv
  have bel := hr.below
  have z0 := Below.trod Try.laidOut (t := 22) (by kernel_rfl) (of_decide_eq_true (by kernel_rfl)) h0 bel lt0
  have z1 := Below.trod Try.laidOut (t := 4) (by kernel_rfl) (of_decide_eq_true (by kernel_rfl)) h1 bel lt1
  exact ⟨_, rfl, _, _, _, [], _, [], hW', trodAll_mk1 (shut_bool Try.underlying4 _), ⟨_, _, z0, ⟨_, _, z1, rfl, rfl⟩, rfl⟩, rfl, bel.frame _, fun h => by cases h⟩
theorem slicesOutputs_over (key : ∀ (x0 : List (List TApiEntry)) (x1 : Bool), W22 x0 → W4 x1 → wcall 7 [.psl 1 (x0.map (encSl 4 TApiEntry.enc)), .bool x1]) : Rows.SlicesOutputsSaid :=
  OpenClaim.holds_of_wide 7 Try.f7 rfl rfl rfl rfl rfl rfl rfl ⟨rfl, rfl, rfl, rfl, rfl⟩ rfl rfl rfl rfl rfl (by kernel_rfl) Try.func7 (by kernel_rfl)
    (of_decide_eq_true (by kernel_rfl)) (by unfold Func.isWrapper; first | (rw [if_pos (by decide +kernel)]; kernel_rfl) | (rw [if_neg (by decide +kernel)]; exact ⟨rfl, rfl⟩))
    (fun os started H enc _ => slicesOutputs_lifted key os started H enc)
end Go.Proofs.Ytjmdbbhkgnlmmaa
