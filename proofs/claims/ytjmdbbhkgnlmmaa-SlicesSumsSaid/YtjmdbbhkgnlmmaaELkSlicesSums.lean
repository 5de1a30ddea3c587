/- A text of the proof. -/
import Derived.Test.YtjmdbbhkgnlmmaaELk
set_option linter.unusedSimpArgs false
set_option linter.unusedVariables false
namespace Go.Proofs.Ytjmdbbhkgnlmmaa
open Go.ChangeShapes Go.WideShapes Go.ChangeAt Go.RowKit Go.AM Go.T
set_option maxRecDepth 100000
theorem slicesSums_lifted (key : ∀ (x0 : TApiSlState) (x1 : T2Uint8), W35 x0 → W54 x1 → wcall 6 [.agg (TApiSlState.enc x0), .agg (T2Uint8.enc x1)]) (os : Os) (started : os.Started) (H : Type) (enc : TypeId × Value → H) :
    ReturnsInHanded {} Try.checked os 6 .any (Rows.slicesSumsSpec.pre6 enc Try.prog Try.f6 Rows.slicesSumsRow.domain false) (Rows.slicesSumsSpec.post enc Try.prog Try.f6 false true false false) := by
  refine returnsInHanded_of_change (C := Try.checked) Try.own started (by kernel_rfl) Try.func6
    (ChangeSpec.witness6 (enc := enc) (C := Try.checked) false ⟨#[], #[.agg #[.slice none 0 0, .slice none 0 0, .slice none 0 0, .slice none 0 0, .int .i64 0, .bool false, .string ⟨#[]⟩, .bool false, .slice none 0 0, .int .i64 0], .agg #[.int .u8 0, .int .u8 0]], []⟩ 8 (by kernel_rfl) (by kernel_rfl) (by kernel_rfl) (by kernel_rfl)) ?_
  intro W base args ds gs before hval0 hW hcnd _
  have hval : ∀ (j : Nat) t v, Try.f6.params[j]? = some t → args[j]? = some v → Value.okWide Try.prog W .any base t v := hval0
  have hW' := hW
  obtain ⟨p, q, hA0, hV, rfl, hfz, hnd⟩ := hW
  have hA : DataW.TrodAll enc Try.prog W 0 (fun _ => true) true Try.f6.params.toList args.toList ds p := hA0
  rw [Try.params6] at hA hval
  obtain ⟨v0, vs0, d0, ds0, p0, q0, hargs, rfl, rfl, h0, r0⟩ := trodAll_cons hA
  obtain ⟨v1, vs1, d1, ds1, p1, q1, rfl, rfl, rfl, h1, r1⟩ := trodAll_cons r0
  obtain ⟨rfl, rfl, rfl⟩ := trodAll_nil r1
  obtain rfl : args = #[v0, v1] := by cases args; simp_all
  obtain ⟨rfl, rfl⟩ := trodVars_none hV
  obtain ⟨cs0, rfl, hcs0⟩ := okWide_struct Try.underlying35 (hval 0 35 v0 rfl rfl)
  obtain ⟨cs1, rfl, hcs1⟩ := okWide_arr Try.underlying54 (hval 1 54 v1 rfl rfl)
  have k0 := h0
  have lt0 : ∀ x ∈ p0, x.block < W.heap.size := by obtain ⟨m, hm⟩ := k0; exact DataW.trod_lt m _ _ _ hm
  obtain ⟨m0, hm0⟩ := k0
  obtain ⟨as0, s0q, w0, oc0⟩ := dec_ok 7 35 _ _ _ plain35 hm0
  obtain ⟨x0, rfl, y0⟩ := shp35 (n := 1) s0q
  have k1 := h1
  have lt1 : ∀ x ∈ p1, x.block < W.heap.size := by obtain ⟨m, hm⟩ := k1; exact DataW.trod_lt m _ _ _ hm
  obtain ⟨m1, hm1⟩ := k1
  obtain ⟨as1, s1q, w1, oc1⟩ := dec_ok 3 54 _ _ _ plain54 hm1
  obtain ⟨x1, rfl, y1⟩ := shp54 (n := 1) s1q
  clear hA0 hval0
  obtain ⟨blks, -, hk⟩ := key x0 x1 y0 y1
  have u0 : VRels W (oldF W) Emb.zero [.agg (TApiSlState.enc x0)] [.agg cs0] := ⟨_, [], rfl, ⟨cs0.toList, rfl, w0, oc0⟩, rfl⟩
  have u1 : VRels W (oldF W) Emb.zero [.agg (T2Uint8.enc x1)] [.agg cs1] := ⟨_, [], rfl, ⟨cs1.toList, rfl, w1, oc1⟩, rfl⟩
  have u : VRels W (oldF W) Emb.zero [.agg (TApiSlState.enc x0), .agg (T2Uint8.enc x1)] [.agg cs0, .agg cs1] := (VRels.append u0 u1)
  refine (hk W (oldF W) _ (oldF_ok W) u).mono fun e W' he => ?_
  obtain ⟨v, φ', F', rfl, -, -, hr, hv⟩ := he
  simp only [VRel] at hv
  subst hv
  have bel := hr.below
  have z0 := Below.trod Try.laidOut (t := 35) (by kernel_rfl) (of_decide_eq_true (by kernel_rfl)) h0 bel lt0
  have z1 := Below.trod Try.laidOut (t := 54) (by kernel_rfl) (of_decide_eq_true (by kernel_rfl)) h1 bel lt1
  exact ⟨_, rfl, _, _, _, [], _, [], hW', trodAll_mk1 (shut_bool Try.underlying4 _), ⟨_, _, z0, ⟨_, _, z1, rfl, rfl⟩, rfl⟩, rfl, bel.frame _, fun h => by cases h⟩
theorem slicesSums_over (key : ∀ (x0 : TApiSlState) (x1 : T2Uint8), W35 x0 → W54 x1 → wcall 6 [.agg (TApiSlState.enc x0), .agg (T2Uint8.enc x1)]) : Rows.SlicesSumsSaid :=
  OpenClaim.holds_of_wide 6 Try.f6 rfl rfl rfl rfl rfl rfl rfl ⟨rfl, rfl, rfl, rfl, rfl⟩ rfl rfl rfl rfl rfl (by kernel_rfl) Try.func6 (by kernel_rfl)
    (of_decide_eq_true (by kernel_rfl)) (by unfold Func.isWrapper; first | (rw [if_pos (by decide +kernel)]; kernel_rfl) | (rw [if_neg (by decide +kernel)]; exact ⟨rfl, rfl⟩))
    (fun os started H enc _ => slicesSums_lifted key os started H enc)
end Go.Proofs.Ytjmdbbhkgnlmmaa
