/- A text of the proof. -/
import Derived.Test.YtjmdbbhkgnlmmaaFLk
set_option linter.unusedSimpArgs false
set_option linter.unusedVariables false
namespace Go.Proofs.Ytjmdbbhkgnlmmaa
open Go.ChangeShapes Go.WideShapes Go.ChangeAt Go.RowKit Go.AM Go.T
set_option maxRecDepth 100000
theorem slicesOwn_lifted (key : ∀ (x0 : List (List TApiEntry)) (x1 : Bool) (x2 : T2Uint8), W22 x0 → W4 x1 → W54 x2 → wcall 8 [.psl 1 (x0.map (encSl 4 TApiEntry.enc)), .bool x1, .agg (T2Uint8.enc x2)]) (os : Os) (started : os.Started) (H : Type) (enc : TypeId × Value → H) :
    ReturnsInHanded {} Try.checked os 8 .any (Rows.slicesOwnSpec.pre6 enc Try.prog Try.f8 Rows.slicesOwnRow.domain false) (Rows.slicesOwnSpec.post enc Try.prog Try.f8 false true false false) := by
  refine returnsInHanded_of_change (C := Try.checked) Try.own started (by kernel_rfl) Try.func8
    (ChangeSpec.witness6 (enc := enc) (C := Try.checked) false ⟨#[], #[.slice none 0 0, .bool false, .agg #[.int .u8 0, .int .u8 0]], []⟩ 8 (by kernel_rfl) (by kernel_rfl) (by kernel_rfl) (by kernel_rfl)) ?_
  intro W base args ds gs before hval0 hW hcnd _
  have hval : ∀ (j : Nat) t v, Try.f8.params[j]? = some t → args[j]? = some v → Value.okWide Try.prog W .any base t v := hval0
  have hW' := hW
  obtain ⟨p, q, hA0, hV, rfl, hfz, hnd⟩ := hW
  have hA : DataW.TrodAll enc Try.prog W 0 (fun _ => true) true Try.f8.params.toList args.toList ds p := hA0
  rw [Try.params8] at hA hval
  obtain ⟨v0, vs0, d0, ds0, p0, q0, hargs, rfl, rfl, h0, r0⟩ := trodAll_cons hA
  obtain ⟨v1, vs1, d1, ds1, p1, q1, rfl, rfl, rfl, h1, r1⟩ := trodAll_cons r0
  obtain ⟨v2, vs2, d2, ds2, p2, q2, rfl, rfl, rfl, h2, r2⟩ := trodAll_cons r1
  obtain ⟨rfl, rfl, rfl⟩ := trodAll_nil r2
  obtain rfl : args = #[v0, v1, v2] := by cases args; simp_all
  obtain ⟨rfl, rfl⟩ := trodVars_none hV
  obtain ⟨a0, len0, cap0, rfl⟩ := okWide_slice Try.underlying22 (hval 0 22 v0 rfl rfl)
  obtain ⟨b1, rfl⟩ := okWide_bool Try.underlying4 (hval 1 4 v1 rfl rfl)
  obtain ⟨cs2, rfl, hcs2⟩ := okWide_arr Try.underlying54 (hval 2 54 v2 rfl rfl)
  have k0 := h0
  have lt0 : ∀ x ∈ p0, x.block < W.heap.size := by obtain ⟨m, hm⟩ := k0; exact DataW.trod_lt m _ _ _ hm
  obtain ⟨m0, hm0⟩ := k0
  obtain ⟨as0, s0q, w0, oc0⟩ := dec_ok 5 22 _ _ _ plain22 hm0
  obtain ⟨x0, rfl, y0⟩ := shp22 (n := 1) s0q
  have k1 := h1
  have lt1 : ∀ x ∈ p1, x.block < W.heap.size := by obtain ⟨m, hm⟩ := k1; exact DataW.trod_lt m _ _ _ hm
  obtain ⟨m1, hm1⟩ := k1
  obtain ⟨as1, s1q, w1, oc1⟩ := dec_ok 2 4 _ _ _ plain4 hm1
  obtain ⟨x1, rfl, y1⟩ := shp4 (n := 1) s1q
  have k2 := h2
  have lt2 : ∀ x ∈ p2, x.block < W.heap.size := by obtain ⟨m, hm⟩ := k2; exact DataW.trod_lt m _ _ _ hm
  obtain ⟨m2, hm2⟩ := k2
  obtain ⟨as2, s2q, w2, oc2⟩ := dec_ok 3 54 _ _ _ plain54 hm2
  obtain ⟨x2, rfl, y2⟩ := shp54 (n := 1) s2q
  clear hA0 hval0
  obtain ⟨blks, -, hk⟩ := key x0 x1 x2 y0 y1 y2
  have u0 : VRels W (oldF W) Emb.zero [.psl 1 (x0.map (encSl 4 TApiEntry.enc))] [.slice a0 len0 cap0] := w0
  have u1 : VRels W (oldF W) Emb.zero [.bool x1] [.bool b1] := w1
  have u2 : VRels W (oldF W) Emb.zero [.agg (T2Uint8.enc x2)] [.agg cs2] := ⟨_, [], rfl, ⟨cs2.toList, rfl, w2, oc2⟩, rfl⟩
  have u : VRels W (oldF W) Emb.zero [.psl 1 (x0.map (encSl 4 TApiEntry.enc)), .bool x1, .agg (T2Uint8.enc x2)] [.slice a0 len0 cap0, .bool b1, .agg cs2] := (VRels.append u0 (VRels.append u1 u2))
  refine (hk W (oldF W) _ (oldF_ok W) u).mono fun e W' he => ?_
  obtain ⟨v, φ', F', rfl, -, -, hr, hv⟩ := he
  simp only [VRel] at hv
  subst hv
  have bel := hr.below
  have z0 := Below.trod Try.laidOut (t := 22) (by kernel_rfl) (of_decide_eq_true (by kernel_rfl)) h0 bel lt0
  have z1 := Below.trod Try.laidOut (t := 4) (by kernel_rfl) (of_decide_eq_true (by kernel_rfl)) h1 bel lt1
  have z2 := Below.trod Try.laidOut (t := 54) (by kernel_rfl) (of_decide_eq_true (by kernel_rfl)) h2 bel lt2
  exact ⟨_, rfl, _, _, _, [], _, [], hW', trodAll_mk1 (shut_bool Try.underlying4 _), ⟨_, _, z0, ⟨_, _, z1, ⟨_, _, z2, rfl, rfl⟩, rfl⟩, rfl⟩, rfl, bel.frame _, fun h => by cases h⟩
theorem slicesOwn_over (key : ∀ (x0 : List (List TApiEntry)) (x1 : Bool) (x2 : T2Uint8), W22 x0 → W4 x1 → W54 x2 → wcall 8 [.psl 1 (x0.map (encSl 4 TApiEntry.enc)), .bool x1, .agg (T2Uint8.enc x2)]) : Rows.SlicesOwnSaid :=
  OpenClaim.holds_of_wide 8 Try.f8 rfl rfl rfl rfl rfl rfl rfl ⟨rfl, rfl, rfl, rfl, rfl⟩ rfl rfl rfl rfl rfl (by kernel_rfl) Try.func8 (by kernel_rfl)
    (of_decide_eq_true (by kernel_rfl)) (by unfold Func.isWrapper; first | (rw [if_pos (by decide +kernel)]; kernel_rfl) | (rw [if_neg (by decide +kernel)]; exact ⟨rfl, rfl⟩))
    (fun os started H enc _ => slicesOwn_lifted key os started H enc)
end Go.Proofs.Ytjmdbbhkgnlmmaa
