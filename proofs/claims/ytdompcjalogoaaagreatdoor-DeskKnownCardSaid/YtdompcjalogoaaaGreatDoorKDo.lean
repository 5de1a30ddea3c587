/- A text of the proof. -/
import Derived.Test.YtdompcjalogoaaaGreatDoorRows
import Derived.Test.YtdompcjalogoaaaGreatDoorCards
import Derived.Test.YtdompcjalogoaaaGreatDoorKTi
import Derived.Test.YtdompcjalogoaaaGreatDoorKDa
import Derived.Test.YtdompcjalogoaaaGreatDoorKDc
import Derived.Test.YtdompcjalogoaaaGreatDoorKAs
import Derived.Test.YtdompcjalogoaaaGreatDoorKTb
import Derived.Test.YtdompcjalogoaaaGreatDoorKAmZe
import Derived.SevenTiedAt
import Derived.ChangeSame
import Derived.ChangeVars
import Derived.JoinedOf
import Derived.RowKit
import Derived.RowKitTokens
import Derived.LaidLaws
import Derived.LaidHandle
import Derived.Stop.Joined
import Derived.Carry
import Derived.ProofKit
set_option linter.unusedSimpArgs false
set_option linter.unusedVariables false
set_option maxRecDepth 100000
namespace Go.Proofs.YtdompcjalogoaaaGreatDoor
open Go.ChangeShapes Go.WideShapes Go.RowKit Go.AM
theorem deskKnown_lifted (hC : ∀ ad off : Nat → Nat, ad 999 = 13 → off 999 = 0 → ∃ blks, @PCall (adrOf ad off) Tryz.prog 3 [] (.bool true) blks) (os : Os) (started : os.Started) (H : Type) (enc : TypeId × Value → H) :
    ReturnsInHanded {} Tryz.checked os 3 .any (fun w args => (Rows.deskKnownSpec.pre enc Tryz.prog Tryz.f3 [] false w args ∧ laidMetH Tryz.prog [("unicode/utf8.first", Rows.laid_unicode_utf8_first), ("unicode/utf8.acceptRanges", Rows.laid_unicode_utf8_acceptRanges), ("strconv.ErrSyntax", Rows.laid_strconv_ErrSyntax), ("strconv.ErrRange", Rows.laid_strconv_ErrRange), ("internal/strconv.uint64pow10", Rows.laid_internal_strconv_uint64pow10), ("math/bits.deBruijn32tab", Rows.laid_math_bits_deBruijn32tab), ("math/bits.deBruijn64tab", Rows.laid_math_bits_deBruijn64tab), ("bookend/words.escapes", Rows.laid_bookend_words_escapes), ("errors.errorType", Rows.laid_errors_errorType), ("bookend/ops.table", Rows.laid_bookend_ops_table), ("bookend/store.errBusy", Rows.laid_bookend_store_errBusy), ("bookend/debt.errSettled", Rows.laid_bookend_debt_errSettled)] w) ∧ sizedMet enc Tryz.prog Tryz.f3 (OpenSpec.ofChange Rows.deskKnownSpec) false w args)
      (Rows.deskKnownSpec.post enc Tryz.prog Tryz.f3 false true false false) := by
  refine returnsInHanded_of_change_and (C := Tryz.checked) (X := fun w _ => laidMetH Tryz.prog [("unicode/utf8.first", Rows.laid_unicode_utf8_first), ("unicode/utf8.acceptRanges", Rows.laid_unicode_utf8_acceptRanges), ("strconv.ErrSyntax", Rows.laid_strconv_ErrSyntax), ("strconv.ErrRange", Rows.laid_strconv_ErrRange), ("internal/strconv.uint64pow10", Rows.laid_internal_strconv_uint64pow10), ("math/bits.deBruijn32tab", Rows.laid_math_bits_deBruijn32tab), ("math/bits.deBruijn64tab", Rows.laid_math_bits_deBruijn64tab), ("bookend/words.escapes", Rows.laid_bookend_words_escapes), ("errors.errorType", Rows.laid_errors_errorType), ("bookend/ops.table", Rows.laid_bookend_ops_table), ("bookend/store.errBusy", Rows.laid_bookend_store_errBusy), ("bookend/debt.errSettled", Rows.laid_bookend_debt_errSettled)] w) (fun _ _ _ hh h => h.of_heap hh) Tryz.own started (by kernel_rfl) Tryz.func3
    (ChangeSpec.witness_at (enc := enc) (C := Tryz.checked) (os := os) (X := fun w _ => laidMetH Tryz.prog [("unicode/utf8.first", Rows.laid_unicode_utf8_first), ("unicode/utf8.acceptRanges", Rows.laid_unicode_utf8_acceptRanges), ("strconv.ErrSyntax", Rows.laid_strconv_ErrSyntax), ("strconv.ErrRange", Rows.laid_strconv_ErrRange), ("internal/strconv.uint64pow10", Rows.laid_internal_strconv_uint64pow10), ("math/bits.deBruijn32tab", Rows.laid_math_bits_deBruijn32tab), ("math/bits.deBruijn64tab", Rows.laid_math_bits_deBruijn64tab), ("bookend/words.escapes", Rows.laid_bookend_words_escapes), ("errors.errorType", Rows.laid_errors_errorType), ("bookend/ops.table", Rows.laid_bookend_ops_table), ("bookend/store.errBusy", Rows.laid_bookend_store_errBusy), ("bookend/debt.errSettled", Rows.laid_bookend_debt_errSettled)] w) false (laidWorld os) #[] 8 rfl (by kernel_rfl) (by kernel_rfl) (by kernel_rfl) (by kernel_rfl) (by kernel_rfl) (laidWorld_met os _)) ?_
  intro W base args ds gs before hval0 hW _ _ hL _
  have hW' := hW
  obtain ⟨p, q, hA0, hV0, rfl, hfz, hnd⟩ := hW
  have hA : DataW.TrodAll enc Tryz.prog W 0 (fun _ => true) true Tryz.f3.params.toList args.toList ds p := hA0
  have hV : DataW.TrodVars enc Tryz.prog W (fun _ => true) [] gs q := hV0
  rw [Tryz.params3] at hA
  obtain ⟨hargs, rfl, rfl⟩ := trodAll_nil hA
  obtain rfl : args = #[] := by cases args; simp_all
  obtain ⟨rfl, rfl⟩ : gs = [] ∧ q = [] := by
    cases gs with
    | nil => exact ⟨rfl, hV⟩
    | cons g r => exact absurd hV (by intro h; cases h)
  obtain ⟨b6, o6, b7, o7, b1, o1, b12, o12, hgk⟩ := gok hL
  letI : Adr := adrOf (adF b6 o6 b7 o7 b1 o1 b12 o12) (ofF b6 o6 b7 o7 b1 o1 b12 o12)
  clear hA0 hV0 hval0
  obtain ⟨blks, -, hk⟩ := hC (adF b6 o6 b7 o7 b1 o1 b12 o12) (ofF b6 o6 b7 o7 b1 o1 b12 o12) (by simp [adF]) (by simp [ofF])
  have u : VRels W (oldF W) Emb.zero [] [] := rfl
  refine (hk W (oldF W) _ (oldF_ok W) hgk u).mono fun e W' he => ?_
  obtain ⟨v, φ', F', rfl, -, -, hr, hv⟩ := he
  simp only [VRel] at hv
  subst hv
  have bel := hr.below
  exact ⟨_, rfl, _, _, _, [], _, [], hW', trodAll_mk1 (shut_bool Tryz.underlying4 _), rfl, rfl, bel.frame _, fun h => by cases h⟩
set_option maxHeartbeats 40000000 in
theorem Tryz.laidOut : laidOutB Tryz.prog = true := by
  unfold laidOutB
  rw [sizeT]
  exact and_tt (and_tt (all_add (a := 800) (b := 87) (all_add (a := 700) (b := 100) (all_add (a := 600) (b := 100) (all_add (a := 500) (b := 100) (all_add (a := 400) (b := 100) (all_add (a := 300) (b := 100) (all_add (a := 200) (b := 100) (all_add (a := 100) (b := 100) (by as_aux_lemma => kernel_rfl) (by as_aux_lemma => kernel_rfl)) (by as_aux_lemma => kernel_rfl)) (by as_aux_lemma => kernel_rfl)) (by as_aux_lemma => kernel_rfl)) (by as_aux_lemma => kernel_rfl)) (by as_aux_lemma => kernel_rfl)) (by as_aux_lemma => kernel_rfl)) (by as_aux_lemma => kernel_rfl)) (by as_aux_lemma => kernel_rfl)) (by as_aux_lemma => kernel_rfl)
set_option maxHeartbeats 40000000 in
theorem mapsR : mapsRowed Tryz.prog = true := by
  unfold mapsRowed
  rw [sizeT]
  exact (all_add (a := 800) (b := 87) (all_add (a := 700) (b := 100) (all_add (a := 600) (b := 100) (all_add (a := 500) (b := 100) (all_add (a := 400) (b := 100) (all_add (a := 300) (b := 100) (all_add (a := 200) (b := 100) (all_add (a := 100) (b := 100) (by as_aux_lemma => kernel_rfl) (by as_aux_lemma => kernel_rfl)) (by as_aux_lemma => kernel_rfl)) (by as_aux_lemma => kernel_rfl)) (by as_aux_lemma => kernel_rfl)) (by as_aux_lemma => kernel_rfl)) (by as_aux_lemma => kernel_rfl)) (by as_aux_lemma => kernel_rfl)) (by as_aux_lemma => kernel_rfl))
set_option maxHeartbeats 40000000 in
theorem plainK : Tryz.prog.plainKeys = true := by
  unfold Program.plainKeys
  rw [sizeT]
  exact (all_add (a := 800) (b := 87) (all_add (a := 700) (b := 100) (all_add (a := 600) (b := 100) (all_add (a := 500) (b := 100) (all_add (a := 400) (b := 100) (all_add (a := 300) (b := 100) (all_add (a := 200) (b := 100) (all_add (a := 100) (b := 100) (by as_aux_lemma => kernel_rfl) (by as_aux_lemma => kernel_rfl)) (by as_aux_lemma => kernel_rfl)) (by as_aux_lemma => kernel_rfl)) (by as_aux_lemma => kernel_rfl)) (by as_aux_lemma => kernel_rfl)) (by as_aux_lemma => kernel_rfl)) (by as_aux_lemma => kernel_rfl)) (by as_aux_lemma => kernel_rfl))
set_option maxHeartbeats 40000000 in
theorem j_all : joinedFacts Tryz.prog 3 Tryz.f3 Rows.deskKnownSpec Rows.deskKnownRow = true := by
  unfold joinedFacts
  rw [j_inPlace, j_unfollowed, j_recurses, j_named, Tryz.laidOut, mapsR, plainK]
  repeat' (with_reducible refine and_tt ?_ ?_)
  all_goals as_aux_lemma => kernel_rfl
theorem j_name : Tryz.prog.funcNamed "bookend/bookendlaw35.DeskKnown" = some 3 := by kernel_rfl
theorem deskKnown_holds (hC : ∀ ad off : Nat → Nat, ad 999 = 13 → off 999 = 0 → ∃ blks, @PCall (adrOf ad off) Tryz.prog 3 [] (.bool true) blks) : Rows.DeskKnownSaid :=
  OpenClaim.holds_of_wide 3 Tryz.f3 rfl rfl rfl rfl rfl rfl rfl ⟨rfl, rfl, rfl, rfl, rfl⟩ rfl rfl rfl rfl rfl j_name Tryz.func3 j_all
    (of_decide_eq_true (by kernel_rfl)) (by unfold Func.isWrapper; first | (rw [if_pos (by decide +kernel)]; kernel_rfl) | (rw [if_neg (by decide +kernel)]; exact ⟨rfl, rfl⟩))
    (fun os started H enc _ => deskKnown_lifted hC os started H enc)
theorem goes_none {P : Program} (h : (P.funcs.toList.all fun fn => !fn.goes) = true) (f : FuncId) : P.goes f = false := by
  have key : ∀ (g : Nat), (P.funcs[g]?).any Func.goes = false := by
    intro g
    cases hg : P.funcs[g]? with
    | none => rfl
    | some fn =>
      rw [List.all_eq_true] at h
      have := h fn (by rw [← Array.getElem?_toList] at hg; exact List.mem_of_getElem? hg)
      simpa using this
  have hall : P.funcs.any Func.goes = false := by
    rw [Bool.eq_false_iff]
    intro q
    rw [Array.any_eq_true'] at q
    obtain ⟨fn, hm, hq⟩ := q
    rw [List.all_eq_true] at h
    have := h fn (by simpa using hm)
    rw [hq] at this
    cases this
  unfold Program.goes
  rw [hall, Bool.and_false, Bool.or_false, Bool.eq_false_iff]
  intro q
  rw [List.any_eq_true] at q
  obtain ⟨g, -, hq⟩ := q
  rw [key g] at hq
  cases hq
theorem goesBy_none {P : Program} {c : OpenClaim} (h : (P.funcs.toList.all fun fn => !fn.goes) = true) (hs : c.start = .entering) : false = c.goesBy P := by
  unfold OpenClaim.goesBy Program.goesAt Program.goesFrom
  rw [hs]
  cases P.funcNamed c.func with
  | none => rfl
  | some f => simp [goes_none h f]
theorem goes_no : (Tryz.prog.funcs.toList.all fun fn => !fn.goes) = true := by kernel_rfl
theorem deskKnown_card (hC : ∀ ad off : Nat → Nat, ad 999 = 13 → off 999 = 0 → ∃ blks, @PCall (adrOf ad off) Tryz.prog 3 [] (.bool true) blks) : Rows.DeskKnownCardSaid :=
  Claim7.holds_tied_plain_at .later [] [.pinned, .data, .sentinel, .sentinel, .data, .data, .data, .data, .handle, .data, .sentinel, .sentinel] true (true, "99893c2a39a7ac49cb4e3349c7ff040aafa40d0e57613fd9226ccbfe651914c4") true
    (deskKnown_holds hC) (fun _ h => by cases h) (by kernel_rfl) (fun _ h => by cases h) deskKnown_row_tie rfl ⟨rfl, rfl⟩ (by kernel_rfl) rfl
    (fun f fn hf hfn => by
      obtain rfl : f = 3 := Option.some.inj (j_name.symm.trans hf) |>.symm
      obtain rfl : fn = Tryz.f3 := (Option.some.inj (Tryz.func3.symm.trans hfn)).symm
      exact ⟨by kernel_rfl, fun j t ht => by
        rw [Tryz.params3] at ht
        simp at ht⟩)
    (goesBy_none goes_no rfl)
end Go.Proofs.YtdompcjalogoaaaGreatDoor
