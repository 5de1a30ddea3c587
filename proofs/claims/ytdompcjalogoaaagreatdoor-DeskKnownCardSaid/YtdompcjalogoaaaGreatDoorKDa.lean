/- A text of the proof. -/
import Derived.Test.YtdompcjalogoaaaGreatDoorRows
import Derived.Test.YtdompcjalogoaaaGreatDoorCards
import Derived.Test.YtdompcjalogoaaaGreatDoorKTi
import Derived.Test.YtdompcjalogoaaaGreatDoorKAs
import Derived.Test.YtdompcjalogoaaaGreatDoorKTb
import Derived.Test.YtdompcjalogoaaaGreatDoorKAmZe
import Derived.SevenTiedAt
import Derived.ChangeSame
import Derived.ChangeVars
import Derived.JoinedOf
import Derived.RowKit
import Derived.RowKitTokens
import Derived.LaidLaws
import Derived.LaidHandle
import Derived.Stop.Joined
import Derived.Carry
import Derived.ProofKit
set_option linter.unusedSimpArgs false
set_option linter.unusedVariables false
set_option maxRecDepth 100000
namespace Go.Proofs.YtdompcjalogoaaaGreatDoor
open Go.ChangeShapes Go.WideShapes Go.RowKit Go.AM
theorem Tryz.own : ownKnob Tryz.prog.godebug = none := by kernel_rfl
theorem gn10 : Tryz.prog.globalNamed "unicode/utf8.first" = some 10 := by kernel_rfl
theorem gn11 : Tryz.prog.globalNamed "unicode/utf8.acceptRanges" = some 11 := by kernel_rfl
theorem gn6 : Tryz.prog.globalNamed "strconv.ErrSyntax" = some 6 := by kernel_rfl
theorem gn7 : Tryz.prog.globalNamed "strconv.ErrRange" = some 7 := by kernel_rfl
theorem gn4 : Tryz.prog.globalNamed "internal/strconv.uint64pow10" = some 4 := by kernel_rfl
theorem gn8 : Tryz.prog.globalNamed "math/bits.deBruijn32tab" = some 8 := by kernel_rfl
theorem gn9 : Tryz.prog.globalNamed "math/bits.deBruijn64tab" = some 9 := by kernel_rfl
theorem gn3 : Tryz.prog.globalNamed "bookend/words.escapes" = some 3 := by kernel_rfl
theorem gn2 : Tryz.prog.globalNamed "errors.errorType" = some 2 := by kernel_rfl
theorem gn0 : Tryz.prog.globalNamed "bookend/ops.table" = some 0 := by kernel_rfl
theorem gn1 : Tryz.prog.globalNamed "bookend/store.errBusy" = some 1 := by kernel_rfl
theorem gn12 : Tryz.prog.globalNamed "bookend/debt.errSettled" = some 12 := by kernel_rfl
theorem rtT : (Tryz.prog.cutTypes.find? (·.1 == "internal/reflectlite.rtype")).map (·.2) = some 494 := by kernel_rfl
theorem sizeT : Tryz.prog.types.size = 887 := by kernel_rfl
theorem oneRow : ((List.range 887).filter fun t => Tryz.prog.rowNamed t [101, 114, 114, 111, 114]) = [218] := by kernel_rfl
theorem handleT : typeHandle Tryz.prog 218 = .pointer (some ⟨13, 218, none⟩) := by kernel_rfl
theorem all_add {p : Nat → Bool} {a b : Nat} (h : (List.range a).all p = true) (k : (List.range b).all (fun i => p (a + i)) = true) : (List.range (a + b)).all p = true := by
  rw [List.range_add, List.all_append, h, List.all_map]
  simpa using k
theorem and_tt {a b : Bool} (h : a = true) (k : b = true) : (a && b) = true := by rw [h, k]; rfl
theorem star : "*" ++ "errors.errorString" = "*errors.errorString" := by decide
set_option maxHeartbeats 40000000 in
theorem rowES (u : TypeId) (h : Tryz.prog.typeName? 3 u = some "*errors.errorString") : u = 719 :=
  typeName_ptr_named (nm := "errors.errorString") (by rw [star, sizeT]; exact (all_add (a := 800) (b := 87) (all_add (a := 700) (b := 100) (all_add (a := 600) (b := 100) (all_add (a := 500) (b := 100) (all_add (a := 400) (b := 100) (all_add (a := 300) (b := 100) (all_add (a := 200) (b := 100) (all_add (a := 100) (b := 100) (by as_aux_lemma => kernel_rfl) (by as_aux_lemma => kernel_rfl)) (by as_aux_lemma => kernel_rfl)) (by as_aux_lemma => kernel_rfl)) (by as_aux_lemma => kernel_rfl)) (by as_aux_lemma => kernel_rfl)) (by as_aux_lemma => kernel_rfl)) (by as_aux_lemma => kernel_rfl)) (by as_aux_lemma => kernel_rfl))) (by rw [sizeT]; exact (all_add (a := 800) (b := 87) (all_add (a := 700) (b := 100) (all_add (a := 600) (b := 100) (all_add (a := 500) (b := 100) (all_add (a := 400) (b := 100) (all_add (a := 300) (b := 100) (all_add (a := 200) (b := 100) (all_add (a := 100) (b := 100) (by as_aux_lemma => kernel_rfl) (by as_aux_lemma => kernel_rfl)) (by as_aux_lemma => kernel_rfl)) (by as_aux_lemma => kernel_rfl)) (by as_aux_lemma => kernel_rfl)) (by as_aux_lemma => kernel_rfl)) (by as_aux_lemma => kernel_rfl)) (by as_aux_lemma => kernel_rfl)) (by as_aux_lemma => kernel_rfl))) (by decide) u (by rw [star]; exact h)
theorem cellsES : Tryz.prog.cellsOf 721 = 1 := by kernel_rfl
theorem cellsS : Tryz.prog.cellsOf 9 = 1 := by kernel_rfl
theorem ty6 : (Tryz.prog.globals[6]?).map (·.type) = some 218 := by kernel_rfl
theorem ty7 : (Tryz.prog.globals[7]?).map (·.type) = some 218 := by kernel_rfl
theorem ty1 : (Tryz.prog.globals[1]?).map (·.type) = some 218 := by kernel_rfl
theorem ty12 : (Tryz.prog.globals[12]?).map (·.type) = some 218 := by kernel_rfl
theorem ty11 : ((Tryz.prog.globals[11]?).map (·.type)).bind (fun t => undat Tryz.prog 9 t (Rows.laid_unicode_utf8_acceptRanges : DataW Unit)) = some [.int .u8 128, .int .u8 191, .int .u8 160, .int .u8 191, .int .u8 128, .int .u8 159, .int .u8 144, .int .u8 191, .int .u8 128, .int .u8 143, .int .u8 0, .int .u8 0, .int .u8 0, .int .u8 0, .int .u8 0, .int .u8 0, .int .u8 0, .int .u8 0, .int .u8 0, .int .u8 0, .int .u8 0, .int .u8 0, .int .u8 0, .int .u8 0, .int .u8 0, .int .u8 0, .int .u8 0, .int .u8 0, .int .u8 0, .int .u8 0, .int .u8 0, .int .u8 0] := by kernel_rfl
theorem ty4 : ((Tryz.prog.globals[4]?).map (·.type)).bind (fun t => undat Tryz.prog 9 t (Rows.laid_internal_strconv_uint64pow10 : DataW Unit)) = some [.int .u64 1, .int .u64 10, .int .u64 100, .int .u64 1000, .int .u64 10000, .int .u64 100000, .int .u64 1000000, .int .u64 10000000, .int .u64 100000000, .int .u64 1000000000, .int .u64 10000000000, .int .u64 100000000000, .int .u64 1000000000000, .int .u64 10000000000000, .int .u64 100000000000000, .int .u64 1000000000000000, .int .u64 10000000000000000, .int .u64 100000000000000000, .int .u64 1000000000000000000, .int .u64 10000000000000000000] := by kernel_rfl
theorem ty8 : ((Tryz.prog.globals[8]?).map (·.type)).bind (fun t => undat Tryz.prog 9 t (Rows.laid_math_bits_deBruijn32tab : DataW Unit)) = some [.int .u8 0, .int .u8 1, .int .u8 28, .int .u8 2, .int .u8 29, .int .u8 14, .int .u8 24, .int .u8 3, .int .u8 30, .int .u8 22, .int .u8 20, .int .u8 15, .int .u8 25, .int .u8 17, .int .u8 4, .int .u8 8, .int .u8 31, .int .u8 27, .int .u8 13, .int .u8 23, .int .u8 21, .int .u8 19, .int .u8 16, .int .u8 7, .int .u8 26, .int .u8 12, .int .u8 18, .int .u8 6, .int .u8 11, .int .u8 5, .int .u8 10, .int .u8 9] := by kernel_rfl
theorem ty9 : ((Tryz.prog.globals[9]?).map (·.type)).bind (fun t => undat Tryz.prog 9 t (Rows.laid_math_bits_deBruijn64tab : DataW Unit)) = some [.int .u8 0, .int .u8 1, .int .u8 56, .int .u8 2, .int .u8 57, .int .u8 49, .int .u8 28, .int .u8 3, .int .u8 61, .int .u8 58, .int .u8 42, .int .u8 50, .int .u8 38, .int .u8 29, .int .u8 17, .int .u8 4, .int .u8 62, .int .u8 47, .int .u8 59, .int .u8 36, .int .u8 45, .int .u8 43, .int .u8 51, .int .u8 22, .int .u8 53, .int .u8 39, .int .u8 33, .int .u8 30, .int .u8 24, .int .u8 18, .int .u8 12, .int .u8 5, .int .u8 63, .int .u8 55, .int .u8 48, .int .u8 27, .int .u8 60, .int .u8 41, .int .u8 37, .int .u8 16, .int .u8 46, .int .u8 35, .int .u8 44, .int .u8 21, .int .u8 52, .int .u8 32, .int .u8 23, .int .u8 11, .int .u8 54, .int .u8 26, .int .u8 40, .int .u8 15, .int .u8 34, .int .u8 20, .int .u8 31, .int .u8 10, .int .u8 25, .int .u8 14, .int .u8 19, .int .u8 9, .int .u8 13, .int .u8 8, .int .u8 7, .int .u8 6] := by kernel_rfl
theorem ty3 : ((Tryz.prog.globals[3]?).map (·.type)).bind (fun t => undat Tryz.prog 9 t (Rows.laid_bookend_words_escapes : DataW Unit)) = some [.int .u8 34, .int .u8 34, .int .u8 92, .int .u8 92, .int .u8 10, .int .u8 110, .int .u8 13, .int .u8 114, .int .u8 9, .int .u8 116] := by kernel_rfl
theorem ty0 : ((Tryz.prog.globals[0]?).map (·.type)).bind (fun t => undat Tryz.prog 9 t (Rows.laid_bookend_ops_table : DataW Unit)) = some [.str [], .str [], .str [112, 117, 116], .str [107, 118], .str [100, 101, 108], .str [107], .str [98, 97, 116, 99, 104], .str [119], .str [103, 101, 116], .str [104, 107], .str [102, 108, 111, 111, 114], .str [104, 107], .str [99, 101, 105, 108, 105, 110, 103], .str [104, 107], .str [99, 111, 117, 110, 116], .str [104, 114], .str [112, 105, 110], .str [], .str [117, 110, 112, 105, 110], .str [104], .str [111, 112, 101, 110], .str [104, 114], .str [110, 101, 120, 116], .str [104], .str [112, 114, 101, 118], .str [104], .str [115, 104, 117, 116], .str [104], .str [100, 105, 102, 102], .str [104, 111], .str [119, 111, 114, 107], .str [], .str [99, 111, 109, 112, 97, 99, 116], .str [], .str [115, 116, 97, 116, 115], .str []] := by kernel_rfl
theorem laid_of {W : World} (h : laidMetH Tryz.prog [("unicode/utf8.first", Rows.laid_unicode_utf8_first), ("unicode/utf8.acceptRanges", Rows.laid_unicode_utf8_acceptRanges), ("strconv.ErrSyntax", Rows.laid_strconv_ErrSyntax), ("strconv.ErrRange", Rows.laid_strconv_ErrRange), ("internal/strconv.uint64pow10", Rows.laid_internal_strconv_uint64pow10), ("math/bits.deBruijn32tab", Rows.laid_math_bits_deBruijn32tab), ("math/bits.deBruijn64tab", Rows.laid_math_bits_deBruijn64tab), ("bookend/words.escapes", Rows.laid_bookend_words_escapes), ("errors.errorType", Rows.laid_errors_errorType), ("bookend/ops.table", Rows.laid_bookend_ops_table), ("bookend/store.errBusy", Rows.laid_bookend_store_errBusy), ("bookend/debt.errSettled", Rows.laid_bookend_debt_errSettled)] W) :
    ∃ (a6 : Addr) (s6 : ByteArray) (a7 : Addr) (s7 : ByteArray) (a1 : Addr) (s1 : ByteArray) (a12 : Addr) (s12 : ByteArray), W.cell? ⟨2, 0, none⟩ = some (.iface 494 (.agg #[.pointer (some ⟨13, 218, none⟩)])) ∧
      (∃ (cs : Array Value) (fuel : Nat) (p : List MemPlace) (t : TypeId), W.var? Tryz.prog "unicode/utf8.acceptRanges" = some cs ∧ (Tryz.prog.globals[11]?).map (·.type) = some t ∧ DataW.trod (fun _ => ()) Tryz.prog W 0 (fun _ => true) false fuel t cs.toList = some (Rows.laid_unicode_utf8_acceptRanges, p)) ∧
      (∃ (cs : Array Value) (fuel : Nat) (p : List MemPlace) (t : TypeId), W.var? Tryz.prog "internal/strconv.uint64pow10" = some cs ∧ (Tryz.prog.globals[4]?).map (·.type) = some t ∧ DataW.trod (fun _ => ()) Tryz.prog W 0 (fun _ => true) false fuel t cs.toList = some (Rows.laid_internal_strconv_uint64pow10, p)) ∧
      (∃ (cs : Array Value) (fuel : Nat) (p : List MemPlace) (t : TypeId), W.var? Tryz.prog "math/bits.deBruijn32tab" = some cs ∧ (Tryz.prog.globals[8]?).map (·.type) = some t ∧ DataW.trod (fun _ => ()) Tryz.prog W 0 (fun _ => true) false fuel t cs.toList = some (Rows.laid_math_bits_deBruijn32tab, p)) ∧
      (∃ (cs : Array Value) (fuel : Nat) (p : List MemPlace) (t : TypeId), W.var? Tryz.prog "math/bits.deBruijn64tab" = some cs ∧ (Tryz.prog.globals[9]?).map (·.type) = some t ∧ DataW.trod (fun _ => ()) Tryz.prog W 0 (fun _ => true) false fuel t cs.toList = some (Rows.laid_math_bits_deBruijn64tab, p)) ∧
      (∃ (cs : Array Value) (fuel : Nat) (p : List MemPlace) (t : TypeId), W.var? Tryz.prog "bookend/words.escapes" = some cs ∧ (Tryz.prog.globals[3]?).map (·.type) = some t ∧ DataW.trod (fun _ => ()) Tryz.prog W 0 (fun _ => true) false fuel t cs.toList = some (Rows.laid_bookend_words_escapes, p)) ∧
      (∃ (cs : Array Value) (fuel : Nat) (p : List MemPlace) (t : TypeId), W.var? Tryz.prog "bookend/ops.table" = some cs ∧ (Tryz.prog.globals[0]?).map (·.type) = some t ∧ DataW.trod (fun _ => ()) Tryz.prog W 0 (fun _ => true) false fuel t cs.toList = some (Rows.laid_bookend_ops_table, p)) ∧
      W.cell? ⟨6, 0, none⟩ = some (.iface 719 (.pointer (some a6))) ∧
      W.cell? a6 = some (.string s6) ∧
      s6.data.toList = [105, 110, 118, 97, 108, 105, 100, 32, 115, 121, 110, 116, 97, 120] ∧
      W.cell? ⟨7, 0, none⟩ = some (.iface 719 (.pointer (some a7))) ∧
      W.cell? a7 = some (.string s7) ∧
      s7.data.toList = [118, 97, 108, 117, 101, 32, 111, 117, 116, 32, 111, 102, 32, 114, 97, 110, 103, 101] ∧
      W.cell? ⟨1, 0, none⟩ = some (.iface 719 (.pointer (some a1))) ∧
      W.cell? a1 = some (.string s1) ∧
      s1.data.toList = [98, 117, 115, 121] ∧
      W.cell? ⟨12, 0, none⟩ = some (.iface 719 (.pointer (some a12))) ∧
      W.cell? a12 = some (.string s12) ∧
      s12.data.toList = [115, 101, 116, 116, 108, 101, 100] := by
  have h' : laidMet Tryz.prog [("unicode/utf8.first", Rows.laid_unicode_utf8_first), ("unicode/utf8.acceptRanges", Rows.laid_unicode_utf8_acceptRanges), ("strconv.ErrSyntax", Rows.laid_strconv_ErrSyntax), ("strconv.ErrRange", Rows.laid_strconv_ErrRange), ("internal/strconv.uint64pow10", Rows.laid_internal_strconv_uint64pow10), ("math/bits.deBruijn32tab", Rows.laid_math_bits_deBruijn32tab), ("math/bits.deBruijn64tab", Rows.laid_math_bits_deBruijn64tab), ("bookend/words.escapes", Rows.laid_bookend_words_escapes), ("bookend/ops.table", Rows.laid_bookend_ops_table), ("bookend/store.errBusy", Rows.laid_bookend_store_errBusy), ("bookend/debt.errSettled", Rows.laid_bookend_debt_errSettled)] W ∧ handlesMet Tryz.prog [("errors.errorType", Rows.laid_errors_errorType)] W := h
  obtain ⟨h1, h2⟩ := h'
  obtain ⟨name, u, ty, e1, e2, e3, e4, e5⟩ := h2 _ (List.mem_singleton.2 rfl)
  have en : name = [101, 114, 114, 111, 114] := (Option.some.inj e1).symm
  subst en
  obtain rfl := Option.some.inj (rtT.symm.trans e2)
  have hm : ty ∈ (List.range 887).filter fun t => Tryz.prog.rowNamed t [101, 114, 114, 111, 114] := List.mem_filter.2 ⟨List.mem_range.2 (by rw [← sizeT]; exact e3), e4⟩
  rw [oneRow] at hm
  obtain rfl := List.mem_singleton.1 hm
  rw [handleT] at e5
  have c2 : W.cell? ⟨2, 0, none⟩ = some (.iface 494 (.agg #[.pointer (some ⟨13, 218, none⟩)])) := by simpa using World.var?_cell gn2 e5 0
  obtain ⟨ps, ⟨g10, t10, cs10, f10, p10, q10, hg10, ht10, hv10, hd10, ⟨g11, t11, cs11, f11, p11, q11, hg11, ht11, hv11, hd11, ⟨g6, t6, cs6, f6, p6, q6, hg6, ht6, hv6, hd6, ⟨g7, t7, cs7, f7, p7, q7, hg7, ht7, hv7, hd7, ⟨g4, t4, cs4, f4, p4, q4, hg4, ht4, hv4, hd4, ⟨g8, t8, cs8, f8, p8, q8, hg8, ht8, hv8, hd8, ⟨g9, t9, cs9, f9, p9, q9, hg9, ht9, hv9, hd9, ⟨g3, t3, cs3, f3, p3, q3, hg3, ht3, hv3, hd3, ⟨g0, t0, cs0, f0, p0, q0, hg0, ht0, hv0, hd0, ⟨g1, t1, cs1, f1, p1, q1, hg1, ht1, hv1, hd1, ⟨g12, t12, cs12, f12, p12, q12, hg12, ht12, hv12, hd12, hq, e12⟩, e1⟩, e0⟩, e3⟩, e9⟩, e8⟩, e4⟩, e7⟩, e6⟩, e11⟩, e10⟩, hnd, hrows⟩ := h1
  have hq' : q12 = [] := hq
  subst hq'
  obtain rfl := Option.some.inj (gn12.symm.trans hg12)
  obtain rfl := Option.some.inj (gn1.symm.trans hg1)
  obtain rfl := Option.some.inj (gn0.symm.trans hg0)
  obtain rfl := Option.some.inj (gn3.symm.trans hg3)
  obtain rfl := Option.some.inj (gn9.symm.trans hg9)
  obtain rfl := Option.some.inj (gn8.symm.trans hg8)
  obtain rfl := Option.some.inj (gn4.symm.trans hg4)
  obtain rfl := Option.some.inj (gn7.symm.trans hg7)
  obtain rfl := Option.some.inj (gn6.symm.trans hg6)
  obtain rfl := Option.some.inj (gn11.symm.trans hg11)
  obtain rfl := Option.some.inj (gn10.symm.trans hg10)
  have c11 := (⟨cs11, f11, p11, t11, hv11, ht11, hd11⟩ : ∃ (cs : Array Value) (fuel : Nat) (p : List MemPlace) (t : TypeId), W.var? Tryz.prog "unicode/utf8.acceptRanges" = some cs ∧ (Tryz.prog.globals[11]?).map (·.type) = some t ∧ DataW.trod (fun _ => ()) Tryz.prog W 0 (fun _ => true) false fuel t cs.toList = some (Rows.laid_unicode_utf8_acceptRanges, p))
  have c4 := (⟨cs4, f4, p4, t4, hv4, ht4, hd4⟩ : ∃ (cs : Array Value) (fuel : Nat) (p : List MemPlace) (t : TypeId), W.var? Tryz.prog "internal/strconv.uint64pow10" = some cs ∧ (Tryz.prog.globals[4]?).map (·.type) = some t ∧ DataW.trod (fun _ => ()) Tryz.prog W 0 (fun _ => true) false fuel t cs.toList = some (Rows.laid_internal_strconv_uint64pow10, p))
  have c8 := (⟨cs8, f8, p8, t8, hv8, ht8, hd8⟩ : ∃ (cs : Array Value) (fuel : Nat) (p : List MemPlace) (t : TypeId), W.var? Tryz.prog "math/bits.deBruijn32tab" = some cs ∧ (Tryz.prog.globals[8]?).map (·.type) = some t ∧ DataW.trod (fun _ => ()) Tryz.prog W 0 (fun _ => true) false fuel t cs.toList = some (Rows.laid_math_bits_deBruijn32tab, p))
  have c9 := (⟨cs9, f9, p9, t9, hv9, ht9, hd9⟩ : ∃ (cs : Array Value) (fuel : Nat) (p : List MemPlace) (t : TypeId), W.var? Tryz.prog "math/bits.deBruijn64tab" = some cs ∧ (Tryz.prog.globals[9]?).map (·.type) = some t ∧ DataW.trod (fun _ => ()) Tryz.prog W 0 (fun _ => true) false fuel t cs.toList = some (Rows.laid_math_bits_deBruijn64tab, p))
  have c3 := (⟨cs3, f3, p3, t3, hv3, ht3, hd3⟩ : ∃ (cs : Array Value) (fuel : Nat) (p : List MemPlace) (t : TypeId), W.var? Tryz.prog "bookend/words.escapes" = some cs ∧ (Tryz.prog.globals[3]?).map (·.type) = some t ∧ DataW.trod (fun _ => ()) Tryz.prog W 0 (fun _ => true) false fuel t cs.toList = some (Rows.laid_bookend_words_escapes, p))
  have c0 := (⟨cs0, f0, p0, t0, hv0, ht0, hd0⟩ : ∃ (cs : Array Value) (fuel : Nat) (p : List MemPlace) (t : TypeId), W.var? Tryz.prog "bookend/ops.table" = some cs ∧ (Tryz.prog.globals[0]?).map (·.type) = some t ∧ DataW.trod (fun _ => ()) Tryz.prog W 0 (fun _ => true) false fuel t cs.toList = some (Rows.laid_bookend_ops_table, p))
  subst e12
  subst e1
  subst e0
  subst e3
  subst e9
  subst e8
  subst e4
  subst e7
  subst e6
  subst e11
  subst e10
  obtain rfl := Option.some.inj (ty6.symm.trans ht6)
  obtain ⟨l6⟩ := cs6
  have ok6 : ∀ u v, l6 = [.iface u v] → Value.okWide Tryz.prog W .any 0 u v := fun u v e => by
    subst e
    exact (hrows 6 0 (by simp [MemPlace.row])).2 u v (by simpa using World.var?_cell gn6 hv6 0)
  obtain rfl := Option.some.inj (ty7.symm.trans ht7)
  obtain ⟨l7⟩ := cs7
  have ok7 : ∀ u v, l7 = [.iface u v] → Value.okWide Tryz.prog W .any 0 u v := fun u v e => by
    subst e
    exact (hrows 7 0 (by simp [MemPlace.row])).2 u v (by simpa using World.var?_cell gn7 hv7 0)
  obtain rfl := Option.some.inj (ty1.symm.trans ht1)
  obtain ⟨l1⟩ := cs1
  have ok1 : ∀ u v, l1 = [.iface u v] → Value.okWide Tryz.prog W .any 0 u v := fun u v e => by
    subst e
    exact (hrows 1 0 (by simp [MemPlace.row])).2 u v (by simpa using World.var?_cell gn1 hv1 0)
  obtain rfl := Option.some.inj (ty12.symm.trans ht12)
  obtain ⟨l12⟩ := cs12
  have ok12 : ∀ u v, l12 = [.iface u v] → Value.okWide Tryz.prog W .any 0 u v := fun u v e => by
    subst e
    exact (hrows 12 0 (by simp [MemPlace.row])).2 u v (by simpa using World.var?_cell gn12 hv12 0)
  obtain ⟨a6, s6, rfl, hc6, hs6, hz6, rfl⟩ := errorString_of_trod Tryz.underlying218 rowES Tryz.underlying719 Tryz.underlying721 rfl rfl Tryz.underlying9 cellsES cellsS hd6 ok6
  obtain ⟨a7, s7, rfl, hc7, hs7, hz7, rfl⟩ := errorString_of_trod Tryz.underlying218 rowES Tryz.underlying719 Tryz.underlying721 rfl rfl Tryz.underlying9 cellsES cellsS hd7 ok7
  obtain ⟨a1, s1, rfl, hc1, hs1, hz1, rfl⟩ := errorString_of_trod Tryz.underlying218 rowES Tryz.underlying719 Tryz.underlying721 rfl rfl Tryz.underlying9 cellsES cellsS hd1 ok1
  obtain ⟨a12, s12, rfl, hc12, hs12, hz12, rfl⟩ := errorString_of_trod Tryz.underlying218 rowES Tryz.underlying719 Tryz.underlying721 rfl rfl Tryz.underlying9 cellsES cellsS hd12 ok12
  exact ⟨a6, s6, a7, s7, a1, s1, a12, s12, c2, c11, c4, c8, c9, c3, c0, by simpa using World.var?_cell gn6 hv6 0, hc6, hs6, by simpa using World.var?_cell gn7 hv7 0, hc7, hs7, by simpa using World.var?_cell gn1 hv1 0, hc1, hs1, by simpa using World.var?_cell gn12 hv12 0, hc12, hs12⟩
def adF (b6 o6 b7 o7 b1 o1 b12 o12 : Nat) : Nat → Nat := fun k => if k = 999 then 13 else if k = 1472 then b12 else if k = 1528 then b1 else if k = 1152 then b7 else if k = 1208 then b6 else k
def ofF (b6 o6 b7 o7 b1 o1 b12 o12 : Nat) : Nat → Nat := fun k => if k = 1472 then o12 else if k = 1528 then o1 else if k = 1152 then o7 else if k = 1208 then o6 else 0
theorem crel_old [Adr] {W : World} {F : Nat → Prop} {φ : Emb} {a : AV} {l : List AV} {b o : Nat} (h : CRel W F φ (a :: l) b o) : oldF W b := by
  simp only [CRel] at h
  obtain ⟨⟨v, hv, -⟩, -⟩ := h
  exact (cell_old hv).2
theorem bytes_of {s : ByteArray} {l : List UInt8} (h : s.data.toList = l) : Value.string s = .string ⟨l.toArray⟩ := by
  subst h
  simp
theorem addr_of {W : World} {a : Addr} {v : Value} (h : W.cell? a = some v) : (⟨a.block, a.off, none⟩ : Addr) = a := by
  letI : Adr := ⟨fun k => k, fun _ => 0, fun _ => .top⟩
  have := (cell_old h).1
  cases a
  simp_all
theorem gok {W : World} (h : laidMetH Tryz.prog [("unicode/utf8.first", Rows.laid_unicode_utf8_first), ("unicode/utf8.acceptRanges", Rows.laid_unicode_utf8_acceptRanges), ("strconv.ErrSyntax", Rows.laid_strconv_ErrSyntax), ("strconv.ErrRange", Rows.laid_strconv_ErrRange), ("internal/strconv.uint64pow10", Rows.laid_internal_strconv_uint64pow10), ("math/bits.deBruijn32tab", Rows.laid_math_bits_deBruijn32tab), ("math/bits.deBruijn64tab", Rows.laid_math_bits_deBruijn64tab), ("bookend/words.escapes", Rows.laid_bookend_words_escapes), ("errors.errorType", Rows.laid_errors_errorType), ("bookend/ops.table", Rows.laid_bookend_ops_table), ("bookend/store.errBusy", Rows.laid_bookend_store_errBusy), ("bookend/debt.errSettled", Rows.laid_bookend_debt_errSettled)] W) : ∃ b6 o6 b7 o7 b1 o1 b12 o12 : Nat, @GOk (adrOf (adF b6 o6 b7 o7 b1 o1 b12 o12) (ofF b6 o6 b7 o7 b1 o1 b12 o12)) W (oldF W) := by
  obtain ⟨a6, s6, a7, s7, a1, s1, a12, s12, c2, c11, c4, c8, c9, c3, c0, c6, k6, z6, c7, k7, z7, c1, k1, z1, c12, k12, z12⟩ := laid_of h
  refine ⟨a6.block, a6.off, a7.block, a7.off, a1.block, a1.off, a12.block, a12.off, ?_⟩
  letI : Adr := adrOf (adF a6.block a6.off a7.block a7.off a1.block a1.off a12.block a12.off) (ofF a6.block a6.off a7.block a7.off a1.block a1.off a12.block a12.off)
  intro g
  match g with
  | 0 =>
    have e : Adr.ad 0 = 0 := rfl
    have f : Adr.of 0 = 0 := rfl
    change VRel W (oldF W) Emb.zero (.gp 0 0 [.str [], .str [], .str [112, 117, 116], .str [107, 118], .str [100, 101, 108], .str [107], .str [98, 97, 116, 99, 104], .str [119], .str [103, 101, 116], .str [104, 107], .str [102, 108, 111, 111, 114], .str [104, 107], .str [99, 101, 105, 108, 105, 110, 103], .str [104, 107], .str [99, 111, 117, 110, 116], .str [104, 114], .str [112, 105, 110], .str [], .str [117, 110, 112, 105, 110], .str [104], .str [111, 112, 101, 110], .str [104, 114], .str [110, 101, 120, 116], .str [104], .str [112, 114, 101, 118], .str [104], .str [115, 104, 117, 116], .str [104], .str [100, 105, 102, 102], .str [104, 111], .str [119, 111, 114, 107], .str [], .str [99, 111, 109, 112, 97, 99, 116], .str [], .str [115, 116, 97, 116, 115], .str []]) (.pointer (some ⟨0, 0, none⟩))
    obtain ⟨cs, fu, p, t, hv, ht, hd⟩ := c0
    have hu := ty0
    rw [ht] at hu
    obtain ⟨q1, q2⟩ := undat_ok (W := W) (F := oldF W) _ _ _ _ _ _ hd hu
    have hcr := laid_cells gn0 hv q1 q2
    rw [VRel, e, f]
    exact ⟨rfl, fun _ => ⟨crel_old hcr, hcr⟩⟩
  | 1 =>
    have e : Adr.ad 1 = 1 := rfl
    have f : Adr.of 1 = 0 := rfl
    change VRel W (oldF W) Emb.zero (.gp 1 0 [.iface 719 (.gp 1528 0 [.str [98, 117, 115, 121]])]) (.pointer (some ⟨1, 0, none⟩))
    have e2 : Adr.ad 1528 = a1.block := rfl
    have f2 : Adr.of 1528 = a1.off := rfl
    simp only [VRel, VRels, CRel, e, f, e2, f2, Nat.add_zero, Nat.zero_add, ne_eq, not_true_eq_false, false_implies, and_true, true_and, forall_const]
    exact fun _ => ⟨(cell_old c1).2, _, c1, rfl, _, rfl, by rw [addr_of k1], fun _ => ⟨(cell_old k1).2, _, by rw [addr_of k1]; exact k1, rfl, bytes_of z1⟩⟩
  | 2 =>
    have e : Adr.ad 2 = 2 := rfl
    have f : Adr.of 2 = 0 := rfl
    change VRel W (oldF W) Emb.zero (.gp 2 0 [.iface 494 (.agg [.gp 999 218 []])]) (.pointer (some ⟨2, 0, none⟩))
    have e2 : Adr.ad 999 = 13 := rfl
    have f2 : Adr.of 999 = 0 := rfl
    simp only [VRel, VRels, CRel, e, f, e2, f2, Nat.add_zero, Nat.zero_add, ne_eq, not_true_eq_false, false_implies, and_true, true_and, forall_const]
    exact fun _ => ⟨(cell_old c2).2, _, c2, rfl, _, rfl, [_], rfl, ⟨_, [], rfl, rfl, rfl⟩, by simp [Value.oneCell']⟩
  | 3 =>
    have e : Adr.ad 3 = 3 := rfl
    have f : Adr.of 3 = 0 := rfl
    change VRel W (oldF W) Emb.zero (.gp 3 0 [.int .u8 34, .int .u8 34, .int .u8 92, .int .u8 92, .int .u8 10, .int .u8 110, .int .u8 13, .int .u8 114, .int .u8 9, .int .u8 116]) (.pointer (some ⟨3, 0, none⟩))
    obtain ⟨cs, fu, p, t, hv, ht, hd⟩ := c3
    have hu := ty3
    rw [ht] at hu
    obtain ⟨q1, q2⟩ := undat_ok (W := W) (F := oldF W) _ _ _ _ _ _ hd hu
    have hcr := laid_cells gn3 hv q1 q2
    rw [VRel, e, f]
    exact ⟨rfl, fun _ => ⟨crel_old hcr, hcr⟩⟩
  | 4 =>
    have e : Adr.ad 4 = 4 := rfl
    have f : Adr.of 4 = 0 := rfl
    change VRel W (oldF W) Emb.zero (.gp 4 0 [.int .u64 1, .int .u64 10, .int .u64 100, .int .u64 1000, .int .u64 10000, .int .u64 100000, .int .u64 1000000, .int .u64 10000000, .int .u64 100000000, .int .u64 1000000000, .int .u64 10000000000, .int .u64 100000000000, .int .u64 1000000000000, .int .u64 10000000000000, .int .u64 100000000000000, .int .u64 1000000000000000, .int .u64 10000000000000000, .int .u64 100000000000000000, .int .u64 1000000000000000000, .int .u64 10000000000000000000]) (.pointer (some ⟨4, 0, none⟩))
    obtain ⟨cs, fu, p, t, hv, ht, hd⟩ := c4
    have hu := ty4
    rw [ht] at hu
    obtain ⟨q1, q2⟩ := undat_ok (W := W) (F := oldF W) _ _ _ _ _ _ hd hu
    have hcr := laid_cells gn4 hv q1 q2
    rw [VRel, e, f]
    exact ⟨rfl, fun _ => ⟨crel_old hcr, hcr⟩⟩
  | 5 =>
    have e : Adr.ad 5 = 5 := rfl
    have f : Adr.of 5 = 0 := rfl
    change VRel W (oldF W) Emb.zero (.gp 5 0 []) (.pointer (some ⟨5, 0, none⟩))
    rw [VRel, e, f]
    exact ⟨rfl, fun e => absurd rfl e⟩
  | 6 =>
    have e : Adr.ad 6 = 6 := rfl
    have f : Adr.of 6 = 0 := rfl
    change VRel W (oldF W) Emb.zero (.gp 6 0 [.iface 719 (.gp 1208 0 [.str [105, 110, 118, 97, 108, 105, 100, 32, 115, 121, 110, 116, 97, 120]])]) (.pointer (some ⟨6, 0, none⟩))
    have e2 : Adr.ad 1208 = a6.block := rfl
    have f2 : Adr.of 1208 = a6.off := rfl
    simp only [VRel, VRels, CRel, e, f, e2, f2, Nat.add_zero, Nat.zero_add, ne_eq, not_true_eq_false, false_implies, and_true, true_and, forall_const]
    exact fun _ => ⟨(cell_old c6).2, _, c6, rfl, _, rfl, by rw [addr_of k6], fun _ => ⟨(cell_old k6).2, _, by rw [addr_of k6]; exact k6, rfl, bytes_of z6⟩⟩
  | 7 =>
    have e : Adr.ad 7 = 7 := rfl
    have f : Adr.of 7 = 0 := rfl
    change VRel W (oldF W) Emb.zero (.gp 7 0 [.iface 719 (.gp 1152 0 [.str [118, 97, 108, 117, 101, 32, 111, 117, 116, 32, 111, 102, 32, 114, 97, 110, 103, 101]])]) (.pointer (some ⟨7, 0, none⟩))
    have e2 : Adr.ad 1152 = a7.block := rfl
    have f2 : Adr.of 1152 = a7.off := rfl
    simp only [VRel, VRels, CRel, e, f, e2, f2, Nat.add_zero, Nat.zero_add, ne_eq, not_true_eq_false, false_implies, and_true, true_and, forall_const]
    exact fun _ => ⟨(cell_old c7).2, _, c7, rfl, _, rfl, by rw [addr_of k7], fun _ => ⟨(cell_old k7).2, _, by rw [addr_of k7]; exact k7, rfl, bytes_of z7⟩⟩
  | 8 =>
    have e : Adr.ad 8 = 8 := rfl
    have f : Adr.of 8 = 0 := rfl
    change VRel W (oldF W) Emb.zero (.gp 8 0 [.int .u8 0, .int .u8 1, .int .u8 28, .int .u8 2, .int .u8 29, .int .u8 14, .int .u8 24, .int .u8 3, .int .u8 30, .int .u8 22, .int .u8 20, .int .u8 15, .int .u8 25, .int .u8 17, .int .u8 4, .int .u8 8, .int .u8 31, .int .u8 27, .int .u8 13, .int .u8 23, .int .u8 21, .int .u8 19, .int .u8 16, .int .u8 7, .int .u8 26, .int .u8 12, .int .u8 18, .int .u8 6, .int .u8 11, .int .u8 5, .int .u8 10, .int .u8 9]) (.pointer (some ⟨8, 0, none⟩))
    obtain ⟨cs, fu, p, t, hv, ht, hd⟩ := c8
    have hu := ty8
    rw [ht] at hu
    obtain ⟨q1, q2⟩ := undat_ok (W := W) (F := oldF W) _ _ _ _ _ _ hd hu
    have hcr := laid_cells gn8 hv q1 q2
    rw [VRel, e, f]
    exact ⟨rfl, fun _ => ⟨crel_old hcr, hcr⟩⟩
  | 9 =>
    have e : Adr.ad 9 = 9 := rfl
    have f : Adr.of 9 = 0 := rfl
    change VRel W (oldF W) Emb.zero (.gp 9 0 [.int .u8 0, .int .u8 1, .int .u8 56, .int .u8 2, .int .u8 57, .int .u8 49, .int .u8 28, .int .u8 3, .int .u8 61, .int .u8 58, .int .u8 42, .int .u8 50, .int .u8 38, .int .u8 29, .int .u8 17, .int .u8 4, .int .u8 62, .int .u8 47, .int .u8 59, .int .u8 36, .int .u8 45, .int .u8 43, .int .u8 51, .int .u8 22, .int .u8 53, .int .u8 39, .int .u8 33, .int .u8 30, .int .u8 24, .int .u8 18, .int .u8 12, .int .u8 5, .int .u8 63, .int .u8 55, .int .u8 48, .int .u8 27, .int .u8 60, .int .u8 41, .int .u8 37, .int .u8 16, .int .u8 46, .int .u8 35, .int .u8 44, .int .u8 21, .int .u8 52, .int .u8 32, .int .u8 23, .int .u8 11, .int .u8 54, .int .u8 26, .int .u8 40, .int .u8 15, .int .u8 34, .int .u8 20, .int .u8 31, .int .u8 10, .int .u8 25, .int .u8 14, .int .u8 19, .int .u8 9, .int .u8 13, .int .u8 8, .int .u8 7, .int .u8 6]) (.pointer (some ⟨9, 0, none⟩))
    obtain ⟨cs, fu, p, t, hv, ht, hd⟩ := c9
    have hu := ty9
    rw [ht] at hu
    obtain ⟨q1, q2⟩ := undat_ok (W := W) (F := oldF W) _ _ _ _ _ _ hd hu
    have hcr := laid_cells gn9 hv q1 q2
    rw [VRel, e, f]
    exact ⟨rfl, fun _ => ⟨crel_old hcr, hcr⟩⟩
  | 10 =>
    have e : Adr.ad 10 = 10 := rfl
    have f : Adr.of 10 = 0 := rfl
    change VRel W (oldF W) Emb.zero (.gp 10 0 []) (.pointer (some ⟨10, 0, none⟩))
    rw [VRel, e, f]
    exact ⟨rfl, fun e => absurd rfl e⟩
  | 11 =>
    have e : Adr.ad 11 = 11 := rfl
    have f : Adr.of 11 = 0 := rfl
    change VRel W (oldF W) Emb.zero (.gp 11 0 [.int .u8 128, .int .u8 191, .int .u8 160, .int .u8 191, .int .u8 128, .int .u8 159, .int .u8 144, .int .u8 191, .int .u8 128, .int .u8 143, .int .u8 0, .int .u8 0, .int .u8 0, .int .u8 0, .int .u8 0, .int .u8 0, .int .u8 0, .int .u8 0, .int .u8 0, .int .u8 0, .int .u8 0, .int .u8 0, .int .u8 0, .int .u8 0, .int .u8 0, .int .u8 0, .int .u8 0, .int .u8 0, .int .u8 0, .int .u8 0, .int .u8 0, .int .u8 0]) (.pointer (some ⟨11, 0, none⟩))
    obtain ⟨cs, fu, p, t, hv, ht, hd⟩ := c11
    have hu := ty11
    rw [ht] at hu
    obtain ⟨q1, q2⟩ := undat_ok (W := W) (F := oldF W) _ _ _ _ _ _ hd hu
    have hcr := laid_cells gn11 hv q1 q2
    rw [VRel, e, f]
    exact ⟨rfl, fun _ => ⟨crel_old hcr, hcr⟩⟩
  | 12 =>
    have e : Adr.ad 12 = 12 := rfl
    have f : Adr.of 12 = 0 := rfl
    change VRel W (oldF W) Emb.zero (.gp 12 0 [.iface 719 (.gp 1472 0 [.str [115, 101, 116, 116, 108, 101, 100]])]) (.pointer (some ⟨12, 0, none⟩))
    have e2 : Adr.ad 1472 = a12.block := rfl
    have f2 : Adr.of 1472 = a12.off := rfl
    simp only [VRel, VRels, CRel, e, f, e2, f2, Nat.add_zero, Nat.zero_add, ne_eq, not_true_eq_false, false_implies, and_true, true_and, forall_const]
    exact fun _ => ⟨(cell_old c12).2, _, c12, rfl, _, rfl, by rw [addr_of k12], fun _ => ⟨(cell_old k12).2, _, by rw [addr_of k12]; exact k12, rfl, bytes_of z12⟩⟩
  | _ + 13 => trivial
noncomputable def lowB : Nat := (World.holding Tryz.prog default ⟨#[], #[], []⟩).heap.size
def cellsD : Nat → DataW Unit → List Value
  | 0, _ => []
  | n + 1, .agg ds => ds.flatMap (cellsD n)
  | _, .lit (.int k i) => [.int k i]
  | _, .lit (.bool b) => [.bool b]
  | _, .lit (.string s) => [.string ⟨s.toArray⟩]
  | _, _ => []
noncomputable def laidWorld (os : Os) : World :=
  let w0 := World.holding Tryz.prog os ⟨#[.cells #[.string ⟨#[105, 110, 118, 97, 108, 105, 100, 32, 115, 121, 110, 116, 97, 120]⟩] 721, .cells #[.string ⟨#[118, 97, 108, 117, 101, 32, 111, 117, 116, 32, 111, 102, 32, 114, 97, 110, 103, 101]⟩] 721, .cells #[.string ⟨#[98, 117, 115, 121]⟩] 721, .cells #[.string ⟨#[115, 101, 116, 116, 108, 101, 100]⟩] 721], #[], []⟩
  { w0 with heap := ((((((((((((w0.heap.modify 2 fun | .cells _ t frozen => .cells #[.iface 494 (.agg #[.pointer (some ⟨13, 218, none⟩)])] t frozen | o => o).modify 10 fun | .cells _ t frozen => .cells (cellsD 9 Rows.laid_unicode_utf8_first).toArray t frozen | o => o).modify 11 fun | .cells _ t frozen => .cells (cellsD 9 Rows.laid_unicode_utf8_acceptRanges).toArray t frozen | o => o).modify 4 fun | .cells _ t frozen => .cells (cellsD 9 Rows.laid_internal_strconv_uint64pow10).toArray t frozen | o => o).modify 8 fun | .cells _ t frozen => .cells (cellsD 9 Rows.laid_math_bits_deBruijn32tab).toArray t frozen | o => o).modify 9 fun | .cells _ t frozen => .cells (cellsD 9 Rows.laid_math_bits_deBruijn64tab).toArray t frozen | o => o).modify 3 fun | .cells _ t frozen => .cells (cellsD 9 Rows.laid_bookend_words_escapes).toArray t frozen | o => o).modify 0 fun | .cells _ t frozen => .cells (cellsD 9 Rows.laid_bookend_ops_table).toArray t frozen | o => o).modify 6 fun | .cells _ t frozen => .cells #[.iface 719 (.pointer (some ⟨lowB + 0, 0, none⟩))] t frozen | o => o).modify 7 fun | .cells _ t frozen => .cells #[.iface 719 (.pointer (some ⟨lowB + 1, 0, none⟩))] t frozen | o => o).modify 1 fun | .cells _ t frozen => .cells #[.iface 719 (.pointer (some ⟨lowB + 2, 0, none⟩))] t frozen | o => o).modify 12 fun | .cells _ t frozen => .cells #[.iface 719 (.pointer (some ⟨lowB + 3, 0, none⟩))] t frozen | o => o) }
theorem laidWorld_met (os : Os) (args : Array Value) : laidMetH Tryz.prog [("unicode/utf8.first", Rows.laid_unicode_utf8_first), ("unicode/utf8.acceptRanges", Rows.laid_unicode_utf8_acceptRanges), ("strconv.ErrSyntax", Rows.laid_strconv_ErrSyntax), ("strconv.ErrRange", Rows.laid_strconv_ErrRange), ("internal/strconv.uint64pow10", Rows.laid_internal_strconv_uint64pow10), ("math/bits.deBruijn32tab", Rows.laid_math_bits_deBruijn32tab), ("math/bits.deBruijn64tab", Rows.laid_math_bits_deBruijn64tab), ("bookend/words.escapes", Rows.laid_bookend_words_escapes), ("errors.errorType", Rows.laid_errors_errorType), ("bookend/ops.table", Rows.laid_bookend_ops_table), ("bookend/store.errBusy", Rows.laid_bookend_store_errBusy), ("bookend/debt.errSettled", Rows.laid_bookend_debt_errSettled)] ((laidWorld os).forCall (fun _ _ => 0) ⟨#[], args, []⟩).memory :=
  laidMetH_of_parts (laidMet_of_run' 12 (by kernel_rfl) (by kernel_rfl)) (by kernel_rfl)
end Go.Proofs.YtdompcjalogoaaaGreatDoor
