/- A text of the proof. -/
import Derived.Test.YtdompcjalogoaaaGreatDoorKAs
import Derived.Test.YtdompcjalogoaaaGreatDoorKTb
import Derived.Shelf.Strings.OnBuilder
import Derived.KernelRfl
set_option linter.unusedSimpArgs false
set_option linter.unusedVariables false
set_option maxRecDepth 100000
namespace Go.AM
open Go Go.Proofs Go.RowKit
theorem pokL : (Tryz.prog.funcs.toList.all fun f => !(f.name == "runtime.NumGoroutine")) = true := by kernel_rfl
theorem pok : POk Tryz.prog := by
  intro f fn hf e
  have h := pokL
  rw [List.all_eq_true] at h
  have hm : fn ∈ Tryz.prog.funcs.toList := by
    rw [← Array.getElem?_toList] at hf
    exact List.mem_of_getElem? hf
  have := h fn hm
  rw [e] at this
  simp at this
theorem body_as : ∃ c, Tryz.f107.body = some c := ⟨_, rfl⟩
theorem body_is : ∃ c, Tryz.f109.body = some c := ⟨_, rfl⟩
theorem asG_ok (ad off : Nat → Nat) (h1 : ad 999 = 13) (h2 : off 999 = 0) {args : List AV} {s s' : Cs} {v : AV} (h : asG Tryz.prog args s = some (v, s')) :
    @EWP (adrOf ad off) Tryz.prog 107 args (fun r s2 => r = v ∧ Sim s2 s'.st) s.st := by
  letI : Adr := adrOf ad off
  unfold asG at h
  split at h
  rotate_left
  · cases h
  rename_i s0 c b g0 i j
  split at h
  rotate_left
  · cases h
  rename_i b' blk hst
  cases h
  obtain ⟨bd, hbd⟩ := body_as
  refine ⟨ent_of pok Tryz.func107 hbd, fun w0 w F φ vs hm hgl hvs => ?_⟩
  simp only [VRels] at hvs
  obtain ⟨x1, r1, rfl, hx1, x2, r2, rfl, hx2, rfl⟩ := hvs
  simp only [VRel, VRels] at hx1
  obtain ⟨y, rfl, cs, rfl, ⟨cv, cs', rfl, hc, rfl⟩, hone⟩ := hx1
  simp only [VRel] at hx2
  obtain ⟨z, rfl, cb, sz, hb1, rfl⟩ := hx2
  obtain ⟨t, ht⟩ : ∃ t : Addr, t = ⟨cb, i * sz + j, none⟩ := ⟨_, rfl⟩
  have hg : w.cell? ⟨2, 0, none⟩ = some (.iface 494 (.agg #[.pointer (some ⟨13, 218, none⟩)])) := by
    have q := hgl 2
    change VRel w F Emb.zero (.gp 2 0 [.iface 494 (.agg [.gp 999 218 []])]) (.pointer (some ⟨2, 0, none⟩)) at q
    simp only [VRel, VRels, CRel, ne_eq, not_true_eq_false, false_implies, and_true] at q
    obtain ⟨q1, q2⟩ := q
    obtain ⟨-, u, q3, q4, y, rfl, cs, rfl, ⟨v1, v2, rfl, rfl, rfl⟩, -⟩ := q2 (by simp)
    simp only [Value.pointer.injEq, Option.some.injEq, Addr.mk.injEq, and_true] at q1
    obtain ⟨q5, q6⟩ := q1
    rw [← q5, ← q6] at q3
    rw [q3]
    show some (Value.iface 494 (.agg #[.pointer (some ⟨ad 999, off 999 + 218, none⟩)])) = _
    rw [h1, h2]
  obtain ⟨m1, g1⟩ := hm.allocO (.cells #[.pointer (some t)] 223)
  obtain ⟨m2, g2⟩ := m1.allocO (.cells #[.pointer (some ⟨13, 223, none⟩), .pointer (some ⟨w.heap.size, 0, none⟩), .int .u64 150] 358)
  obtain ⟨m3, g3⟩ := m2.allocO (.cells #[.pointer (some ⟨13, 223, none⟩), .pointer (some ⟨w.heap.size, 0, none⟩), .int .u64 150] 358)
  obtain ⟨m4, g4⟩ := m3.allocO (.cells #[cv] 216)
  have g := ((g1.trans g2).trans g3).trans g4
  have hst' : aStore Tryz.prog 216 (.ref b g0 i j) (.agg [c]) (alg s.st.hp) = some (b', blk) := by
    rw [show alg s.st.hp = s.hp.get from alg_toL _]; exact hst
  obtain ⟨w', φ', hrun, hle, hext, hheap⟩ := store_ok (P := Tryz.prog) m4.heap hst' (x := .pointer (some t)) (y := .agg #[cv]) (by simp only [VRel]; exact ⟨cb, sz, g.le.1 _ _ _ hb1, by rw [ht]⟩)
    (by simp only [VRel, VRels]; exact ⟨[cv], rfl, ⟨cv, [], rfl, VRel.mono g.ext (fun _ h => h) g.le _ _ hc, rfl⟩, hone⟩)
  rw [← ht]
  refine (as_hit cv t w w' hg (by simpa [Instr.storeAt, Instr.sureAddr] using hrun)).mono ?_
  rintro e w2 ⟨rfl, rfl⟩
  have gs : Grow w0 _ F φ w2 F φ' := ⟨hle, fun _ h => h, fun _ h => .inl h, hext⟩
  have hh : HRel w0 w2 F φ' (fun b => b < (Cs.st { s with hp := s.hp.put b' blk }).nx) (alg (Cs.st { s with hp := s.hp.put b' blk }).hp) := by
    have e1 : alg (Cs.st { s with hp := s.hp.put b' blk }).hp = fupd (alg s.st.hp) b' (some blk) := by
      show alg (s.hp.put b' blk).toL = fupd (alg s.hp.toL) b' (some blk)
      rw [alg_toL, alg_toL]
      funext k
      rw [Tr.get_put]
      rfl
    rw [e1]; exact hheap
  have mS := m4.step gs hh rfl (Nat.le_refl _)
  exact ⟨_, .bool true, _, φ', F, rfl, mS, g.trans gs.weak, by simp only [VRel], rfl, Sim.refl _⟩
theorem isG_ok (ad off : Nat → Nat) {args : List AV} {s s' : Cs} {v : AV} (h : isG args s = some (v, s')) :
    @EWP (adrOf ad off) Tryz.prog 109 args (fun r s2 => r = v ∧ Sim s2 s'.st) s.st := by
  letI : Adr := adrOf ad off
  unfold isG at h
  split at h
  rotate_left
  · cases h
  rename_i s0 k o cs k' o' cs'
  split at h
  rotate_left
  · cases h
  rename_i e1
  split at h
  rotate_left
  · cases h
  rename_i e2
  cases h
  obtain rfl := Nat.eq_of_beq_eq_true e1
  obtain rfl := Nat.eq_of_beq_eq_true e2
  obtain ⟨bd, hbd⟩ := body_is
  refine ⟨ent_of pok Tryz.func109 hbd, fun w0 w F φ vs hm hgl hvs => ?_⟩
  simp only [VRels, VRel] at hvs
  obtain ⟨x1, r1, rfl, ⟨y1, rfl, rfl, -⟩, x2, r2, rfl, ⟨y2, rfl, rfl, -⟩, rfl⟩ := hvs
  refine (is_same ⟨_, _, none⟩ w).mono ?_
  rintro e w2 ⟨rfl, rfl⟩
  exact ⟨_, .bool true, _, φ, F, rfl, hm, GrowW.refl _ _ _ _, by simp only [VRel], rfl, Sim.refl _⟩
def lays156_ren : Go.Shelf.Ren := ⟨fun | 156 => 130 | 165 => 237 | 166 => 132 | 169 => 134 | 240 => 239 | 241 => 354 | 276 => 355 | 277 => 467 | n => n, fun | 31 => 125 | 9 => 9 | 3 => 3 | 4 => 4 | 0 => 0 | 20 => 20 | 72 => 261 | 76 => 241 | 70 => 258 | 37 => 259 | 75 => 218 | 127 => 407 | 164 => 355 | 5 => 5 | 80 => 194 | n => n, fun | n => n⟩
theorem lays156 : Go.Proofs.Lays.n156 Tryz.prog lays156_ren where
  mixed := by kernel_rfl
  f156 := Tryz.func130.trans (congrArg some (by kernel_rfl))
  f165 := Tryz.func237.trans (congrArg some (by kernel_rfl))
  f166 := Tryz.func132.trans (congrArg some (by kernel_rfl))
  f169 := Tryz.func134.trans (congrArg some (by kernel_rfl))
  f240 := Tryz.func239.trans (congrArg some (by kernel_rfl))
  f241 := Tryz.func354.trans (congrArg some (by kernel_rfl))
  f276 := Tryz.func355.trans (congrArg some (by kernel_rfl))
  f277 := Tryz.func467.trans (congrArg some (by kernel_rfl))
  t0 := Tryz.underlying0
  a0 := Tryz.isAgg0
  z0 := Tryz.sizeOf0
  v0 := Tryz.zeroValue0
  t3 := Tryz.underlying3
  a3 := Tryz.isAgg3
  z3 := Tryz.sizeOf3
  v3 := Tryz.zeroValue3
  t4 := Tryz.underlying4
  a4 := Tryz.isAgg4
  z4 := Tryz.sizeOf4
  v4 := Tryz.zeroValue4
  t9 := Tryz.underlying9
  a9 := Tryz.isAgg9
  z9 := Tryz.sizeOf9
  v9 := Tryz.zeroValue9
  t20 := Tryz.underlying20
  a20 := Tryz.isAgg20
  z20 := Tryz.sizeOf20
  v20 := Tryz.zeroValue20
  t31 := Tryz.underlying125
  a31 := Tryz.isAgg125
  z31 := Tryz.sizeOf125
  v31 := Tryz.zeroValue125
  t37 := Tryz.underlying259
  a37 := Tryz.isAgg259
  z37 := Tryz.sizeOf259
  v37 := Tryz.zeroValue259
  t70 := Tryz.underlying258
  a70 := Tryz.isAgg258
  z70 := Tryz.sizeOf258
  v70 := Tryz.zeroValue258
  t72 := Tryz.underlying261
  a72 := Tryz.isAgg261
  z72 := Tryz.sizeOf261
  v72 := Tryz.zeroValue261
  t75 := Tryz.underlying218
  a75 := Tryz.isAgg218
  z75 := Tryz.sizeOf218
  v75 := Tryz.zeroValue218
  t76 := Tryz.underlying241
  a76 := Tryz.isAgg241
  z76 := Tryz.sizeOf241
  v76 := Tryz.zeroValue241
  t127 := Tryz.underlying407
  a127 := Tryz.isAgg407
  z127 := Tryz.sizeOf407
  v127 := Tryz.zeroValue407
  t164 := Tryz.underlying355
  a164 := Tryz.isAgg355
  z164 := Tryz.sizeOf355
  v164 := Tryz.zeroValue355
theorem extra156 : Builder.Extra Tryz.prog lays156_ren where
  sizeBuilder := by kernel_rfl
  liesBuilder := by kernel_rfl
  t5 := Tryz.underlying5
  a5 := Tryz.isAgg5
  z5 := Tryz.sizeOf5
  v5 := Tryz.zeroValue5
  infoByte := by kernel_rfl
  cellsByte := by kernel_rfl
  sizeByte := by kernel_rfl
  neB5 := by decide
theorem body_join : ∃ c, Tryz.f130.body = some c := ⟨_, rfl⟩
theorem join_ok [Adr] : CKOk Tryz.prog 130 (.pure joinG) := by
  obtain ⟨bd, hbd⟩ := body_join
  exact joinG_ok (ent_of pok Tryz.func130 hbd) fun bk o c xs sep w a b d e g => Any.strings_Join lays156 extra156 bk o c xs sep w a b d e g
theorem base0_ok (ad off : Nat → Nat) (h1 : ad 999 = 13) (h2 : off 999 = 0) : @COk (adrOf ad off) Tryz.prog base0 := by
  letI : Adr := adrOf ad off
  unfold base0
  exact conL_ok ⟨fun args s s2 v h => asG_ok ad off h1 h2 h, fun args s s2 v h => isG_ok ad off h, noG_ok, noG_ok, noG_ok, sameG_ok Tryz.func355 (by kernel_rfl) (by kernel_rfl) (by kernel_rfl) (by kernel_rfl), ibsG_ok Tryz.func523 (by kernel_rfl) (by kernel_rfl) (by kernel_rfl) (by kernel_rfl), cntG_ok Tryz.func447 (by kernel_rfl) (by kernel_rfl) (by kernel_rfl) (by kernel_rfl), join_ok, trivial⟩
end Go.AM
