/- A text of the proof. -/
import Derived.Test.YtdompcjalogoaaaGreatDoorKAmO
set_option linter.unusedSimpArgs false
set_option linter.unusedVariables false
namespace Go.AM
open Go Go.RowKit
variable {ε : Bool}
section
variable {P : Program} {w0 w : World} {F : Nat → Prop} {φ : Emb} {η : Heap} {τ : Nat → AV} {nt : Nat} {ds : List Deferred}
def Used (nx : Nat) (D : List Nat) : Nat → Prop := fun b => b < nx ∨ ∃ i, i ∈ D ∧ ∃ m, m < 8 ∧ b = nx + 8 * i + m
structure RInv [Adr] (w0 w : World) (F : Nat → Prop) (φ : Emb) (nx : Nat) (ses : List SE) (η : Heap) (τ : Nat → AV) (nt : Nat) (ds : List Deferred) (D : List Nat) (a : Act) (w' : World) (F' : Nat → Prop) (φ' : Emb) : Prop where
  heap : HRel w0 w' F' φ' (Used nx D) (apsH η (D.map fun i => ses.getD i seZ))
  tmps : TRel w' F' φ' (apsT τ (D.map fun i => ses.getD i seZ)) nt a.tmps
  dfr : a.defers = ds
  grow : Grow w0 w F φ w' F' φ'
theorem RInv.step [Adr] {nx : Nat} {ses : List SE} {D : List Nat} {a : Act} {w' : World} {F' : Nat → Prop} {φ' : Emb} (h : RInv w0 w F φ nx ses η τ nt ds D a w' F' φ') {ops : Array Oper} {ans : Nat → Option (AV × List ABlk)} {i : Nat} {o : Oper} (hi : ops[i]? = some o) (hD : i ∉ D)
    (hs : stepF ε P nt ops o (ans i) (nx + 8 * i) (apsT τ (D.map fun i => ses.getD i seZ)) (apsH η (D.map fun i => ses.getD i seZ)) = some (ses.getD i seZ)) (hob : ∀ ob, (ses.getD i seZ).ob = some ob → ob.holds P) (r : Option Nat) (n : Nat) {K : Act → World → Prop} {Q : Exit → Act → World → Prop}
    (hK : ∀ a' w'' F'' φ'', RInv w0 w F φ nx ses η τ nt ds (D ++ [i]) a' w'' F'' φ'' → K a' w'') : wpOpIn (fen r) n P ops Q i K a w' := by
  refine stepF_ok (U' := Used nx (D ++ [i])) h.heap h.tmps h.dfr hi hs hob (fun m hm => ?_) (fun b hb => ?_) (fun m hm => ?_) r n fun a' w'' φ'' F'' k1 k2 k3 k4 => ?_
  · rintro (q | ⟨j, hj, m', hm', e⟩)
    · omega
    · have : i = j := by omega
      exact hD (this ▸ hj)
  · rcases hb with q | ⟨j, hj, m', hm', e⟩
    · exact .inl q
    · exact .inr ⟨j, List.mem_append_left _ hj, m', hm', e⟩
  · exact .inr ⟨i, by simp, m, hm, rfl⟩
  · refine hK a' w'' F'' φ'' ⟨?_, ?_, k3, h.grow.trans k4⟩
    · rw [List.map_append, apsH_append]; exact k1
    · rw [List.map_append, apsT_append]; exact k2
theorem map_range_take (ses : List SE) : ∀ k, k ≤ ses.length → (List.range k).map (fun i => ses.getD i seZ) = ses.take k
  | 0, _ => by simp
  | k + 1, h => by
    rw [List.range_succ, List.map_append, map_range_take ses k (by omega), List.take_succ_eq_append_getElem (by omega)]
    congr 1
    simp [List.getD_eq_getElem?_getD, List.getElem?_eq_getElem (show k < ses.length by omega)]
def Done [Adr] (w0 w : World) (F : Nat → Prop) (φ : Emb) (nx n : Nat) (η' : Heap) (τ' : Nat → AV) (nt : Nat) (ds : List Deferred) (K : Act → World → Prop) : Prop :=
  ∀ a' w' φ' F', HRel w0 w' F' φ' (fun b => b < nx + 8 * n) η' → TRel w' F' φ' τ' nt a'.tmps → a'.defers = ds → Grow w0 w F φ w' F' φ' → K a' w'
theorem RInv.fin [Adr] {nx n : Nat} {ses : List SE} {D : List Nat} {a : Act} {w' : World} {F' : Nat → Prop} {φ' : Emb} (h : RInv w0 w F φ nx ses η τ nt ds D a w' F' φ') (hn : ∀ i ∈ D, i < n) (hl : ses.length = n)
    (hH : apsH η (D.map fun i => ses.getD i seZ) = apsH η ses) (hT : apsT τ (D.map fun i => ses.getD i seZ) = apsT τ ses) {K : Act → World → Prop} (hK : Done w0 w F φ nx n (apsH η ses) (apsT τ ses) nt ds K) : K a w' := by
  refine hK a w' φ' F' ?_ (hT ▸ h.tmps) h.dfr h.grow
  rw [← hH]
  refine h.heap.weakenU fun b hb => ?_
  rcases hb with q | ⟨i, hi, m, hm, e⟩
  · omega
  · have := hn i hi; omega
variable {a : Act} {ops : Array Oper} {ans : Nat → Option (AV × List ABlk)} {nx : Nat} {ses : List SE}
structure Ord (M : List Nat) (ses : List SE) (n : Nat) (D : List Nat) : Prop where
  nodup : D.Nodup
  lt : ∀ i ∈ D, i < n
  closed : ∀ i ∈ D, ∀ k, (M.getD i 0).testBit k = true → k ∈ D
  rise : D.Pairwise fun x y => x < y ∨ confl (ses.getD y seZ) (ses.getD x seZ) = false
theorem pairsOk_spec {M : List Nat} {n : Nat} (h : pairsOk M ses n = true) {i j : Nat} (hij : i < j) (hj : j < n) (hb : (M.getD j 0).testBit i = false) : confl (ses.getD i seZ) (ses.getD j seZ) = false := by
  unfold pairsOk at h
  rw [List.all_eq_true] at h
  have := h j (List.mem_range.2 hj)
  rw [List.all_eq_true] at this
  have := this i (List.mem_range.2 hij)
  rw [hb] at this
  simpa using this
theorem confl_wT {x y : SE} {t : Nat} (h : confl x y = false) (hx : wrT t x = true) : t ∉ y.rt ∧ wrT t y = false := by
  simp only [confl, Bool.or_eq_false_iff] at h
  have hd : x.d = some t := by simpa [wrT] using hx
  have := h.1.1.1
  rw [hd] at this
  simp only [Bool.or_eq_false_iff] at this
  exact ⟨by simpa using this.1, by simpa [wrT] using this.2⟩
theorem confl_wT' {x y : SE} {t : Nat} (h : confl x y = false) (hy : wrT t y = true) : t ∉ x.rt := by
  simp only [confl, Bool.or_eq_false_iff] at h
  have hd : y.d = some t := by simpa [wrT] using hy
  have := h.1.1.2
  rw [hd] at this
  simpa using this
theorem confl_wB {x y : SE} {b : Nat} (h : confl x y = false) (hx : wrB b x = true) : b ∉ y.rb ∧ wrB b y = false := by
  simp only [confl, Bool.or_eq_false_iff] at h
  have h2 := h.1.2
  simp only [wrB, List.any_eq_true] at hx
  obtain ⟨p, hp, e⟩ := hx
  rw [List.any_eq_false] at h2
  have := h2 p hp
  have e : p.1 = b := by simpa using e
  rw [e] at this
  simp only [Bool.or_eq_true, not_or] at this
  exact ⟨by simpa using this.1, by unfold wrB; simpa only [Bool.not_eq_true] using this.2⟩
theorem confl_wB' {x y : SE} {b : Nat} (h : confl x y = false) (hy : wrB b y = true) : b ∉ x.rb := by
  simp only [confl, Bool.or_eq_false_iff] at h
  have h2 := h.2
  simp only [wrB, List.any_eq_true] at hy
  obtain ⟨p, hp, e⟩ := hy
  rw [List.any_eq_false] at h2
  have := h2 p hp
  have e : p.1 = b := by simpa using e
  rw [e] at this
  simpa using this
theorem Ord.filter [Adr] {M : List Nat} {n : Nat} {D : List Nat} (h : Ord M ses n D) (hp : pairsOk M ses n = true) {i : Nat} (hi : i < n) (hD : i ∉ D) (hpre : ∀ k, (M.getD i 0).testBit k = true → k ∈ D) (p : SE → Bool)
    (h1 : ∀ k, k < i → confl (ses.getD k seZ) (ses.getD i seZ) = false → p (ses.getD k seZ) = false) (h2 : ∀ k, i < k → confl (ses.getD i seZ) (ses.getD k seZ) = false → p (ses.getD k seZ) = false)
    (h3 : ∀ x y, confl (ses.getD y seZ) (ses.getD x seZ) = false → p (ses.getD x seZ) = true → p (ses.getD y seZ) = true → False) :
    D.filter (fun k => p (ses.getD k seZ)) = (List.range i).filter (fun k => p (ses.getD k seZ)) := by
  apply rising_eq
  · have := h.rise.filter (p := fun k => p (ses.getD k seZ))
    rw [List.pairwise_filter] at this ⊢
    refine this.imp ?_
    intro x y hxy px py
    rcases hxy px py with q | q
    · exact q
    · exact (h3 x y q px py).elim
  · exact List.Pairwise.filter _ List.pairwise_lt_range
  · intro k
    simp only [List.mem_filter, List.mem_range]
    constructor
    · rintro ⟨hk, pk⟩
      refine ⟨?_, pk⟩
      rcases Nat.lt_trichotomy k i with q | q | q
      · exact q
      · exact absurd (q ▸ hk) hD
      · by_cases hb : (M.getD k 0).testBit i = true
        · exact absurd (h.closed k hk i hb) hD
        · have := h2 k q (pairsOk_spec hp q (h.lt k hk) (by simpa using hb))
          rw [this] at pk; cases pk
    · rintro ⟨hk, pk⟩
      refine ⟨?_, pk⟩
      by_cases hb : (M.getD i 0).testBit k = true
      · exact hpre k hb
      · have := h1 k hk (pairsOk_spec hp hk hi (by simpa using hb))
        rw [this] at pk; cases pk
theorem filter_map_getD (D : List Nat) (p : SE → Bool) : (D.map fun i => ses.getD i seZ).filter p = (D.filter fun k => p (ses.getD k seZ)).map fun i => ses.getD i seZ := by
  rw [List.filter_map]; rfl
theorem filter_take [Adr] (k : Nat) (hk : k ≤ ses.length) (p : SE → Bool) : (ses.take k).filter p = ((List.range k).filter fun k => p (ses.getD k seZ)).map fun i => ses.getD i seZ := by
  rw [← map_range_take ses k hk, filter_map_getD]
theorem Ord.agree [Adr] {M : List Nat} {n : Nat} {D : List Nat} (h : Ord M ses n D) (hl : ses.length = n) (hp : pairsOk M ses n = true) {i : Nat} (hi : i < n) (hD : i ∉ D) (hpre : ∀ k, (M.getD i 0).testBit k = true → k ∈ D) :
    (∀ t, t ∈ (ses.getD i seZ).rt → apsT τ (D.map fun i => ses.getD i seZ) t = apsT τ (ses.take i) t) ∧ (∀ b, b ∈ (ses.getD i seZ).rb → apsH η (D.map fun i => ses.getD i seZ) b = apsH η (ses.take i) b) := by
  constructor
  · intro t ht
    rw [apsT_filter t _ τ τ rfl, apsT_filter t (ses.take i) τ τ rfl, filter_map_getD, filter_take i (by omega)]
    rw [h.filter hp hi hD hpre (wrT t)]
    · intro k hk hc
      cases hw : wrT t (ses.getD k seZ) with
      | false => rfl
      | true => exact absurd ht (confl_wT hc hw).1
    · intro k hk hc
      cases hw : wrT t (ses.getD k seZ) with
      | false => rfl
      | true => exact absurd ht (confl_wT' hc hw)
    · intro x y hc px py
      have := (confl_wT hc py).2
      rw [this] at px; cases px
  · intro b hb
    rw [apsH_filter b _ η η rfl, apsH_filter b (ses.take i) η η rfl, filter_map_getD, filter_take i (by omega)]
    rw [h.filter hp hi hD hpre (wrB b)]
    · intro k hk hc
      cases hw : wrB b (ses.getD k seZ) with
      | false => rfl
      | true => exact absurd hb (confl_wB hc hw).1
    · intro k hk hc
      cases hw : wrB b (ses.getD k seZ) with
      | false => rfl
      | true => exact absurd hb (confl_wB' hc hw)
    · intro x y hc px py
      have := (confl_wB hc py).2
      rw [this] at px; cases px
theorem Ord.all [Adr] {M : List Nat} {n : Nat} {D : List Nat} (h : Ord M ses n D) (hl : ses.length = n) (hall : ∀ i, i < n → i ∈ D) :
    apsT τ (D.map fun i => ses.getD i seZ) = apsT τ ses ∧ apsH η (D.map fun i => ses.getD i seZ) = apsH η ses := by
  have hf : ∀ p : SE → Bool, (∀ x y, confl (ses.getD y seZ) (ses.getD x seZ) = false → p (ses.getD x seZ) = true → p (ses.getD y seZ) = true → False) → D.filter (fun k => p (ses.getD k seZ)) = (List.range n).filter (fun k => p (ses.getD k seZ)) := by
    intro p h3
    apply rising_eq
    · have := h.rise.filter (p := fun k => p (ses.getD k seZ))
      rw [List.pairwise_filter] at this ⊢
      refine this.imp ?_
      intro x y hxy px py
      rcases hxy px py with q | q
      · exact q
      · exact (h3 x y q px py).elim
    · exact List.Pairwise.filter _ List.pairwise_lt_range
    · intro k
      simp only [List.mem_filter, List.mem_range]
      exact ⟨fun q => ⟨h.lt k q.1, q.2⟩, fun q => ⟨hall k q.1, q.2⟩⟩
  have htake : ses = ses.take n := by rw [← hl, List.take_length]
  constructor
  · funext t
    rw [apsT_filter t _ τ τ rfl, apsT_filter t ses τ τ rfl, filter_map_getD, hf (wrT t) (fun x y hc px py => by have := (confl_wT hc py).2; rw [this] at px; cases px), htake, filter_take n (by omega)]
    rw [← htake]
  · funext b
    rw [apsH_filter b _ η η rfl, apsH_filter b ses η η rfl, filter_map_getD, hf (wrB b) (fun x y hc px py => by have := (confl_wB hc py).2; rw [this] at px; cases px), htake, filter_take n (by omega)]
    rw [← htake]
end
end Go.AM
