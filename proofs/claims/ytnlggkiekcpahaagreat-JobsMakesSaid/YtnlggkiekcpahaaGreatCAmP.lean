/- A text of the proof. -/
import Derived.Test.YtnlggkiekcpahaaGreatCAmO
set_option linter.unusedSimpArgs false
set_option linter.unusedVariables false
namespace Go.AM
open Go Go.RowKit
section
variable {P : Program} {w0 w : World} {F : Nat → Prop} {φ : iA} {η : fB} {τ : Nat → AV} {nt : Nat} {ds : List Deferred}
def Used (nx : Nat) (D : List Nat) : Nat → Prop := fun b => b < nx ∨ ∃ i, i ∈ D ∧ ∃ m, m < 8 ∧ b = nx + 8 * i + m
structure cQ (w0 w : World) (F : Nat → Prop) (φ : iA) (nx : Nat) (ses : List SE) (η : fB) (τ : Nat → AV) (nt : Nat) (ds : List Deferred) (D : List Nat) (a : Act) (w' : World) (F' : Nat → Prop) (φ' : iA) : Prop where
  heap : qB w0 w' F' φ' (Used nx D) (zE η (D.map fun i => ses.getD i tC))
  tmps : zD w' F' φ' (vE τ (D.map fun i => ses.getD i tC)) nt a.tmps
  dfr : a.defers = ds
  grow : lF w0 w F φ w' F' φ'
theorem cQ.step {nx : Nat} {ses : List SE} {D : List Nat} {a : Act} {w' : World} {F' : Nat → Prop} {φ' : iA} (h : cQ w0 w F φ nx ses η τ nt ds D a w' F' φ') {ops : Array Oper} {ans : Nat → Option (AV × List oA)} {i : Nat} {o : Oper} (hi : ops[i]? = some o) (hD : i ∉ D)
    (hs : qJ P nt ops o (ans i) (nx + 8 * i) (vE τ (D.map fun i => ses.getD i tC)) (zE η (D.map fun i => ses.getD i tC)) = some (ses.getD i tC)) (hob : ∀ ob, (ses.getD i tC).ob = some ob → ob.holds P) (r : Option Nat) (n : Nat) {K : Act → World → Prop} {Q : Exit → Act → World → Prop}
    (hK : ∀ a' w'' F'' φ'', cQ w0 w F φ nx ses η τ nt ds (D ++ [i]) a' w'' F'' φ'' → K a' w'') : wpOpIn (lD r) n P ops Q i K a w' := by
  refine zbU (U' := Used nx (D ++ [i])) h.heap h.tmps h.dfr hi hs hob (fun m hm => ?_) (fun b hb => ?_) (fun m hm => ?_) r n fun a' w'' φ'' F'' k1 k2 k3 k4 => ?_
  · rintro (q | ⟨j, hj, m', hm', e⟩)
    · omega
    · have : i = j := by omega
      exact hD (this ▸ hj)
  · rcases hb with q | ⟨j, hj, m', hm', e⟩
    · exact .inl q
    · exact .inr ⟨j, List.mem_append_left _ hj, m', hm', e⟩
  · exact .inr ⟨i, by simp, m, hm, rfl⟩
  · refine hK a' w'' F'' φ'' ⟨?_, ?_, k3, h.grow.trans k4⟩
    · rw [List.map_append, zcb]; exact k1
    · rw [List.map_append, zdb]; exact k2
theorem wT (ses : List SE) : ∀ k, k ≤ ses.length → (List.range k).map (fun i => ses.getD i tC) = ses.take k
  | 0, _ => by simp
  | k + 1, h => by
    rw [List.range_succ, List.map_append, wT ses k (by omega), List.take_succ_eq_append_getElem (by omega)]
    congr 1
    simp [List.getD_eq_getElem?_getD, List.getElem?_eq_getElem (show k < ses.length by omega)]
def Done (w0 w : World) (F : Nat → Prop) (φ : iA) (nx n : Nat) (η' : fB) (τ' : Nat → AV) (nt : Nat) (ds : List Deferred) (K : Act → World → Prop) : Prop :=
  ∀ a' w' φ' F', qB w0 w' F' φ' (fun b => b < nx + 8 * n) η' → zD w' F' φ' τ' nt a'.tmps → a'.defers = ds → lF w0 w F φ w' F' φ' → K a' w'
theorem cQ.fin {nx n : Nat} {ses : List SE} {D : List Nat} {a : Act} {w' : World} {F' : Nat → Prop} {φ' : iA} (h : cQ w0 w F φ nx ses η τ nt ds D a w' F' φ') (hn : ∀ i ∈ D, i < n) (hl : ses.length = n)
    (hH : zE η (D.map fun i => ses.getD i tC) = zE η ses) (hT : vE τ (D.map fun i => ses.getD i tC) = vE τ ses) {K : Act → World → Prop} (hK : Done w0 w F φ nx n (zE η ses) (vE τ ses) nt ds K) : K a w' := by
  refine hK a w' φ' F' ?_ (hT ▸ h.tmps) h.dfr h.grow
  rw [← hH]
  refine h.heap.weakenU fun b hb => ?_
  rcases hb with q | ⟨i, hi, m, hm, e⟩
  · omega
  · have := hn i hi; omega
variable {a : Act} {ops : Array Oper} {ans : Nat → Option (AV × List oA)} {nx : Nat} {ses : List SE}
theorem zbY (h : qB w0 w F φ (fun b => b < nx) η) (ht : zD w F φ τ nt a.tmps) (hd : a.defers = ds) (hr : qO P nt ops ans nx (dE 0 ops.toList) τ η = some ses) (hob : ∀ se ∈ ses, ∀ ob, se.ob = some ob → ob.holds P) (r : Option Nat) (n id : Nat) {Q : Exit → Act → World → Prop}
    (hK : Done w0 w F φ nx ops.size (zE η ses) (vE τ ses) nt ds (Q .normal)) : (Code.region id ops false).wpIn (lD r) n P Q a w := by
  obtain ⟨hl, hstep⟩ := lZ ops.toList 0 τ η ses hr
  simp only [Array.length_toList, Nat.zero_add] at hl hstep
  refine wpIn_region ?_
  have key : ∀ (m k : Nat), k + m = ops.size → ∀ a w' F' φ', cQ w0 w F φ nx ses η τ nt ds (List.range k) a w' F' φ' → wpOpsIn (lD r) n P ops Q (List.range' k m) a w' := by
    intro m
    induction m with
    | zero =>
      intro k hk a w' F' φ' hi
      have hks : k = ses.length := by omega
      simp only [List.range'_zero, wpOpsIn]
      refine hi.fin (n := ops.size) (fun i hi => by have := List.mem_range.1 hi; omega) hl ?_ ?_ hK
      · rw [wT ses k (by omega), hks, List.take_length]
      · rw [wT ses k (by omega), hks, List.take_length]
    | succ m ih =>
      intro k hk a w' F' φ' hi
      rw [List.range'_succ, wpOpsIn_cons]
      have hko : ops[k]? = some ops[k] := Array.getElem?_eq_getElem (by omega)
      have hko' : ops.toList[k]? = some ops[k] := by rw [Array.getElem?_toList]; exact hko
      have hs := hstep k _ hko'
      rw [← wT ses k (by omega)] at hs
      refine hi.step (P := P) hko (by simp) hs (fun ob e => hob _ ?_ ob e) r n fun a' w'' F'' φ'' hi' => ih (k + 1) (by omega) a' w'' F'' φ'' (by rw [List.range_succ]; exact hi')
      rw [List.getD_eq_getElem?_getD, List.getElem?_eq_getElem (by omega)]
      exact List.getElem_mem _
  rw [List.range_eq_range']
  refine key ops.size 0 (by omega) a w F φ ⟨?_, ?_, hd, lF.refl _ _ _ _⟩
  · exact h.weakenU fun b hb => .inl hb
  · exact ht
structure Ord (M : List Nat) (ses : List SE) (n : Nat) (D : List Nat) : Prop where
  nodup : D.Nodup
  lt : ∀ i ∈ D, i < n
  closed : ∀ i ∈ D, ∀ k, (M.getD i 0).testBit k = true → k ∈ D
  rise : D.Pairwise fun x y => x < y ∨ yG (ses.getD y tC) (ses.getD x tC) = false
theorem zaG {M : List Nat} {n : Nat} (h : pI M ses n = true) {i j : Nat} (hij : i < j) (hj : j < n) (hb : (M.getD j 0).testBit i = false) : yG (ses.getD i tC) (ses.getD j tC) = false := by
  unfold pI at h
  rw [List.all_eq_true] at h
  have := h j (List.mem_range.2 hj)
  rw [List.all_eq_true] at this
  have := this i (List.mem_range.2 hij)
  rw [hb] at this
  simpa using this
theorem sY {x y : SE} {t : Nat} (h : yG x y = false) (hx : eG t x = true) : t ∉ y.rt ∧ eG t y = false := by
  simp only [yG, Bool.or_eq_false_iff] at h
  have hd : x.d = some t := by simpa [eG] using hx
  have := h.1.1.1
  rw [hd] at this
  simp only [Bool.or_eq_false_iff] at this
  exact ⟨by simpa using this.1, by simpa [eG] using this.2⟩
theorem zeX {x y : SE} {t : Nat} (h : yG x y = false) (hy : eG t y = true) : t ∉ x.rt := by
  simp only [yG, Bool.or_eq_false_iff] at h
  have hd : y.d = some t := by simpa [eG] using hy
  have := h.1.1.2
  rw [hd] at this
  simpa using this
theorem oY {x y : SE} {b : Nat} (h : yG x y = false) (hx : wH b x = true) : b ∉ y.rb ∧ wH b y = false := by
  simp only [yG, Bool.or_eq_false_iff] at h
  have h2 := h.1.2
  simp only [wH, List.any_eq_true] at hx
  obtain ⟨p, hp, e⟩ := hx
  rw [List.any_eq_false] at h2
  have := h2 p hp
  have e : p.1 = b := by simpa using e
  rw [e] at this
  simp only [Bool.or_eq_true, not_or] at this
  exact ⟨by simpa using this.1, by unfold wH; simpa only [Bool.not_eq_true] using this.2⟩
theorem zjy {x y : SE} {b : Nat} (h : yG x y = false) (hy : wH b y = true) : b ∉ x.rb := by
  simp only [yG, Bool.or_eq_false_iff] at h
  have h2 := h.2
  simp only [wH, List.any_eq_true] at hy
  obtain ⟨p, hp, e⟩ := hy
  rw [List.any_eq_false] at h2
  have := h2 p hp
  have e : p.1 = b := by simpa using e
  rw [e] at this
  simpa using this
theorem Ord.filter {M : List Nat} {n : Nat} {D : List Nat} (h : Ord M ses n D) (hp : pI M ses n = true) {i : Nat} (hi : i < n) (hD : i ∉ D) (hpre : ∀ k, (M.getD i 0).testBit k = true → k ∈ D) (p : SE → Bool)
    (h1 : ∀ k, k < i → yG (ses.getD k tC) (ses.getD i tC) = false → p (ses.getD k tC) = false) (h2 : ∀ k, i < k → yG (ses.getD i tC) (ses.getD k tC) = false → p (ses.getD k tC) = false)
    (h3 : ∀ x y, yG (ses.getD y tC) (ses.getD x tC) = false → p (ses.getD x tC) = true → p (ses.getD y tC) = true → False) :
    D.filter (fun k => p (ses.getD k tC)) = (List.range i).filter (fun k => p (ses.getD k tC)) := by
  apply zaO
  · have := h.rise.filter (p := fun k => p (ses.getD k tC))
    rw [List.pairwise_filter] at this ⊢
    refine this.imp ?_
    intro x y hxy px py
    rcases hxy px py with q | q
    · exact q
    · exact (h3 x y q px py).elim
  · exact List.Pairwise.filter _ List.pairwise_lt_range
  · intro k
    simp only [List.mem_filter, List.mem_range]
    constructor
    · rintro ⟨hk, pk⟩
      refine ⟨?_, pk⟩
      rcases Nat.lt_trichotomy k i with q | q | q
      · exact q
      · exact absurd (q ▸ hk) hD
      · by_cases hb : (M.getD k 0).testBit i = true
        · exact absurd (h.closed k hk i hb) hD
        · have := h2 k q (zaG hp q (h.lt k hk) (by simpa using hb))
          rw [this] at pk; cases pk
    · rintro ⟨hk, pk⟩
      refine ⟨?_, pk⟩
      by_cases hb : (M.getD i 0).testBit k = true
      · exact hpre k hb
      · have := h1 k hk (zaG hp hk hi (by simpa using hb))
        rw [this] at pk; cases pk
theorem dU (D : List Nat) (p : SE → Bool) : (D.map fun i => ses.getD i tC).filter p = (D.filter fun k => p (ses.getD k tC)).map fun i => ses.getD i tC := by
  rw [List.filter_map]; rfl
theorem kX (k : Nat) (hk : k ≤ ses.length) (p : SE → Bool) : (ses.take k).filter p = ((List.range k).filter fun k => p (ses.getD k tC)).map fun i => ses.getD i tC := by
  rw [← wT ses k hk, dU]
theorem Ord.agree {M : List Nat} {n : Nat} {D : List Nat} (h : Ord M ses n D) (hl : ses.length = n) (hp : pI M ses n = true) {i : Nat} (hi : i < n) (hD : i ∉ D) (hpre : ∀ k, (M.getD i 0).testBit k = true → k ∈ D) :
    (∀ t, t ∈ (ses.getD i tC).rt → vE τ (D.map fun i => ses.getD i tC) t = vE τ (ses.take i) t) ∧ (∀ b, b ∈ (ses.getD i tC).rb → zE η (D.map fun i => ses.getD i tC) b = zE η (ses.take i) b) := by
  constructor
  · intro t ht
    rw [jR t _ τ τ rfl, jR t (ses.take i) τ τ rfl, dU, kX i (by omega)]
    rw [h.filter hp hi hD hpre (eG t)]
    · intro k hk hc
      cases hw : eG t (ses.getD k tC) with
      | false => rfl
      | true => exact absurd ht (sY hc hw).1
    · intro k hk hc
      cases hw : eG t (ses.getD k tC) with
      | false => rfl
      | true => exact absurd ht (zeX hc hw)
    · intro x y hc px py
      have := (sY hc py).2
      rw [this] at px; cases px
  · intro b hb
    rw [fS b _ η η rfl, fS b (ses.take i) η η rfl, dU, kX i (by omega)]
    rw [h.filter hp hi hD hpre (wH b)]
    · intro k hk hc
      cases hw : wH b (ses.getD k tC) with
      | false => rfl
      | true => exact absurd hb (oY hc hw).1
    · intro k hk hc
      cases hw : wH b (ses.getD k tC) with
      | false => rfl
      | true => exact absurd hb (zjy hc hw)
    · intro x y hc px py
      have := (oY hc py).2
      rw [this] at px; cases px
theorem Ord.all {M : List Nat} {n : Nat} {D : List Nat} (h : Ord M ses n D) (hl : ses.length = n) (hall : ∀ i, i < n → i ∈ D) :
    vE τ (D.map fun i => ses.getD i tC) = vE τ ses ∧ zE η (D.map fun i => ses.getD i tC) = zE η ses := by
  have hf : ∀ p : SE → Bool, (∀ x y, yG (ses.getD y tC) (ses.getD x tC) = false → p (ses.getD x tC) = true → p (ses.getD y tC) = true → False) → D.filter (fun k => p (ses.getD k tC)) = (List.range n).filter (fun k => p (ses.getD k tC)) := by
    intro p h3
    apply zaO
    · have := h.rise.filter (p := fun k => p (ses.getD k tC))
      rw [List.pairwise_filter] at this ⊢
      refine this.imp ?_
      intro x y hxy px py
      rcases hxy px py with q | q
      · exact q
      · exact (h3 x y q px py).elim
    · exact List.Pairwise.filter _ List.pairwise_lt_range
    · intro k
      simp only [List.mem_filter, List.mem_range]
      exact ⟨fun q => ⟨h.lt k q.1, q.2⟩, fun q => ⟨hall k q.1, q.2⟩⟩
  have htake : ses = ses.take n := by rw [← hl, List.take_length]
  constructor
  · funext t
    rw [jR t _ τ τ rfl, jR t ses τ τ rfl, dU, hf (eG t) (fun x y hc px py => by have := (sY hc py).2; rw [this] at px; cases px), htake, kX n (by omega)]
    rw [← htake]
  · funext b
    rw [fS b _ η η rfl, fS b ses η η rfl, dU, hf (wH b) (fun x y hc px py => by have := (oY hc py).2; rw [this] at px; cases px), htake, kX n (by omega)]
    rw [← htake]
end
end Go.AM
