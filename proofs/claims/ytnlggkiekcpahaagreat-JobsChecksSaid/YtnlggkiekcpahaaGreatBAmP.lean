/- A text of the proof. -/
import Derived.Test.YtnlggkiekcpahaaGreatBAmO
set_option linter.unusedSimpArgs false
set_option linter.unusedVariables false
namespace Go.AM
open Go Go.RowKit
section
variable {P : Program} {w0 w : World} {F : Nat → Prop} {φ : jA} {η : gB} {τ : Nat → AV} {nt : Nat} {ds : List Deferred}
def Used (nx : Nat) (D : List Nat) : Nat → Prop := fun b => b < nx ∨ ∃ i, i ∈ D ∧ ∃ m, m < 8 ∧ b = nx + 8 * i + m
structure lS (w0 w : World) (F : Nat → Prop) (φ : jA) (nx : Nat) (ses : List SE) (η : gB) (τ : Nat → AV) (nt : Nat) (ds : List Deferred) (D : List Nat) (a : Act) (w' : World) (F' : Nat → Prop) (φ' : jA) : Prop where
  heap : wB w0 w' F' φ' (Used nx D) (gF η (D.map fun i => ses.getD i aD))
  tmps : nE w' F' φ' (kF τ (D.map fun i => ses.getD i aD)) nt a.tmps
  dfr : a.defers = ds
  grow : gG w0 w F φ w' F' φ'
theorem lS.step {nx : Nat} {ses : List SE} {D : List Nat} {a : Act} {w' : World} {F' : Nat → Prop} {φ' : jA} (h : lS w0 w F φ nx ses η τ nt ds D a w' F' φ') {ops : Array Oper} {ans : Nat → Option (AV × List pA)} {i : Nat} {o : Oper} (hi : ops[i]? = some o) (hD : i ∉ D)
    (hs : aL P nt ops o (ans i) (nx + 8 * i) (kF τ (D.map fun i => ses.getD i aD)) (gF η (D.map fun i => ses.getD i aD)) = some (ses.getD i aD)) (hob : ∀ ob, (ses.getD i aD).ob = some ob → ob.holds P) (r : Option Nat) (n : Nat) {K : Act → World → Prop} {Q : Exit → Act → World → Prop}
    (hK : ∀ a' w'' F'' φ'', lS w0 w F φ nx ses η τ nt ds (D ++ [i]) a' w'' F'' φ'' → K a' w'') : wpOpIn (xD r) n P ops Q i K a w' := by
  refine zcM (U' := Used nx (D ++ [i])) h.heap h.tmps h.dfr hi hs hob (fun m hm => ?_) (fun b hb => ?_) (fun m hm => ?_) r n fun a' w'' φ'' F'' k1 k2 k3 k4 => ?_
  · rintro (q | ⟨j, hj, m', hm', e⟩)
    · omega
    · have : i = j := by omega
      exact hD (this ▸ hj)
  · rcases hb with q | ⟨j, hj, m', hm', e⟩
    · exact .inl q
    · exact .inr ⟨j, List.mem_append_left _ hj, m', hm', e⟩
  · exact .inr ⟨i, by simp, m, hm, rfl⟩
  · refine hK a' w'' F'' φ'' ⟨?_, ?_, k3, h.grow.trans k4⟩
    · rw [List.map_append, zdj]; exact k1
    · rw [List.map_append, zch]; exact k2
theorem yW (ses : List SE) : ∀ k, k ≤ ses.length → (List.range k).map (fun i => ses.getD i aD) = ses.take k
  | 0, _ => by simp
  | k + 1, h => by
    rw [List.range_succ, List.map_append, yW ses k (by omega), List.take_succ_eq_append_getElem (by omega)]
    congr 1
    simp [List.getD_eq_getElem?_getD, List.getElem?_eq_getElem (show k < ses.length by omega)]
def Done (w0 w : World) (F : Nat → Prop) (φ : jA) (nx n : Nat) (η' : gB) (τ' : Nat → AV) (nt : Nat) (ds : List Deferred) (K : Act → World → Prop) : Prop :=
  ∀ a' w' φ' F', wB w0 w' F' φ' (fun b => b < nx + 8 * n) η' → nE w' F' φ' τ' nt a'.tmps → a'.defers = ds → gG w0 w F φ w' F' φ' → K a' w'
theorem lS.fin {nx n : Nat} {ses : List SE} {D : List Nat} {a : Act} {w' : World} {F' : Nat → Prop} {φ' : jA} (h : lS w0 w F φ nx ses η τ nt ds D a w' F' φ') (hn : ∀ i ∈ D, i < n) (hl : ses.length = n)
    (hH : gF η (D.map fun i => ses.getD i aD) = gF η ses) (hT : kF τ (D.map fun i => ses.getD i aD) = kF τ ses) {K : Act → World → Prop} (hK : Done w0 w F φ nx n (gF η ses) (kF τ ses) nt ds K) : K a w' := by
  refine hK a w' φ' F' ?_ (hT ▸ h.tmps) h.dfr h.grow
  rw [← hH]
  refine h.heap.weakenU fun b hb => ?_
  rcases hb with q | ⟨i, hi, m, hm, e⟩
  · omega
  · have := hn i hi; omega
variable {a : Act} {ops : Array Oper} {ans : Nat → Option (AV × List pA)} {nx : Nat} {ses : List SE}
theorem zdi (h : wB w0 w F φ (fun b => b < nx) η) (ht : nE w F φ τ nt a.tmps) (hd : a.defers = ds) (hr : dR P nt ops ans nx (pE 0 ops.toList) τ η = some ses) (hob : ∀ se ∈ ses, ∀ ob, se.ob = some ob → ob.holds P) (r : Option Nat) (n id : Nat) {Q : Exit → Act → World → Prop}
    (hK : Done w0 w F φ nx ops.size (gF η ses) (kF τ ses) nt ds (Q .normal)) : (Code.region id ops false).wpIn (xD r) n P Q a w := by
  obtain ⟨hl, hstep⟩ := zar ops.toList 0 τ η ses hr
  simp only [Array.length_toList, Nat.zero_add] at hl hstep
  refine wpIn_region ?_
  have key : ∀ (m k : Nat), k + m = ops.size → ∀ a w' F' φ', lS w0 w F φ nx ses η τ nt ds (List.range k) a w' F' φ' → wpOpsIn (xD r) n P ops Q (List.range' k m) a w' := by
    intro m
    induction m with
    | zero =>
      intro k hk a w' F' φ' hi
      have hks : k = ses.length := by omega
      simp only [List.range'_zero, wpOpsIn]
      refine hi.fin (n := ops.size) (fun i hi => by have := List.mem_range.1 hi; omega) hl ?_ ?_ hK
      · rw [yW ses k (by omega), hks, List.take_length]
      · rw [yW ses k (by omega), hks, List.take_length]
    | succ m ih =>
      intro k hk a w' F' φ' hi
      rw [List.range'_succ, wpOpsIn_cons]
      have hko : ops[k]? = some ops[k] := Array.getElem?_eq_getElem (by omega)
      have hko' : ops.toList[k]? = some ops[k] := by rw [Array.getElem?_toList]; exact hko
      have hs := hstep k _ hko'
      rw [← yW ses k (by omega)] at hs
      refine hi.step (P := P) hko (by simp) hs (fun ob e => hob _ ?_ ob e) r n fun a' w'' F'' φ'' hi' => ih (k + 1) (by omega) a' w'' F'' φ'' (by rw [List.range_succ]; exact hi')
      rw [List.getD_eq_getElem?_getD, List.getElem?_eq_getElem (by omega)]
      exact List.getElem_mem _
  rw [List.range_eq_range']
  refine key ops.size 0 (by omega) a w F φ ⟨?_, ?_, hd, gG.refl _ _ _ _⟩
  · exact h.weakenU fun b hb => .inl hb
  · exact ht
structure Ord (M : List Nat) (ses : List SE) (n : Nat) (D : List Nat) : Prop where
  nodup : D.Nodup
  lt : ∀ i ∈ D, i < n
  closed : ∀ i ∈ D, ∀ k, (M.getD i 0).testBit k = true → k ∈ D
  rise : D.Pairwise fun x y => x < y ∨ xH (ses.getD y aD) (ses.getD x aD) = false
theorem zbX {M : List Nat} {n : Nat} (h : aH M ses n = true) {i j : Nat} (hij : i < j) (hj : j < n) (hb : (M.getD j 0).testBit i = false) : xH (ses.getD i aD) (ses.getD j aD) = false := by
  unfold aH at h
  rw [List.all_eq_true] at h
  have := h j (List.mem_range.2 hj)
  rw [List.all_eq_true] at this
  have := this i (List.mem_range.2 hij)
  rw [hb] at this
  simpa using this
theorem zby {x y : SE} {t : Nat} (h : xH x y = false) (hx : nH t x = true) : t ∉ y.rt ∧ nH t y = false := by
  simp only [xH, Bool.or_eq_false_iff] at h
  have hd : x.d = some t := by simpa [nH] using hx
  have := h.1.1.1
  rw [hd] at this
  simp only [Bool.or_eq_false_iff] at this
  exact ⟨by simpa using this.1, by simpa [nH] using this.2⟩
theorem zhz {x y : SE} {t : Nat} (h : xH x y = false) (hy : nH t y = true) : t ∉ x.rt := by
  simp only [xH, Bool.or_eq_false_iff] at h
  have hd : y.d = some t := by simpa [nH] using hy
  have := h.1.1.2
  rw [hd] at this
  simpa using this
theorem zaq {x y : SE} {b : Nat} (h : xH x y = false) (hx : aJ b x = true) : b ∉ y.rb ∧ aJ b y = false := by
  simp only [xH, Bool.or_eq_false_iff] at h
  have h2 := h.1.2
  simp only [aJ, List.any_eq_true] at hx
  obtain ⟨p, hp, e⟩ := hx
  rw [List.any_eq_false] at h2
  have := h2 p hp
  have e : p.1 = b := by simpa using e
  rw [e] at this
  simp only [Bool.or_eq_true, not_or] at this
  exact ⟨by simpa using this.1, by unfold aJ; simpa only [Bool.not_eq_true] using this.2⟩
theorem zkx {x y : SE} {b : Nat} (h : xH x y = false) (hy : aJ b y = true) : b ∉ x.rb := by
  simp only [xH, Bool.or_eq_false_iff] at h
  have h2 := h.2
  simp only [aJ, List.any_eq_true] at hy
  obtain ⟨p, hp, e⟩ := hy
  rw [List.any_eq_false] at h2
  have := h2 p hp
  have e : p.1 = b := by simpa using e
  rw [e] at this
  simpa using this
theorem Ord.filter {M : List Nat} {n : Nat} {D : List Nat} (h : Ord M ses n D) (hp : aH M ses n = true) {i : Nat} (hi : i < n) (hD : i ∉ D) (hpre : ∀ k, (M.getD i 0).testBit k = true → k ∈ D) (p : SE → Bool)
    (h1 : ∀ k, k < i → xH (ses.getD k aD) (ses.getD i aD) = false → p (ses.getD k aD) = false) (h2 : ∀ k, i < k → xH (ses.getD i aD) (ses.getD k aD) = false → p (ses.getD k aD) = false)
    (h3 : ∀ x y, xH (ses.getD y aD) (ses.getD x aD) = false → p (ses.getD x aD) = true → p (ses.getD y aD) = true → False) :
    D.filter (fun k => p (ses.getD k aD)) = (List.range i).filter (fun k => p (ses.getD k aD)) := by
  apply zb2
  · have := h.rise.filter (p := fun k => p (ses.getD k aD))
    rw [List.pairwise_filter] at this ⊢
    refine this.imp ?_
    intro x y hxy px py
    rcases hxy px py with q | q
    · exact q
    · exact (h3 x y q px py).elim
  · exact List.Pairwise.filter _ List.pairwise_lt_range
  · intro k
    simp only [List.mem_filter, List.mem_range]
    constructor
    · rintro ⟨hk, pk⟩
      refine ⟨?_, pk⟩
      rcases Nat.lt_trichotomy k i with q | q | q
      · exact q
      · exact absurd (q ▸ hk) hD
      · by_cases hb : (M.getD k 0).testBit i = true
        · exact absurd (h.closed k hk i hb) hD
        · have := h2 k q (zbX hp q (h.lt k hk) (by simpa using hb))
          rw [this] at pk; cases pk
    · rintro ⟨hk, pk⟩
      refine ⟨?_, pk⟩
      by_cases hb : (M.getD i 0).testBit k = true
      · exact hpre k hb
      · have := h1 k hk (zbX hp hk hi (by simpa using hb))
        rw [this] at pk; cases pk
theorem eX (D : List Nat) (p : SE → Bool) : (D.map fun i => ses.getD i aD).filter p = (D.filter fun k => p (ses.getD k aD)).map fun i => ses.getD i aD := by
  rw [List.filter_map]; rfl
theorem xZ (k : Nat) (hk : k ≤ ses.length) (p : SE → Bool) : (ses.take k).filter p = ((List.range k).filter fun k => p (ses.getD k aD)).map fun i => ses.getD i aD := by
  rw [← yW ses k hk, eX]
theorem Ord.agree {M : List Nat} {n : Nat} {D : List Nat} (h : Ord M ses n D) (hl : ses.length = n) (hp : aH M ses n = true) {i : Nat} (hi : i < n) (hD : i ∉ D) (hpre : ∀ k, (M.getD i 0).testBit k = true → k ∈ D) :
    (∀ t, t ∈ (ses.getD i aD).rt → kF τ (D.map fun i => ses.getD i aD) t = kF τ (ses.take i) t) ∧ (∀ b, b ∈ (ses.getD i aD).rb → gF η (D.map fun i => ses.getD i aD) b = gF η (ses.take i) b) := by
  constructor
  · intro t ht
    rw [uU t _ τ τ rfl, uU t (ses.take i) τ τ rfl, eX, xZ i (by omega)]
    rw [h.filter hp hi hD hpre (nH t)]
    · intro k hk hc
      cases hw : nH t (ses.getD k aD) with
      | false => rfl
      | true => exact absurd ht (zby hc hw).1
    · intro k hk hc
      cases hw : nH t (ses.getD k aD) with
      | false => rfl
      | true => exact absurd ht (zhz hc hw)
    · intro x y hc px py
      have := (zby hc py).2
      rw [this] at px; cases px
  · intro b hb
    rw [fU b _ η η rfl, fU b (ses.take i) η η rfl, eX, xZ i (by omega)]
    rw [h.filter hp hi hD hpre (aJ b)]
    · intro k hk hc
      cases hw : aJ b (ses.getD k aD) with
      | false => rfl
      | true => exact absurd hb (zaq hc hw).1
    · intro k hk hc
      cases hw : aJ b (ses.getD k aD) with
      | false => rfl
      | true => exact absurd hb (zkx hc hw)
    · intro x y hc px py
      have := (zaq hc py).2
      rw [this] at px; cases px
theorem Ord.all {M : List Nat} {n : Nat} {D : List Nat} (h : Ord M ses n D) (hl : ses.length = n) (hall : ∀ i, i < n → i ∈ D) :
    kF τ (D.map fun i => ses.getD i aD) = kF τ ses ∧ gF η (D.map fun i => ses.getD i aD) = gF η ses := by
  have hf : ∀ p : SE → Bool, (∀ x y, xH (ses.getD y aD) (ses.getD x aD) = false → p (ses.getD x aD) = true → p (ses.getD y aD) = true → False) → D.filter (fun k => p (ses.getD k aD)) = (List.range n).filter (fun k => p (ses.getD k aD)) := by
    intro p h3
    apply zb2
    · have := h.rise.filter (p := fun k => p (ses.getD k aD))
      rw [List.pairwise_filter] at this ⊢
      refine this.imp ?_
      intro x y hxy px py
      rcases hxy px py with q | q
      · exact q
      · exact (h3 x y q px py).elim
    · exact List.Pairwise.filter _ List.pairwise_lt_range
    · intro k
      simp only [List.mem_filter, List.mem_range]
      exact ⟨fun q => ⟨h.lt k q.1, q.2⟩, fun q => ⟨hall k q.1, q.2⟩⟩
  have htake : ses = ses.take n := by rw [← hl, List.take_length]
  constructor
  · funext t
    rw [uU t _ τ τ rfl, uU t ses τ τ rfl, eX, hf (nH t) (fun x y hc px py => by have := (zby hc py).2; rw [this] at px; cases px), htake, xZ n (by omega)]
    rw [← htake]
  · funext b
    rw [fU b _ η η rfl, fU b ses η η rfl, eX, hf (aJ b) (fun x y hc px py => by have := (zaq hc py).2; rw [this] at px; cases px), htake, xZ n (by omega)]
    rw [← htake]
end
end Go.AM
