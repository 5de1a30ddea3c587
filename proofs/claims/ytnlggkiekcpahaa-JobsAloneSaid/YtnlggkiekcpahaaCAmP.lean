/- A text of the proof. -/
import Derived.Test.YtnlggkiekcpahaaCAmO
set_option linter.unusedSimpArgs false
set_option linter.unusedVariables false
namespace Go.AM
open Go Go.RowKit
section
variable {P : Program} {w0 w : World} {F : Nat → Prop} {φ : fA} {η : cB} {τ : Nat → AV} {nt : Nat} {ds : List Deferred}
def Used (nx : Nat) (D : List Nat) : Nat → Prop := fun b => b < nx ∨ ∃ i, i ∈ D ∧ ∃ m, m < 8 ∧ b = nx + 8 * i + m
structure iR (w0 w : World) (F : Nat → Prop) (φ : fA) (nx : Nat) (ses : List SE) (η : cB) (τ : Nat → AV) (nt : Nat) (ds : List Deferred) (D : List Nat) (a : Act) (w' : World) (F' : Nat → Prop) (φ' : fA) : Prop where
  heap : uB w0 w' F' φ' (Used nx D) (iF η (D.map fun i => ses.getD i wC))
  tmps : mE w' F' φ' (lF τ (D.map fun i => ses.getD i wC)) nt a.tmps
  dfr : a.defers = ds
  grow : cG w0 w F φ w' F' φ'
theorem iR.step {nx : Nat} {ses : List SE} {D : List Nat} {a : Act} {w' : World} {F' : Nat → Prop} {φ' : fA} (h : iR w0 w F φ nx ses η τ nt ds D a w' F' φ') {ops : Array Oper} {ans : Nat → Option (AV × List lA)} {i : Nat} {o : Oper} (hi : ops[i]? = some o) (hD : i ∉ D)
    (hs : lK P nt ops o (ans i) (nx + 8 * i) (lF τ (D.map fun i => ses.getD i wC)) (iF η (D.map fun i => ses.getD i wC)) = some (ses.getD i wC)) (hob : ∀ ob, (ses.getD i wC).ob = some ob → ob.holds P) (r : Option Nat) (n : Nat) {K : Act → World → Prop} {Q : Exit → Act → World → Prop}
    (hK : ∀ a' w'' F'' φ'', iR w0 w F φ nx ses η τ nt ds (D ++ [i]) a' w'' F'' φ'' → K a' w'') : wpOpIn (zD r) n P ops Q i K a w' := by
  refine zex (U' := Used nx (D ++ [i])) h.heap h.tmps h.dfr hi hs hob (fun m hm => ?_) (fun b hb => ?_) (fun m hm => ?_) r n fun a' w'' φ'' F'' k1 k2 k3 k4 => ?_
  · rintro (q | ⟨j, hj, m', hm', e⟩)
    · omega
    · have : i = j := by omega
      exact hD (this ▸ hj)
  · rcases hb with q | ⟨j, hj, m', hm', e⟩
    · exact .inl q
    · exact .inr ⟨j, List.mem_append_left _ hj, m', hm', e⟩
  · exact .inr ⟨i, by simp, m, hm, rfl⟩
  · refine hK a' w'' F'' φ'' ⟨?_, ?_, k3, h.grow.trans k4⟩
    · rw [List.map_append, zd8]; exact k1
    · rw [List.map_append, zcN]; exact k2
theorem wV (ses : List SE) : ∀ k, k ≤ ses.length → (List.range k).map (fun i => ses.getD i wC) = ses.take k
  | 0, _ => by simp
  | k + 1, h => by
    rw [List.range_succ, List.map_append, wV ses k (by omega), List.take_succ_eq_append_getElem (by omega)]
    congr 1
    simp [List.getD_eq_getElem?_getD, List.getElem?_eq_getElem (show k < ses.length by omega)]
def Done (w0 w : World) (F : Nat → Prop) (φ : fA) (nx n : Nat) (η' : cB) (τ' : Nat → AV) (nt : Nat) (ds : List Deferred) (K : Act → World → Prop) : Prop :=
  ∀ a' w' φ' F', uB w0 w' F' φ' (fun b => b < nx + 8 * n) η' → mE w' F' φ' τ' nt a'.tmps → a'.defers = ds → cG w0 w F φ w' F' φ' → K a' w'
theorem iR.fin {nx n : Nat} {ses : List SE} {D : List Nat} {a : Act} {w' : World} {F' : Nat → Prop} {φ' : fA} (h : iR w0 w F φ nx ses η τ nt ds D a w' F' φ') (hn : ∀ i ∈ D, i < n) (hl : ses.length = n)
    (hH : iF η (D.map fun i => ses.getD i wC) = iF η ses) (hT : lF τ (D.map fun i => ses.getD i wC) = lF τ ses) {K : Act → World → Prop} (hK : Done w0 w F φ nx n (iF η ses) (lF τ ses) nt ds K) : K a w' := by
  refine hK a w' φ' F' ?_ (hT ▸ h.tmps) h.dfr h.grow
  rw [← hH]
  refine h.heap.weakenU fun b hb => ?_
  rcases hb with q | ⟨i, hi, m, hm, e⟩
  · omega
  · have := hn i hi; omega
variable {a : Act} {ops : Array Oper} {ans : Nat → Option (AV × List lA)} {nx : Nat} {ses : List SE}
theorem zco (h : uB w0 w F φ (fun b => b < nx) η) (ht : mE w F φ τ nt a.tmps) (hd : a.defers = ds) (hr : lQ P nt ops ans nx (pE 0 ops.toList) τ η = some ses) (hob : ∀ se ∈ ses, ∀ ob, se.ob = some ob → ob.holds P) (r : Option Nat) (n id : Nat) {Q : Exit → Act → World → Prop}
    (hK : Done w0 w F φ nx ops.size (iF η ses) (lF τ ses) nt ds (Q .normal)) : (Code.region id ops false).wpIn (zD r) n P Q a w := by
  obtain ⟨hl, hstep⟩ := zaJ ops.toList 0 τ η ses hr
  simp only [Array.length_toList, Nat.zero_add] at hl hstep
  refine wpIn_region ?_
  have key : ∀ (m k : Nat), k + m = ops.size → ∀ a w' F' φ', iR w0 w F φ nx ses η τ nt ds (List.range k) a w' F' φ' → wpOpsIn (zD r) n P ops Q (List.range' k m) a w' := by
    intro m
    induction m with
    | zero =>
      intro k hk a w' F' φ' hi
      have hks : k = ses.length := by omega
      simp only [List.range'_zero, wpOpsIn]
      refine hi.fin (n := ops.size) (fun i hi => by have := List.mem_range.1 hi; omega) hl ?_ ?_ hK
      · rw [wV ses k (by omega), hks, List.take_length]
      · rw [wV ses k (by omega), hks, List.take_length]
    | succ m ih =>
      intro k hk a w' F' φ' hi
      rw [List.range'_succ, wpOpsIn_cons]
      have hko : ops[k]? = some ops[k] := Array.getElem?_eq_getElem (by omega)
      have hko' : ops.toList[k]? = some ops[k] := by rw [Array.getElem?_toList]; exact hko
      have hs := hstep k _ hko'
      rw [← wV ses k (by omega)] at hs
      refine hi.step (P := P) hko (by simp) hs (fun ob e => hob _ ?_ ob e) r n fun a' w'' F'' φ'' hi' => ih (k + 1) (by omega) a' w'' F'' φ'' (by rw [List.range_succ]; exact hi')
      rw [List.getD_eq_getElem?_getD, List.getElem?_eq_getElem (by omega)]
      exact List.getElem_mem _
  rw [List.range_eq_range']
  refine key ops.size 0 (by omega) a w F φ ⟨?_, ?_, hd, cG.refl _ _ _ _⟩
  · exact h.weakenU fun b hb => .inl hb
  · exact ht
structure Ord (M : List Nat) (ses : List SE) (n : Nat) (D : List Nat) : Prop where
  nodup : D.Nodup
  lt : ∀ i ∈ D, i < n
  closed : ∀ i ∈ D, ∀ k, (M.getD i 0).testBit k = true → k ∈ D
  rise : D.Pairwise fun x y => x < y ∨ uH (ses.getD y wC) (ses.getD x wC) = false
theorem zbF {M : List Nat} {n : Nat} (h : kJ M ses n = true) {i j : Nat} (hij : i < j) (hj : j < n) (hb : (M.getD j 0).testBit i = false) : uH (ses.getD i wC) (ses.getD j wC) = false := by
  unfold kJ at h
  rw [List.all_eq_true] at h
  have := h j (List.mem_range.2 hj)
  rw [List.all_eq_true] at this
  have := this i (List.mem_range.2 hij)
  rw [hb] at this
  simpa using this
theorem zay {x y : SE} {t : Nat} (h : uH x y = false) (hx : cH t x = true) : t ∉ y.rt ∧ cH t y = false := by
  simp only [uH, Bool.or_eq_false_iff] at h
  have hd : x.d = some t := by simpa [cH] using hx
  have := h.1.1.1
  rw [hd] at this
  simp only [Bool.or_eq_false_iff] at this
  exact ⟨by simpa using this.1, by simpa [cH] using this.2⟩
theorem zms {x y : SE} {t : Nat} (h : uH x y = false) (hy : cH t y = true) : t ∉ x.rt := by
  simp only [uH, Bool.or_eq_false_iff] at h
  have hd : y.d = some t := by simpa [cH] using hy
  have := h.1.1.2
  rw [hd] at this
  simpa using this
theorem zbP {x y : SE} {b : Nat} (h : uH x y = false) (hx : sI b x = true) : b ∉ y.rb ∧ sI b y = false := by
  simp only [uH, Bool.or_eq_false_iff] at h
  have h2 := h.1.2
  simp only [sI, List.any_eq_true] at hx
  obtain ⟨p, hp, e⟩ := hx
  rw [List.any_eq_false] at h2
  have := h2 p hp
  have e : p.1 = b := by simpa using e
  rw [e] at this
  simp only [Bool.or_eq_true, not_or] at this
  exact ⟨by simpa using this.1, by unfold sI; simpa only [Bool.not_eq_true] using this.2⟩
theorem zoO {x y : SE} {b : Nat} (h : uH x y = false) (hy : sI b y = true) : b ∉ x.rb := by
  simp only [uH, Bool.or_eq_false_iff] at h
  have h2 := h.2
  simp only [sI, List.any_eq_true] at hy
  obtain ⟨p, hp, e⟩ := hy
  rw [List.any_eq_false] at h2
  have := h2 p hp
  have e : p.1 = b := by simpa using e
  rw [e] at this
  simpa using this
theorem Ord.filter {M : List Nat} {n : Nat} {D : List Nat} (h : Ord M ses n D) (hp : kJ M ses n = true) {i : Nat} (hi : i < n) (hD : i ∉ D) (hpre : ∀ k, (M.getD i 0).testBit k = true → k ∈ D) (p : SE → Bool)
    (h1 : ∀ k, k < i → uH (ses.getD k wC) (ses.getD i wC) = false → p (ses.getD k wC) = false) (h2 : ∀ k, i < k → uH (ses.getD i wC) (ses.getD k wC) = false → p (ses.getD k wC) = false)
    (h3 : ∀ x y, uH (ses.getD y wC) (ses.getD x wC) = false → p (ses.getD x wC) = true → p (ses.getD y wC) = true → False) :
    D.filter (fun k => p (ses.getD k wC)) = (List.range i).filter (fun k => p (ses.getD k wC)) := by
  apply zby
  · have := h.rise.filter (p := fun k => p (ses.getD k wC))
    rw [List.pairwise_filter] at this ⊢
    refine this.imp ?_
    intro x y hxy px py
    rcases hxy px py with q | q
    · exact q
    · exact (h3 x y q px py).elim
  · exact List.Pairwise.filter _ List.pairwise_lt_range
  · intro k
    simp only [List.mem_filter, List.mem_range]
    constructor
    · rintro ⟨hk, pk⟩
      refine ⟨?_, pk⟩
      rcases Nat.lt_trichotomy k i with q | q | q
      · exact q
      · exact absurd (q ▸ hk) hD
      · by_cases hb : (M.getD k 0).testBit i = true
        · exact absurd (h.closed k hk i hb) hD
        · have := h2 k q (zbF hp q (h.lt k hk) (by simpa using hb))
          rw [this] at pk; cases pk
    · rintro ⟨hk, pk⟩
      refine ⟨?_, pk⟩
      by_cases hb : (M.getD i 0).testBit k = true
      · exact hpre k hb
      · have := h1 k hk (zbF hp hk hi (by simpa using hb))
        rw [this] at pk; cases pk
theorem eW (D : List Nat) (p : SE → Bool) : (D.map fun i => ses.getD i wC).filter p = (D.filter fun k => p (ses.getD k wC)).map fun i => ses.getD i wC := by
  rw [List.filter_map]; rfl
theorem iX (k : Nat) (hk : k ≤ ses.length) (p : SE → Bool) : (ses.take k).filter p = ((List.range k).filter fun k => p (ses.getD k wC)).map fun i => ses.getD i wC := by
  rw [← wV ses k hk, eW]
theorem Ord.agree {M : List Nat} {n : Nat} {D : List Nat} (h : Ord M ses n D) (hl : ses.length = n) (hp : kJ M ses n = true) {i : Nat} (hi : i < n) (hD : i ∉ D) (hpre : ∀ k, (M.getD i 0).testBit k = true → k ∈ D) :
    (∀ t, t ∈ (ses.getD i wC).rt → lF τ (D.map fun i => ses.getD i wC) t = lF τ (ses.take i) t) ∧ (∀ b, b ∈ (ses.getD i wC).rb → iF η (D.map fun i => ses.getD i wC) b = iF η (ses.take i) b) := by
  constructor
  · intro t ht
    rw [tT t _ τ τ rfl, tT t (ses.take i) τ τ rfl, eW, iX i (by omega)]
    rw [h.filter hp hi hD hpre (cH t)]
    · intro k hk hc
      cases hw : cH t (ses.getD k wC) with
      | false => rfl
      | true => exact absurd ht (zay hc hw).1
    · intro k hk hc
      cases hw : cH t (ses.getD k wC) with
      | false => rfl
      | true => exact absurd ht (zms hc hw)
    · intro x y hc px py
      have := (zay hc py).2
      rw [this] at px; cases px
  · intro b hb
    rw [vS b _ η η rfl, vS b (ses.take i) η η rfl, eW, iX i (by omega)]
    rw [h.filter hp hi hD hpre (sI b)]
    · intro k hk hc
      cases hw : sI b (ses.getD k wC) with
      | false => rfl
      | true => exact absurd hb (zbP hc hw).1
    · intro k hk hc
      cases hw : sI b (ses.getD k wC) with
      | false => rfl
      | true => exact absurd hb (zoO hc hw)
    · intro x y hc px py
      have := (zbP hc py).2
      rw [this] at px; cases px
theorem Ord.all {M : List Nat} {n : Nat} {D : List Nat} (h : Ord M ses n D) (hl : ses.length = n) (hall : ∀ i, i < n → i ∈ D) :
    lF τ (D.map fun i => ses.getD i wC) = lF τ ses ∧ iF η (D.map fun i => ses.getD i wC) = iF η ses := by
  have hf : ∀ p : SE → Bool, (∀ x y, uH (ses.getD y wC) (ses.getD x wC) = false → p (ses.getD x wC) = true → p (ses.getD y wC) = true → False) → D.filter (fun k => p (ses.getD k wC)) = (List.range n).filter (fun k => p (ses.getD k wC)) := by
    intro p h3
    apply zby
    · have := h.rise.filter (p := fun k => p (ses.getD k wC))
      rw [List.pairwise_filter] at this ⊢
      refine this.imp ?_
      intro x y hxy px py
      rcases hxy px py with q | q
      · exact q
      · exact (h3 x y q px py).elim
    · exact List.Pairwise.filter _ List.pairwise_lt_range
    · intro k
      simp only [List.mem_filter, List.mem_range]
      exact ⟨fun q => ⟨h.lt k q.1, q.2⟩, fun q => ⟨hall k q.1, q.2⟩⟩
  have htake : ses = ses.take n := by rw [← hl, List.take_length]
  constructor
  · funext t
    rw [tT t _ τ τ rfl, tT t ses τ τ rfl, eW, hf (cH t) (fun x y hc px py => by have := (zay hc py).2; rw [this] at px; cases px), htake, iX n (by omega)]
    rw [← htake]
  · funext b
    rw [vS b _ η η rfl, vS b ses η η rfl, eW, hf (sI b) (fun x y hc px py => by have := (zbP hc py).2; rw [this] at px; cases px), htake, iX n (by omega)]
    rw [← htake]
end
end Go.AM
