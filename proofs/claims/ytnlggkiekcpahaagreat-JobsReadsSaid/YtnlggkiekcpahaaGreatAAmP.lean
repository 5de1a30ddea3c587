/- A text of the proof. -/
import Derived.Test.YtnlggkiekcpahaaGreatAAmO
set_option linter.unusedSimpArgs false
set_option linter.unusedVariables false
namespace Go.AM
open Go Go.RowKit
section
variable {P : Program} {w0 w : World} {F : Nat → Prop} {φ : kA} {η : kB} {τ : Nat → AV} {nt : Nat} {ds : List Deferred}
def Used (nx : Nat) (D : List Nat) : Nat → Prop:=fun b=>b < nx ∨ ∃ i,i ∈ D ∧ ∃ m,m < 8 ∧ b = nx + 8 * i + m
structure cT (w0 w : World) (F : Nat → Prop) (φ : kA) (nx : Nat) (ses : List SE) (η : kB) (τ : Nat → AV) (nt : Nat) (ds : List Deferred) (D : List Nat) (a : Act) (w' : World) (F' : Nat → Prop) (φ' : kA) : Prop where
  heap : xB w0 w' F' φ' (Used nx D) (mF η (D.map fun i=>ses.getD i bD))
  tmps : nE w' F' φ' (kF τ (D.map fun i=>ses.getD i bD)) nt a.tmps
  dfr : a.defers = ds
  grow : fG w0 w F φ w' F' φ'
theorem cT.step {nx : Nat} {ses : List SE} {D : List Nat} {a : Act} {w' : World} {F' : Nat → Prop} {φ' : kA} (h : cT w0 w F φ nx ses η τ nt ds D a w' F' φ') {ops : Array Oper} {ans : Nat → Option (AV × List pA)} {i : Nat} {o : Oper} (hi : ops[i]? = some o) (hD : i ∉ D)
    (hs : yK P nt ops o (ans i) (nx + 8 * i) (kF τ (D.map fun i=>ses.getD i bD)) (mF η (D.map fun i=>ses.getD i bD)) = some (ses.getD i bD)) (hob : ∀ ob,(ses.getD i bD).ob = some ob → ob.holds P) (r : Option Nat) (n : Nat) {K : Act → World → Prop} {Q : Exit → Act → World → Prop}
    (hK : ∀ a' w'' F'' φ'',cT w0 w F φ nx ses η τ nt ds (D++[i]) a' w'' F'' φ'' → K a' w'') : wpOpIn (aE r) n P ops Q i K a w':=by
  refine zc9 (U':=Used nx (D++[i])) h.heap h.tmps h.dfr hi hs hob (fun m hm=>?_) (fun b hb=>?_) (fun m hm=>?_) r n fun a' w'' φ'' F'' k1 k2 k3 k4=>?_
  · rintro (q | ⟨j,hj,m',hm',e⟩)
    · omega
    · have : i = j:=by omega
      exact hD (this ▸ hj)
  · rcases hb with q | ⟨j,hj,m',hm',e⟩
    · exact .inl q
    · exact .inr ⟨j,List.mem_append_left _ hj,m',hm',e⟩
  · exact .inr ⟨i,by simp,m,hm,rfl⟩
  · refine hK a' w'' F'' φ'' ⟨?_,?_,k3,h.grow.trans k4⟩
    · rw [List.map_append,zd8]; exact k1
    · rw [List.map_append,zeY]; exact k2
theorem sX (ses : List SE) : ∀ k,k ≤ ses.length → (List.range k).map (fun i=>ses.getD i bD) = ses.take k
  | 0,_=>by simp
  | k + 1,h=>by
    rw [List.range_succ,List.map_append,sX ses k (by omega),List.take_succ_eq_append_getElem (by omega)]
    congr 1
    simp [List.getD_eq_getElem?_getD,List.getElem?_eq_getElem (show k < ses.length by omega)]
def Done (w0 w : World) (F : Nat → Prop) (φ : kA) (nx n : Nat) (η' : kB) (τ' : Nat → AV) (nt : Nat) (ds : List Deferred) (K : Act → World → Prop) : Prop :=
  ∀ a' w' φ' F',xB w0 w' F' φ' (fun b=>b < nx + 8 * n) η' → nE w' F' φ' τ' nt a'.tmps → a'.defers = ds → fG w0 w F φ w' F' φ' → K a' w'
theorem cT.fin {nx n : Nat} {ses : List SE} {D : List Nat} {a : Act} {w' : World} {F' : Nat → Prop} {φ' : kA} (h : cT w0 w F φ nx ses η τ nt ds D a w' F' φ') (hn : ∀ i ∈ D, i < n) (hl : ses.length = n)
    (hH : mF η (D.map fun i=>ses.getD i bD) = mF η ses) (hT : kF τ (D.map fun i=>ses.getD i bD) = kF τ ses) {K : Act → World → Prop} (hK : Done w0 w F φ nx n (mF η ses) (kF τ ses) nt ds K) : K a w':=by
  refine hK a w' φ' F' ?_ (hT ▸ h.tmps) h.dfr h.grow
  rw [← hH]
  refine h.heap.weakenU fun b hb=>?_
  rcases hb with q | ⟨i,hi,m,hm,e⟩
  · omega
  · have:=hn i hi; omega
variable {a : Act} {ops : Array Oper} {ans : Nat → Option (AV × List pA)} {nx : Nat} {ses : List SE}
theorem ze8 (h : xB w0 w F φ (fun b => b < nx) η) (ht : nE w F φ τ nt a.tmps) (hd : a.defers = ds) (hr : mQ P nt ops ans nx (pE 0 ops.toList) τ η = some ses) (hob : ∀ se ∈ ses, ∀ ob, se.ob = some ob → ob.holds P) (r : Option Nat) (n id : Nat) {Q : Exit → Act → World → Prop}
    (hK : Done w0 w F φ nx ops.size (mF η ses) (kF τ ses) nt ds (Q .normal)) : (Code.region id ops false).wpIn (aE r) n P Q a w:=by
  obtain ⟨hl,hstep⟩:=zbk ops.toList 0 τ η ses hr
  simp only [Array.length_toList,Nat.zero_add] at hl hstep
  refine wpIn_region ?_
  have key : ∀ (m k : Nat),k + m = ops.size → ∀ a w' F' φ',cT w0 w F φ nx ses η τ nt ds (List.range k) a w' F' φ' → wpOpsIn (aE r) n P ops Q (List.range' k m) a w':=by
    intro m
    induction m with
    | zero =>
      intro k hk a w' F' φ' hi
      have hks : k = ses.length:=by omega
      simp only [List.range'_zero,wpOpsIn]
      refine hi.fin (n:=ops.size) (fun i hi=>by have:=List.mem_range.1 hi; omega) hl ?_ ?_ hK
      · rw [sX ses k (by omega),hks,List.take_length]
      · rw [sX ses k (by omega),hks,List.take_length]
    | succ m ih =>
      intro k hk a w' F' φ' hi
      rw [List.range'_succ,wpOpsIn_cons]
      have hko : ops[k]? = some ops[k]:=Array.getElem?_eq_getElem (by omega)
      have hko' : ops.toList[k]? = some ops[k]:=by rw [Array.getElem?_toList]; exact hko
      have hs:=hstep k _ hko'
      rw [← sX ses k (by omega)] at hs
      refine hi.step (P:=P) hko (by simp) hs (fun ob e=>hob _ ?_ ob e) r n fun a' w'' F'' φ'' hi'=>ih (k + 1) (by omega) a' w'' F'' φ'' (by rw [List.range_succ]; exact hi')
      rw [List.getD_eq_getElem?_getD,List.getElem?_eq_getElem (by omega)]
      exact List.getElem_mem _
  rw [List.range_eq_range']
  refine key ops.size 0 (by omega) a w F φ ⟨?_,?_,hd,fG.refl _ _ _ _⟩
  · exact h.weakenU fun b hb=>.inl hb
  · exact ht
structure Ord (M : List Nat) (ses : List SE) (n : Nat) (D : List Nat) : Prop where
  nodup : D.Nodup
  lt : ∀ i ∈ D,i < n
  closed : ∀ i ∈ D,∀ k,(M.getD i 0).testBit k = true → k ∈ D
  rise : D.Pairwise fun x y=>x < y ∨ gI (ses.getD y bD) (ses.getD x bD) = false
theorem zaL {M : List Nat} {n : Nat} (h : mH M ses n = true) {i j : Nat} (hij : i < j) (hj : j < n) (hb : (M.getD j 0).testBit i = false) : gI (ses.getD i bD) (ses.getD j bD) = false:=by
  unfold mH at h
  rw [List.all_eq_true] at h
  have:=h j (List.mem_range.2 hj)
  rw [List.all_eq_true] at this
  have:=this i (List.mem_range.2 hij)
  rw [hb] at this
  simpa using this
theorem zaJ {x y : SE} {t : Nat} (h : gI x y = false) (hx : fH t x = true) : t ∉ y.rt ∧ fH t y = false:=by
  simp only [gI,Bool.or_eq_false_iff] at h
  have hd : x.d = some t:=by simpa [fH] using hx
  have:=h.1.1.1
  rw [hd] at this
  simp only [Bool.or_eq_false_iff] at this
  exact ⟨by simpa using this.1,by simpa [fH] using this.2⟩
theorem zpt {x y : SE} {t : Nat} (h : gI x y = false) (hy : fH t y = true) : t ∉ x.rt:=by
  simp only [gI,Bool.or_eq_false_iff] at h
  have hd : y.d = some t:=by simpa [fH] using hy
  have:=h.1.1.2
  rw [hd] at this
  simpa using this
theorem zaB {x y : SE} {b : Nat} (h : gI x y = false) (hx : gJ b x = true) : b ∉ y.rb ∧ gJ b y = false:=by
  simp only [gI,Bool.or_eq_false_iff] at h
  have h2:=h.1.2
  simp only [gJ,List.any_eq_true] at hx
  obtain ⟨p,hp,e⟩:=hx
  rw [List.any_eq_false] at h2
  have:=h2 p hp
  have e : p.1 = b:=by simpa using e
  rw [e] at this
  simp only [Bool.or_eq_true,not_or] at this
  exact ⟨by simpa using this.1,by unfold gJ; simpa only [Bool.not_eq_true] using this.2⟩
theorem zfH {x y : SE} {b : Nat} (h : gI x y = false) (hy : gJ b y = true) : b ∉ x.rb:=by
  simp only [gI,Bool.or_eq_false_iff] at h
  have h2:=h.2
  simp only [gJ,List.any_eq_true] at hy
  obtain ⟨p,hp,e⟩:=hy
  rw [List.any_eq_false] at h2
  have:=h2 p hp
  have e : p.1 = b:=by simpa using e
  rw [e] at this
  simpa using this
theorem Ord.filter {M : List Nat} {n : Nat} {D : List Nat} (h : Ord M ses n D) (hp : mH M ses n = true) {i : Nat} (hi : i < n) (hD : i ∉ D) (hpre : ∀ k, (M.getD i 0).testBit k = true → k ∈ D) (p : SE → Bool)
    (h1 : ∀ k,k < i → gI (ses.getD k bD) (ses.getD i bD) = false → p (ses.getD k bD) = false) (h2 : ∀ k,i < k → gI (ses.getD i bD) (ses.getD k bD) = false → p (ses.getD k bD) = false)
    (h3 : ∀ x y,gI (ses.getD y bD) (ses.getD x bD) = false → p (ses.getD x bD) = true → p (ses.getD y bD) = true → False) :
    D.filter (fun k=>p (ses.getD k bD)) = (List.range i).filter (fun k=>p (ses.getD k bD)):=by
  apply zbV
  · have:=h.rise.filter (p:=fun k=>p (ses.getD k bD))
    rw [List.pairwise_filter] at this ⊢
    refine this.imp ?_
    intro x y hxy px py
    rcases hxy px py with q | q
    · exact q
    · exact (h3 x y q px py).elim
  · exact List.Pairwise.filter _ List.pairwise_lt_range
  · intro k
    simp only [List.mem_filter,List.mem_range]
    constructor
    · rintro ⟨hk,pk⟩
      refine ⟨?_,pk⟩
      rcases Nat.lt_trichotomy k i with q | q | q
      · exact q
      · exact absurd (q ▸ hk) hD
      · by_cases hb : (M.getD k 0).testBit i = true
        · exact absurd (h.closed k hk i hb) hD
        · have:=h2 k q (zaL hp q (h.lt k hk) (by simpa using hb))
          rw [this] at pk; cases pk
    · rintro ⟨hk,pk⟩
      refine ⟨?_,pk⟩
      by_cases hb : (M.getD i 0).testBit k = true
      · exact hpre k hb
      · have:=h1 k hk (zaL hp hk hi (by simpa using hb))
        rw [this] at pk; cases pk
theorem bY (D : List Nat) (p : SE → Bool) : (D.map fun i=>ses.getD i bD).filter p = (D.filter fun k=>p (ses.getD k bD)).map fun i=>ses.getD i bD:=by
  rw [List.filter_map]; rfl
theorem nY (k : Nat) (hk : k ≤ ses.length) (p : SE → Bool) : (ses.take k).filter p = ((List.range k).filter fun k=>p (ses.getD k bD)).map fun i=>ses.getD i bD:=by
  rw [← sX ses k hk,bY]
theorem Ord.agree {M : List Nat} {n : Nat} {D : List Nat} (h : Ord M ses n D) (hl : ses.length = n) (hp : mH M ses n = true) {i : Nat} (hi : i < n) (hD : i ∉ D) (hpre : ∀ k, (M.getD i 0).testBit k = true → k ∈ D) :
    (∀ t,t ∈ (ses.getD i bD).rt → kF τ (D.map fun i=>ses.getD i bD) t = kF τ (ses.take i) t) ∧ (∀ b,b ∈ (ses.getD i bD).rb → mF η (D.map fun i=>ses.getD i bD) b = mF η (ses.take i) b):=by
  constructor
  · intro t ht
    rw [gU t _ τ τ rfl,gU t (ses.take i) τ τ rfl,bY,nY i (by omega)]
    rw [h.filter hp hi hD hpre (fH t)]
    · intro k hk hc
      cases hw : fH t (ses.getD k bD) with
      | false=>rfl
      | true=>exact absurd ht (zaJ hc hw).1
    · intro k hk hc
      cases hw : fH t (ses.getD k bD) with
      | false=>rfl
      | true=>exact absurd ht (zpt hc hw)
    · intro x y hc px py
      have:=(zaJ hc py).2
      rw [this] at px; cases px
  · intro b hb
    rw [xU b _ η η rfl,xU b (ses.take i) η η rfl,bY,nY i (by omega)]
    rw [h.filter hp hi hD hpre (gJ b)]
    · intro k hk hc
      cases hw : gJ b (ses.getD k bD) with
      | false=>rfl
      | true=>exact absurd hb (zaB hc hw).1
    · intro k hk hc
      cases hw : gJ b (ses.getD k bD) with
      | false=>rfl
      | true=>exact absurd hb (zfH hc hw)
    · intro x y hc px py
      have:=(zaB hc py).2
      rw [this] at px; cases px
theorem Ord.all {M : List Nat} {n : Nat} {D : List Nat} (h : Ord M ses n D) (hl : ses.length = n) (hall : ∀ i, i < n → i ∈ D) :
    kF τ (D.map fun i=>ses.getD i bD) = kF τ ses ∧ mF η (D.map fun i=>ses.getD i bD) = mF η ses:=by
  have hf : ∀ p : SE → Bool,(∀ x y,gI (ses.getD y bD) (ses.getD x bD) = false → p (ses.getD x bD) = true → p (ses.getD y bD) = true → False) → D.filter (fun k=>p (ses.getD k bD)) = (List.range n).filter (fun k=>p (ses.getD k bD)):=by
    intro p h3
    apply zbV
    · have:=h.rise.filter (p:=fun k=>p (ses.getD k bD))
      rw [List.pairwise_filter] at this ⊢
      refine this.imp ?_
      intro x y hxy px py
      rcases hxy px py with q | q
      · exact q
      · exact (h3 x y q px py).elim
    · exact List.Pairwise.filter _ List.pairwise_lt_range
    · intro k
      simp only [List.mem_filter,List.mem_range]
      exact ⟨fun q=>⟨h.lt k q.1,q.2⟩,fun q=>⟨hall k q.1,q.2⟩⟩
  have htake : ses = ses.take n:=by rw [← hl,List.take_length]
  constructor
  · funext t
    rw [gU t _ τ τ rfl,gU t ses τ τ rfl,bY,hf (fH t) (fun x y hc px py=>by have:=(zaJ hc py).2; rw [this] at px; cases px),htake,nY n (by omega)]
    rw [← htake]
  · funext b
    rw [xU b _ η η rfl,xU b ses η η rfl,bY,hf (gJ b) (fun x y hc px py=>by have:=(zaB hc py).2; rw [this] at px; cases px),htake,nY n (by omega)]
    rw [← htake]
end
end Go.AM
