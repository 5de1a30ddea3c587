/- A text of the proof. -/
import Derived.Test.YtnlggkiekcpahaaGreatAAmN
set_option linter.unusedSimpArgs false
set_option linter.unusedVariables false
namespace Go.AM
open Go Go.RowKit
def bD : SE:={ d:=none,v:=.top,wr:=[],rt:=[],rb:=[],ob:=none }
def kF (τ : Nat → AV) : List SE → Nat → AV
  | []=>τ
  | se::l=>kF (yL τ se) l
def mF (η : kB) : List SE → kB
  | []=>η
  | se::l=>mF (yO η se) l
theorem zeY (τ : Nat → AV) : ∀ (l k : List SE),kF τ (l++k) = kF (kF τ l) k
  | [],_=>rfl
  | x::l,k=>zeY (yL τ x) l k
theorem zd8 (η : kB) : ∀ (l k : List SE),mF η (l++k) = mF (mF η l) k
  | [],_=>rfl
  | x::l,k=>zd8 (yO η x) l k
def pE : Nat → List Oper → List (Nat × Oper)
  | _,[]=>[]
  | i,o::os=>(i,o)::pE (i + 1) os
def mQ (P : Program) (nt : Nat) (ops : Array Oper) (ans : Nat → Option (AV × List pA)) (nx : Nat) : List (Nat × Oper) → (Nat → AV) → kB → Option (List SE)
  | [],_,_=>some []
  | (i,o)::jB,τ,η=>match yK P nt ops o (ans i) (nx + 8 * i) τ η with
    | some se=>match mQ P nt ops ans nx jB (yL τ se) (yO η se) with
      | some ses=>some (se::ses)
      | none=>none
    | none=>none
theorem zbk {P : Program} {nt : Nat} {ops : Array Oper} {ans : Nat → Option (AV × List pA)} {nx : Nat} : ∀ (os : List Oper) (i : Nat) (τ : Nat → AV) (η : kB) (ses : List SE), mQ P nt ops ans nx (pE i os) τ η = some ses →
    ses.length = os.length ∧ ∀ (k : Nat) (o : Oper),os[k]? = some o → yK P nt ops o (ans (i + k)) (nx + 8 * (i + k)) (kF τ (ses.take k)) (mF η (ses.take k)) = some (ses.getD k bD)
  | [],i,τ,η,ses,h=>by simp [pE,mQ] at h; subst h; simp
  | o::os,i,τ,η,ses,h=>by
    simp only [pE,mQ] at h
    split at h
    · rename_i se hse
      split at h
      · rename_i ses' hs
        cases h
        obtain ⟨h1,h2⟩:=zbk os (i + 1) _ _ ses' hs
        refine ⟨by simp [h1],fun k p hk=>?_⟩
        cases k with
        | zero=>simp at hk; subst hk; simpa [kF,mF] using hse
        | succ k =>
          have:=h2 k p (by simpa using hk)
          rw [show i + 1 + k = i + (k + 1) by omega] at this
          simpa [kF,mF] using this
      · cases h
    · cases h
def cN (acc : List Nat) : List Edge → Nat
  | []=>0
  | e::es=>if Region.binds .any e then (2 ^ e.on ||| acc.getD e.on 0) ||| cN acc es else cN acc es
def gH : List Oper → List Nat → List Nat
  | [],acc=>acc
  | o::os,acc=>gH os (acc++[cN acc o.after.toList])
def vK : Nat → List Oper → Bool
  | _,[]=>true
  | i,o::os=>(o.after.toList.all fun e=>!(Region.binds .any e) || decide (e.on < i)) && vK (i + 1) os
theorem zcX : ∀ (os : List Oper) (acc : List Nat) (k : Nat),k < acc.length → (gH os acc).getD k 0 = acc.getD k 0
  | [],acc,k,_=>rfl
  | o::os,acc,k,h=>by
    simp only [gH]
    rw [zcX os _ k (by simp; omega)]
    simp only [List.getD_eq_getElem?_getD]
    rw [List.getElem?_append_left h]
theorem zcU : ∀ (os : List Oper) (acc : List Nat) (k : Nat) (o : Oper),os[k]? = some o → (gH os acc).getD (acc.length + k) 0 = cN ((gH os acc).take (acc.length + k)) o.after.toList
  | [],acc,k,o,h=>by simp at h
  | p::os,acc,k,o,h=>by
    have pre : ∀ (os : List Oper) (acc : List Nat),(gH os acc).take acc.length = acc:=by
      intro os
      induction os with
      | nil=>intro acc; simp [gH]
      | cons q os ih =>
        intro acc
        simp only [gH]
        have:=ih (acc++[cN acc q.after.toList])
        simp only [List.length_append,List.length_cons,List.length_nil] at this
        have h2:=congrArg (List.take acc.length) this
        rw [List.take_take] at h2
        simpa using h2
    simp only [gH]
    cases k with
    | zero =>
      simp at h; subst h
      rw [Nat.add_zero,zcX os _ _ (by simp)]
      have:=pre os (acc++[cN acc p.after.toList])
      have h2:=congrArg (List.take acc.length) this
      rw [List.take_take] at h2
      simp only [List.length_append,List.length_cons,List.length_nil] at h2
      rw [show min acc.length (acc.length + (0 + 1)) = acc.length by omega] at h2
      rw [h2]
      simp
    | succ k =>
      have:=zcU os (acc++[cN acc p.after.toList]) k o (by simpa using h)
      simp only [List.length_append,List.length_cons,List.length_nil] at this
      rw [show acc.length + (k + 1) = acc.length + (0 + 1) + k by omega]
      exact this
theorem zbN {acc : List Nat} {k : Nat} : ∀ {es : List Edge},(cN acc es).testBit k = true → ∃ e ∈ es,Region.binds .any e = true ∧ (k = e.on ∨ (acc.getD e.on 0).testBit k = true)
  | [],h=>by simp [cN] at h
  | e::es,h=>by
    simp only [cN] at h
    split at h
    · rename_i hb
      rw [Nat.testBit_or,Bool.or_eq_true,Nat.testBit_or,Bool.or_eq_true] at h
      rcases h with (h | h) | h
      · rw [Nat.testBit_two_pow] at h
        exact ⟨e,by simp,hb,.inl (by simp at h; omega)⟩
      · exact ⟨e,by simp,hb,.inr h⟩
      · obtain ⟨e',h1,h2,h3⟩:=zbN h
        exact ⟨e',by simp [h1],h2,h3⟩
    · obtain ⟨e',h1,h2,h3⟩:=zbN h
      exact ⟨e',by simp [h1],h2,h3⟩
def gI (x y : SE) : Bool :=
  (match x.d with | some d=>y.rt.contains d || y.d == some d | none=>false) ||
  (match y.d with | some d=>x.rt.contains d | none=>false) ||
  x.wr.any (fun p=>y.rb.contains p.1 || y.wr.any (fun q=>q.1 == p.1)) ||
  y.wr.any (fun q=>x.rb.contains q.1)
def mH (M : List Nat) (ses : List SE) (n : Nat) : Bool :=
  (List.range n).all fun j=>(List.range j).all fun i=>(M.getD j 0).testBit i || !gI (ses.getD i bD) (ses.getD j bD)
def fH (t : Nat) (se : SE) : Bool:=se.d == some t
def gJ (b : Nat) (se : SE) : Bool:=se.wr.any fun p=>p.1 == b
theorem zoB {τ : Nat → AV} {se : SE} {t : Nat} (h : fH t se = false) : yL τ se t = τ t:=by
  unfold yL yR
  cases hd : se.d with
  | none=>rfl
  | some d =>
    have : t ≠ d:=by intro e; subst e; simp [fH,hd] at h
    simp [rD,this]
theorem zc5 : ∀ {l : List (Nat × pA)} {η : kB} {b : Nat},(l.any fun p=>p.1 == b) = false → iE η l b = η b
  | [],η,b,_=>rfl
  | (c,x)::l,η,b,h=>by
    simp only [List.any_cons,Bool.or_eq_false_iff] at h
    simp only [iE]
    rw [zc5 h.2]
    have : b ≠ c:=by intro e; subst e; simp at h
    simp [rD,this]
theorem zmy {η : kB} {se : SE} {b : Nat} (h : gJ b se = false) : yO η se b = η b:=zc5 h
theorem zhi {τ τ' : Nat → AV} {se : SE} {t : Nat} (h : fH t se = true ∨ τ t = τ' t) : yL τ se t = yL τ' se t:=by
  unfold yL yR
  cases hd : se.d with
  | none=>rcases h with h | h; simp [fH,hd] at h; exact h
  | some d =>
    simp only [rD]
    split
    · rfl
    · rename_i hne; rcases h with h | h; simp [fH,hd] at h; exact absurd h.symm hne; exact h
theorem zcK : ∀ {l : List (Nat × pA)} {η η' : kB} {b : Nat},((l.any fun p=>p.1 == b) = true ∨ η b = η' b) → iE η l b = iE η' l b
  | [],η,η',b,h=>by rcases h with h | h; simp at h; exact h
  | (c,x)::l,η,η',b,h=>by
    simp only [iE]
    apply zcK
    by_cases e : b = c
    · right; simp [rD,e]
    · rcases h with h | h
      · simp only [List.any_cons,Bool.or_eq_true] at h
        rcases h with h | h
        · simp at h; exact absurd h.symm e
        · exact .inl h
      · right; simp [rD,e,h]
theorem zhG {η η' : kB} {se : SE} {b : Nat} (h : gJ b se = true ∨ η b = η' b) : yO η se b = yO η' se b:=zcK h
theorem gU (t : Nat) : ∀ (l : List SE) (τ τ' : Nat → AV),τ t = τ' t → kF τ l t = kF τ' (l.filter (fH t)) t
  | [],τ,τ',h=>h
  | x::l,τ,τ',h=>by
    simp only [kF]
    by_cases hx : fH t x = true
    · rw [List.filter_cons_of_pos hx]; simp only [kF]
      exact gU t l _ _ (zhi (.inl hx))
    · rw [List.filter_cons_of_neg hx]
      exact gU t l _ _ ((zoB (by simpa using hx)).trans h)
theorem xU (b : Nat) : ∀ (l : List SE) (η η' : kB),η b = η' b → mF η l b = mF η' (l.filter (gJ b)) b
  | [],η,η',h=>h
  | x::l,η,η',h=>by
    simp only [mF]
    by_cases hx : gJ b x = true
    · rw [List.filter_cons_of_pos hx]; simp only [mF]
      exact xU b l _ _ (zhG (.inl hx))
    · rw [List.filter_cons_of_neg hx]
      exact xU b l _ _ ((zmy (by simpa using hx)).trans h)
theorem zbV : ∀ (l k : List Nat),l.Pairwise (· < ·) → k.Pairwise (· < ·) → (∀ x,x ∈ l ↔ x ∈ k) → l = k
  | [],k,_,_,h=>by
    cases k with
    | nil=>rfl
    | cons y k=>have:=(h y).2 (by simp); simp at this
  | x::l,[],_,_,h=>by have:=(h x).1 (by simp); simp at this
  | x::l,y::k,hl,hk,h=>by
    rw [List.pairwise_cons] at hl hk
    have e : x = y:=by
      rcases Nat.lt_trichotomy x y with q | q | q
      · have:=(h x).1 (by simp)
        rcases List.mem_cons.1 this with r | r
        · omega
        · have:=hk.1 x r; omega
      · exact q
      · have:=(h y).2 (by simp)
        rcases List.mem_cons.1 this with r | r
        · omega
        · have:=hl.1 y r; omega
    subst e
    congr 1
    refine zbV l k hl.2 hk.2 fun z=>?_
    constructor
    · intro hz
      have:=(h z).1 (by simp [hz])
      rcases List.mem_cons.1 this with r | r
      · subst r; have:=hl.1 z hz; omega
      · exact r
    · intro hz
      have:=(h z).2 (by simp [hz])
      rcases List.mem_cons.1 this with r | r
      · subst r; have:=hk.1 z hz; omega
      · exact r
end Go.AM
