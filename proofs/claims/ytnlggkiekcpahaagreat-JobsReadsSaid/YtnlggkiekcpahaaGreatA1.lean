/- Read returns what the document says, of states that are not long; no other condition. -/
import Derived.Test.YtnlggkiekcpahaaGreatAGp
import Derived.Test.YtnlggkiekcpahaaGreatAGm
import Derived.Laws.BitsLemmas
import Derived.KernelRfl
set_option linter.unusedSimpArgs false
set_option linter.unusedVariables false
section
namespace Go.T
open Go Go.AM
def Ev {α : Type} (g : Nat → Option α) (r : α) : Prop:=∃ N,∀ fu,N ≤ fu → g fu = some r
theorem Ev.ret {α : Type} (r : α) : Ev (fun _=>some r) r:=⟨0,fun _ _=>rfl⟩
theorem Ev.bind {α β : Type} {g : Nat → Option α} {a : α} {k : Nat → α → Option β} {r : β} (h : Ev g a) (h2 : Ev (fun fu=>k fu a) r) : Ev (fun fu=>(g fu).bind (k fu)) r:=by
  obtain ⟨n,h⟩:=h
  obtain ⟨m,h2⟩:=h2
  exact ⟨n + m,fun fu hfu=>by show (g fu).bind (k fu) = _; rw [h fu (by omega)]; exact h2 fu (by omega)⟩
theorem Ev.succ {α : Type} {g : Nat → Option α} {r : α} (h : Ev (fun fu=>g (fu + 1)) r) : Ev g r:=by
  obtain ⟨n,h⟩:=h
  exact ⟨n + 1,fun fu hfu=>by obtain ⟨m,rfl⟩ : ∃ m,fu = m + 1:=⟨fu - 1,by omega⟩; exact h m (by omega)⟩
theorem Ev.of {α : Type} {g g' : Nat → Option α} {r : α} (e : ∀ fu,g fu = g' fu) (h : Ev g' r) : Ev g r:=by
  obtain ⟨n,h⟩:=h
  exact ⟨n,fun fu hfu=>(e fu).trans (h fu hfu)⟩
theorem Ev.mono {α : Type} {g : Nat → Option α} {r : α} {n : Nat} (m : ∀ fu,dA (g fu) (g (fu + 1))) (h : g n = some r) : Ev g r:=by
  refine ⟨n,fun fu hfu=>?_⟩
  induction fu with
  | zero=>rw [show n = 0 by omega] at h; exact h
  | succ fu ih =>
    by_cases e : n = fu + 1
    · rw [← e]; exact h
    · exact m fu r (ih (by omega))
theorem Ev.uniq {α : Type} {g : Nat → Option α} {r s : α} (h : Ev g r) (k : Ev g s) : r = s:=by
  obtain ⟨n,h⟩:=h
  obtain ⟨m,k⟩:=k
  have:=(h (n + m) (by omega)).symm.trans (k (n + m) (by omega))
  exact oI this
theorem Ev.one {α : Type} {g : Nat → Option α} {r : α} (h : Ev g r) : ∃ fu,g fu = some r:=by
  obtain ⟨n,h⟩:=h; exact ⟨n,h n (Nat.le_refl n)⟩
theorem wr {n : Int} (h1 : -9223372036854775808 ≤ n) (h2 : n ≤ 9223372036854775807) : IntKind.i64.wrap n = n:=by
  rw [IntKind.wrap_i64]; omega
theorem yT {α : Type} (l : List α) (n : Nat) : ix l (n : Int) = l[n]?:=by simp [ix]
theorem aB {α : Type} (l : List α) (n : Nat) (h : n < l.length) : ix l (n : Int) = some l[n]:=by simp [ix,h]
abbrev bl:=Op.bytesLess
theorem oG (a : List UInt8) : bl a a = false:=by
  induction a with
  | nil=>rfl
  | cons x a ih=>simpa [bl,Op.bytesLess] using ih
theorem eS : ∀ (a b : List UInt8),bl a b = true ∨ a = b ∨ bl b a = true
  | [],[]=>.inr (.inl rfl)
  | [],_::_=>.inl rfl
  | _::_,[]=>.inr (.inr rfl)
  | x::a,y::b=>by
    have tri : x < y ∨ x = y ∨ y < x:=by
      rcases Nat.lt_trichotomy x.toNat y.toNat with h | h | h
      · exact .inl (UInt8.lt_iff_toNat_lt.2 h)
      · exact .inr (.inl (UInt8.toNat_inj.1 h))
      · exact .inr (.inr (UInt8.lt_iff_toNat_lt.2 h))
    rcases tri with h | h | h
    · left; simp [bl,Op.bytesLess,h]
    · subst h
      rcases eS a b with k | k | k
      · left; simp [bl,Op.bytesLess]; exact k
      · right; left; rw [k]
      · right; right; simp [bl,Op.bytesLess]; exact k
    · right; right; simp [bl,Op.bytesLess,h]
theorem jN : ∀ {a b c : List UInt8},bl a b = true → bl b c = true → bl a c = true
  | a,[],c,h,_=>by cases a <;> simp [bl,Op.bytesLess] at h
  | a,b,[],_,k=>by cases b <;> simp [bl,Op.bytesLess] at k
  | [],y::b,z::c,_,_=>rfl
  | x::a,y::b,z::c,h,k=>by
    simp only [bl,Op.bytesLess,Bool.or_eq_true,decide_eq_true_eq,Bool.and_eq_true,beq_iff_eq] at h k ⊢
    rcases h with h | ⟨rfl,h⟩
    · rcases k with k | ⟨rfl,k⟩
      · exact .inl (UInt8.lt_trans h k)
      · exact .inl h
    · rcases k with k | ⟨rfl,k⟩
      · exact .inl k
      · exact .inr ⟨rfl,jN h k⟩
theorem dL {a b : List UInt8} (h : bl a b = true) : bl b a = false:=by
  cases k : bl b a with
  | false=>rfl
  | true=>have:=jN h k; rw [oG] at this; cases this
def chk (e : aA) : Int:=if 32 < e.Key.length ∨ 64 < e.Val.length then 3 else if e.Dead = true ∧ e.Val ≠ [] then 6 else if e.Seq < 1 ∨ 1000000000 < e.Seq then 7 else 0
theorem sR (fu : Nat) (e : aA) : tO fu e = some (chk e):=by
  obtain ⟨k,v,d,s⟩:=e
  have c1 : decide ((32 : Int) < (k.length : Int)) = decide (32 < k.length):=decide_eq_decide.2 (by omega)
  have c2 : decide ((64 : Int) < (v.length : Int)) = decide (64 < v.length):=decide_eq_decide.2 (by omega)
  simp only [tO,wM,chk,c1,c2]
  by_cases h1 : 32 < k.length <;> by_cases h2 : 64 < v.length <;> cases d <;> by_cases h4 : v = [] <;> by_cases h5 : s < 1 <;> by_cases h6 : 1000000000 < s <;> simp [h1,h2,h4,h5,h6]
theorem iX (fu : Nat) (e : aA) : lV fu e = some (chk e):=by
  obtain ⟨k,v,d,s⟩:=e
  have c1 : decide ((32 : Int) < (k.length : Int)) = decide (32 < k.length):=decide_eq_decide.2 (by omega)
  have c2 : decide ((64 : Int) < (v.length : Int)) = decide (64 < v.length):=decide_eq_decide.2 (by omega)
  simp only [lV,chk,c1,c2]
  by_cases h1 : 32 < k.length <;> by_cases h2 : 64 < v.length <;> cases d <;> by_cases h4 : v = [] <;> by_cases h5 : s < 1 <;> by_cases h6 : 1000000000 < s <;> simp [h1,h2,h4,h5,h6]
def cp : List UInt8 → List UInt8 → Nat
  | x::a,y::b=>if x = y then cp a b + 1 else 0
  | _,_=>0
theorem zgX (a b : List UInt8) (ha : a.length ≤ 1000000000000) (m : Nat) : ∀ n : Nat,n + m = a.length → Ev (fun fu=>xJ a b fu (n : Int)) ((n + cp (a.drop n) (b.drop n) : Nat) : Int):=by
  induction m with
  | zero =>
    intro n hn
    refine Ev.succ (Ev.of (g':=fun _=>some ((n : Int))) (fun fu=>?_) ?_)
    · simp [xJ,show ¬ (n : Int) < (a.length : Int) by omega]
    · rw [show a.drop n = [] from List.drop_eq_nil_of_le (by omega)]
      exact Ev.ret _
  | succ m ih =>
    intro n hn
    have hna : n < a.length:=by omega
    rw [List.drop_eq_getElem_cons hna]
    refine Ev.succ ?_
    by_cases hb : n < b.length
    · rw [List.drop_eq_getElem_cons hb]
      by_cases he : a[n] = b[n]
      · refine Ev.of (g':=fun fu=>xJ a b fu ((n + 1 : Nat) : Int)) (fun fu=>?_) ?_
        · simp [xJ,hna,hb,yT,he]
          rw [wr (by omega) (by omega)]
        · have:=ih (n + 1) (by omega)
          rw [show ((n + cp (a[n]::a.drop (n + 1)) (b[n]::b.drop (n + 1)) : Nat) : Int) = ((n + 1 + cp (a.drop (n + 1)) (b.drop (n + 1)) : Nat) : Int) by
            rw [he]; simp [cp]; omega]
          exact this
      · refine Ev.of (g':=fun _=>some ((n : Int))) (fun fu=>?_) ?_
        · have : ¬ (a[n].toNat : Int) = (b[n].toNat : Int):=fun h=>he (UInt8.toNat_inj.1 (by omega))
          simp [xJ,hna,hb,yT,this]
        · simp only [cp,if_neg he,Nat.add_zero]
          exact Ev.ret _
    · refine Ev.of (g':=fun _=>some ((n : Int))) (fun fu=>?_) ?_
      · simp [xJ,hna,hb]
      · rw [show b.drop n = [] from List.drop_eq_nil_of_le (by omega)]
        exact Ev.ret _
theorem zcT : ∀ a b,cp a b ≤ a.length ∧ cp a b ≤ b.length
  | [],b=>by simp [cp]
  | _::_,[]=>by simp [cp]
  | x::a,y::b=>by
    have:=zcT a b
    simp only [cp]
    split <;> simp <;> omega
theorem zeV : ∀ a b, (cp a b = a.length → cp a b = b.length → a = b) ∧
    (cp a b = a.length → cp a b ≠ b.length → bl a b = true) ∧
    (cp a b ≠ a.length → cp a b = b.length → bl b a = true) ∧
    (∀ (h1 : cp a b < a.length) (h2 : cp a b < b.length),a[cp a b] ≠ b[cp a b] ∧ bl a b = decide (a[cp a b] < b[cp a b]))
  | [],[]=>by simp [cp]
  | [],_::_=>by simp [cp,bl,Op.bytesLess]
  | _::_,[]=>by simp [cp,bl,Op.bytesLess]
  | x::a,y::b=>by
    obtain ⟨h1,h2,h3,h4⟩:=zeV a b
    by_cases e : x = y
    · subst e
      simp only [cp,↓reduceIte,List.length_cons,Nat.add_right_cancel_iff,ne_eq,List.getElem_cons_succ,bl,Op.bytesLess,Nat.add_lt_add_iff_right]
      simp only [UInt8.lt_irrefl,decide_false,beq_self_eq_true,Bool.true_and,Bool.false_or]
      exact ⟨fun p q=>by rw [h1 p q],h2,h3,h4⟩
    · simp only [cp,if_neg e,List.length_cons]
      refine ⟨by omega,by omega,by omega,fun _ _=>?_⟩
      simp [bl,Op.bytesLess,e]
theorem zpz (a b : List UInt8) (ha : a.length ≤ 1000000000000) : ∃ r,Ev (fun fu=>mO fu a b) r ∧ ((0 ≤ r) ↔ bl a b = false):=by
  have hc : Ev (fun fu=>uW fu a b) (cp a b : Int):=by
    unfold uW
    refine Ev.bind (a:=(cp a b : Int)) ?_ (Ev.ret _)
    have:=zgX a b ha a.length 0 (by omega)
    simpa using this
  obtain ⟨k1,k2⟩:=zcT a b
  obtain ⟨h1,h2,h3,h4⟩:=zeV a b
  unfold mO
  have d1 : decide ((cp a b : Int) = (a.length : Int)) = decide (cp a b = a.length):=decide_eq_decide.2 (by omega)
  have d2 : decide ((cp a b : Int) = (b.length : Int)) = decide (cp a b = b.length):=decide_eq_decide.2 (by omega)
  have d3 : decide ((cp a b : Int) < (b.length : Int)) = decide (cp a b < b.length):=decide_eq_decide.2 (by omega)
  by_cases p : cp a b = a.length
  · by_cases q : cp a b = b.length
    · refine ⟨0,Ev.bind hc (Ev.of (fun fu=>?_) (Ev.ret _)),?_⟩
      · simp only [d1,d2,d3,dT p,dT q]; rfl
      · rw [h1 p q]; simp [oG]
    · refine ⟨-1,Ev.bind hc (Ev.of (fun fu=>?_) (Ev.ret _)),?_⟩
      · simp only [d1,d2,d3,dT p,dF q]; rfl
      · rw [h2 p q]; simp
  · by_cases q : cp a b = b.length
    · refine ⟨1,Ev.bind hc (Ev.of (fun fu=>?_) (Ev.ret _)),?_⟩
      · simp only [d1,d2,d3,dF p,dT q,dF (show ¬ cp a b < b.length by omega)]; rfl
      · rw [dL (h3 p q)]; simp
    · obtain ⟨j1,j2⟩:=h4 (by omega) (by omega)
      refine ⟨if a[cp a b] < b[cp a b] then -1 else 1,Ev.bind hc (Ev.of (fun fu=>?_) (Ev.ret _)),?_⟩
      · have d4 : decide ((a[cp a b].toNat : Int) < (b[cp a b].toNat : Int)) = decide (a[cp a b] < b[cp a b]):=decide_eq_decide.2 (by rw [UInt8.lt_iff_toNat_lt]; omega)
        simp only [d1,d2,d3,dF p,dF q,dT (show cp a b < b.length by omega),aB a (cp a b) (by omega),aB b (cp a b) (by omega),d4]
        by_cases z : a[cp a b] < b[cp a b]
        · have z':=UInt8.lt_iff_toNat_lt.1 z
          simp [z,z']
        · have z' : b[cp a b].toNat ≤ a[cp a b].toNat:=by rw [UInt8.lt_iff_toNat_lt] at z; omega
          simp [z,z']
      · rw [j2]; split <;> simp [*]
def zeU (l : List aA) (i : Nat) : Prop:=∀ h : i < l.length,chk l[i] = 0 ∧ (∀ h0 : 0 < i,bl l[i - 1].Key l[i].Key = true)
theorem zkW (l : List aA) (hl : l.length ≤ 1000000000000) (hk : ∀ e ∈ l, e.Key.length ≤ 1000000000000) (m : Nat) : ∀ n : Nat, n + m = l.length →
    ∃ r,Ev (fun fu=>oF l fu (n : Int)) r ∧ Ev (fun fu=>vI l fu (n : Int)) r ∧
      ((r = .inl () ∧ ∀ i,n ≤ i → zeU l i) ∨ ∃ i : Nat,∃ c,r = .inr ((i : Int),c) ∧ c ≠ 0):=by
  induction m with
  | zero =>
    intro n hn
    refine ⟨.inl (),Ev.succ (Ev.of (fun fu=>?_) (Ev.ret _)),Ev.succ (Ev.of (fun fu=>?_) (Ev.ret _)),.inl ⟨rfl,fun i hi h=>by omega⟩⟩
    · simp [oF,show ¬ (n : Int) < (l.length : Int) by omega]
    · simp [vI,show ¬ (n : Int) < (l.length : Int) by omega]
  | succ m ih =>
    intro n hn
    have hnl : n < l.length:=by omega
    have w1 : IntKind.i64.wrap ((n : Int) + 1) = ((n + 1 : Nat) : Int):=by rw [wr (by omega) (by omega)]; rfl
    obtain ⟨r,r1,r2,r3⟩:=ih (n + 1) (by omega)
    by_cases hc : chk l[n] = 0
    · by_cases h0 : 0 < n
      · have w2 : IntKind.i64.wrap ((n : Int) - 1) = ((n - 1 : Nat) : Int):=by rw [wr (by omega) (by omega)]; omega
        have hn1 : n - 1 < l.length:=by omega
        obtain ⟨o,o1,o2⟩:=zpz l[n - 1].Key l[n].Key (hk _ (List.getElem_mem hn1))
        cases hb : bl l[n - 1].Key l[n].Key with
        | true =>
          have ho : ¬ 0 ≤ o:=by rw [o2,hb]; simp
          have hnb : (Op.bytesLess l[n].Key l[n - 1].Key || l[n].Key == l[n - 1].Key) = false:=by
            rw [show Op.bytesLess l[n].Key l[n - 1].Key = false from dL hb]
            have : l[n].Key ≠ l[n - 1].Key:=fun e=>by rw [e,oG] at hb; cases hb
            simp [this]
          refine ⟨r,Ev.succ (Ev.of (fun fu=>?_) r1),Ev.succ ?_,?_⟩
          · simp only [oF,sR,hc,w1,w2,aB l n hnl,aB l (n - 1) hn1]
            have hnb':=hnb
            simp only [Bool.or_eq_false_iff,Bool.or_eq_true,beq_iff_eq,beq_eq_false_iff_ne,ne_eq] at hnb'
            simp [hnl,h0,hnb',hc]
          · refine Ev.of (g':=fun fu=>(mO fu l[n - 1].Key l[n].Key).bind fun vr35=>if 0 ≤ vr35 then some (.inr ((n : Int),6)) else vI l fu ((n + 1 : Nat) : Int)) (fun fu=>?_) (Ev.bind o1 ?_)
            · simp only [vI,iX,hc,w1,w2,aB l n hnl,aB l (n - 1) hn1]
              cases hq : mO fu l[n - 1].Key l[n].Key <;> simp [hnl,h0,hc,hq]
            · simp only [if_neg ho]; exact r2
          · rcases r3 with ⟨e,h⟩ | h
            · refine .inl ⟨e,fun i hi hl=>?_⟩
              by_cases q : i = n
              · subst q; exact ⟨hc,fun _=>hb⟩
              · exact h i (by omega) hl
            · exact .inr h
        | false =>
          have ho : 0 ≤ o:=by rw [o2,hb]
          have hnb : (Op.bytesLess l[n].Key l[n - 1].Key || l[n].Key == l[n - 1].Key) = true:=by
            rcases eS l[n - 1].Key l[n].Key with h | h | h
            · rw [hb] at h; cases h
            · simp [h]
            · simp only [bl] at h; simp [h]
          refine ⟨.inr (n,6),Ev.succ (Ev.of (fun fu=>?_) (Ev.ret _)),Ev.succ ?_,.inr ⟨n,6,rfl,by decide⟩⟩
          · simp only [oF,sR,hc,w1,w2,aB l n hnl,aB l (n - 1) hn1]
            have hnb':=hnb
            simp only [Bool.or_eq_false_iff,Bool.or_eq_true,beq_iff_eq,beq_eq_false_iff_ne,ne_eq] at hnb'
            simp [hnl,h0,hnb',hc]
          · refine Ev.of (g':=fun fu=>(mO fu l[n - 1].Key l[n].Key).bind fun vr35=>if 0 ≤ vr35 then some (.inr ((n : Int),6)) else vI l fu ((n + 1 : Nat) : Int)) (fun fu=>?_) (Ev.bind o1 ?_)
            · simp only [vI,iX,hc,w1,w2,aB l n hnl,aB l (n - 1) hn1]
              cases hq : mO fu l[n - 1].Key l[n].Key <;> simp [hnl,h0,hc,hq]
            · simp only [if_pos ho]; exact Ev.ret _
      · obtain rfl : n = 0:=by omega
        refine ⟨r,Ev.succ (Ev.of (fun fu=>?_) r1),Ev.succ (Ev.of (fun fu=>?_) r2),?_⟩
        · simp only [oF,sR,hc,w1,aB l 0 hnl]
          simp [hnl,hc]
        · simp only [vI,iX,hc,w1,aB l 0 hnl]
          simp [hnl,hc]
        · rcases r3 with ⟨e,h⟩ | h
          · refine .inl ⟨e,fun i hi hl=>?_⟩
            by_cases q : i = 0
            · subst q; exact ⟨hc,fun h=>by omega⟩
            · exact h i (by omega) hl
          · exact .inr h
    · refine ⟨.inr (n,chk l[n]),Ev.succ (Ev.of (fun fu=>?_) (Ev.ret _)),Ev.succ (Ev.of (fun fu=>?_) (Ev.ret _)),.inr ⟨n,_,rfl,hc⟩⟩
      · simp only [oF,sR,aB l n hnl]
        simp [hnl,hc]
      · simp only [vI,iX,aB l n hnl]
        simp [hnl,hc]
def oP (l : List aA) : Prop:=l.length ≤ 5000 ∧ ∀ i,zeU l i
theorem zcJ (l : List aA) (hk : ∀ e ∈ l, e.Key.length ≤ 1000000000000) :
    ∃ r,Ev (fun fu=>pJ fu l) r ∧ Ev (fun fu=>sT fu l) r ∧ (r.2 = 0 → oP l):=by
  unfold pJ sT
  by_cases h : 5000 < l.length
  · refine ⟨(-1, 3), Ev.of (fun fu => ?_) (Ev.ret _), Ev.of (fun fu => ?_) (Ev.ret _), by simp⟩ <;>
      rw [if_pos (by simp; omega)]
  · obtain ⟨r,r1,r2,r3⟩:=zkW l (by omega) hk l.length 0 (by omega)
    have hd : ¬ decide ((5000 : Int) < (l.length : Int)) = true:=by simp; omega
    simp only [if_neg hd]
    rcases r3 with ⟨rfl,h3⟩ | ⟨i,c,rfl,hc⟩
    · exact ⟨(0,0),Ev.bind r1 (Ev.ret _),Ev.bind r2 (Ev.ret _),fun _=>⟨by omega,fun i=>h3 i (by omega)⟩⟩
    · exact ⟨(i,c),Ev.bind r1 (Ev.ret _),Ev.bind r2 (Ev.ret _),fun h=>absurd h hc⟩
def tE (runs : List (List aA)) : Prop:=∀ l ∈ runs,∀ e ∈ l,e.Key.length ≤ 1000000000000
theorem zjj (runs : List (List aA)) (hf : tE runs) (hl : runs.length ≤ 1000) (m : Nat) : ∀ n : Nat, n + m = runs.length →
    ∃ r,Ev (fun fu=>nF runs fu (n : Int)) r ∧ Ev (fun fu=>cL runs fu (n : Int)) r ∧
      ((r = .inl () ∧ ∀ i,n ≤ i → ∀ h : i < runs.length,oP runs[i]) ∨ ∃ i : Nat,∃ c,r = .inr ((i : Int),c) ∧ c ≠ 0):=by
  induction m with
  | zero =>
    intro n hn
    refine ⟨.inl (),Ev.succ (Ev.of (fun fu=>?_) (Ev.ret _)),Ev.succ (Ev.of (fun fu=>?_) (Ev.ret _)),.inl ⟨rfl,fun i hi h=>by omega⟩⟩
    · simp [nF,show ¬ (n : Int) < (runs.length : Int) by omega]
    · simp [cL,show ¬ (n : Int) < (runs.length : Int) by omega]
  | succ m ih =>
    intro n hn
    have hnl : n < runs.length:=by omega
    have w1 : IntKind.i64.wrap ((n : Int) + 1) = ((n + 1 : Nat) : Int):=by rw [wr (by omega) (by omega)]; rfl
    obtain ⟨r,r1,r2,r3⟩:=ih (n + 1) (by omega)
    obtain ⟨⟨p,c⟩,c1,c2,c3⟩:=zcJ runs[n] (hf _ (List.getElem_mem hnl))
    have f1 : ∀ fu,nF runs (fu + 1) (n : Int) = (pJ fu runs[n]).bind fun vr=>if vr.2 = 0 then nF runs fu ((n + 1 : Nat) : Int) else some (.inr ((n : Int),vr.2)):=by
      intro fu
      simp only [nF,w1,aB runs n hnl]
      simp [hnl]
    have f2 : ∀ fu,cL runs (fu + 1) (n : Int) = (sT fu runs[n]).bind fun vr=>if vr.2 = 0 then cL runs fu ((n + 1 : Nat) : Int) else some (.inr ((n : Int),vr.2)):=by
      intro fu
      simp only [cL,w1,aB runs n hnl]
      simp [hnl]
    by_cases hc : c = 0
    · subst hc
      refine ⟨r,Ev.succ (Ev.of f1 (Ev.bind c1 r1)),Ev.succ (Ev.of f2 (Ev.bind c2 r2)),?_⟩
      rcases r3 with ⟨e,h⟩ | h
      · refine .inl ⟨e,fun i hi hl=>?_⟩
        by_cases q : i = n
        · subst q; exact c3 rfl
        · exact h i (by omega) hl
      · exact .inr h
    · refine ⟨.inr (n,c),Ev.succ (Ev.of f1 (Ev.bind c1 ?_)),Ev.succ (Ev.of f2 (Ev.bind c2 ?_)),.inr ⟨n,c,rfl,hc⟩⟩
      · simp only [if_neg hc]; exact Ev.ret _
      · simp only [if_neg hc]; exact Ev.ret _
def dD (runs : List (List aA)) : Prop:=0 < runs.length ∧ runs.length ≤ 32 ∧ ∀ l ∈ runs,oP l
theorem zab (runs : List (List aA)) (hf : tE runs) (hl : runs.length ≤ 1000) :
    ∃ r,Ev (fun fu=>yJ fu runs) r ∧ Ev (fun fu=>jQ fu runs) r ∧ ((r = (0,0) ∧ dD runs) ∨ r.2 ≠ 0):=by
  unfold yJ jQ
  by_cases h : runs.length = 0
  · refine ⟨(-1,6),Ev.of (fun fu=>?_) (Ev.ret _),Ev.of (fun fu=>?_) (Ev.ret _),.inr (by simp)⟩ <;> simp [h]
  · by_cases h2 : 32 < runs.length
    · refine ⟨(-1, 3), Ev.of (fun fu => ?_) (Ev.ret _), Ev.of (fun fu => ?_) (Ev.ret _), .inr (by simp)⟩ <;>
        rw [if_neg (by simp; intro e; simp [e] at h),if_pos (by simp; omega)]
    · obtain ⟨r,r1,r2,r3⟩:=zjj runs hf hl runs.length 0 (by omega)
      have e1 : ¬ decide ((runs.length : Int) = 0) = true:=by simp; intro e; simp [e] at h
      have e2 : ¬ decide ((32 : Int) < (runs.length : Int)) = true:=by simp; omega
      simp only [if_neg e1,if_neg e2]
      rcases r3 with ⟨rfl,h3⟩ | ⟨i,c,rfl,hc⟩
      · refine ⟨(0,0),Ev.bind r1 (Ev.ret _),Ev.bind r2 (Ev.ret _),.inl ⟨rfl,by omega,by omega,fun l hl=>?_⟩⟩
        obtain ⟨i,hi,rfl⟩:=List.mem_iff_getElem.1 hl
        exact h3 i (by omega) hi
      · exact ⟨(i,c),Ev.bind r1 (Ev.ret _),Ev.bind r2 (Ev.ret _),.inr hc⟩
def lt (keys : List eA) (p q : Nat) : Bool :=
  match keys[p]?,keys[q]? with
  | some a,some b=>if a.Done ≠ b.Done then b.Done else if a.Key ≠ b.Key then bl a.Key b.Key else decide (p < q)
  | _,_=>false
def dJ (keys : List eA) : Prop:=∀ k ∈ keys,k.Done = true → k.Key = []
theorem zfk (fu : Nat) (keys : List eA) (p q : Nat) (hp : p < keys.length) (hq : q < keys.length) : eN fu p q keys = some (lt keys p q):=by
  simp only [eN,aB keys p hp,aB keys q hq,lt,List.getElem?_eq_getElem hp,List.getElem?_eq_getElem hq]
  by_cases h1 : keys[p].Done = keys[q].Done <;> by_cases h2 : keys[p].Key = keys[q].Key <;> simp [h1,h2,bl]
theorem zgg (fu : Nat) (keys : List eA) (hpl : dJ keys) (p q : Nat) (hp : p < keys.length) (hq : q < keys.length) : yV fu keys p q = some (lt keys p q):=by
  simp only [yV,aB keys p hp,aB keys q hq,lt,List.getElem?_eq_getElem hp,List.getElem?_eq_getElem hq]
  have k1:=hpl _ (List.getElem_mem hp)
  have k2:=hpl _ (List.getElem_mem hq)
  cases d1 : keys[p].Done <;> cases d2 : keys[q].Done
  · by_cases h2 : keys[p].Key = keys[q].Key <;> simp [d1,d2,h2,bl]
  · simp [d1,d2]
  · simp [d1,d2]
  · have : keys[p].Key = keys[q].Key:=by rw [k1 d1,k2 d2]
    simp [d1,d2,this]
theorem zao (keys : List eA) (p q : Nat) (hp : p < keys.length) (hq : q < keys.length) (h : p ≠ q) : lt keys q p = !lt keys p q:=by
  simp only [lt,List.getElem?_eq_getElem hp,List.getElem?_eq_getElem hq]
  by_cases d : keys[p].Done = keys[q].Done
  · by_cases k : keys[p].Key = keys[q].Key
    · simp [d,k]
      by_cases z : p < q
      · simp [z]; omega
      · simp [z]; omega
    · have k' : ¬ keys[q].Key = keys[p].Key:=fun e=>k e.symm
      simp only [ne_eq,d,k,k',not_true_eq_false,not_false_eq_true,↓reduceIte]
      rcases eS keys[p].Key keys[q].Key with h | h | h
      · rw [h,dL h]; rfl
      · exact absurd h k
      · rw [h,dL h]; rfl
  · have d' : ¬ keys[q].Done = keys[p].Done:=fun e=>d e.symm
    simp only [ne_eq,d,d',not_false_eq_true,↓reduceIte]
    cases h1 : keys[p].Done <;> cases h2 : keys[q].Done <;> simp_all
def pl (keys : List eA) : Nat → Nat → Nat × Nat
  | 0,node=>(node - keys.length,0)
  | k + 1,node=>if keys.length ≤ node then (node - keys.length,0) else
    let a:=(pl keys k (2 * node)).1
    let b:=(pl keys k (2 * node + 1)).1
    if lt keys a b then (a,b) else (b,a)
theorem zn2 (keys : List eA) : ∀ k k' node,1 ≤ node → keys.length - node ≤ k → keys.length - node ≤ k' → pl keys k node = pl keys k' node:=by
  intro k
  induction k with
  | zero =>
    intro k' node h1 h2 h3
    cases k' with
    | zero=>rfl
    | succ k'=>simp only [pl]; rw [if_pos (by omega)]
  | succ k ih =>
    intro k' node h1 h2 h3
    cases k' with
    | zero=>simp only [pl]; rw [if_pos (by omega)]
    | succ k' =>
      simp only [pl]
      by_cases h : keys.length ≤ node
      · rw [if_pos h,if_pos h]
      · rw [if_neg h,if_neg h,ih k' (2 * node) (by omega) (by omega) (by omega),ih k' (2 * node + 1) (by omega) (by omega) (by omega)]
def nd (keys : List eA) (node : Nat) : Nat × Nat:=pl keys keys.length node
theorem iK (keys : List eA) (node : Nat) (h : keys.length ≤ node) : nd keys node = (node - keys.length,0):=by
  unfold nd
  cases hk : keys.length with
  | zero=>simp [pl,hk]
  | succ n=>simp only [pl]; rw [if_pos h,hk]
theorem bQ (keys : List eA) (node : Nat) (h1 : 1 ≤ node) (h : node < keys.length) :
    nd keys node = if lt keys (nd keys (2 * node)).1 (nd keys (2 * node + 1)).1 then ((nd keys (2 * node)).1,(nd keys (2 * node + 1)).1) else ((nd keys (2 * node + 1)).1,(nd keys (2 * node)).1):=by
  have e1 : nd keys node = pl keys (keys.length + 1) node:=zn2 keys _ _ node h1 (by omega) (by omega)
  rw [e1]
  simp only [pl]
  rw [if_neg (by omega)]
  rfl
theorem nd_lt (keys : List eA) (m : Nat) : ∀ node,1 ≤ node → node < 2 * keys.length → keys.length - node ≤ m → (nd keys node).1 < keys.length ∧ (nd keys node).2 < keys.length:=by
  induction m with
  | zero =>
    intro node h1 h2 h3
    rw [iK keys node (by omega)]
    simp only
    omega
  | succ m ih =>
    intro node h1 h2 h3
    by_cases h : keys.length ≤ node
    · rw [iK keys node h]; simp only; omega
    · rw [bQ keys node h1 (by omega)]
      have a:=ih (2 * node) (by omega) (by omega) (by omega)
      have b:=ih (2 * node + 1) (by omega) (by omega) (by omega)
      split
      · exact ⟨a.1,b.1⟩
      · exact ⟨b.1,a.1⟩
theorem lM (keys : List eA) (node : Nat) (h1 : 1 ≤ node) (h2 : node < 2 * keys.length) : (nd keys node).1 < keys.length ∧ (nd keys node).2 < keys.length :=
  nd_lt keys _ node h1 h2 (Nat.le_refl _)
theorem zcv (keys : List eA) (hpl : dJ keys) (hl : keys.length ≤ 1000000) (m : Nat) : ∀ node : Nat, 1 ≤ node → node < 2 * keys.length → keys.length - node ≤ m →
    Ev (fun fu=>qM fu keys (node : Int)) (((nd keys node).1 : Int),((nd keys node).2 : Int)):=by
  induction m with
  | zero =>
    intro node h1 h2 h3
    rw [iK keys node (by omega)]
    refine Ev.succ (Ev.of (fun fu=>?_) (Ev.ret _))
    simp only [qM]
    rw [if_pos (by simp; omega),wr (by omega) (by omega)]
    congr 2
    omega
  | succ m ih =>
    intro node h1 h2 h3
    by_cases h : keys.length ≤ node
    · rw [iK keys node h]
      refine Ev.succ (Ev.of (fun fu=>?_) (Ev.ret _))
      simp only [qM]
      rw [if_pos (by simp; omega),wr (by omega) (by omega)]
      congr 2
      omega
    · have a:=ih (2 * node) (by omega) (by omega) (by omega)
      have b:=ih (2 * node + 1) (by omega) (by omega) (by omega)
      have ka:=lM keys (2 * node) (by omega) (by omega)
      have kb:=lM keys (2 * node + 1) (by omega) (by omega)
      refine Ev.succ ?_
      simp only [qM]
      have w1 : IntKind.i64.wrap (2 * (node : Int)) = ((2 * node : Nat) : Int):=by rw [wr (by omega) (by omega)]; omega
      have w2 : IntKind.i64.wrap (((2 * node : Nat) : Int) + 1) = ((2 * node + 1 : Nat) : Int):=by rw [wr (by omega) (by omega)]; omega
      simp only [w1,w2]
      rw [show (decide ((keys.length : Int) ≤ (node : Int))) = false by simp; omega]
      simp only [bF,↓reduceIte]
      refine Ev.bind a (Ev.bind b (Ev.of (fun fu=>?_) (Ev.ret _)))
      simp only [zgg fu keys hpl _ _ ka.1 kb.1,bS]
      rw [bQ keys node h1 (by omega)]
      split <;> rfl
def pf (keys : List eA) (i : Nat) : List Int:=(List.range (2 * keys.length)).map fun j=>if i < j then ((nd keys j).1 : Int) else 0
def lf (keys : List eA) (i : Nat) : List Int:=(List.range keys.length).map fun j=>if i < j then ((nd keys j).2 : Int) else 0
theorem cS (keys : List eA) (i : Nat) : (pf keys i).length = 2 * keys.length:=by simp [pf]
theorem zH (keys : List eA) (i : Nat) : (lf keys i).length = keys.length:=by simp [lf]
theorem eV (keys : List eA) (i j : Nat) (h : j < (pf keys i).length) : (pf keys i)[j] = if i < j then ((nd keys j).1 : Int) else 0:=by simp [pf]
theorem uP (keys : List eA) (i j : Nat) (h : j < (lf keys i).length) : (lf keys i)[j] = if i < j then ((nd keys j).2 : Int) else 0:=by simp [lf]
theorem zb9 (keys : List eA) (i : Nat) : (pf keys (i + 1)).set (i + 1) ((nd keys (i + 1)).1 : Int) = pf keys i:=by
  refine List.ext_getElem (by simp [cS]) fun j h1 h2=>?_
  rw [List.getElem_set,eV]
  split
  · rename_i e; subst e; rw [eV,if_pos (by omega)]
  · rename_i e; rw [eV]
    by_cases h : i < j
    · rw [if_pos h,if_pos (by omega)]
    · rw [if_neg h,if_neg (by omega)]
theorem zdJ (keys : List eA) (i : Nat) : (lf keys (i + 1)).set (i + 1) ((nd keys (i + 1)).2 : Int) = lf keys i:=by
  refine List.ext_getElem (by simp [zH]) fun j h1 h2=>?_
  rw [List.getElem_set,uP]
  split
  · rename_i e; subst e; rw [uP,if_pos (by omega)]
  · rename_i e; rw [uP]
    by_cases h : i < j
    · rw [if_pos h,if_pos (by omega)]
    · rw [if_neg h,if_neg (by omega)]
theorem zmo (keys : List eA) (i : Nat) (hn : keys.length ≤ i + 1) : lf keys (i + 1) = lf keys i:=by
  refine List.ext_getElem (by simp [zH]) fun j h1 h2=>?_
  rw [zH] at h1
  rw [uP,uP,if_neg (by omega),if_neg (by omega)]
theorem zkH (keys : List eA) (hl : keys.length ≤ 1000000) : ∀ i : Nat,i < 2 * keys.length → Ev (fun fu=>iH keys keys fu (i : Int) (pf keys i) (lf keys i)) (pf keys 0,lf keys 0):=by
  intro i
  induction i with
  | zero =>
    intro _
    refine Ev.succ (Ev.of (fun fu=>?_) (Ev.ret _))
    simp [iH]
  | succ i ih =>
    intro hi
    have hi':=ih (by omega)
    refine Ev.succ (Ev.of (fun fu=>?_) hi')
    have w1 : IntKind.i64.wrap (((i + 1 : Nat) : Int) - 1) = (i : Int):=by rw [wr (by omega) (by omega)]; omega
    have t1 : (((i + 1 : Nat) : Int)).toNat = i + 1:=rfl
    have p0 : decide ((0 : Int) < ((i + 1 : Nat) : Int)) = true:=dT (by omega)
    simp only [iH,p0,↓reduceIte,w1,t1]
    rw [aB (pf keys (i + 1)) (i + 1) (by rw [cS]; omega)]
    simp only [bS]
    by_cases h : keys.length ≤ i + 1
    · have d : decide ((keys.length : Int) ≤ ((i + 1 : Nat) : Int)) = true:=by simp; omega
      simp only [d,↓reduceIte]
      have e : IntKind.i64.wrap (((i + 1 : Nat) : Int) - (keys.length : Int)) = ((nd keys (i + 1)).1 : Int):=by
        rw [wr (by omega) (by omega),iK keys (i + 1) h]; simp only; omega
      rw [e,zb9,zmo keys i h]
    · have d : decide ((keys.length : Int) ≤ ((i + 1 : Nat) : Int)) = false:=by simp; omega
      have w2 : IntKind.i64.wrap (2 * ((i + 1 : Nat) : Int)) = ((2 * (i + 1) : Nat) : Int):=by rw [wr (by omega) (by omega)]; omega
      have w3 : IntKind.i64.wrap (((2 * (i + 1) : Nat) : Int) + 1) = ((2 * (i + 1) + 1 : Nat) : Int):=by rw [wr (by omega) (by omega)]; omega
      simp only [d,bF,↓reduceIte,w2,w3]
      rw [aB (pf keys (i + 1)) (2 * (i + 1)) (by rw [cS]; omega),aB (pf keys (i + 1)) (2 * (i + 1) + 1) (by rw [cS]; omega),aB (lf keys (i + 1)) (i + 1) (by rw [zH]; omega)]
      simp only [bS,eV,show i + 1 < 2 * (i + 1) by omega,show i + 1 < 2 * (i + 1) + 1 by omega,↓reduceIte]
      rw [zfk fu keys _ _ (lM keys (2 * (i + 1)) (by omega) (by omega)).1 (lM keys (2 * (i + 1) + 1) (by omega) (by omega)).1]
      simp only [bS]
      have hn:=bQ keys (i + 1) (by omega) (by omega)
      cases hlt : lt keys (nd keys (2 * (i + 1))).1 (nd keys (2 * (i + 1) + 1)).1 with
      | true =>
        rw [hlt] at hn
        simp only [↓reduceIte] at hn
        simp only [Bool.not_true,bF,↓reduceIte]
        rw [← zb9 keys i,← zdJ keys i,hn]
      | false =>
        rw [hlt] at hn
        simp only [bF,↓reduceIte] at hn
        simp only [Bool.not_false,↓reduceIte]
        rw [← zb9 keys i,← zdJ keys i,hn]
def cD (keys : List eA) : fB:=⟨keys,lf keys 0,((nd keys 1).1 : Int)⟩
theorem zdd (keys : List eA) (h0 : 0 < keys.length) (hl : keys.length ≤ 1000000) : Ev (fun fu=>wP fu keys) (cD keys):=by
  have w1 : IntKind.i64.wrap (2 * (keys.length : Int)) = ((2 * keys.length : Nat) : Int):=by rw [wr (by omega) (by omega)]; omega
  have w2 : IntKind.i64.wrap (((2 * keys.length : Nat) : Int) - 1) = ((2 * keys.length - 1 : Nat) : Int):=by rw [wr (by omega) (by omega)]; omega
  have hne : keys.isEmpty = false:=by cases keys; simp at h0; rfl
  simp only [wP,fN,nT,bS,w1,w2,hne,bF,↓reduceIte]
  have g1 : (0 : Int) ≤ ((2 * keys.length : Nat) : Int) ∧ ((2 * keys.length : Nat) : Int) ≤ ((2 * keys.length : Nat) : Int) ∧ ((2 * keys.length : Nat) : Int) ≤ 9223372036854775807 ∧ 8 * ((2 * keys.length : Nat) : Int) ≤ 281474976710656:=by omega
  have g2 : 2 * ((0 + keys.length) * 24) ≤ 281474976710656:=by omega
  have g3 : (0 : Int) ≤ (keys.length : Int) ∧ (keys.length : Int) ≤ (keys.length : Int) ∧ (keys.length : Int) ≤ 9223372036854775807 ∧ 8 * (keys.length : Int) ≤ 281474976710656:=by omega
  simp only [if_pos g1,if_pos g2,if_pos g3,bS]
  have q1 : (List.replicate ((2 * keys.length : Nat) : Int).toNat 0 : List Int) = pf keys (2 * keys.length - 1):=by
    refine List.ext_getElem (by rw [cS,List.length_replicate]; omega) fun j h1 h2=>?_
    rw [cS] at h2
    rw [eV,if_neg (by omega)]; simp
  have q2 : (List.replicate keys.length 0 : List Int) = lf keys (2 * keys.length - 1):=by
    refine List.ext_getElem (by simp [zH]) fun j h1 h2=>?_
    rw [zH] at h2
    rw [uP,if_neg (by omega)]; simp
  rw [q1,q2]
  refine Ev.bind (zkH keys hl _ (by omega)) (Ev.of (fun fu=>?_) (Ev.ret _))
  simp only
  rw [show (1 : Int) = ((1 : Nat) : Int) from rfl,aB (pf keys 0) 1 (by rw [cS]; omega)]
  simp only [bS,eV,Nat.lt_one_iff,↓reduceIte,cD]
theorem zmQ (keys : List eA) (hpl : dJ keys) (hl : keys.length ≤ 1000000) (m : Nat) : ∀ n : Nat,n + m = keys.length → Ev (fun fu=>pI keys fu (n : Int)) (.inl ()):=by
  induction m with
  | zero =>
    intro n hn
    refine Ev.succ (Ev.of (fun fu=>?_) (Ev.ret _))
    simp [pI,show ¬ (n : Int) < (keys.length : Int) by omega]
  | succ m ih =>
    intro n hn
    have hnl : n < keys.length:=by omega
    have w1 : IntKind.i64.wrap ((n : Int) + 1) = ((n + 1 : Nat) : Int):=by rw [wr (by omega) (by omega)]; rfl
    refine Ev.succ (Ev.of (fun fu=>?_) (ih (n + 1) (by omega)))
    simp only [pI,wS,w1,aB keys n hnl]
    have k1:=hpl _ (List.getElem_mem hnl)
    have d : decide ((n : Int) < (keys.length : Int)) = true:=dT (by omega)
    cases h : keys[n].Done with
    | false=>simp [h,hnl,-Int.natCast_add]
    | true=>simp [h,hnl,k1 h,-Int.natCast_add]
theorem zbz (keys : List eA) (hpl : dJ keys) (h0 : 0 < keys.length) (hl : keys.length ≤ 32) : Ev (fun fu=>eM fu keys) 0:=by
  have d1 : decide ((keys.length : Int) = 0) = false:=dF (by omega)
  have d2 : decide ((32 : Int) < (keys.length : Int)) = false:=dF (by omega)
  simp only [eM,uS,gS,d1,d2,bF,↓reduceIte]
  refine Ev.bind (a:=false) (Ev.bind (a:=(-1 : Int)) (Ev.bind (zmQ keys hpl (by omega) keys.length 0 (by omega)) (Ev.ret _)) (Ev.of (fun fu=>?_) (Ev.ret _))) (Ev.of (fun fu=>?_) (Ev.ret _))
  · rfl
  · rfl
theorem zjT (keys : List eA) (hpl : dJ keys) (h0 : 0 < keys.length) (hl : keys.length ≤ 32) : Ev (fun fu=>iQ fu keys) (cD keys,0):=by
  unfold iQ
  refine Ev.bind (zbz keys hpl h0 hl) ?_
  simp only [decide_true,Bool.not_true,bF,↓reduceIte]
  exact Ev.bind (zdd keys h0 (by omega)) (Ev.ret _)
theorem zkA (keys : List eA) (hpl : dJ keys) (hl : keys.length ≤ 1000000) (m : Nat) : ∀ n : Nat,n + m = keys.length → Ev (fun fu=>sO keys fu (n : Int)) (.inl ()):=by
  induction m with
  | zero =>
    intro n hn
    refine Ev.succ (Ev.of (fun fu=>?_) (Ev.ret _))
    simp [sO,show ¬ (n : Int) < (keys.length : Int) by omega]
  | succ m ih =>
    intro n hn
    have hnl : n < keys.length:=by omega
    have w1 : IntKind.i64.wrap ((n : Int) + 1) = ((n + 1 : Nat) : Int):=by rw [wr (by omega) (by omega)]; rfl
    refine Ev.succ (Ev.of (fun fu=>?_) (ih (n + 1) (by omega)))
    simp only [sO,w1,aB keys n hnl]
    have k1:=hpl _ (List.getElem_mem hnl)
    have d : decide ((n : Int) < (keys.length : Int)) = true:=dT (by omega)
    cases h : keys[n].Done with
    | false=>simp [h,hnl,-Int.natCast_add]
    | true=>simp [h,hnl,k1 h,-Int.natCast_add]
def uf (keys : List eA) (i : Nat) : List Int:=(List.range keys.length).map fun j=>if 0 < j ∧ j < i then ((nd keys j).2 : Int) else 0
theorem iU (keys : List eA) (i : Nat) : (uf keys i).length = keys.length:=by simp [uf]
theorem xX (keys : List eA) (i j : Nat) (h : j < (uf keys i).length) : (uf keys i)[j] = if 0 < j ∧ j < i then ((nd keys j).2 : Int) else 0:=by simp [uf]
theorem uf_set (keys : List eA) (i : Nat) (hi : 0 < i) : (uf keys i).set i ((nd keys i).2 : Int) = uf keys (i + 1):=by
  refine List.ext_getElem (by simp [iU]) fun j h1 h2=>?_
  rw [List.getElem_set,xX]
  split
  · rename_i e; subst e; rw [xX,if_pos (by omega)]
  · rename_i e; rw [xX]
    by_cases h : 0 < j ∧ j < i
    · rw [if_pos h,if_pos (by omega)]
    · rw [if_neg h,if_neg (by omega)]
theorem zh7 (keys : List eA) (hpl : dJ keys) (hl : keys.length ≤ 1000000) (m : Nat) : ∀ n : Nat,0 < n → n + m = keys.length → Ev (fun fu=>wN keys fu (n : Int) (uf keys n)) (uf keys keys.length):=by
  induction m with
  | zero =>
    intro n h0 hn
    obtain rfl : n = keys.length:=by omega
    refine Ev.succ (Ev.of (fun fu=>?_) (Ev.ret _))
    simp [wN]
  | succ m ih =>
    intro n h0 hn
    have hnl : n < keys.length:=by omega
    have w1 : IntKind.i64.wrap ((n : Int) + 1) = ((n + 1 : Nat) : Int):=by rw [wr (by omega) (by omega)]; rfl
    have d : decide ((n : Int) < (keys.length : Int)) = true:=dT (by omega)
    refine Ev.succ ?_
    simp only [wN,w1,d,↓reduceIte]
    refine Ev.bind (zcv keys hpl hl keys.length n h0 (by omega) (by omega)) (Ev.of (fun fu=>?_) (ih (n + 1) (by omega) (by omega)))
    rw [aB (uf keys n) n (by rw [iU]; omega)]
    simp only [bS,Int.toNat_natCast]
    rw [uf_set keys n h0]
theorem zl2 (keys : List eA) (hpl : dJ keys) (h0 : 0 < keys.length) (hl : keys.length ≤ 1000000) : Ev (fun fu=>vX fu keys) (cD keys):=by
  have g2 : 2 * ((0 + keys.length) * 24) ≤ 281474976710656:=by omega
  have g3 : (0 : Int) ≤ (keys.length : Int) ∧ (keys.length : Int) ≤ (keys.length : Int) ∧ (keys.length : Int) ≤ 9223372036854775807 ∧ 8 * (keys.length : Int) ≤ 281474976710656:=by omega
  simp only [vX,if_pos g2,if_pos g3]
  have q2 : (List.replicate keys.length 0 : List Int) = uf keys 1:=by
    refine List.ext_getElem (by simp [iU]) fun j h1 h2=>?_
    rw [iU] at h2
    rw [xX,if_neg (by omega)]; simp
  have q3 : uf keys keys.length = lf keys 0:=by
    refine List.ext_getElem (by simp [iU,zH]) fun j h1 h2=>?_
    rw [iU] at h1
    rw [xX,uP]
    by_cases h : 0 < j
    · rw [if_pos ⟨h,h1⟩,if_pos h]
    · rw [if_neg (by omega),if_neg h]
  rw [q2]
  have a:=zh7 keys hpl hl (keys.length - 1) 1 (by omega) (by omega)
  have b:=zcv keys hpl hl keys.length 1 (by omega) (by omega) (by omega)
  refine Ev.bind a (Ev.bind b (Ev.of (fun fu=>?_) (Ev.ret _)))
  rw [q3]; rfl
theorem zi9 (keys : List eA) (hpl : dJ keys) (h0 : 0 < keys.length) (hl : keys.length ≤ 32) : Ev (fun fu=>zW fu keys) (cD keys,0):=by
  unfold zW
  have hr : Ev (fun fu=>bX fu keys) 0:=by
    have d1 : decide ((keys.length : Int) = 0) = false:=dF (by omega)
    have d2 : decide ((32 : Int) < (keys.length : Int)) = false:=dF (by omega)
    simp only [bX,d1,d2,bF,↓reduceIte]
    exact Ev.bind (zkA keys hpl (by omega) keys.length 0 (by omega)) (Ev.ret _)
  refine Ev.bind hr ?_
  simp only [decide_true,Bool.not_true,bF,↓reduceIte]
  exact Ev.bind (zl2 keys hpl h0 (by omega)) (Ev.ret _)
def lF (l : List aA) (a : Nat) : eA:=match l[a]? with | some e=>⟨e.Key,false⟩ | none=>⟨[],true⟩
def uB (runs : List (List aA)) (at' : List Nat) : List eA:=(List.range runs.length).map fun i=>lF (runs[i]?.getD []) (at'[i]?.getD 0)
theorem zD (runs : List (List aA)) (a : List Nat) : (uB runs a).length = runs.length:=by simp [uB]
theorem mS (runs : List (List aA)) (a : List Nat) (i : Nat) (h : i < (uB runs a).length) (h1 : i < runs.length) (h2 : i < a.length) : (uB runs a)[i] = lF runs[i] a[i]:=by simp [uB,h1,h2]
theorem zfd (l : List aA) (a : Nat) : (lF l a).Done = true → (lF l a).Key = []:=by
  unfold lF; split <;> simp
theorem nV (runs : List (List aA)) (a : List Nat) : dJ (uB runs a):=by
  intro k hk
  simp only [uB,List.mem_map] at hk
  obtain ⟨i,-,rfl⟩:=hk
  exact zfd _ _
def At (runs : List (List aA)) (a : List Nat) : Prop:=a.length = runs.length ∧ ∀ i (h : i < runs.length) (h2 : i < a.length),a[i] ≤ runs[i].length
def tB (a : List Nat) : List Int:=a.map fun (n : Nat)=>(n : Int)
theorem zF (a : List Nat) : (tB a).length = a.length:=by simp [tB]
theorem cF (a : List Nat) (i : Nat) (h : i < a.length) : ix (tB a) (i : Int) = some ((a[i] : Nat) : Int):=by
  rw [aB (tB a) i (by rw [zF]; exact h)]; simp [tB]
theorem za6 (fu : Nat) (l : List aA) (a : Nat) (h : a ≤ l.length) : lK fu l (a : Int) = some (lF l a):=by
  unfold lK lF
  by_cases e : a = l.length
  · subst e; simp
  · have hl : a < l.length:=by omega
    have d : decide ((a : Int) = (l.length : Int)) = false:=dF (by omega)
    rw [d,aB l a hl]; simp [hl]
def kf (runs : List (List aA)) (a : List Nat) (n : Nat) : List eA:=(List.range runs.length).map fun i=>if i < n then lF (runs[i]?.getD []) (a[i]?.getD 0) else ⟨[],false⟩
theorem lW (runs : List (List aA)) (a : List Nat) (n : Nat) : (kf runs a n).length = runs.length:=by simp [kf]
theorem kf_set (runs : List (List aA)) (a : List Nat) (n : Nat) (h1 : n < runs.length) (h2 : n < a.length) : (kf runs a n).set n (lF runs[n] a[n]) = kf runs a (n + 1):=by
  refine List.ext_getElem (by simp [lW]) fun j k1 k2=>?_
  rw [List.getElem_set]
  simp only [kf,List.getElem_map,List.getElem_range]
  split
  · rename_i e; subst e; simp [h1,h2]
  · rename_i e
    by_cases h : j < n
    · rw [if_pos h,if_pos (by omega)]
    · rw [if_neg h,if_neg (by omega)]
theorem zn3 (runs : List (List aA)) (a : List Nat) (ha : At runs a) (hl : runs.length ≤ 1000000) (m : Nat) : ∀ n : Nat, n + m = runs.length →
    Ev (fun fu=>lI runs (tB a) fu (n : Int) (kf runs a n)) (uB runs a):=by
  induction m with
  | zero =>
    intro n hn
    have : kf runs a n = uB runs a:=by
      refine List.ext_getElem (by simp [lW,zD]) fun j h1 h2=>?_
      rw [lW] at h1
      simp only [kf,uB,List.getElem_map,List.getElem_range]
      rw [if_pos (by omega)]
    rw [this]
    refine Ev.succ (Ev.of (fun fu=>?_) (Ev.ret _))
    simp [lI,show ¬ (n : Int) < (runs.length : Int) by omega]
  | succ m ih =>
    intro n hn
    have hnl : n < runs.length:=by omega
    have hna : n < a.length:=by rw [ha.1]; exact hnl
    have w1 : IntKind.i64.wrap ((n : Int) + 1) = ((n + 1 : Nat) : Int):=by rw [wr (by omega) (by omega)]; rfl
    have d : decide ((n : Int) < (runs.length : Int)) = true:=dT (by omega)
    refine Ev.succ (Ev.of (fun fu=>?_) (ih (n + 1) (by omega)))
    simp only [lI,w1,d,↓reduceIte,aB runs n hnl,cF a n hna,bS,za6 fu runs[n] a[n] (ha.2 n hnl hna)]
    rw [aB (kf runs a n) n (by rw [lW]; exact hnl)]
    simp only [bS,Int.toNat_natCast]
    rw [kf_set runs a n hnl hna]
theorem zcV (runs : List (List aA)) (a : List Nat) (ha : At runs a) (h0 : 0 < runs.length) (hl : runs.length ≤ 32) : Ev (fun fu=>jP fu runs (tB a)) (cD (uB runs a)):=by
  have g3 : (0 : Int) ≤ (runs.length : Int) ∧ (runs.length : Int) ≤ (runs.length : Int) ∧ (runs.length : Int) ≤ 9223372036854775807 ∧ 24 * (runs.length : Int) ≤ 281474976710656:=by omega
  simp only [jP,if_pos g3]
  have q : (List.replicate runs.length (eA.mk [] false) : List eA) = kf runs a 0:=by
    refine List.ext_getElem (by simp [lW]) fun j h1 h2=>?_
    simp [kf]
  rw [q]
  refine Ev.bind (zn3 runs a ha (by omega) runs.length 0 (by omega)) ?_
  refine Ev.bind (zjT (uB runs a) (nV runs a) (by rw [zD]; exact h0) (by rw [zD]; exact hl)) (Ev.ret _)
theorem zo8 (runs : List (List aA)) (a : List Nat) (n : Nat) (h1 : n < runs.length) (h2 : n < a.length) : (uB runs a).take (n + 1) = (uB runs a).take n++[lF runs[n] a[n]]:=by
  rw [List.take_succ_eq_append_getElem (by rw [zD]; exact h1),mS runs a n _ h1 h2]
theorem zlu (runs : List (List aA)) (a : List Nat) (ha : At runs a) (hl : runs.length ≤ 1000000) (m : Nat) : ∀ n : Nat, n + m = runs.length →
    Ev (fun fu=>gM runs (tB a) fu (n : Int) ((uB runs a).take n)) (uB runs a):=by
  induction m with
  | zero =>
    intro n hn
    rw [List.take_of_length_le (by rw [zD]; omega)]
    refine Ev.succ (Ev.of (fun fu=>?_) (Ev.ret _))
    simp [gM,show ¬ (n : Int) < (runs.length : Int) by omega]
  | succ m ih =>
    intro n hn
    have hnl : n < runs.length:=by omega
    have hna : n < a.length:=by rw [ha.1]; exact hnl
    have w1 : IntKind.i64.wrap ((n : Int) + 1) = ((n + 1 : Nat) : Int):=by rw [wr (by omega) (by omega)]; rfl
    have d : decide ((n : Int) < (runs.length : Int)) = true:=dT (by omega)
    have hg : 2 * ((((uB runs a).take n).length + 1) * 24) ≤ 281474976710656:=by rw [List.length_take,zD]; omega
    have hle:=ha.2 n hnl hna
    refine Ev.succ (Ev.of (fun fu=>?_) (ih (n + 1) (by omega)))
    simp only [gM,w1,d,↓reduceIte,aB runs n hnl,cF a n hna,bS,if_pos hg]
    rw [zo8 runs a n hnl hna]
    by_cases e : a[n] = runs[n].length
    · have d2 : decide (((a[n] : Nat) : Int) = (runs[n].length : Int)) = true:=dT (by omega)
      simp only [d2,Bool.not_true,bF,↓reduceIte]
      simp [lF,e]
    · have d2 : decide (((a[n] : Nat) : Int) = (runs[n].length : Int)) = false:=dF (by omega)
      have hlt : a[n] < runs[n].length:=by omega
      simp only [d2,Bool.not_false,↓reduceIte,aB runs[n] a[n] hlt,bS]
      simp [lF,hlt]
theorem pX (runs : List (List aA)) (a : List Nat) (ha : At runs a) (h0 : 0 < runs.length) (hl : runs.length ≤ 32) : Ev (fun fu=>aT fu runs (tB a)) ⟨runs,tB a,cD (uB runs a)⟩:=by
  have g1 : 2 * ((0 + runs.length) * 24) ≤ 281474976710656:=by omega
  have g2 : 2 * ((0 + (tB a).length) * 8) ≤ 281474976710656:=by rw [zF,ha.1]; omega
  simp only [aT,if_pos g1,if_pos g2]
  refine Ev.bind (a:=uB runs a) ?_ ?_
  · have:=zlu runs a ha (by omega) runs.length 0 (by omega)
    simpa using this
  · exact Ev.bind (zi9 (uB runs a) (nV runs a) (by rw [zD]; exact h0) (by rw [zD]; exact hl)) (Ev.ret _)
def mC (runs : List (List aA)) (a : List Nat) : iB:=⟨runs,tB a,cD (uB runs a)⟩
def dE (runs : List (List aA)) : List Nat:=List.replicate runs.length 0
theorem nO (runs : List (List aA)) : At runs (dE runs):=⟨by simp [dE],fun i h h2=>by simp [dE]⟩
theorem zV (runs : List (List aA)) : (List.replicate runs.length 0 : List Int) = tB (dE runs):=by simp [tB,dE]
def lX : iB:=⟨[],[],⟨[],[],0⟩⟩
theorem zb4 (runs : List (List aA)) (hf : tE runs) (hl : runs.length ≤ 1000) :
    ∃ r,Ev (fun fu=>cI fu runs) r ∧ Ev (fun fu=>nM fu runs) r ∧ ((dD runs ∧ r = (mC runs (dE runs),0,0)) ∨ (r.1 = lX ∧ r.2.2 ≠ 0)):=by
  obtain ⟨⟨p,c⟩,r1,r2,r3⟩:=zab runs hf hl
  rcases r3 with ⟨e,hg⟩ | hc
  · cases e
    obtain ⟨h0,h32,hr⟩:=hg
    have g3 : (0 : Int) ≤ (runs.length : Int) ∧ (runs.length : Int) ≤ (runs.length : Int) ∧ (runs.length : Int) ≤ 9223372036854775807 ∧ 8 * (runs.length : Int) ≤ 281474976710656:=by omega
    have g2 : 2 * ((0 + runs.length) * 24) ≤ 281474976710656:=by omega
    have hne : runs.isEmpty = false:=by cases runs; simp at h0; rfl
    refine ⟨(mC runs (dE runs),0,0),?_,?_,.inl ⟨⟨h0,h32,hr⟩,rfl⟩⟩
    · unfold cI
      refine Ev.bind r1 ?_
      simp only [decide_true,Bool.not_true,bF,↓reduceIte,if_pos g3,nL,hne,if_pos g2,bS]
      rw [zV]
      exact Ev.bind (zcV runs _ (nO runs) h0 h32) (Ev.ret _)
    · unfold nM
      refine Ev.bind r2 ?_
      simp only [decide_true,Bool.not_true,bF,↓reduceIte,if_pos g3]
      rw [zV]
      exact Ev.bind (pX runs _ (nO runs) h0 h32) (Ev.ret _)
  · refine ⟨(lX,p,c),?_,?_,.inr ⟨rfl,hc⟩⟩
    · unfold cI
      refine Ev.bind r1 (Ev.of (fun fu=>?_) (Ev.ret _))
      simp only [dF hc,Bool.not_false,↓reduceIte]; rfl
    · unfold nM
      refine Ev.bind r2 (Ev.of (fun fu=>?_) (Ev.ret _))
      simp only [dF hc,Bool.not_false,↓reduceIte]; rfl
def below (n w node : Nat) : Nat → Prop
  | 0=>node = w + n
  | k + 1=>node = w + n ∨ below n w (2 * node) k ∨ below n w (2 * node + 1) k
theorem znF (keys : List eA) (w : Nat) (k : eA) (p q : Nat) (hp : p ≠ w) (hq : q ≠ w) : lt (keys.set w k) p q = lt keys p q:=by
  simp only [lt,List.getElem?_set_ne (Ne.symm hp),List.getElem?_set_ne (Ne.symm hq)]
def up (n w d : Nat) : Nat:=(w + n) / 2 ^ d
def gD (x c : Nat) : Prop:=∃ d,x / 2 ^ d = c
theorem gD.refl (x : Nat) : gD x x:=⟨0,by simp⟩
theorem gD.up {x c : Nat} (h : gD x c) : gD x (c / 2):=by
  obtain ⟨d,rfl⟩:=h
  exact ⟨d + 1,by rw [Nat.pow_succ,← Nat.div_div_eq_div_mul]⟩
theorem gD.le {x c : Nat} (h : gD x c) : c ≤ x:=by
  obtain ⟨d,rfl⟩:=h
  exact Nat.div_le_self _ _
theorem gD.chain {x a b : Nat} (ha : gD x a) (hb : gD x b) : gD a b ∨ gD b a:=by
  obtain ⟨d,rfl⟩:=ha
  obtain ⟨e,rfl⟩:=hb
  rcases Nat.le_total d e with h | h
  · exact .inl ⟨e - d,by rw [Nat.div_div_eq_div_mul,← Nat.pow_add,Nat.add_sub_cancel' h]⟩
  · exact .inr ⟨d - e,by rw [Nat.div_div_eq_div_mul,← Nat.pow_add,Nat.add_sub_cancel' h]⟩
theorem gD.half {x c : Nat} (h : gD x c) : c = x ∨ c ≤ x / 2:=by
  obtain ⟨d,rfl⟩:=h
  cases d with
  | zero=>simp
  | succ d =>
    right
    rw [Nat.pow_succ,Nat.mul_comm,← Nat.div_div_eq_div_mul]
    exact Nat.div_le_self _ _
theorem gD.one {x p : Nat} (hp : 1 ≤ p) (ha : gD x (2 * p)) (hb : gD x (2 * p + 1)) : False:=by
  rcases ha.chain hb with h | h
  · have:=h.le; omega
  · rcases h.half with h | h <;> omega
theorem gD.gap {x c j : Nat} (hc : gD x c) (hj : gD x j) (h1 : c / 2 < j) (h2 : j < c) : False:=by
  rcases hc.chain hj with h | h
  · rcases h.half with h | h <;> omega
  · have:=h.le; omega
theorem zbr (keys : List eA) (m : Nat) : ∀ node,1 ≤ node → node < 2 * keys.length → keys.length - node ≤ m → gD ((nd keys node).1 + keys.length) node:=by
  induction m with
  | zero =>
    intro node h1 h2 h3
    rw [iK keys node (by omega)]
    simp only
    rw [Nat.sub_add_cancel (by omega)]
    exact .refl _
  | succ m ih =>
    intro node h1 h2 h3
    by_cases h : keys.length ≤ node
    · rw [iK keys node h]
      simp only
      rw [Nat.sub_add_cancel h]
      exact .refl _
    · have a:=ih (2 * node) (by omega) (by omega) (by omega)
      have b:=ih (2 * node + 1) (by omega) (by omega) (by omega)
      rw [bQ keys node h1 (by omega)]
      split
      · have:=gD.up a; rwa [show 2 * node / 2 = node by omega] at this
      · have:=gD.up b; rwa [show (2 * node + 1) / 2 = node by omega] at this
theorem znn (keys : List eA) (w : Nat) (k : eA) (m : Nat) : ∀ node,1 ≤ node → node < 2 * keys.length → keys.length - node ≤ m → ¬ gD (w + keys.length) node → nd (keys.set w k) node = nd keys node:=by
  induction m with
  | zero =>
    intro node h1 h2 h3 _
    rw [iK keys node (by omega),iK (keys.set w k) node (by simp; omega)]; simp
  | succ m ih =>
    intro node h1 h2 h3 hn
    by_cases h : keys.length ≤ node
    · rw [iK keys node h,iK (keys.set w k) node (by simp; omega)]; simp
    · have na : ¬ gD (w + keys.length) (2 * node):=fun q=>hn (by have:=gD.up q; rwa [show 2 * node / 2 = node by omega] at this)
      have nb : ¬ gD (w + keys.length) (2 * node + 1):=fun q=>hn (by have:=gD.up q; rwa [show (2 * node + 1) / 2 = node by omega] at this)
      have a:=ih (2 * node) (by omega) (by omega) (by omega) na
      have b:=ih (2 * node + 1) (by omega) (by omega) (by omega) nb
      rw [bQ keys node h1 (by omega),bQ (keys.set w k) node h1 (by simp; omega),a,b]
      have wa : (nd keys (2 * node)).1 ≠ w:=fun e=>na (by have:=zbr keys _ (2 * node) (by omega) (by omega) (Nat.le_refl _); rwa [e] at this)
      have wb : (nd keys (2 * node + 1)).1 ≠ w:=fun e=>nb (by have:=zbr keys _ (2 * node + 1) (by omega) (by omega) (Nat.le_refl _); rwa [e] at this)
      rw [znF keys w k _ _ wa wb]
theorem za0 (keys : List eA) (w : Nat) (k : eA) (node : Nat) (h1 : 1 ≤ node) (h2 : node < 2 * keys.length) (h : ¬ gD (w + keys.length) node) : nd (keys.set w k) node = nd keys node :=
  znn keys w k _ node h1 h2 (Nat.le_refl _) h
theorem rV (keys : List eA) (node : Nat) (h1 : 1 ≤ node) (h2 : node < 2 * keys.length) : gD ((nd keys node).1 + keys.length) node:=zbr keys _ node h1 h2 (Nat.le_refl _)
theorem game (keys : List eA) (w : Nat) (k : eA) (c : Nat) (hc : gD (w + keys.length) c) (h2 : 2 ≤ c) (hc2 : c < 2 * keys.length) (hp : (nd keys (c / 2)).1 = w) :
    (nd keys c).1 = w ∧ nd (keys.set w k) (c / 2) = if lt (keys.set w k) (nd keys (c / 2)).2 (nd (keys.set w k) c).1 then ((nd keys (c / 2)).2,(nd (keys.set w k) c).1) else ((nd (keys.set w k) c).1,(nd keys (c / 2)).2):=by
  have hlen : (keys.set w k).length = keys.length:=by simp
  have hp1 : 1 ≤ c / 2:=by omega
  have hpn : c / 2 < keys.length:=by omega
  have o:=bQ keys (c / 2) hp1 hpn
  have o':=bQ (keys.set w k) (c / 2) hp1 (by omega)
  rcases Nat.mod_two_eq_zero_or_one c with hm | hm
  · have e1 : 2 * (c / 2) = c:=by omega
    rw [e1] at o o'
    have hs : ¬ gD (w + keys.length) (c + 1):=fun q=>by
      refine gD.one (x:=w + keys.length) hp1 (by rwa [e1]) (by rwa [e1])
    have so:=za0 keys w k (c + 1) (by omega) (by omega) hs
    have hr : (nd keys (c + 1)).1 ≠ w:=fun e=>hs (by have:=rV keys (c + 1) (by omega) (by omega); rwa [e] at this)
    have hlt : lt keys (nd keys c).1 (nd keys (c + 1)).1 = true:=by
      cases h : lt keys (nd keys c).1 (nd keys (c + 1)).1 with
      | true=>rfl
      | false=>rw [h] at o; rw [o] at hp; exact absurd hp hr
    rw [hlt] at o
    simp only [↓reduceIte] at o
    rw [o] at hp ⊢
    refine ⟨hp,?_⟩
    rw [o',so]
    have k1:=(lM (keys.set w k) c (by omega) (by omega)).1
    have k2:=(lM keys (c + 1) (by omega) (by omega)).1
    have hne : (nd (keys.set w k) c).1 ≠ (nd keys (c + 1)).1:=fun e=>by
      have q1:=rV (keys.set w k) c (by omega) (by omega)
      have q2:=rV keys (c + 1) (by omega) (by omega)
      rw [hlen,e] at q1
      exact gD.one hp1 (by rwa [e1]) (by rwa [e1])
    rw [zao (keys.set w k) _ _ k1 (by omega) hne]
    cases lt (keys.set w k) (nd (keys.set w k) c).1 (nd keys (c + 1)).1 <;> rfl
  · have e1 : 2 * (c / 2) = c - 1:=by omega
    have e2 : c - 1 + 1 = c:=by omega
    rw [e1,e2] at o o'
    have hs : ¬ gD (w + keys.length) (c - 1):=fun q=>by
      refine gD.one (x:=w + keys.length) hp1 (by rwa [e1]) (by rwa [e1,e2])
    have so:=za0 keys w k (c - 1) (by omega) (by omega) hs
    have hr : (nd keys (c - 1)).1 ≠ w:=fun e=>hs (by have:=rV keys (c - 1) (by omega) (by omega); rwa [e] at this)
    have hlt : lt keys (nd keys (c - 1)).1 (nd keys c).1 = false:=by
      cases h : lt keys (nd keys (c - 1)).1 (nd keys c).1 with
      | false=>rfl
      | true=>rw [h] at o; rw [o] at hp; exact absurd hp hr
    rw [hlt] at o
    simp only [bF,↓reduceIte] at o
    rw [o] at hp ⊢
    exact ⟨hp,by rw [o',so]⟩
theorem wtop (keys : List eA) (w : Nat) (hw : (nd keys 1).1 = w) : ∀ c,1 ≤ c → c < 2 * keys.length → gD (w + keys.length) c → (nd keys c).1 = w:=by
  intro c
  induction c using Nat.strongRecOn with
  | _ c ih =>
    intro h1 h2 hc
    by_cases e : c = 1
    · subst e; exact hw
    · exact (game keys w ⟨[],false⟩ c hc (by omega) h2 (ih (c / 2) (by omega) (by omega) (by omega) hc.up)).1
def rf (keys keys' : List eA) (c : Nat) : List Int:=(List.range keys.length).map fun j=>if 0 < j then (if j < c then ((nd keys j).2 : Int) else ((nd keys' j).2 : Int)) else 0
theorem dS (keys keys' : List eA) (c : Nat) : (rf keys keys' c).length = keys.length:=by simp [rf]
theorem dV (keys keys' : List eA) (c j : Nat) (h : j < (rf keys keys' c).length) : (rf keys keys' c)[j] = if 0 < j then (if j < c then ((nd keys j).2 : Int) else ((nd keys' j).2 : Int)) else 0:=by simp [rf]
theorem rf_set (keys : List eA) (w : Nat) (k : eA) (c : Nat) (hc : gD (w + keys.length) c) (h2 : 2 ≤ c) (hc2 : c < 2 * keys.length) :
    (rf keys (keys.set w k) c).set (c / 2) ((nd (keys.set w k) (c / 2)).2 : Int) = rf keys (keys.set w k) (c / 2):=by
  refine List.ext_getElem (by simp [dS]) fun j h1 h2'=>?_
  rw [dS] at h2'
  rw [List.getElem_set,dV,dV]
  split
  · rename_i e; subst e; rw [if_pos (by omega),if_neg (by omega)]
  · rename_i e
    by_cases h0 : 0 < j
    · rw [if_pos h0,if_pos h0]
      by_cases q : j < c / 2
      · rw [if_pos q,if_pos (by omega)]
      · rw [if_neg q]
        by_cases q2 : j < c
        · rw [if_pos q2,za0 keys w k j h0 (by omega) fun ha=>gD.gap hc ha (by omega) q2]
        · rw [if_neg q2]
    · rw [if_neg h0,if_neg h0]
theorem ziE (keys : List eA) (w : Nat) (k : eA) (hl : keys.length ≤ 1000000) (hw : (nd keys 1).1 = w) : ∀ (c : Nat) (g : Int), 1 ≤ c → c < 2 * keys.length → gD (w + keys.length) c →
    ∃ g',Ev (fun fu=>yH (keys.set w k) fu g (c : Int) ((nd (keys.set w k) c).1 : Int) (rf keys (keys.set w k) c)) (g',((nd (keys.set w k) 1).1 : Int),rf keys (keys.set w k) 1):=by
  intro c
  induction c using Nat.strongRecOn with
  | _ c ih =>
    intro g h1 h2 hc
    have w1 : IntKind.i64.wrap ((c : Int).tdiv 2) = ((c / 2 : Nat) : Int):=by
      have : (c : Int).tdiv 2 = ((c / 2 : Nat) : Int):=rfl
      rw [this,wr (by omega) (by omega)]
    by_cases e : c = 1
    · subst e
      refine ⟨g,Ev.succ (Ev.of (fun fu=>?_) (Ev.ret _))⟩
      simp only [yH,w1]
      rfl
    · have hp1 : 1 ≤ c / 2:=by omega
      obtain ⟨g',hg⟩:=ih (c / 2) (by omega) (IntKind.i64.wrap (g + 1)) hp1 (by omega) hc.up
      obtain ⟨-,gm⟩:=game keys w k c hc (by omega) h2 (wtop keys w hw (c / 2) hp1 (by omega) hc.up)
      have d : decide (((c / 2 : Nat) : Int) = 0) = false:=dF (by omega)
      have k1:=(lM (keys.set w k) c (by omega) (by simp; omega)).1
      have k2:=(lM keys (c / 2) (by omega) (by omega)).2
      refine ⟨g',Ev.succ (Ev.of (fun fu=>?_) hg)⟩
      simp only [yH,w1,d,bF,↓reduceIte]
      rw [aB (rf keys (keys.set w k) c) (c / 2) (by rw [dS]; omega),dV,if_pos (by omega),if_pos (by omega)]
      simp only [bS]
      rw [zfk fu (keys.set w k) _ _ (by simp; omega) k1]
      simp only [bS,Int.toNat_natCast]
      have rs:=rf_set keys w k c hc (by omega) h2
      rw [gm] at rs ⊢
      cases hlt : lt (keys.set w k) (nd keys (c / 2)).2 (nd (keys.set w k) c).1 with
      | true =>
        rw [hlt] at rs
        simp only [↓reduceIte] at rs ⊢
        rw [rs]
      | false =>
        rw [hlt] at rs
        simp only [bF,↓reduceIte] at rs ⊢
        rw [← rs]
        congr 1
        refine (List.ext_getElem (by simp) fun j h1 h2=>?_).symm
        rw [List.getElem_set]
        split
        · rename_i e; subst e; rw [dV,if_pos (by omega),if_pos (by omega)]
        · rfl
theorem zlL (keys : List eA) (hl : keys.length ≤ 1000000) (m : Nat) : ∀ n : Nat,n + m = keys.length → Ev (fun fu=>iI (cD keys) (cD keys) fu (n : Int)) (.inl ()):=by
  induction m with
  | zero =>
    intro n hn
    refine Ev.succ (Ev.of (fun fu=>?_) (Ev.ret _))
    have d : decide ((n : Int) < ((cD keys).Lose.length : Int)) = false:=dF (by simp only [cD,zH]; omega)
    simp only [iI,d,bF,↓reduceIte]
  | succ m ih =>
    intro n hn
    have w1 : IntKind.i64.wrap ((n : Int) + 1) = ((n + 1 : Nat) : Int):=by rw [wr (by omega) (by omega)]; rfl
    refine Ev.succ (Ev.of (fun fu=>?_) (ih (n + 1) (by omega)))
    have d : decide ((n : Int) < ((cD keys).Lose.length : Int)) = true:=dT (by simp only [cD,zH]; omega)
    simp only [iI,d,↓reduceIte,w1,aB (cD keys).Lose n (by simp only [cD,zH]; omega),bS,decide_true,Bool.not_true,bF]
theorem zka (keys : List eA) (hpl : dJ keys) (h0 : 0 < keys.length) (hl : keys.length ≤ 32) : Ev (fun fu=>sQ fu (cD keys)) (0,0):=by
  unfold sQ
  refine Ev.bind (zbz keys hpl h0 hl) ?_
  have d : decide (((cD keys).Lose.length : Int) = ((cD keys).Keys.length : Int)) = true:=dT (by simp [cD,zH])
  simp only [decide_true,Bool.not_true,bF,↓reduceIte,d]
  refine Ev.bind (zdd keys h0 (by omega)) (Ev.bind (zlL keys (by omega) keys.length 0 (by omega)) (Ev.of (fun fu=>?_) (Ev.ret _)))
  simp
def iD (keys : List eA) : Nat:=(nd keys 1).1
theorem sF (keys : List eA) (h0 : 0 < keys.length) : iD keys < keys.length:=(lM keys 1 (by omega) (by omega)).1
theorem zel (keys : List eA) (hpl : dJ keys) (h0 : 0 < keys.length) (hl : keys.length ≤ 32) :
    Ev (fun fu=>aP fu (cD keys)) (if (keys[iD keys]'(sF keys h0)).Done then 12 else 0):=by
  unfold aP
  refine Ev.bind (zka keys hpl h0 hl) (Ev.of (fun fu=>?_) (Ev.ret _))
  have : ix (cD keys).Keys (cD keys).Win = some (keys[iD keys]'(sF keys h0)):=aB keys (iD keys) (sF keys h0)
  simp only [decide_true,Bool.not_true,bF,↓reduceIte,this,bS]
  split <;> rfl
theorem zav (keys : List eA) (hpl : dJ keys) (h0 : 0 < keys.length) (hl : keys.length ≤ 32) :
    Ev (fun fu=>wO fu (cD keys)) (if (keys[iD keys]'(sF keys h0)).Done then (0,[],12) else ((iD keys : Int),(keys[iD keys]'(sF keys h0)).Key,0)):=by
  unfold wO
  refine Ev.bind (zel keys hpl h0 hl) (Ev.of (fun fu=>?_) (Ev.ret _))
  have : ix (cD keys).Keys (cD keys).Win = some (keys[iD keys]'(sF keys h0)):=aB keys (iD keys) (sF keys h0)
  cases h : (keys[iD keys]'(sF keys h0)).Done with
  | true=>rfl
  | false=>simp only [decide_true,Bool.not_true,bF,↓reduceIte,this,bS]; rfl
theorem zk8 (keys : List eA) (hpl : dJ keys) (h0 : 0 < keys.length) (hl : keys.length ≤ 32) (hd : (keys[iD keys]'(sF keys h0)).Done = false) (k : eA) (hk : k.Done = true → k.Key = [])
    (hb : k.Done = false → bl k.Key (keys[iD keys]'(sF keys h0)).Key = false) : ∃ g,Ev (fun fu=>nN fu (cD keys) k) (cD (keys.set (iD keys) k),g,0):=by
  have ho:=zel keys hpl h0 hl
  simp only [hd,bF,↓reduceIte] at ho
  have hc:=zbz [k] (fun x hx=>by simp at hx; subst hx; exact hk) (by simp) (by simp)
  have hwn:=sF keys h0
  obtain ⟨g,hg⟩:=ziE keys (iD keys) k (by omega) rfl (iD keys + keys.length) 0 (by omega) (by omega) (gD.refl _)
  have q1 : (nd (keys.set (iD keys) k) (iD keys + keys.length)).1 = iD keys:=by rw [iK _ _ (by simp)]; simp
  have q2 : rf keys (keys.set (iD keys) k) (iD keys + keys.length) = lf keys 0:=by
    refine List.ext_getElem (by simp [dS,zH]) fun j h1 h2=>?_
    rw [dS] at h1
    rw [dV,uP]
    by_cases q : 0 < j
    · rw [if_pos q,if_pos (by omega),if_pos q]
    · rw [if_neg q,if_neg q]
  have q3 : rf keys (keys.set (iD keys) k) 1 = lf (keys.set (iD keys) k) 0:=by
    refine List.ext_getElem (by simp [dS,zH]) fun j h1 h2=>?_
    rw [dS] at h1
    rw [dV,uP]
    by_cases q : 0 < j
    · rw [if_pos q,if_neg (by omega),if_pos q]
    · rw [if_neg q,if_neg q]
  rw [q1,q2,q3] at hg
  refine ⟨g,?_⟩
  unfold nN
  refine Ev.bind ho ?_
  simp only [decide_true,Bool.not_true,bF,↓reduceIte]
  refine Ev.bind hc ?_
  have ixw : ix (cD keys).Keys (cD keys).Win = some (keys[iD keys]'hwn):=aB keys (iD keys) hwn
  have hb8 : (if (!k.Done) = true then some (Op.bytesLess k.Key (keys[iD keys]'hwn).Key) else some false) = some false:=by
    cases h : k.Done with
    | true=>rfl
    | false=>simp only [Bool.not_false,↓reduceIte]; exact congrArg some (hb h)
  simp only [decide_true,Bool.not_true,bF,↓reduceIte,ixw,bS,hb8]
  have hne : (cD keys).Keys.isEmpty = false:=by show keys.isEmpty = false; cases keys; simp at h0; rfl
  have hne2 : (cD keys).Lose.isEmpty = false:=by
    show (lf keys 0).isEmpty = false
    have:=zH keys 0
    cases h : lf keys 0
    · rw [h] at this; simp at this; omega
    · rfl
  have g1 : 2 * ((0 + (cD keys).Keys.length) * 24) ≤ 281474976710656:=by show 2 * ((0 + keys.length) * 24) ≤ _; omega
  have g2 : 2 * ((0 + (cD keys).Lose.length) * 8) ≤ 281474976710656:=by show 2 * ((0 + (lf keys 0).length) * 8) ≤ _; rw [zH]; omega
  simp only [oQ,pO,hne,hne2,bF,↓reduceIte,if_pos g1,if_pos g2,bS,ixw,fN]
  have ws : IntKind.i64.wrap ((((cD keys).Keys.set (cD keys).Win.toNat k).length : Int) + (cD keys).Win) = ((iD keys + keys.length : Nat) : Int):=by
    show IntKind.i64.wrap (((keys.set (iD keys) k).length : Int) + (iD keys : Int)) = _
    rw [List.length_set,wr (by omega) (by omega)]; omega
  rw [ws]
  exact Ev.bind hg (Ev.ret _)
theorem lt_trans (keys : List eA) (p q r : Nat) (hp : p < keys.length) (hq : q < keys.length) (hr : r < keys.length) (h : lt keys p q = true) (k : lt keys q r = true) : lt keys p r = true:=by
  simp only [lt,List.getElem?_eq_getElem hp,List.getElem?_eq_getElem hq,List.getElem?_eq_getElem hr] at *
  generalize keys[p] = a at *
  generalize keys[q] = b at *
  generalize keys[r] = c at *
  obtain ⟨ak,ad⟩:=a
  obtain ⟨bk,bd⟩:=b
  obtain ⟨ck,cd⟩:=c
  simp only at *
  cases ad <;> cases bd <;> cases cd <;> simp at h k ⊢
  all_goals
    by_cases e1 : ak = bk
    · subst e1
      by_cases e2 : ak = ck
      · subst e2; simp at h k ⊢; omega
      · simp [e2] at k ⊢; exact k
    · simp [e1] at h
      by_cases e2 : bk = ck
      · subst e2; simp [e1]; exact h
      · simp [e2] at k
        have:=jN h k
        have ne : ak ≠ ck:=fun e=>by subst e; rw [oG] at this; cases this
        simp [ne]; exact this
theorem gD.child {x c : Nat} (h : gD x c) (hne : c ≠ x) : ∃ b,gD x b ∧ b / 2 = c:=by
  obtain ⟨d,rfl⟩:=h
  cases d with
  | zero=>simp at hne
  | succ d=>exact ⟨x / 2 ^ d,⟨d,rfl⟩,by rw [Nat.pow_succ,← Nat.div_div_eq_div_mul]⟩
theorem zhY (keys : List eA) (m : Nat) : ∀ node,1 ≤ node → node < 2 * keys.length → keys.length - node ≤ m → ∀ x,x < keys.length → gD (x + keys.length) node → x ≠ (nd keys node).1 → lt keys (nd keys node).1 x = true:=by
  have leaf : ∀ node,keys.length ≤ node → node < 2 * keys.length → ∀ x,x < keys.length → gD (x + keys.length) node → x ≠ (nd keys node).1 → lt keys (nd keys node).1 x = true:=by
    intro node h1 h2 x hx ha hne
    rw [iK keys node h1] at hne
    simp only at hne
    rcases ha.half with h | h <;> omega
  induction m with
  | zero=>intro node h1 h2 h3; exact leaf node (by omega) h2
  | succ m ih =>
    intro node h1 h2 h3 x hx ha hne
    by_cases h : keys.length ≤ node
    · exact leaf node h h2 x hx ha hne
    · have a:=ih (2 * node) (by omega) (by omega) (by omega)
      have b:=ih (2 * node + 1) (by omega) (by omega) (by omega)
      have ka:=(lM keys (2 * node) (by omega) (by omega)).1
      have kb:=(lM keys (2 * node + 1) (by omega) (by omega)).1
      obtain ⟨c,c1,c2⟩:=ha.child (by omega)
      have hn:=bQ keys node h1 (by omega)
      have dis : (nd keys (2 * node)).1 ≠ (nd keys (2 * node + 1)).1:=fun e=>by
        have q1:=rV keys (2 * node) (by omega) (by omega)
        have q2:=rV keys (2 * node + 1) (by omega) (by omega)
        rw [e] at q1
        exact gD.one h1 q1 q2
      have iC:=zao keys _ _ ka kb dis
      have side : c = 2 * node ∨ c = 2 * node + 1:=by omega
      cases hlt : lt keys (nd keys (2 * node)).1 (nd keys (2 * node + 1)).1 with
      | true =>
        rw [hlt] at hn iC
        simp only [↓reduceIte] at hn
        rw [hn] at hne ⊢
        rcases side with rfl | rfl
        · exact a x hx c1 hne
        · by_cases e : x = (nd keys (2 * node + 1)).1
          · subst e; exact hlt
          · exact lt_trans keys _ _ _ ka kb hx hlt (b x hx c1 e)
      | false =>
        rw [hlt] at hn iC
        simp only [bF,↓reduceIte] at hn
        simp only [Bool.not_false] at iC
        rw [hn] at hne ⊢
        rcases side with rfl | rfl
        · by_cases e : x = (nd keys (2 * node)).1
          · subst e; exact iC
          · exact lt_trans keys _ _ _ kb ka hx iC (a x hx c1 e)
        · exact b x hx c1 hne
theorem xZ (l : List aA) (a : Nat) : (lF l a).Done = decide (l.length ≤ a):=by
  unfold lF
  by_cases h : a < l.length
  · simp [h]
  · simp [h]; omega
theorem lQ (l : List aA) (a : Nat) (h : a < l.length) : lF l a = ⟨l[a].Key,false⟩:=by simp [lF,h]
def aQ (keys : List eA) (n : Nat) (b : Int) : Prop :=
  (b = -1 ∧ ∀ j (h : j < keys.length),j < n → keys[j].Done = true) ∨
  ∃ w : Nat,∃ hw : w < keys.length,b = (w : Int) ∧ w < n ∧ keys[w].Done = false ∧ ∀ j,j < n → j < keys.length → j ≠ w → lt keys w j = true
theorem zb5 (keys : List eA) (p q : Nat) (hp : p < keys.length) (hq : q < keys.length) (h1 : keys[p].Done = false) (h2 : keys[q].Done = true) : lt keys p q = true:=by
  simp only [lt,List.getElem?_eq_getElem hp,List.getElem?_eq_getElem hq,h1,h2]; rfl
theorem zmP (keys : List eA) (n : Nat) (b : Int) (hn : n < keys.length) (h : aQ keys n b) (hd : keys[n].Done = true) : aQ keys (n + 1) b:=by
  rcases h with ⟨e,h⟩ | ⟨w,hw,e,h1,h2,h3⟩
  · refine .inl ⟨e,fun j hj hn'=>?_⟩
    by_cases q : j = n
    · subst q; exact hd
    · exact h j hj (by omega)
  · refine .inr ⟨w,hw,e,by omega,h2,fun j hj hl hne=>?_⟩
    by_cases q : j = n
    · subst q; exact zb5 keys w j hw hl h2 hd
    · exact h3 j (by omega) hl hne
theorem zij (keys : List eA) (n : Nat) (hn : n < keys.length) (h : aQ keys n (-1)) (hd : keys[n].Done = false) : aQ keys (n + 1) (n : Int):=by
  rcases h with ⟨e,h⟩ | ⟨w,hw,e,_⟩
  · refine .inr ⟨n,hn,rfl,by omega,hd,fun j hj hl hne=>?_⟩
    exact zb5 keys n j hn hl hd (h j hl (by omega))
  · omega
theorem zbv (keys : List eA) (p q : Nat) (hp : p < keys.length) (hq : q < keys.length) (h1 : keys[p].Done = false) (h2 : keys[q].Done = false) :
    lt keys p q = if keys[p].Key = keys[q].Key then decide (p < q) else bl keys[p].Key keys[q].Key:=by
  simp only [lt,List.getElem?_eq_getElem hp,List.getElem?_eq_getElem hq,h1,h2]
  by_cases e : keys[p].Key = keys[q].Key <;> simp [e]
theorem zmA (keys : List eA) (n w : Nat) (hn : n < keys.length) (hw : w < keys.length) (h : aQ keys n (w : Int)) (hd : keys[n].Done = false) :
    aQ keys (n + 1) (if bl keys[n].Key keys[w].Key = true then (n : Int) else (w : Int)):=by
  rcases h with ⟨e,_⟩ | ⟨w',hw',e,h1,h2,h3⟩
  · omega
  · obtain rfl : w' = w:=by omega
    have k:=zbv keys n w' hn hw hd h2
    have k':=zbv keys w' n hw hn h2 hd
    by_cases b : bl keys[n].Key keys[w'].Key = true
    · rw [if_pos b]
      have ne : ¬ keys[n].Key = keys[w'].Key:=fun e=>by rw [e,oG] at b; cases b
      rw [if_neg ne,b] at k
      refine .inr ⟨n,hn,rfl,by omega,hd,fun j hj hl hne=>?_⟩
      by_cases q : j = w'
      · subst q; exact k
      · exact lt_trans keys n w' j hn hw hl k (h3 j (by omega) hl q)
    · rw [if_neg b]
      refine .inr ⟨w',hw,rfl,by omega,h2,fun j hj hl hne=>?_⟩
      by_cases q : j = n
      · subst q
        rw [k']
        by_cases e2 : keys[w'].Key = keys[j].Key
        · rw [if_pos e2]; exact dT (by omega)
        · rw [if_neg e2]
          rcases eS keys[w'].Key keys[j].Key with h | h | h
          · exact h
          · exact absurd h e2
          · exact absurd h b
      · exact h3 j (by omega) hl hne
theorem zhu (runs : List (List aA)) (a : List Nat) (ha : At runs a) (hl : runs.length ≤ 1000000) (m : Nat) : ∀ (n : Nat) (b : Int), n + m = runs.length → aQ (uB runs a) n b →
    ∃ r,Ev (fun fu=>pK runs (tB a) fu b (n : Int)) r ∧ aQ (uB runs a) runs.length r:=by
  induction m with
  | zero =>
    intro n b hn hb
    obtain rfl : n = runs.length:=by omega
    refine ⟨b,Ev.succ (Ev.of (fun fu=>?_) (Ev.ret _)),hb⟩
    simp [pK]
  | succ m ih =>
    intro n b hn hb
    have hnl : n < runs.length:=by omega
    have hna : n < a.length:=by rw [ha.1]; exact hnl
    have hk : n < (uB runs a).length:=by rw [zD]; exact hnl
    have w1 : IntKind.i64.wrap ((n : Int) + 1) = ((n + 1 : Nat) : Int):=by rw [wr (by omega) (by omega)]; rfl
    have d : decide ((n : Int) < (runs.length : Int)) = true:=dT (by omega)
    have kg:=mS runs a n hk hnl hna
    by_cases q : a[n] < runs[n].length
    · have d2 : decide (((a[n] : Nat) : Int) < (runs[n].length : Int)) = true:=dT (by omega)
      have hd : ((uB runs a)[n]).Done = false:=by rw [kg,lQ _ _ q]
      by_cases hneg : b = -1
      · subst hneg
        obtain ⟨r,r1,r2⟩:=ih (n + 1) n (by omega) (zij _ n hk hb hd)
        refine ⟨r,Ev.succ (Ev.of (fun fu=>?_) r1),r2⟩
        simp only [pK,w1,d,↓reduceIte,cF a n hna,aB runs n hnl,bS,d2]
        rfl
      · obtain ⟨w, hw, rfl, h1, h2, h3⟩ : ∃ w : Nat, ∃ hw : w < (uB runs a).length, b = (w : Int) ∧ w < n ∧ (uB runs a)[w].Done = false ∧ True := by
          rcases hb with ⟨e,_⟩ | ⟨w,hw,e,h1,h2,_⟩
          · exact absurd e hneg
          · exact ⟨w,hw,e,h1,h2,trivial⟩
        have hwl : w < runs.length:=by rw [zD] at hw; exact hw
        have hwa : w < a.length:=by rw [ha.1]; exact hwl
        have kw:=mS runs a w hw hwl hwa
        have qw : a[w] < runs[w].length:=by
          rw [kw,xZ] at h2
          have:=of_decide_eq_false h2
          omega
        have nx:=zmA _ n w hk hw hb hd
        have e1 : (uB runs a)[n].Key = runs[n][a[n]].Key:=by rw [kg,lQ _ _ q]
        have e2 : (uB runs a)[w].Key = runs[w][a[w]].Key:=by rw [kw,lQ _ _ qw]
        rw [e1,e2] at nx
        have dn : decide ((w : Int) < 0) = false:=dF (by omega)
        obtain ⟨r,r1,r2⟩:=ih (n + 1) _ (by omega) nx
        refine ⟨r,Ev.succ (Ev.of (fun fu=>?_) r1),r2⟩
        simp only [pK,w1,d,↓reduceIte,cF a n hna,aB runs n hnl,cF a w hwa,aB runs w hwl,aB runs[n] a[n] q,aB runs[w] a[w] qw,bS,d2,dn,bF,bl]
        split <;> rfl
    · have d2 : decide (((a[n] : Nat) : Int) < (runs[n].length : Int)) = false:=dF (by omega)
      have hd : ((uB runs a)[n]).Done = true:=by rw [kg,xZ]; exact dT (by omega)
      obtain ⟨r,r1,r2⟩:=ih (n + 1) b (by omega) (zmP _ n b hk hb hd)
      refine ⟨r,Ev.succ (Ev.of (fun fu=>?_) r1),r2⟩
      simp only [pK,w1,d,↓reduceIte,cF a n hna,aB runs n hnl,bS,d2]
      rfl
theorem zmq (x : Nat) (h : 1 ≤ x) : gD x 1:=by
  induction x using Nat.strongRecOn with
  | _ x ih =>
    by_cases e : x = 1
    · subst e; exact .refl 1
    · obtain ⟨d,hd⟩:=ih (x / 2) (by omega) (by omega)
      exact ⟨d + 1,by rw [Nat.pow_succ,Nat.mul_comm,← Nat.div_div_eq_div_mul]; exact hd⟩
theorem zcc (keys : List eA) (x : Nat) (hx : x < keys.length) (h : x ≠ iD keys) : lt keys (iD keys) x = true :=
  zhY keys _ 1 (Nat.le_refl 1) (by omega) (Nat.le_refl _) x hx (zmq _ (by omega)) h
theorem znH (keys : List eA) (h0 : 0 < keys.length) (b : Int) (h : aQ keys keys.length b) : b = if (keys[iD keys]'(sF keys h0)).Done then -1 else (iD keys : Int):=by
  have hw:=sF keys h0
  rcases h with ⟨e,h⟩ | ⟨w,hw',e,h1,h2,h3⟩
  · rw [h _ hw hw]; exact e
  · by_cases q : w = iD keys
    · subst q; rw [h2]; exact e
    · have a:=zcc keys w hw' q
      have b':=h3 _ hw hw (Ne.symm q)
      have t:=zao keys w (iD keys) hw' hw q
      rw [a,b'] at t; cases t
def wn (runs : List (List aA)) (a : List Nat) : Nat:=iD (uB runs a)
def cE (a : List Nat) (w : Nat) : List Nat:=a.set w (a[w]?.getD 0 + 1)
theorem vQ (a : List Nat) (w : Nat) (h : w < a.length) : cE a w = a.set w (a[w] + 1):=by simp [cE,h]
theorem iR (a : List Nat) (w : Nat) : (cE a w).length = a.length:=by simp [cE]
theorem wn_lt (runs : List (List aA)) (a : List Nat) (h0 : 0 < runs.length) : wn runs a < runs.length:=by
  have:=sF (uB runs a) (by rw [zD]; exact h0)
  rwa [zD] at this
inductive Turn (runs : List (List aA)) (a : List Nat) (h0 : 0 < runs.length) : Prop
  | fin (h : ((uB runs a)[iD (uB runs a)]'(sF _ (by rw [zD]; exact h0))).Done = true) (all : ∀ i (h1 : i < runs.length) (h2 : i < a.length),a[i] = runs[i].length)
  | go (hw : wn runs a < runs.length) (hwa : wn runs a < a.length) (hq : a[wn runs a] < runs[wn runs a].length)
      (h : ((uB runs a)[iD (uB runs a)]'(sF _ (by rw [zD]; exact h0))) = ⟨runs[wn runs a][a[wn runs a]].Key,false⟩)
theorem oM (runs : List (List aA)) (a : List Nat) (ha : At runs a) (h0 : 0 < runs.length) : Turn runs a h0:=by
  have hw:=wn_lt runs a h0
  have hwa : wn runs a < a.length:=by rw [ha.1]; exact hw
  have hk:=sF (uB runs a) (by rw [zD]; exact h0)
  have kg : (uB runs a)[iD (uB runs a)] = lF runs[wn runs a] a[wn runs a]:=mS runs a (wn runs a) hk hw hwa
  by_cases q : a[wn runs a] < runs[wn runs a].length
  · exact .go hw hwa q (by rw [kg,lQ _ _ q])
  · have hd : (uB runs a)[iD (uB runs a)].Done = true:=by rw [kg,xZ]; exact dT (by omega)
    refine .fin hd fun i h1 h2=>?_
    have hle:=ha.2 i h1 h2
    by_cases e : i = wn runs a
    · subst e; omega
    · have hik : i < (uB runs a).length:=by rw [zD]; exact h1
      have l:=zcc (uB runs a) i hik e
      by_cases hlt : a[i] < runs[i].length
      · have d2 : ((uB runs a)[i]).Done = false:=by rw [mS runs a i hik h1 h2,lQ _ _ hlt]
        have:=zb5 (uB runs a) i (iD (uB runs a)) hik hk d2 hd
        have t:=zao (uB runs a) i (iD (uB runs a)) hik hk e
        rw [l,this] at t; cases t
      · omega
theorem zoj (runs : List (List aA)) (a : List Nat) (w : Nat) (h1 : w < runs.length) (h2 : w < a.length) : uB runs (cE a w) = (uB runs a).set w (lF runs[w] (a[w] + 1)):=by
  refine List.ext_getElem (by simp [zD]) fun j k1 k2=>?_
  rw [zD] at k1
  rw [List.getElem_set]
  simp only [uB,List.getElem_map,List.getElem_range,cE]
  split
  · rename_i e; subst e; simp [h1,h2]
  · rename_i e; simp [e]
theorem mY (runs : List (List aA)) (a : List Nat) (w : Nat) (ha : At runs a) (h1 : w < runs.length) (h2 : w < a.length) (h : a[w] < runs[w].length) : At runs (cE a w):=by
  refine ⟨by rw [iR]; exact ha.1,fun i k1 k2=>?_⟩
  simp only [vQ a w h2,List.getElem_set]
  split
  · rename_i e; subst e; omega
  · exact ha.2 i k1 (by rw [iR] at k2; exact k2)
theorem zep (runs : List (List aA)) (a : List Nat) (h0 : 0 < runs.length) (hl : runs.length ≤ 32)
    (h : ((uB runs a)[iD (uB runs a)]'(sF _ (by rw [zD]; exact h0))).Done = true) (t : fB) (ht : t = cD (uB runs a)) (x : List Int) :
    Ev (fun fu=>hM fu runs x t.Keys t.Lose t.Win) (⟨[],[],false,0⟩,0,12):=by
  subst ht
  unfold hM
  have:=zav (uB runs a) (nV runs a) (by rw [zD]; exact h0) (by rw [zD]; exact hl)
  rw [if_pos h] at this
  exact Ev.bind this (Ev.ret _)
theorem zdy (runs : List (List aA)) (a : List Nat) (h0 : 0 < runs.length) (hl : runs.length ≤ 32) (hw : wn runs a < runs.length) (hwa : wn runs a < a.length) (hq : a[wn runs a] < runs[wn runs a].length)
    (h : ((uB runs a)[iD (uB runs a)]'(sF _ (by rw [zD]; exact h0))) = ⟨runs[wn runs a][a[wn runs a]].Key,false⟩) (t : fB) (ht : t = cD (uB runs a)) :
    Ev (fun fu=>hM fu runs (tB a) t.Keys t.Lose t.Win) (runs[wn runs a][a[wn runs a]],(wn runs a : Int),0):=by
  subst ht
  unfold hM
  have:=zav (uB runs a) (nV runs a) (by rw [zD]; exact h0) (by rw [zD]; exact hl)
  rw [if_neg (by rw [h]; simp)] at this
  refine Ev.bind this (Ev.of (fun fu=>?_) (Ev.ret _))
  have e1 : ix runs ((iD (uB runs a) : Nat) : Int) = some runs[wn runs a]:=aB runs _ hw
  have e2 : ix (tB a) ((iD (uB runs a) : Nat) : Int) = some ((a[wn runs a] : Nat) : Int):=cF a _ hwa
  simp only [decide_true,Bool.not_true,bF,↓reduceIte,e1,e2,bS,aB _ _ hq]
  rfl
theorem zds (runs : List (List aA)) (a : List Nat) (hg : dD runs) (ha : At runs a) (hw : wn runs a < runs.length) (hwa : wn runs a < a.length) (hq : a[wn runs a] < runs[wn runs a].length)
    (h : ((uB runs a)[iD (uB runs a)]'(sF _ (by rw [zD]; exact hg.1))) = ⟨runs[wn runs a][a[wn runs a]].Key,false⟩) (t : fB) (ht : t = cD (uB runs a)) :
    ∃ g,Ev (fun fu=>nN fu t (lF runs[wn runs a] (a[wn runs a] + 1))) (cD (uB runs (cE a (wn runs a))),g,0):=by
  subst ht
  have hk:=sF (uB runs a) (by rw [zD]; exact hg.1)
  obtain ⟨g,e⟩:=zk8 (uB runs a) (nV runs a) (by rw [zD]; exact hg.1) (by rw [zD]; exact hg.2.1) (by rw [h]) (lF runs[wn runs a] (a[wn runs a] + 1)) (zfd _ _) (by
    intro hd
    rw [h,xZ] at *
    have hlt : a[wn runs a] + 1 < runs[wn runs a].length:=by have:=of_decide_eq_false hd; omega
    rw [lQ _ _ hlt]
    have:=((hg.2.2 _ (List.getElem_mem hw)).2 (a[wn runs a] + 1) hlt).2 (by omega)
    exact dL this)
  refine ⟨g,?_⟩
  have q : (uB runs a).set (iD (uB runs a)) (lF runs[wn runs a] (a[wn runs a] + 1)) = uB runs (cE a (wn runs a)):=(zoj runs a (wn runs a) hw hwa).symm
  rw [q] at e
  exact e
def jB (runs : List (List aA)) (a : List Nat) : Nat:=(List.zipWith (fun l n=>l.length - n) runs a).sum
theorem pS : ∀ (runs : List (List aA)) (a : List Nat) (w : Nat) (h1 : w < runs.length) (h2 : w < a.length),a[w] < runs[w].length → jB runs (cE a w) + 1 = jB runs a
  | l::runs,n::a,0,_,_,h=>by
    simp only [List.getElem_cons_zero] at h
    simp [jB,cE]; omega
  | l::runs,n::a,w + 1,h1,h2,h=>by
    have:=pS runs a w (by simpa using h1) (by simpa using h2) (by simpa using h)
    simp [jB,cE] at this ⊢; omega
theorem yU : ∀ (runs : List (List aA)) (a : List Nat),(∀ i (h1 : i < runs.length) (h2 : i < a.length),a[i] = runs[i].length) → jB runs a = 0
  | [],a,_=>by simp [jB]
  | _::_,[],_=>by simp [jB]
  | l::runs,n::a,h=>by
    have h0:=h 0 (by simp) (by simp)
    have:=yU runs a fun i h1 h2=>by have:=h (i + 1) (by simp; omega) (by simp; omega); simpa using this
    simp [jB] at this h0 ⊢
    exact ⟨by omega,this⟩
theorem zcO : ∀ (runs : List (List aA)) (a : List Nat) (c : Nat),(∀ l ∈ runs,l.length ≤ c) → jB runs a ≤ runs.length * c
  | [],a,c,_=>by simp [jB]
  | _::_,[],c,_=>by simp [jB]
  | l::runs,n::a,c,h=>by
    have h0:=h l (by simp)
    have:=zcO runs a c fun l hl=>h l (by simp [hl])
    simp [jB,Nat.add_mul] at this ⊢
    omega
def wF (runs : List (List aA)) : Nat → List Nat → List (aA × Nat)
  | 0,_=>[]
  | n + 1,a=>((runs[wn runs a]?.getD [])[a[wn runs a]?.getD 0]?.getD ⟨[],[],false,0⟩,wn runs a)::wF runs n (cE a (wn runs a))
def aN (l : List (aA × Nat)) : List aA:=l.map (·.1)
def wR (l : List (aA × Nat)) : List Int:=l.map fun x=>(x.2 : Int)
theorem qZ (a : List Nat) (w : Nat) (n : Nat) : (tB a).set w ((n : Nat) : Int) = tB (a.set w n):=by simp [tB,List.map_set]
def wH (runs : List (List aA)) : Nat → List Nat → List Nat
  | 0,a=>a
  | n + 1,a=>wH runs n (cE a (wn runs a))
theorem zdF (runs : List (List aA)) (hg : dD runs) (s : iB × Int × Int) (hs : s.1.Runs = runs) (m : Nat) : ∀ (a : List Nat) (t : fB) (l : List aA) (from' : List Int),
    At runs a → t = cD (uB runs a) → jB runs a = m → l.length + m ≤ 200000 → from'.length = l.length →
    Ev (fun fu=>jI s fu (tB a) t.Keys t.Lose t.Win l from') (tB (wH runs m a),(cD (uB runs (wH runs m a))).Keys,(cD (uB runs (wH runs m a))).Lose,(cD (uB runs (wH runs m a))).Win,l++aN (wF runs m a),from'++wR (wF runs m a)):=by
  have h0:=hg.1
  have h32:=hg.2.1
  induction m with
  | zero =>
    intro a t l from' ha ht hr hm hfl
    rcases oM runs a ha h0 with ⟨hd,hall⟩ | ⟨hw,hwa,hq,hk⟩
    · refine Ev.succ ?_
      simp only [jI,hs]
      refine Ev.bind (zep runs a h0 h32 hd t ht (tB a)) ?_
      simp only [show (decide ((12 : Int) = 0)) = false from rfl,Bool.not_false,↓reduceIte,wH,wF,aN,wR,List.map_nil,List.append_nil]
      rw [ht]
      exact Ev.ret _
    · have:=pS runs a _ hw hwa hq
      omega
  | succ m ih =>
    intro a t l from' ha ht hr hm hfl
    rcases oM runs a ha h0 with ⟨hd,hall⟩ | ⟨hw,hwa,hq,hk⟩
    · rw [yU runs a hall] at hr; omega
    · refine Ev.succ ?_
      simp only [jI,hs]
      refine Ev.bind (zdy runs a h0 h32 hw hwa hq hk t ht) ?_
      have hle : runs[wn runs a].length ≤ 5000:=(hg.2.2 _ (List.getElem_mem hw)).1
      have w1 : IntKind.i64.wrap (((a[wn runs a] : Nat) : Int) + 1) = ((a[wn runs a] + 1 : Nat) : Int):=by rw [wr (by omega) (by omega)]; rfl
      have g1 : 2 * ((l.length + 1) * 48) ≤ 281474976710656:=by omega
      have g2 : 2 * ((from'.length + 1) * 8) ≤ 281474976710656:=by omega
      have hs' : (tB a).set (wn runs a) ((a[wn runs a] + 1 : Nat) : Int) = tB (cE a (wn runs a)):=by rw [qZ,vQ a _ hwa]
      have hix : ix (tB (cE a (wn runs a))) ((wn runs a : Nat) : Int) = some ((a[wn runs a] + 1 : Nat) : Int):=by
        rw [cF _ _ (by rw [iR]; exact hwa)]; simp [vQ a _ hwa]
      simp only [show (decide ((0 : Int) = 0)) = true from rfl,Bool.not_true,bF,↓reduceIte,if_pos g1,if_pos g2,cF a _ hwa,aB runs _ hw,bS,Int.toNat_natCast,w1,hs',hix]
      have hnx : ∀ fu,lK fu runs[wn runs a] ((a[wn runs a] + 1 : Nat) : Int) = some (lF runs[wn runs a] (a[wn runs a] + 1)):=fun fu=>za6 fu _ _ (by omega)
      simp only [hnx,bS]
      obtain ⟨g,hrd⟩:=zds runs a hg ha hw hwa hq hk t ht
      have hrs:=pS runs a _ hw hwa hq
      have hrec:=ih (cE a (wn runs a)) (cD (uB runs (cE a (wn runs a)))) (l++[runs[wn runs a][a[wn runs a]]]) (from'++[(wn runs a : Int)]) (mY runs a _ ha hw hwa hq) rfl (by omega) (by simp; omega) (by simp [hfl])
      have ht2 : (⟨t.Keys,t.Lose,t.Win⟩ : fB) = t:=rfl
      simp only [ht2]
      refine Ev.bind hrd ?_
      have ho : wF runs (m + 1) a = (runs[wn runs a][a[wn runs a]],wn runs a)::wF runs m (cE a (wn runs a)):=by
        simp only [wF,List.getElem?_eq_getElem hw,List.getElem?_eq_getElem hwa,Option.getD_some,List.getElem?_eq_getElem hq]
      have he : wH runs (m + 1) a = wH runs m (cE a (wn runs a)):=rfl
      rw [ho,he]
      simpa [aN,wR] using hrec
def pick {ρ : Type} (c : Nat → Option ρ) : Nat → Nat → Sum Unit ρ
  | 0,_=>.inl ()
  | m + 1,n=>match c n with | some r=>.inr r | none=>pick c m (n + 1)
theorem Ev.loop {ρ : Type} {L : Nat → Int → Option (Sum Unit ρ)} {len : Nat} (c : Nat → Option ρ) (stop : Ev (fun fu => L fu (len : Int)) (.inl ()))
    (step : ∀ n,n < len → (∀ r,c n = some r → Ev (fun fu=>L fu (n : Int)) (.inr r)) ∧ (c n = none → ∀ r,Ev (fun fu=>L fu ((n + 1 : Nat) : Int)) r → Ev (fun fu=>L fu (n : Int)) r)) (m : Nat) :
    ∀ n,n + m = len → Ev (fun fu=>L fu (n : Int)) (pick c m n):=by
  induction m with
  | zero => intro n hn; obtain rfl : n = len := by omega
            exact stop
  | succ m ih =>
    intro n hn
    obtain ⟨s1,s2⟩:=step n (by omega)
    simp only [pick]
    cases h : c n with
    | some r=>exact s1 r h
    | none=>exact s2 h _ (ih (n + 1) (by omega))
theorem tZ {ρ : Type} {c : Nat → Option ρ} {m n : Nat} {u : Unit} (h : pick c m n = .inl u) : ∀ i,n ≤ i → i < n + m → c i = none:=by
  induction m generalizing n with
  | zero=>intro i h1 h2; omega
  | succ m ih =>
    intro i h1 h2
    simp only [pick] at h
    cases hc : c n with
    | some r=>rw [hc] at h; cases h
    | none =>
      rw [hc] at h
      by_cases e : i = n
      · subst e; exact hc
      · exact ih h i (by omega) (by omega)
theorem zn8 {ρ : Type} {c : Nat → Option ρ} {m n : Nat} (h : ∀ i,n ≤ i → i < n + m → c i = none) : pick c m n = .inl ():=by
  induction m generalizing n with
  | zero=>rfl
  | succ m ih=>simp only [pick,h n (by omega) (by omega)]; exact ih fun i h1 h2=>h i (by omega) (by omega)
theorem zas {ρ : Type} {c : Nat → Option ρ} {m n : Nat} {r : ρ} (h : pick c m n = .inr r) : ∃ i,n ≤ i ∧ i < n + m ∧ c i = some r:=by
  induction m generalizing n with
  | zero=>cases h
  | succ m ih =>
    simp only [pick] at h
    cases hc : c n with
    | some r'=>rw [hc] at h; cases h; exact ⟨n,by omega,by omega,hc⟩
    | none =>
      rw [hc] at h
      obtain ⟨i,h1,h2,h3⟩:=ih h
      exact ⟨i,by omega,by omega,h3⟩
theorem sC (n : Nat) (h : n < 9223372036854775807) : IntKind.i64.wrap ((n : Int) + 1) = ((n + 1 : Nat) : Int):=by rw [wr (by omega) (by omega)]; rfl
theorem zaq (x y : aA) : aA.eqb x y = decide (x = y):=by
  obtain ⟨a,b,c,d⟩:=x
  obtain ⟨a',b',c',d'⟩:=y
  by_cases h1 : a = a' <;> by_cases h2 : b = b' <;> by_cases h3 : c = c' <;> by_cases h4 : d = d' <;> simp [aA.eqb,h1,h2,h3,h4]
theorem zev (x y : eA) : eA.eqb x y = decide (x = y):=by
  obtain ⟨a,b⟩:=x
  obtain ⟨a',b'⟩:=y
  by_cases h1 : a = a' <;> by_cases h2 : b = b' <;> simp [eA.eqb,h1,h2]
theorem Ev.eqs {α ρ : Type} [DecidableEq α] (bad : ρ) (l k : List α) (h : l.length = k.length) {L : Nat → Int → Option (Sum Unit ρ)}
    (stop : ∀ fu,L (fu + 1) (l.length : Int) = some (.inl ())) (step : ∀ fu n (h1 : n < l.length) (h2 : n < k.length),L (fu + 1) (n : Int) = if l[n] = k[n] then L fu ((n + 1 : Nat) : Int) else some (.inr bad)) :
    ∃ r,Ev (fun fu=>L fu 0) r ∧ ((r = .inl () ∧ l = k) ∨ (r = .inr bad ∧ l ≠ k)):=by
  have lp:=Ev.loop (L:=L) (len:=l.length) (fun i=>if l[i]? = k[i]? then none else some bad)
    (Ev.succ (Ev.of stop (Ev.ret _))) (fun n hn=>by
      have hk : n < k.length:=by omega
      simp only [List.getElem?_eq_getElem hn,List.getElem?_eq_getElem hk,Option.some.injEq]
      refine ⟨fun r hr=>Ev.succ (Ev.of (fun fu=>step fu n hn hk) ?_),fun hr r q=>Ev.succ (Ev.of (fun fu=>step fu n hn hk) ?_)⟩
      · by_cases e : l[n] = k[n]
        · rw [if_pos e] at hr; cases hr
        · rw [if_neg e] at hr; cases hr; simp only [if_neg e]; exact Ev.ret _
      · by_cases e : l[n] = k[n]
        · simp only [if_pos e]; exact q
        · rw [if_neg e] at hr; cases hr) l.length 0 (by omega)
  cases hp : pick (fun i=>if l[i]? = k[i]? then none else some bad) l.length 0 with
  | inl u =>
    rw [hp] at lp
    refine ⟨_,lp,.inl ⟨rfl,List.ext_getElem h fun i h1 h2=>?_⟩⟩
    have:=tZ hp i (by omega) (by omega)
    simp only [List.getElem?_eq_getElem h1,List.getElem?_eq_getElem h2,Option.some.injEq] at this
    by_cases e : l[i] = k[i]
    · exact e
    · rw [if_neg e] at this; cases this
  | inr r =>
    rw [hp] at lp
    obtain ⟨i,h1,h2,h3⟩:=zas hp
    by_cases e : l[i]? = k[i]?
    · simp [e] at h3
    · simp [e] at h3
      subst h3
      exact ⟨_,lp,.inr ⟨rfl,fun e'=>by subst e'; simp at e⟩⟩
theorem za8 (l k : List aA) (hl : l.length < 1000000000000000000) : ∃ b,Ev (fun fu=>hP fu l k) b ∧ (b = true ↔ l = k):=by
  unfold hP
  by_cases h : l.length = k.length
  · have hd : (!decide ((l.length : Int) = (k.length : Int))) = false:=by simp; omega
    simp only [hd,bF,↓reduceIte]
    obtain ⟨r,r1,r2⟩:=Ev.eqs false l k h (L:=oO l k) (fun fu=>by simp [oO]) (fun fu n h1 h2=>by
      have d : decide ((n : Int) < (l.length : Int)) = true:=dT (by omega)
      simp only [oO,d,↓reduceIte,aB l n h1,aB k n h2,bS,zaq,sC n (by omega)]
      by_cases e : l[n] = k[n] <;> simp [e])
    rcases r2 with ⟨rfl,e⟩ | ⟨rfl,e⟩
    · exact ⟨true,Ev.bind r1 (Ev.ret _),by simp [e]⟩
    · exact ⟨false,Ev.bind r1 (Ev.ret _),by simp [e]⟩
  · have hd : (!decide ((l.length : Int) = (k.length : Int))) = true:=by simp; omega
    simp only [hd,↓reduceIte]
    exact ⟨false,Ev.ret _,by simp; intro e; exact h (by rw [e])⟩
theorem zc3 (l k : List Int) (hl : l.length < 1000000000000000000) : ∃ b,Ev (fun fu=>aS fu l k) b ∧ (b = true ↔ l = k):=by
  unfold aS
  by_cases h : l.length = k.length
  · have hd : (!decide ((l.length : Int) = (k.length : Int))) = false:=by simp; omega
    simp only [hd,bF,↓reduceIte]
    obtain ⟨r,r1,r2⟩:=Ev.eqs false l k h (L:=rO l k) (fun fu=>by simp [rO]) (fun fu n h1 h2=>by
      have d : decide ((n : Int) < (l.length : Int)) = true:=dT (by omega)
      simp only [rO,d,↓reduceIte,aB l n h1,aB k n h2,bS,sC n (by omega)]
      by_cases e : l[n] = k[n] <;> simp [e])
    rcases r2 with ⟨rfl,e⟩ | ⟨rfl,e⟩
    · exact ⟨true,Ev.bind r1 (Ev.ret _),by simp [e]⟩
    · exact ⟨false,Ev.bind r1 (Ev.ret _),by simp [e]⟩
  · have hd : (!decide ((l.length : Int) = (k.length : Int))) = true:=by simp; omega
    simp only [hd,↓reduceIte]
    exact ⟨false,Ev.ret _,by simp; intro e; exact h (by rw [e])⟩
theorem ziM (a b : fB) (hl : a.Keys.length < 1000000000000000000) (h : a.Keys.length = b.Keys.length) : ∃ r,Ev (fun fu=>bM a b fu 0) r ∧ ((r = .inl () ∧ a.Keys = b.Keys) ∨ (r = .inr false ∧ a.Keys ≠ b.Keys)) :=
  Ev.eqs false a.Keys b.Keys h (L:=bM a b) (fun fu=>by simp [bM]) (fun fu n h1 h2=>by
    have d : decide ((n : Int) < (a.Keys.length : Int)) = true:=dT (by omega)
    simp only [bM,d,↓reduceIte,aB a.Keys n h1,aB b.Keys n h2,bS,zev,sC n (by omega)]
    by_cases e : a.Keys[n] = b.Keys[n] <;> simp [e])
theorem zcI (a b : fB) (hl : a.Keys.length < 1000000000000000000) (hl2 : a.Lose.length < 1000000000000000000) : ∃ r,Ev (fun fu=>eT fu a b) r ∧ (r = true ↔ a = b):=by
  obtain ⟨i,i1,i2⟩:=zc3 a.Lose b.Lose hl2
  obtain ⟨ak,al,aw⟩:=a
  obtain ⟨bk,bl,bw⟩:=b
  simp only at *
  unfold eT
  by_cases h : ak.length = bk.length
  · have hd : (!decide ((ak.length : Int) = (bk.length : Int))) = false:=by simp; omega
    by_cases hw : aw = bw
    · simp only [hd,hw,decide_true,Bool.not_true,bF,↓reduceIte,bS]
      cases i with
      | false =>
        refine ⟨false,Ev.bind (Ev.bind i1 (Ev.ret _)) (Ev.ret _),?_⟩
        simp at i2
        simp; intro _ e; exact absurd e i2
      | true =>
        obtain ⟨r,r1,r2⟩:=ziM ⟨ak,al,aw⟩ ⟨bk,bl,bw⟩ hl h
        subst hw
        rcases r2 with ⟨rfl,e⟩ | ⟨rfl,e⟩
        · refine ⟨true,Ev.bind (a:=false) (Ev.bind i1 (Ev.ret _)) (Ev.bind r1 (Ev.ret _)),?_⟩
          simp at i2 e
          simp [i2,e]
        · refine ⟨false,Ev.bind (a:=false) (Ev.bind i1 (Ev.ret _)) (Ev.bind r1 (Ev.ret _)),?_⟩
          simp at e
          simp; intro e'; exact absurd e' e
    · refine ⟨false,Ev.of (fun fu=>?_) (Ev.ret _),by simp; intro _ _ e; exact absurd e hw⟩
      simp [hd,hw]
  · refine ⟨false,Ev.of (fun fu=>?_) (Ev.ret _),by simp; intro e; exact absurd (by rw [e]) h⟩
    have hd : (!decide ((ak.length : Int) = (bk.length : Int))) = true:=by simp; omega
    simp [hd]
theorem zgi (a b : iB) (hA : a.At.length < 1000000000000000000) (hR : a.Runs.length < 1000000000000000000) (hl : a.Tree.Keys.length < 1000000000000000000) (hl2 : a.Tree.Lose.length < 1000000000000000000)
    (hE : ∀ l ∈ a.Runs,l.length < 1000000000000000000) : ∃ r,Ev (fun fu=>aX fu a b) r ∧ (r = true ↔ a = b):=by
  obtain ⟨i,i1,i2⟩:=zc3 a.At b.At hA
  obtain ⟨j,j1,j2⟩:=zcI a.Tree b.Tree hl hl2
  obtain ⟨ar,aa,at'⟩:=a
  obtain ⟨br,ba,bt⟩:=b
  simp only at *
  unfold aX
  by_cases h : ar.length = br.length
  · have hd : (!decide ((ar.length : Int) = (br.length : Int))) = false:=by simp; omega
    simp only [hd,bF,↓reduceIte]
    cases i with
    | false =>
      refine ⟨false,Ev.bind (a:=true) (Ev.bind i1 (Ev.ret _)) (Ev.bind (a:=true) (Ev.ret _) (Ev.ret _)),?_⟩
      simp at i2
      simp; intro _ e; exact absurd e i2
    | true =>
      cases j with
      | false =>
        refine ⟨false,Ev.bind (a:=false) (Ev.bind i1 (Ev.ret _)) (Ev.bind (a:=true) (Ev.bind j1 (Ev.ret _)) (Ev.ret _)),?_⟩
        simp at j2
        simp; intro _ _ e; exact absurd e j2
      | true =>
        obtain ⟨r,r1,r2⟩ : ∃ r,Ev (fun fu=>zJ ⟨ar,aa,at'⟩ ⟨br,ba,bt⟩ fu 0) r ∧ ((r = .inl () ∧ ar = br) ∨ (r = .inr false ∧ ar ≠ br)):=by
          have lp:=Ev.loop (L:=zJ ⟨ar,aa,at'⟩ ⟨br,ba,bt⟩) (len:=ar.length) (fun i=>if ar[i]? = br[i]? then none else some false)
            (Ev.succ (Ev.of (fun fu=>by simp [zJ]) (Ev.ret _))) (fun n hn=>by
              have hk : n < br.length:=by omega
              have d : decide ((n : Int) < (ar.length : Int)) = true:=dT (by omega)
              obtain ⟨q,q1,q2⟩:=za8 ar[n] br[n] (hE _ (List.getElem_mem hn))
              have f : ∀ fu,zJ ⟨ar,aa,at'⟩ ⟨br,ba,bt⟩ (fu + 1) (n : Int) = (hP fu ar[n] br[n]).bind fun r=>if r = true then zJ ⟨ar,aa,at'⟩ ⟨br,ba,bt⟩ fu ((n + 1 : Nat) : Int) else some (.inr false):=fun fu=>by
                simp only [zJ,d,↓reduceIte,aB ar n hn,aB br n hk,bS,sC n (by omega)]
                congr 1; funext r; cases r <;> rfl
              simp only [List.getElem?_eq_getElem hn,List.getElem?_eq_getElem hk,Option.some.injEq]
              refine ⟨fun r hr=>Ev.succ (Ev.of f (Ev.bind q1 ?_)),fun hr r q=>Ev.succ (Ev.of f (Ev.bind q1 ?_))⟩
              · by_cases e : ar[n] = br[n]
                · rw [if_pos e] at hr; cases hr
                · rw [if_neg e] at hr; cases hr
                  simp only [if_neg (show ¬ q = true from fun z=>e (q2.1 z))]; exact Ev.ret _
              · by_cases e : ar[n] = br[n]
                · simp only [if_pos (q2.2 e)]; exact q
                · rw [if_neg e] at hr; cases hr) ar.length 0 (by omega)
          cases hp : pick (fun i=>if ar[i]? = br[i]? then none else some false) ar.length 0 with
          | inl u =>
            rw [hp] at lp
            refine ⟨_,lp,.inl ⟨rfl,List.ext_getElem h fun i h1 h2=>?_⟩⟩
            have:=tZ hp i (by omega) (by omega)
            simp only [List.getElem?_eq_getElem h1,List.getElem?_eq_getElem h2,Option.some.injEq] at this
            by_cases e : ar[i] = br[i]
            · exact e
            · rw [if_neg e] at this; cases this
          | inr r =>
            rw [hp] at lp
            obtain ⟨i,h1,h2,h3⟩:=zas hp
            by_cases e : ar[i]? = br[i]?
            · simp [e] at h3
            · simp [e] at h3
              subst h3
              exact ⟨_,lp,.inr ⟨rfl,fun e'=>by subst e'; simp at e⟩⟩
        simp at i2 j2
        rcases r2 with ⟨rfl,e⟩ | ⟨rfl,e⟩
        · exact ⟨true,Ev.bind (a:=false) (Ev.bind i1 (Ev.ret _)) (Ev.bind (a:=false) (Ev.bind j1 (Ev.ret _)) (Ev.bind r1 (Ev.ret _))),by simp [e,i2,j2]⟩
        · exact ⟨false,Ev.bind (a:=false) (Ev.bind i1 (Ev.ret _)) (Ev.bind (a:=false) (Ev.bind j1 (Ev.ret _)) (Ev.bind r1 (Ev.ret _))),by simp [e]⟩
  · refine ⟨false,Ev.of (fun fu=>?_) (Ev.ret _),by simp; intro e; exact absurd (by rw [e]) h⟩
    have hd : (!decide ((ar.length : Int) = (br.length : Int))) = true:=by simp; omega
    simp [hd]
theorem zcF : @yS = @cI:=by kernel_rfl
theorem zag (runs : List (List aA)) (a : List Nat) (ha : At runs a) (h0 : 0 < runs.length) (hl : runs.length ≤ 32) :
    Ev (fun fu=>oT fu runs (tB a)) (if ((uB runs a)[iD (uB runs a)]'(sF _ (by rw [zD]; exact h0))).Done then -1 else (wn runs a : Int)):=by
  unfold oT
  obtain ⟨r,r1,r2⟩:=zhu runs a ha (by omega) runs.length 0 (-1) (by omega) (.inl ⟨rfl,fun j h1 h2=>by omega⟩)
  have:=znH (uB runs a) (by rw [zD]; exact h0) r (by rw [zD]; exact r2)
  rw [this] at r1
  exact Ev.bind r1 (Ev.ret _)
theorem zhT (runs : List (List aA)) (hg : dD runs) (m : Nat) : ∀ (a : List Nat) (l : List aA) (from' : List Int),
    At runs a → jB runs a = m → l.length + m ≤ 200000 → from'.length = l.length →
    Ev (fun fu=>lN runs fu (tB a) l from') (l++aN (wF runs m a),from'++wR (wF runs m a),0):=by
  have h0:=hg.1
  have h32:=hg.2.1
  induction m with
  | zero =>
    intro a l from' ha hr hm hfl
    have hf:=zag runs a ha h0 h32
    rcases oM runs a ha h0 with ⟨hd,hall⟩ | ⟨hw,hwa,hq,hk⟩
    · refine Ev.succ ?_
      rw [if_pos hd] at hf
      simp only [lN]
      refine Ev.bind hf ?_
      simp only [show (decide ((-1 : Int) < 0)) = true from rfl,↓reduceIte,wF,aN,wR,List.map_nil,List.append_nil]
      exact Ev.ret _
    · have:=pS runs a _ hw hwa hq
      omega
  | succ m ih =>
    intro a l from' ha hr hm hfl
    have hf:=zag runs a ha h0 h32
    rcases oM runs a ha h0 with ⟨hd,hall⟩ | ⟨hw,hwa,hq,hk⟩
    · rw [yU runs a hall] at hr; omega
    · refine Ev.succ ?_
      rw [if_neg (by rw [hk]; simp)] at hf
      simp only [lN]
      refine Ev.bind hf ?_
      have hle : runs[wn runs a].length ≤ 5000:=(hg.2.2 _ (List.getElem_mem hw)).1
      have hs' : (tB a).set (wn runs a) ((a[wn runs a] + 1 : Nat) : Int) = tB (cE a (wn runs a)):=by rw [qZ,vQ a _ hwa]
      have g1 : 2 * ((l.length + 1) * 48) ≤ 281474976710656:=by omega
      have g2 : 2 * ((from'.length + 1) * 8) ≤ 281474976710656:=by omega
      have hd : (decide (((wn runs a : Nat) : Int) < 0)) = false:=dF (by omega)
      simp only [hd,bF,↓reduceIte,if_pos g1,if_pos g2,cF a _ hwa,aB runs _ hw,aB _ _ hq,bS,Int.toNat_natCast,sC _ (show a[wn runs a] < 9223372036854775807 by omega),hs']
      have hrs:=pS runs a _ hw hwa hq
      have hrec:=ih (cE a (wn runs a)) (l++[runs[wn runs a][a[wn runs a]]]) (from'++[(wn runs a : Int)]) (mY runs a _ ha hw hwa hq) (by omega) (by simp; omega) (by simp [hfl])
      have ho : wF runs (m + 1) a = (runs[wn runs a][a[wn runs a]],wn runs a)::wF runs m (cE a (wn runs a)):=by
        simp only [wF,List.getElem?_eq_getElem hw,List.getElem?_eq_getElem hwa,Option.getD_some,List.getElem?_eq_getElem hq]
      rw [ho]
      simpa [aN,wR] using hrec
theorem zcp (runs : List (List aA)) (hg : dD runs) (a : List Nat) : jB runs a ≤ 160000:=by
  have:=zcO runs a 5000 fun l hl=>(hg.2.2 l hl).1
  have:=Nat.mul_le_mul_right 5000 hg.2.1
  omega
theorem all_ev (runs : List (List aA)) (hf : tE runs) (hl : runs.length ≤ 1000) :
    ∃ r,Ev (fun fu=>uL fu runs) r ∧ Ev (fun fu=>kT fu runs) r ∧
      ((dD runs ∧ r = (aN (wF runs (jB runs (dE runs)) (dE runs)),wR (wF runs (jB runs (dE runs)) (dE runs)),0)) ∨ (r.1 = [] ∧ r.2.1 = [] ∧ r.2.2 ≠ 0)):=by
  obtain ⟨b,b1,b2,b3⟩:=zb4 runs hf hl
  obtain ⟨c,c1,c2,c3⟩:=zab runs hf hl
  unfold uL kT
  rw [zcF]
  rcases b3 with ⟨hg,rfl⟩ | ⟨hb,hb2⟩
  · have hg3 : (0 : Int) ≤ (runs.length : Int) ∧ (runs.length : Int) ≤ (runs.length : Int) ∧ (runs.length : Int) ≤ 9223372036854775807 ∧ 8 * (runs.length : Int) ≤ 281474976710656:=by have:=hg.2.1; omega
    have hr:=zcp runs hg (dE runs)
    refine ⟨_,?_,?_,.inl ⟨hg,rfl⟩⟩
    · refine Ev.bind b1 ?_
      simp only [decide_true,Bool.not_true,bF,↓reduceIte]
      exact Ev.bind (zdF runs hg (mC runs (dE runs),0,0) rfl _ (dE runs) _ [] [] (nO runs) rfl rfl (by simp; omega) rfl) (Ev.of (fun fu=>by simp) (Ev.ret _))
    · have hc : c = (0, 0) := by
        rcases c3 with ⟨e,_⟩ | e
        · exact e
        · exfalso
          have : Ev (fun fu=>cI fu runs) (lX,c.1,c.2):=by
            unfold cI
            refine Ev.bind c1 (Ev.of (fun fu=>?_) (Ev.ret _))
            simp only [dF e,Bool.not_false,↓reduceIte]; rfl
          have:=Ev.uniq this b1
          simp only [Prod.mk.injEq] at this
          exact e this.2.2
      subst hc
      refine Ev.bind c2 ?_
      simp only [decide_true,Bool.not_true,bF,↓reduceIte,if_pos hg3]
      rw [zV]
      exact Ev.bind (zhT runs hg _ (dE runs) [] [] (nO runs) rfl (by simp; omega) rfl) (Ev.of (fun fu=>by simp) (Ev.ret _))
  · have hc : c.2 ≠ 0 := by
      intro e
      rcases c3 with ⟨e',hg⟩ | e'
      · obtain ⟨b',b1',-,b3'⟩:=zb4 runs hf hl
        have g3 : (0 : Int) ≤ (runs.length : Int) ∧ (runs.length : Int) ≤ (runs.length : Int) ∧ (runs.length : Int) ≤ 9223372036854775807 ∧ 8 * (runs.length : Int) ≤ 281474976710656:=by have:=hg.2.1; omega
        have : Ev (fun fu=>nM fu runs) (mC runs (dE runs),0,0):=by
          unfold nM
          subst e'
          refine Ev.bind c2 ?_
          simp only [decide_true,Bool.not_true,bF,↓reduceIte,if_pos g3]
          rw [zV]
          exact Ev.bind (pX runs _ (nO runs) hg.1 hg.2.1) (Ev.ret _)
        have:=Ev.uniq this b2
        rw [← this] at hb2
        simp at hb2
      · exact e' e
    refine ⟨([],[],b.2.2),?_,?_,.inr ⟨rfl,rfl,hb2⟩⟩
    · refine Ev.bind b1 ?_
      simp only [dF hb2,Bool.not_false,↓reduceIte]
      exact Ev.ret _
    · refine Ev.bind c2 ?_
      have : c.2 = b.2.2:=by
        have : Ev (fun fu=>cI fu runs) (lX,c.1,c.2):=by
          unfold cI
          refine Ev.bind c1 (Ev.of (fun fu=>?_) (Ev.ret _))
          simp only [dF hc,Bool.not_false,↓reduceIte]; rfl
        have:=Ev.uniq this b1
        rw [← this]
      rw [this]
      simp only [dF hb2,Bool.not_false,↓reduceIte]
      exact Ev.ret _
def yN (runs : List (List aA)) : Prop:=runs.length ≤ 34 ∧ (∀ l ∈ runs,l.length ≤ 6000) ∧ ∀ l ∈ runs,∀ e ∈ l,e.Key.length ≤ 200
theorem yN.fits {runs : List (List aA)} (h : yN runs) : tE runs:=fun l hl e he=>Nat.le_trans (h.2.2 l hl e he) (by decide)
theorem zaF (runs : List (List aA)) (a : List Nat) (ha : At runs a) : (mC runs a).At.length = runs.length ∧ (mC runs a).Runs.length = runs.length ∧ (mC runs a).Tree.Keys.length = runs.length ∧ (mC runs a).Tree.Lose.length = runs.length:=by
  simp [mC,cD,zF,zD,zH,ha.1]
theorem zk9 (runs : List (List aA)) (n : Nat) : ∀ a,(wF runs n a).length = n:=by
  induction n with
  | zero=>intro a; rfl
  | succ n ih=>intro a; simp [wF,ih]
structure zdj (s : iB) : Prop where
  near : yN s.Runs
  at' : s.At.length ≤ 1000
  keys : s.Tree.Keys.length ≤ 1000
  lose : s.Tree.Lose.length ≤ 1000
theorem zdZ (l k : List eA) (hl : l.length ≤ 1000) : ∃ b,Ev (fun fu=>oL fu l k) b ∧ (b = true ↔ l = k):=by
  unfold oL
  by_cases h : l.length = k.length
  · have hd : (!decide ((l.length : Int) = (k.length : Int))) = false:=by simp; omega
    simp only [hd,bF,↓reduceIte]
    obtain ⟨r,r1,r2⟩:=Ev.eqs false l k h (L:=zI l k) (fun fu=>by simp [zI]) (fun fu n h1 h2=>by
      have d : decide ((n : Int) < (l.length : Int)) = true:=dT (by omega)
      simp only [zI,d,↓reduceIte,aB l n h1,aB k n h2,bS,zev,sC n (by omega)]
      by_cases e : l[n] = k[n] <;> simp [e])
    rcases r2 with ⟨rfl,e⟩ | ⟨rfl,e⟩
    · exact ⟨true,Ev.bind r1 (Ev.ret _),by simp [e]⟩
    · exact ⟨false,Ev.bind r1 (Ev.ret _),by simp [e]⟩
  · have hd : (!decide ((l.length : Int) = (k.length : Int))) = true:=by simp; omega
    simp only [hd,↓reduceIte]
    exact ⟨false,Ev.ret _,by simp; intro e; exact h (by rw [e])⟩
theorem zbE (l k : List Int) (hl : l.length ≤ 1000) : ∃ b,Ev (fun fu=>qK fu l k) b ∧ (b = true ↔ l = k):=by
  unfold qK
  by_cases h : l.length = k.length
  · have hd : (!decide ((l.length : Int) = (k.length : Int))) = false:=by simp; omega
    simp only [hd,bF,↓reduceIte]
    obtain ⟨r,r1,r2⟩:=Ev.eqs false l k h (L:=aJ l k) (fun fu=>by simp [aJ]) (fun fu n h1 h2=>by
      have d : decide ((n : Int) < (l.length : Int)) = true:=dT (by omega)
      simp only [aJ,d,↓reduceIte,aB l n h1,aB k n h2,bS,sC n (by omega)]
      by_cases e : l[n] = k[n] <;> simp [e])
    rcases r2 with ⟨rfl,e⟩ | ⟨rfl,e⟩
    · exact ⟨true,Ev.bind r1 (Ev.ret _),by simp [e]⟩
    · exact ⟨false,Ev.bind r1 (Ev.ret _),by simp [e]⟩
  · have hd : (!decide ((l.length : Int) = (k.length : Int))) = true:=by simp; omega
    simp only [hd,↓reduceIte]
    exact ⟨false,Ev.ret _,by simp; intro e; exact h (by rw [e])⟩
theorem zlM (a b : fB) (hk : a.Keys.length ≤ 1000) (hl : a.Lose.length ≤ 1000) : Ev (fun fu=>wQ fu a b) (decide (a = b)):=by
  obtain ⟨i,i1,i2⟩:=zdZ a.Keys b.Keys hk
  obtain ⟨j,j1,j2⟩:=zbE a.Lose b.Lose hl
  obtain ⟨ak,al,aw⟩:=a
  obtain ⟨bk,bl,bw⟩:=b
  simp only at *
  unfold wQ
  by_cases hw : aw = bw
  · subst hw
    simp only [decide_true,↓reduceIte]
    refine Ev.bind (Ev.bind i1 (Ev.ret _)) ?_
    cases i with
    | false =>
      simp at i2
      exact Ev.of (fun fu=>by simp [i2]) (Ev.ret _)
    | true =>
      simp at i2
      refine Ev.bind (a:=j) (Ev.bind j1 (Ev.ret _)) (Ev.of (fun fu=>?_) (Ev.ret _))
      cases j <;> simp at j2 <;> simp [i2,j2]
  · exact Ev.of (fun fu=>by simp [hw]) (Ev.ret _)
def jM (s : iB) (i : Nat) : Option (Int × Int) :=
  match s.At[i]?,s.Runs[i]? with
  | some n,some l=>if n < 0 ∨ (l.length : Int) < n then some ((i : Int),6) else none
  | _,_=>none
theorem zma (s : iB) (h : s.At.length = s.Runs.length) (hs : s.At.length ≤ 1000) : Ev (fun fu=>cH s fu 0) (pick (jM s) s.At.length 0):=by
  refine Ev.loop (L:=cH s) (len:=s.At.length) (jM s) (Ev.succ (Ev.of (fun fu=>by simp [cH]) (Ev.ret _))) (fun n hn=>?_) s.At.length 0 (by omega)
  have hr : n < s.Runs.length:=by omega
  have d : decide ((n : Int) < (s.At.length : Int)) = true:=dT (by omega)
  have f : ∀ fu,cH s (fu + 1) (n : Int) = if s.At[n] < 0 ∨ (s.Runs[n].length : Int) < s.At[n] then some (.inr ((n : Int),6)) else cH s fu ((n + 1 : Nat) : Int):=fun fu=>by
    simp only [cH,d,↓reduceIte,aB s.At n hn,aB s.Runs n hr,bS,sC n (by omega)]
    by_cases e1 : s.At[n] < 0 <;> by_cases e2 : (s.Runs[n].length : Int) < s.At[n] <;> simp [e1,e2]
  simp only [jM,List.getElem?_eq_getElem hn,List.getElem?_eq_getElem hr]
  refine ⟨fun r q=>Ev.succ (Ev.of f ?_),fun q r k=>Ev.succ (Ev.of f ?_)⟩
  · split at q
    · rename_i e; cases q; simp only [if_pos e]; exact Ev.ret _
    · cases q
  · split at q
    · cases q
    · rename_i e; simp only [if_neg e]; exact k
theorem zlQ (s : iB) (h : s.At.length = s.Runs.length) (hs : s.At.length ≤ 1000) : Ev (fun fu=>dK s fu 0) (pick (jM s) s.At.length 0):=by
  refine Ev.loop (L:=dK s) (len:=s.At.length) (jM s) (Ev.succ (Ev.of (fun fu=>by simp [dK]) (Ev.ret _))) (fun n hn=>?_) s.At.length 0 (by omega)
  have hr : n < s.Runs.length:=by omega
  have d : decide ((n : Int) < (s.At.length : Int)) = true:=dT (by omega)
  have f : ∀ fu,dK s (fu + 1) (n : Int) = if s.At[n] < 0 ∨ (s.Runs[n].length : Int) < s.At[n] then some (.inr ((n : Int),6)) else dK s fu ((n + 1 : Nat) : Int):=fun fu=>by
    simp only [dK,d,↓reduceIte,aB s.At n hn,aB s.Runs n hr,bS,sC n (by omega)]
    by_cases e1 : s.At[n] < 0 <;> by_cases e2 : (s.Runs[n].length : Int) < s.At[n] <;> simp [e1,e2]
  simp only [jM,List.getElem?_eq_getElem hn,List.getElem?_eq_getElem hr]
  refine ⟨fun r q=>Ev.succ (Ev.of f ?_),fun q r k=>Ev.succ (Ev.of f ?_)⟩
  · split at q
    · rename_i e; cases q; simp only [if_pos e]; exact Ev.ret _
    · cases q
  · split at q
    · cases q
    · rename_i e; simp only [if_neg e]; exact k
theorem places (s : iB) (h : s.At.length = s.Runs.length) (hp : pick (jM s) s.At.length 0 = .inl ()) : ∃ a,s.At = tB a ∧ At s.Runs a:=by
  have hb : ∀ i (h1 : i < s.At.length) (h2 : i < s.Runs.length),0 ≤ s.At[i] ∧ s.At[i] ≤ (s.Runs[i].length : Int):=by
    intro i h1 h2
    have:=tZ hp i (by omega) (by omega)
    simp only [jM,List.getElem?_eq_getElem h1,List.getElem?_eq_getElem h2] at this
    split at this
    · cases this
    · omega
  refine ⟨s.At.map Int.toNat,?_,by simp [h],fun i h1 h2=>?_⟩
  · refine List.ext_getElem (by simp [tB]) fun i h1 h2=>?_
    have:=(hb i h1 (by omega)).1
    simp [tB]; omega
  · have:=hb i (by omega) h1
    simp; omega
def kH (runs : List (List aA)) (a : List Nat) (w : Nat) (i : Nat) : Option (Int × Int) :=
  match runs[i]?,a[i]?,runs[w]?,a[w]? with
  | some l,some (n + 1),some r,some m =>
    match l[n]?,r[m]? with
    | some x,some y=>if bl y.Key x.Key = true ∨ (x.Key = y.Key ∧ w < i) then some ((w : Int),6) else none
    | _,_=>none
  | _,_,_,_=>none
theorem cmpKey (fu : Nat) (x y : List UInt8) : rM fu x y = some (if bl x y = true then -1 else if x = y then 0 else 1):=by
  simp only [rM,qQ,beq_self_eq_true,Bool.not_true,bS,bF,↓reduceIte,bl]
  by_cases h : Op.bytesLess x y = true
  · simp [h]
  · by_cases e : x = y
    · subst e; have:=oG x; simp only [bl] at this; simp [this]
    · simp [h,e]
theorem cmpInt (fu : Nat) (x y : Int) : dN fu x y = some (if x < y then -1 else if y < x then 1 else 0):=by
  simp only [dN,aR,decide_true,Bool.not_true,bS,bF,↓reduceIte,decide_eq_true_eq]
  split
  · rfl
  · split <;> rfl
theorem zkh (x y : Int) : Ev (fun fu=>aO fu [x,y]) (if x ≠ 0 then x else y):=by
  unfold aO
  by_cases hx : x = 0
  · subst hx
    by_cases hy : y = 0
    · subst hy
      refine Ev.bind (a:=.inl ()) (Ev.succ (Ev.succ (Ev.succ (Ev.of (fun fu=>?_) (Ev.ret _))))) (Ev.of (fun fu=>by simp) (Ev.ret _))
      simp [eI,ix,wr]
    · refine Ev.bind (a:=.inr y) (Ev.succ (Ev.succ (Ev.of (fun fu=>?_) (Ev.ret _)))) (Ev.of (fun fu=>by simp) (Ev.ret _))
      simp [eI,ix,wr,hy]
  · refine Ev.bind (a:=.inr x) (Ev.succ (Ev.of (fun fu=>?_) (Ev.ret _))) (Ev.of (fun fu=>by simp [hx]) (Ev.ret _))
    simp [eI,ix,hx]
theorem zmx (s : iB) (a : List Nat) (hA : s.At = tB a) (ha : At s.Runs a) (hs : a.length ≤ 1000) (hlen : ∀ l ∈ s.Runs, l.length ≤ 6000) (w : Nat) (hw : w < s.Runs.length) (hwa : w < a.length) (hq : a[w] < s.Runs[w].length) :
    Ev (fun fu=>uF s ((w : Int),s.Runs[w][a[w]].Key,0) fu 0) (pick (kH s.Runs a w) a.length 0):=by
  have hl : s.At.length = a.length:=by rw [hA,zF]
  refine Ev.loop (L:=uF s ((w : Int),s.Runs[w][a[w]].Key,0)) (len:=a.length) (kH s.Runs a w) (Ev.succ (Ev.of (fun fu=>by simp [uF,hl]) (Ev.ret _))) (fun n hn=>?_) a.length 0 (by omega)
  have hr : n < s.Runs.length:=by rw [← ha.1]; exact hn
  have d : decide ((n : Int) < (s.At.length : Int)) = true:=dT (by omega)
  have ixA : ix s.At (n : Int) = some ((a[n] : Nat) : Int):=by rw [hA]; exact cF a n hn
  have hle:=ha.2 n hr hn
  have h6:=hlen _ (List.getElem_mem hr)
  simp only [kH,List.getElem?_eq_getElem hr,List.getElem?_eq_getElem hn,List.getElem?_eq_getElem hw,List.getElem?_eq_getElem hwa]
  cases hk : a[n] with
  | zero =>
    have f : ∀ fu,uF s ((w : Int),s.Runs[w][a[w]].Key,0) (fu + 1) (n : Int) = uF s ((w : Int),s.Runs[w][a[w]].Key,0) fu ((n + 1 : Nat) : Int):=fun fu=>by
      simp only [uF,d,↓reduceIte,ixA,hk,bS,sC n (by omega)]
      simp
    simp only
    exact ⟨fun r q=>by (simp at q),fun _ r k=>Ev.succ (Ev.of f k)⟩
  | succ m =>
    have hm : m < s.Runs[n].length:=by omega
    have w1 : IntKind.i64.wrap (((m + 1 : Nat) : Int) - 1) = (m : Int):=by rw [wr (by omega) (by omega)]; omega
    have d0 : decide ((0 : Int) < ((m + 1 : Nat) : Int)) = true:=dT (by omega)
    simp only [List.getElem?_eq_getElem hm,List.getElem?_eq_getElem hq]
    generalize hx : s.Runs[n][m] = x
    generalize hy : s.Runs[w][a[w]] = y
    have f : ∀ fu,uF s ((w : Int),y.Key,0) (fu + 1) (n : Int) = ((aO fu [if bl x.Key y.Key = true then -1 else if x.Key = y.Key then 0 else 1,if (n : Int) < (w : Int) then -1 else if (w : Int) < (n : Int) then 1 else 0]).bind fun vr61=>some (decide (0 < vr61))).bind fun b62=>if b62 = true then some (.inr ((w : Int),6)) else uF s ((w : Int),y.Key,0) fu ((n + 1 : Nat) : Int):=fun fu=>by
      simp only [uF,d,↓reduceIte,ixA,hk,bS,sC n (by omega),d0,aB s.Runs n hr,w1,aB s.Runs[n] m hm,hx,cmpKey,cmpInt]
    have o:=zkh (if bl x.Key y.Key = true then -1 else if x.Key = y.Key then 0 else 1) (if (n : Int) < (w : Int) then -1 else if (w : Int) < (n : Int) then 1 else 0)
    have hiff : decide (0 < (if (if bl x.Key y.Key = true then (-1 : Int) else if x.Key = y.Key then 0 else 1) ≠ 0 then (if bl x.Key y.Key = true then (-1 : Int) else if x.Key = y.Key then 0 else 1) else (if (n : Int) < (w : Int) then -1 else if (w : Int) < (n : Int) then 1 else 0))) = decide (bl y.Key x.Key = true ∨ (x.Key = y.Key ∧ w < n)):=by
      refine decide_eq_decide.2 ?_
      rcases eS x.Key y.Key with h | h | h
      · have hne : x.Key ≠ y.Key:=fun e=>by rw [e,oG] at h; cases h
        simp [h,dL h,hne]
      · simp only [h,oG,bF,↓reduceIte,ne_eq,not_true_eq_false,true_and,false_or]
        by_cases q : (n : Int) < (w : Int)
        · rw [if_pos q]; omega
        · rw [if_neg q]
          by_cases q2 : (w : Int) < (n : Int)
          · rw [if_pos q2]; omega
          · rw [if_neg q2]; omega
      · have hne : x.Key ≠ y.Key:=fun e=>by rw [e,oG] at h; cases h
        simp [h,dL h,hne]
    refine ⟨fun r q=>Ev.succ (Ev.of f ?_),fun q r k=>Ev.succ (Ev.of f ?_)⟩
    · split at q
      · rename_i e; cases q
        refine Ev.bind (a:=true) (Ev.bind o (Ev.of (fun fu=>by rw [hiff,dT e]) (Ev.ret _))) (Ev.ret _)
      · cases q
    · split at q
      · cases q
      · rename_i e
        refine Ev.bind (a:=false) (Ev.bind o (Ev.of (fun fu=>by rw [hiff,dF e]) (Ev.ret _))) ?_
        simp only [bF,↓reduceIte]; exact k
theorem zmD (s : iB) (a : List Nat) (hA : s.At = tB a) (ha : At s.Runs a) (hs : a.length ≤ 1000) (hlen : ∀ l ∈ s.Runs, l.length ≤ 6000) (w : Nat) (hw : w < s.Runs.length) (hwa : w < a.length) (hq : a[w] < s.Runs[w].length) :
    Ev (fun fu=>lG s (w : Int) fu 0) (pick (kH s.Runs a w) a.length 0):=by
  have hl : s.Runs.length = a.length:=by rw [ha.1]
  have dw : decide ((0 : Int) ≤ (w : Int)) = true:=dT (by omega)
  refine Ev.loop (L:=lG s (w : Int)) (len:=a.length) (kH s.Runs a w) (Ev.succ (Ev.of (fun fu=>by simp [lG,hl]) (Ev.ret _))) (fun n hn=>?_) a.length 0 (by omega)
  have hr : n < s.Runs.length:=by rw [← ha.1]; exact hn
  have d : decide ((n : Int) < (s.Runs.length : Int)) = true:=dT (by omega)
  have ixA : ix s.At (n : Int) = some ((a[n] : Nat) : Int):=by rw [hA]; exact cF a n hn
  have ixW : ix s.At (w : Int) = some ((a[w] : Nat) : Int):=by rw [hA]; exact cF a w hwa
  have hle:=ha.2 n hr hn
  have h6:=hlen _ (List.getElem_mem hr)
  simp only [kH,List.getElem?_eq_getElem hr,List.getElem?_eq_getElem hn,List.getElem?_eq_getElem hw,List.getElem?_eq_getElem hwa]
  cases hk : a[n] with
  | zero =>
    have f : ∀ fu,lG s (w : Int) (fu + 1) (n : Int) = lG s (w : Int) fu ((n + 1 : Nat) : Int):=fun fu=>by
      simp only [lG,d,dw,↓reduceIte,ixA,hk,bS,sC n (by omega)]
      simp
    simp only
    exact ⟨fun r q=>by (simp at q),fun _ r k=>Ev.succ (Ev.of f k)⟩
  | succ m =>
    have hm : m < s.Runs[n].length:=by omega
    have w1 : IntKind.i64.wrap (((m + 1 : Nat) : Int) - 1) = (m : Int):=by rw [wr (by omega) (by omega)]; omega
    have d0 : decide (((m + 1 : Nat) : Int) = 0) = false:=dF (by omega)
    simp only [List.getElem?_eq_getElem hm,List.getElem?_eq_getElem hq]
    generalize hx : s.Runs[n][m] = x
    generalize hy : s.Runs[w][a[w]] = y
    have f : ∀ fu,lG s (w : Int) (fu + 1) (n : Int) = if bl y.Key x.Key = true ∨ (x.Key = y.Key ∧ w < n) then some (.inr ((w : Int),6)) else lG s (w : Int) fu ((n + 1 : Nat) : Int):=fun fu=>by
      have c1 : decide ((w : Int) < (n : Int)) = decide (w < n):=decide_eq_decide.2 (by omega)
      simp only [lG,d,dw,↓reduceIte,ixA,ixW,hk,bS,sC n (by omega),d0,bF,aB s.Runs n hr,aB s.Runs w hw,w1,aB s.Runs[n] m hm,aB s.Runs[w] a[w] hq,hx,hy,c1]
      rcases eS x.Key y.Key with h | h | h
      · have hne : x.Key ≠ y.Key:=fun e=>by rw [e,oG] at h; cases h
        have h' : Op.bytesLess x.Key y.Key = true:=h
        simp [h',dL h,hne]
      · by_cases q : w < n <;> simp [h,oG,q]
      · have hne : x.Key ≠ y.Key:=fun e=>by rw [e,oG] at h; cases h
        have h' : Op.bytesLess x.Key y.Key = false:=dL h
        simp [h,h',hne]
    refine ⟨fun r q=>Ev.succ (Ev.of f ?_),fun q r k=>Ev.succ (Ev.of f ?_)⟩
    · split at q
      · rename_i e; cases q; simp only [if_pos e]; exact Ev.ret _
      · cases q
    · split at q
      · cases q
      · rename_i e; simp only [if_neg e]; exact k
theorem zgr (l : List aA) (hg : oP l) (m : Nat) : ∀ n : Nat,n + m = l.length → Ev (fun fu=>oF l fu (n : Int)) (.inl ()):=by
  have hl:=hg.1
  induction m with
  | zero=>intro n hn; exact Ev.succ (Ev.of (fun fu=>by simp [oF,show ¬ (n : Int) < (l.length : Int) by omega]) (Ev.ret _))
  | succ m ih =>
    intro n hn
    have hnl : n < l.length:=by omega
    obtain ⟨hc,hb⟩:=hg.2 n hnl
    refine Ev.succ (Ev.of (fun fu=>?_) (ih (n + 1) (by omega)))
    by_cases h0 : 0 < n
    · have w2 : IntKind.i64.wrap ((n : Int) - 1) = ((n - 1 : Nat) : Int):=by rw [wr (by omega) (by omega)]; omega
      have hb':=hb h0
      have hnb1 : Op.bytesLess l[n].Key l[n - 1].Key = false:=dL hb'
      have hnb2 : ¬ l[n].Key = l[n - 1].Key:=fun e=>by rw [e,oG] at hb'; cases hb'
      simp only [oF,sR,hc,w2,aB l n hnl,aB l (n - 1) (by omega),sC n (by omega)]
      simp [hnl,h0,hnb1,hnb2,hc,-Int.natCast_add]
    · simp only [oF,sR,hc,aB l n hnl,sC n (by omega)]
      simp [hnl,h0,hc,-Int.natCast_add]
theorem zok (l : List aA) (hg : oP l) : Ev (fun fu=>pJ fu l) (0,0):=by
  have hl:=hg.1
  unfold pJ
  have hd : ¬ decide ((5000 : Int) < (l.length : Int)) = true:=by simp; omega
  simp only [if_neg hd]
  exact Ev.bind (zgr l hg l.length 0 (by omega)) (Ev.ret _)
theorem zjJ (runs : List (List aA)) (hg : dD runs) (m : Nat) : ∀ n : Nat,n + m = runs.length → Ev (fun fu=>nF runs fu (n : Int)) (.inl ()):=by
  have hl:=hg.2.1
  induction m with
  | zero=>intro n hn; exact Ev.succ (Ev.of (fun fu=>by simp [nF,show ¬ (n : Int) < (runs.length : Int) by omega]) (Ev.ret _))
  | succ m ih =>
    intro n hn
    have hnl : n < runs.length:=by omega
    have f : ∀ fu,nF runs (fu + 1) (n : Int) = (pJ fu runs[n]).bind fun vr=>if vr.2 = 0 then nF runs fu ((n + 1 : Nat) : Int) else some (.inr ((n : Int),vr.2)):=by
      intro fu
      simp only [nF,aB runs n hnl,sC n (by omega)]
      simp [hnl]
    exact Ev.succ (Ev.of f (Ev.bind (zok _ (hg.2.2 _ (List.getElem_mem hnl))) (ih (n + 1) (by omega))))
theorem zgG (runs : List (List aA)) (hg : dD runs) {c : Int × Int} (h : Ev (fun fu=>yJ fu runs) c) : c = (0,0):=by
  refine Ev.uniq h ?_
  have h0:=hg.1
  have hl:=hg.2.1
  unfold yJ
  have e1 : ¬ decide ((runs.length : Int) = 0) = true:=by simp; intro e; simp [e] at h0
  have e2 : ¬ decide ((32 : Int) < (runs.length : Int)) = true:=by simp; omega
  simp only [if_neg e1,if_neg e2]
  exact Ev.bind (zjJ runs hg runs.length 0 (by omega)) (Ev.ret _)
def Ok (s : iB) (a : List Nat) : Prop:=dD s.Runs ∧ At s.Runs a ∧ s = mC s.Runs a ∧ ((∃ i,∃ h : i < s.Runs.length,∃ h2 : i < a.length,a[i] ≠ s.Runs[i].length) → pick (kH s.Runs a (wn s.Runs a)) a.length 0 = .inl ())
theorem zaw (s : iB) (hs : zdj s) : ∃ r,Ev (fun fu=>eH fu s) r ∧ Ev (fun fu=>bL fu s) r ∧ ((r = (0,0) ∧ ∃ a,Ok s a) ∨ r.2 ≠ 0) ∧ (∀ a,Ok s a → r = (0,0)):=by
  obtain ⟨c,c1,c2,c3⟩:=zab s.Runs hs.near.fits (by have:=hs.near.1; omega)
  unfold eH bL
  rcases c3 with ⟨rfl,hg⟩ | hc
  · have h0:=hg.1
    have h32:=hg.2.1
    by_cases hl : s.At.length = s.Runs.length
    · have hd : decide ((s.At.length : Int) = (s.Runs.length : Int)) = true:=dT (by omega)
      have l1:=zma s hl hs.at'
      have l2:=zlQ s hl hs.at'
      cases hp : pick (jM s) s.At.length 0 with
      | inr r =>
        obtain ⟨i,h1,h2,h3⟩:=zas hp
        rw [hp] at l1 l2
        refine ⟨r,Ev.bind c1 ?_,Ev.bind c2 ?_,.inr ?_,fun a hok=>?_⟩
        · simp only [decide_true,Bool.not_true,bF,↓reduceIte,hd]; exact Ev.bind l1 (Ev.ret _)
        · simp only [decide_true,Bool.not_true,bF,↓reduceIte,hd]; exact Ev.bind l2 (Ev.ret _)
        · simp only [jM] at h3
          split at h3
          · split at h3
            · cases h3; simp
            · cases h3
          · cases h3
        · exfalso
          have e : s.At = tB a:=by rw [hok.2.2.1]; rfl
          have h2' : i < s.Runs.length:=by omega
          have h2a : i < a.length:=by rw [hok.2.1.1]; exact h2'
          have hle:=hok.2.1.2 i h2' h2a
          simp only [jM,e] at h3
          rw [show (tB a)[i]? = some ((a[i] : Nat) : Int) by simp [tB,h2a],List.getElem?_eq_getElem h2'] at h3
          simp only at h3
          rw [if_neg (by omega)] at h3
          cases h3
      | inl u =>
        rw [hp] at l1 l2
        obtain ⟨a,hA,ha⟩:=places s hl hp
        have hal : a.length = s.Runs.length:=ha.1
        have tr:=zcV s.Runs a ha h0 h32
        have st:=pX s.Runs a ha h0 h32
        have al:=zlM s.Tree (cD (uB s.Runs a)) hs.keys hs.lose
        obtain ⟨q,q1,q2⟩:=zcI s.Tree (cD (uB s.Runs a)) (by have:=hs.keys; omega) (by have:=hs.lose; omega)
        by_cases ht : s.Tree = cD (uB s.Runs a)
        · rw [dT ht] at al
          obtain rfl : q = true:=q2.2 ht
          have hst : s = mC s.Runs a:=by
            obtain ⟨r,t,u⟩:=s
            simp only at hA ht ⊢
            simp only [mC,hA,ht]
          have hf:=zag s.Runs a ha h0 h32
          have hwin:=zav (uB s.Runs a) (nV s.Runs a) (by rw [zD]; exact h0) (by rw [zD]; exact h32)
          rcases oM s.Runs a ha h0 with ⟨hfin,hall⟩ | ⟨hw,hwa,hq,hk⟩
          · rw [if_pos hfin] at hf hwin
            have rl2 : Ev (fun fu=>lG s (-1) fu 0) (.inl ()):=Ev.succ (Ev.of (fun fu=>by simp [lG]) (Ev.ret _))
            refine ⟨(0,0),Ev.bind c1 ?_,Ev.bind c2 ?_,.inl ⟨rfl,a,hg,ha,hst,?_⟩,fun _ _=>rfl⟩
            · simp only [decide_true,Bool.not_true,bF,↓reduceIte,hd]
              rw [hA]
              refine Ev.bind l1 (Ev.bind tr (Ev.bind al ?_))
              simp only [Bool.not_true,bF,↓reduceIte]
              rw [ht]
              exact Ev.bind hwin (Ev.of (fun fu=>by simp) (Ev.ret _))
            · simp only [decide_true,Bool.not_true,bF,↓reduceIte,hd]
              rw [hA]
              refine Ev.bind l2 (Ev.bind st (Ev.bind q1 ?_))
              simp only [Bool.not_true,bF,↓reduceIte]
              exact Ev.bind hf (Ev.bind rl2 (Ev.ret _))
            · rintro ⟨i,h1,h2,h3⟩; exact absurd (hall i h1 h2) h3
          · rw [if_neg (by rw [hk]; simp)] at hf hwin
            rw [hk] at hwin
            have k1:=zmx s a hA ha (by rw [hal]; omega) hs.near.2.1 (wn s.Runs a) hw hwa hq
            have k2:=zmD s a hA ha (by rw [hal]; omega) hs.near.2.1 (wn s.Runs a) hw hwa hq
            have e1 : Ev (fun fu=>eH fu s) (match pick (kH s.Runs a (wn s.Runs a)) a.length 0 with | .inl _=>(0,0) | .inr y=>y):=by
              unfold eH
              refine Ev.bind c1 ?_
              simp only [decide_true,Bool.not_true,bF,↓reduceIte,hd]
              rw [hA]
              refine Ev.bind l1 (Ev.bind tr (Ev.bind al ?_))
              simp only [Bool.not_true,bF,↓reduceIte]
              rw [ht]
              refine Ev.bind hwin ?_
              simp only [decide_true,Bool.not_true,bF,↓reduceIte]
              refine Ev.bind k1 ?_
              cases pick (kH s.Runs a (wn s.Runs a)) a.length 0 <;> exact Ev.ret _
            have e2 : Ev (fun fu=>bL fu s) (match pick (kH s.Runs a (wn s.Runs a)) a.length 0 with | .inl _=>(0,0) | .inr y=>y):=by
              unfold bL
              refine Ev.bind c2 ?_
              simp only [decide_true,Bool.not_true,bF,↓reduceIte,hd]
              rw [hA]
              refine Ev.bind l2 (Ev.bind st (Ev.bind q1 ?_))
              simp only [Bool.not_true,bF,↓reduceIte]
              refine Ev.bind hf (Ev.bind k2 ?_)
              cases pick (kH s.Runs a (wn s.Runs a)) a.length 0 <;> exact Ev.ret _
            refine ⟨_,e1,e2,?_,fun a' hok=>?_⟩
            · cases hpk : pick (kH s.Runs a (wn s.Runs a)) a.length 0 with
              | inl u=>exact .inl ⟨rfl,a,hg,ha,hst,fun _=>hpk⟩
              | inr y =>
                right
                obtain ⟨i,h1,h2,h3⟩:=zas hpk
                simp only [kH] at h3
                split at h3
                · split at h3
                  · split at h3
                    · cases h3; simp
                    · cases h3
                  · cases h3
                · cases h3
            · have : tB a' = tB a := by
                have e : s.At = tB a':=by rw [hok.2.2.1]; rfl
                rw [← e,hA]
              have : a' = a:=by
                refine List.map_inj_right (fun x y h=>?_) |>.1 this
                exact Int.ofNat.inj h
              subst this
              rw [hok.2.2.2 ⟨_,hw,hwa,by omega⟩]
        · rw [dF ht] at al
          obtain rfl : q = false:=by cases q; rfl; exact absurd (q2.1 rfl) ht
          refine ⟨(-1,6),Ev.bind c1 ?_,Ev.bind c2 ?_,.inr (by simp),fun a' hok=>?_⟩
          · simp only [decide_true,Bool.not_true,bF,↓reduceIte,hd]
            rw [hA]
            refine Ev.bind l1 (Ev.bind tr (Ev.bind al (Ev.ret _)))
          · simp only [decide_true,Bool.not_true,bF,↓reduceIte,hd]
            rw [hA]
            refine Ev.bind l2 (Ev.bind st (Ev.bind q1 (Ev.ret _)))
          · exfalso
            have : tB a' = tB a:=by
              have e : s.At = tB a':=by rw [hok.2.2.1]; rfl
              rw [← e,hA]
            have : a' = a:=by
              refine List.map_inj_right (fun x y h=>?_) |>.1 this
              exact Int.ofNat.inj h
            subst this
            exact ht (by rw [hok.2.2.1]; rfl)
    · have hd : decide ((s.At.length : Int) = (s.Runs.length : Int)) = false:=dF (by omega)
      refine ⟨(-1,6),Ev.bind c1 ?_,Ev.bind c2 ?_,.inr (by simp),fun a hok=>?_⟩
      · simp only [decide_true,Bool.not_true,bF,↓reduceIte,hd,Bool.not_false]; exact Ev.ret _
      · simp only [decide_true,Bool.not_true,bF,↓reduceIte,hd,Bool.not_false]; exact Ev.ret _
      · exfalso; apply hl; rw [hok.2.2.1]; simp [mC,zF,hok.2.1.1]
  · refine ⟨c,Ev.bind c1 ?_,Ev.bind c2 ?_,.inr hc,fun a hok=>?_⟩
    · simp only [dF hc,Bool.not_false,↓reduceIte]; exact Ev.ret _
    · simp only [dF hc,Bool.not_false,↓reduceIte]; exact Ev.ret _
    · exfalso
      exact hc (by rw [zgG s.Runs hok.1 c1])
theorem Ok.good {s : iB} {a : List Nat} (h : Ok s a) : dD s.Runs:=h.1
theorem Ok.eq {s : iB} {a : List Nat} (h : Ok s a) : s = mC s.Runs a:=h.2.2.1
def zdh : aA:=⟨[],[],false,0⟩
theorem zmK (fu : Nat) (runs : List (List aA)) (h : dD runs) : nL fu runs = some runs:=by
  have h0:=h.1
  have h32:=h.2.1
  have hne : runs.isEmpty = false:=by cases runs; simp at h0; rfl
  have g2 : 2 * ((0 + runs.length) * 24) ≤ 281474976710656:=by omega
  simp only [nL,hne,bF,↓reduceIte,if_pos g2]
theorem zo9 (fu : Nat) (l : List Int) (h : l.length ≤ 100000) : pO fu l = some l:=by
  unfold pO
  cases l with
  | nil=>rfl
  | cons x l =>
    have g2 : 2 * ((0 + (x::l).length) * 8) ≤ 281474976710656:=by omega
    simp only [List.isEmpty_cons,bF,↓reduceIte,if_pos g2]
theorem zeq {runs : List (List aA)} {a : List Nat} (h : At runs a) : (tB a).length = runs.length:=by rw [zF,h.1]
def aU (runs : List (List aA)) (a : List Nat) : aA × Int × iB × Int :=
  if jB runs a = 0 then (zdh,0,lX,12) else
    ((runs[wn runs a]?.getD [])[a[wn runs a]?.getD 0]?.getD zdh,(wn runs a : Int),mC runs (cE a (wn runs a)),0)
theorem zc4 (runs : List (List aA)) (a : List Nat) (hall : ∀ i (h1 : i < runs.length) (h2 : i < a.length),a[i] = runs[i].length) : jB runs a = 0:=yU runs a hall
theorem zhQ (runs : List (List aA)) (a : List Nat) (hw : wn runs a < runs.length) (hwa : wn runs a < a.length) (hq : a[wn runs a] < runs[wn runs a].length) : jB runs a ≠ 0:=by
  have:=pS runs a _ hw hwa hq; omega
theorem zbu (runs : List (List aA)) (a : List Nat) (hw : wn runs a < runs.length) (hwa : wn runs a < a.length) (hq : a[wn runs a] < runs[wn runs a].length) :
    aU runs a = (runs[wn runs a][a[wn runs a]],(wn runs a : Int),mC runs (cE a (wn runs a)),0):=by
  unfold aU
  rw [if_neg (zhQ runs a hw hwa hq)]
  simp only [List.getElem?_eq_getElem hw,List.getElem?_eq_getElem hwa,Option.getD_some,List.getElem?_eq_getElem hq]
theorem zlk (runs : List (List aA)) (a : List Nat) (hg : dD runs) (ha : At runs a) (hc : Ev (fun fu=>eH fu (mC runs a)) (0,0)) : Ev (fun fu=>dP fu (mC runs a)) (aU runs a):=by
  have h0:=hg.1
  have h32:=hg.2.1
  have hil : (tB a).length ≤ 100000:=by rw [zeq ha]; omega
  unfold dP
  refine Ev.bind hc ?_
  simp only [decide_true,Bool.not_true,bF,↓reduceIte,mC,zmK _ _ hg,zo9 _ _ hil,bS]
  rcases oM runs a ha h0 with ⟨hd,hall⟩ | ⟨hw,hwa,hq,hk⟩
  · refine Ev.bind (zep runs a h0 h32 hd _ rfl (tB a)) (Ev.of (fun fu=>?_) (Ev.ret _))
    simp only [aU,zc4 runs a hall,↓reduceIte]; rfl
  · refine Ev.bind (zdy runs a h0 h32 hw hwa hq hk _ rfl) ?_
    have hle : runs[wn runs a].length ≤ 5000:=(hg.2.2 _ (List.getElem_mem hw)).1
    have hs' : (tB a).set (wn runs a) ((a[wn runs a] + 1 : Nat) : Int) = tB (cE a (wn runs a)):=by rw [qZ,vQ a _ hwa]
    have hix : ix (tB (cE a (wn runs a))) ((wn runs a : Nat) : Int) = some ((a[wn runs a] + 1 : Nat) : Int):=by
      rw [cF _ _ (by rw [iR]; exact hwa)]; simp [vQ a _ hwa]
    have hnx : ∀ fu,lK fu runs[wn runs a] ((a[wn runs a] + 1 : Nat) : Int) = some (lF runs[wn runs a] (a[wn runs a] + 1)):=fun fu=>za6 fu _ _ (by omega)
    simp only [decide_true,Bool.not_true,bF,↓reduceIte,cF a _ hwa,aB runs _ hw,bS,Int.toNat_natCast,sC _ (show a[wn runs a] < 9223372036854775807 by omega),hs',hix,hnx]
    obtain ⟨g,hrd⟩:=zds runs a hg ha hw hwa hq hk _ rfl
    rw [zbu runs a hw hwa hq]
    exact Ev.bind hrd (Ev.ret _)
theorem zgD (runs : List (List aA)) (a : List Nat) (hg : dD runs) (ha : At runs a) (hc : Ev (fun fu=>bL fu (mC runs a)) (0,0)) : Ev (fun fu=>qV fu (mC runs a)) (aU runs a):=by
  have h0:=hg.1
  have h32:=hg.2.1
  have g2 : 2 * ((0 + (tB a).length) * 8) ≤ 281474976710656:=by rw [zeq ha]; omega
  unfold qV
  refine Ev.bind hc ?_
  have hf:=zag runs a ha h0 h32
  simp only [decide_true,Bool.not_true,bF,↓reduceIte,mC,if_pos g2]
  refine Ev.bind hf ?_
  rcases oM runs a ha h0 with ⟨hd,hall⟩ | ⟨hw,hwa,hq,hk⟩
  · rw [if_pos hd]
    refine Ev.of (fun fu=>?_) (Ev.ret _)
    simp only [aU,zc4 runs a hall,↓reduceIte]; rfl
  · rw [if_neg (by rw [hk]; simp)]
    have hle : runs[wn runs a].length ≤ 5000:=(hg.2.2 _ (List.getElem_mem hw)).1
    have hs' : (tB a).set (wn runs a) ((a[wn runs a] + 1 : Nat) : Int) = tB (cE a (wn runs a)):=by rw [qZ,vQ a _ hwa]
    have hdw : decide (((wn runs a : Nat) : Int) < 0) = false:=dF (by omega)
    simp only [if_pos g2,hdw,bF,↓reduceIte,cF a _ hwa,aB runs _ hw,aB _ _ hq,bS,Int.toNat_natCast,sC _ (show a[wn runs a] < 9223372036854775807 by omega),hs']
    rw [zbu runs a hw hwa hq]
    exact Ev.bind (pX runs _ (mY runs a _ ha hw hwa hq) h0 h32) (Ev.ret _)
theorem zeT (runs : List (List aA)) (a : List Nat) (ha : At runs a) (n : Nat) (h : n < runs.length) (h2 : n < a.length) : jB (runs.drop n) (a.drop n) = (runs[n].length - a[n]) + jB (runs.drop (n + 1)) (a.drop (n + 1)):=by
  unfold jB
  rw [List.drop_eq_getElem_cons h,List.drop_eq_getElem_cons h2,List.zipWith_cons_cons,List.sum_cons]
theorem zkG (runs : List (List aA)) (hg : dD runs) (a : List Nat) (ha : At runs a) (m : Nat) : ∀ (n c : Nat), n + m = runs.length → c ≤ 1000000 * n →
    Ev (fun fu=>nI (mC runs a) fu (c : Int) (n : Int)) ((c + jB (runs.drop n) (a.drop n) : Nat) : Int):=by
  have h32:=hg.2.1
  induction m with
  | zero =>
    intro n c hn hc
    obtain rfl : n = runs.length:=by omega
    refine Ev.succ (Ev.of (fun fu=>?_) (Ev.ret _))
    simp [nI,mC,jB]
  | succ m ih =>
    intro n c hn hc
    have hr : n < runs.length:=by omega
    have h2 : n < a.length:=by rw [ha.1]; exact hr
    have hle:=ha.2 n hr h2
    have h5:=(hg.2.2 _ (List.getElem_mem hr)).1
    have w1 : IntKind.i64.wrap ((runs[n].length : Int) - ((a[n] : Nat) : Int)) = ((runs[n].length - a[n] : Nat) : Int):=by rw [wr (by omega) (by omega)]; omega
    have w2 : IntKind.i64.wrap ((c : Int) + ((runs[n].length - a[n] : Nat) : Int)) = ((c + (runs[n].length - a[n]) : Nat) : Int):=by rw [wr (by omega) (by omega)]; omega
    have d : decide ((n : Int) < (runs.length : Int)) = true:=dT (by omega)
    have:=ih (n + 1) (c + (runs[n].length - a[n])) (by omega) (by omega)
    rw [zeT runs a ha n hr h2,← Nat.add_assoc]
    refine Ev.succ (Ev.of (fun fu=>?_) this)
    have e1 : (mC runs a).Runs = runs:=rfl
    have e2 : (mC runs a).At = tB a:=rfl
    simp only [nI,e1,e2,d,↓reduceIte,aB runs n hr,cF a n h2,bS,w1,w2,sC n (by omega)]
theorem zi3 (runs : List (List aA)) (hg : dD runs) (a : List Nat) (ha : At runs a) (m : Nat) : ∀ (n c : Nat), n + m = runs.length → c ≤ 1000000 * n →
    Ev (fun fu=>qO (mC runs a) fu (c : Int) (n : Int)) ((c + jB (runs.drop n) (a.drop n) : Nat) : Int):=by
  have h32:=hg.2.1
  induction m with
  | zero =>
    intro n c hn hc
    obtain rfl : n = runs.length:=by omega
    refine Ev.succ (Ev.of (fun fu=>?_) (Ev.ret _))
    simp [qO,mC,jB]
  | succ m ih =>
    intro n c hn hc
    have hr : n < runs.length:=by omega
    have h2 : n < a.length:=by rw [ha.1]; exact hr
    have hle:=ha.2 n hr h2
    have h5:=(hg.2.2 _ (List.getElem_mem hr)).1
    have w1 : IntKind.i64.wrap ((c : Int) + (runs[n].length : Int)) = ((c + runs[n].length : Nat) : Int):=by rw [wr (by omega) (by omega)]; omega
    have w2 : IntKind.i64.wrap (((c + runs[n].length : Nat) : Int) - ((a[n] : Nat) : Int)) = ((c + (runs[n].length - a[n]) : Nat) : Int):=by rw [wr (by omega) (by omega)]; omega
    have d : decide ((n : Int) < (runs.length : Int)) = true:=dT (by omega)
    have:=ih (n + 1) (c + (runs[n].length - a[n])) (by omega) (by omega)
    rw [zeT runs a ha n hr h2,← Nat.add_assoc]
    refine Ev.succ (Ev.of (fun fu=>?_) this)
    have e1 : (mC runs a).Runs = runs:=rfl
    have e2 : (mC runs a).At = tB a:=rfl
    simp only [qO,e1,e2,d,↓reduceIte,aB runs n hr,cF a n h2,bS,w1,w2,sC n (by omega)]
theorem zf5 (runs : List (List aA)) (a : List Nat) (hg : dD runs) (ha : At runs a) (hc : Ev (fun fu=>eH fu (mC runs a)) (0,0)) : Ev (fun fu=>gQ fu (mC runs a)) ((jB runs a : Int),0):=by
  unfold gQ
  refine Ev.bind hc ?_
  simp only [decide_true,Bool.not_true,bF,↓reduceIte]
  have:=zkG runs hg a ha runs.length 0 0 (by omega) (by omega)
  simp only [Nat.zero_add,List.drop_zero] at this
  exact Ev.bind this (Ev.ret _)
theorem zmS (runs : List (List aA)) (a : List Nat) (hg : dD runs) (ha : At runs a) (hc : Ev (fun fu=>bL fu (mC runs a)) (0,0)) : Ev (fun fu=>tX fu (mC runs a)) ((jB runs a : Int),0):=by
  unfold tX
  refine Ev.bind hc ?_
  simp only [decide_true,Bool.not_true,bF,↓reduceIte]
  have:=zi3 runs hg a ha runs.length 0 0 (by omega) (by omega)
  simp only [Nat.zero_add,List.drop_zero] at this
  exact Ev.bind this (Ev.ret _)
theorem ze3 (runs : List (List aA)) (a : List Nat) (ha : At runs a) (h0 : 0 < runs.length) (hw : wn runs a < runs.length) (hwa : wn runs a < a.length) (hq : a[wn runs a] < runs[wn runs a].length)
    (i : Nat) (h1 : i < runs.length) (h2 : i < a.length) (h3 : a[i] < runs[i].length) : i = wn runs a ∨ (bl runs[wn runs a][a[wn runs a]].Key runs[i][a[i]].Key = true ∨ (runs[wn runs a][a[wn runs a]].Key = runs[i][a[i]].Key ∧ wn runs a < i)):=by
  by_cases e : i = wn runs a
  · exact .inl e
  · right
    have hk1 : wn runs a < (uB runs a).length:=by rw [zD]; exact hw
    have hk2 : i < (uB runs a).length:=by rw [zD]; exact h1
    have l:=zcc (uB runs a) i hk2 e
    have g1 : (uB runs a)[wn runs a] = ⟨runs[wn runs a][a[wn runs a]].Key,false⟩:=by rw [mS runs a _ hk1 hw hwa,lQ _ _ hq]
    have g2 : (uB runs a)[i] = ⟨runs[i][a[i]].Key,false⟩:=by rw [mS runs a _ hk2 h1 h2,lQ _ _ h3]
    have lk:=zbv (uB runs a) (wn runs a) i hk1 hk2 (by rw [g1]) (by rw [g2])
    rw [show lt (uB runs a) (wn runs a) i = true from l,g1,g2] at lk
    simp only at lk
    split at lk
    · rename_i e2; exact .inr ⟨e2,of_decide_eq_true lk.symm⟩
    · exact .inl lk.symm
def lx (k : List UInt8) (i : Nat) (l : List UInt8) (j : Nat) : Prop:=bl k l = true ∨ (k = l ∧ i < j)
theorem lx_bl {k l m : List UInt8} {i j : Nat} (h : lx k i l j) (h2 : bl l m = true) : bl k m = true:=by
  rcases h with h | ⟨rfl,_⟩
  · exact jN h h2
  · exact h2
def zeR (runs : List (List aA)) (a : List Nat) : Prop :=
  ∀ i (h1 : i < runs.length) (h2 : i < a.length) m (hm : m < runs[i].length),a[i] = m + 1 → ∀ j (h3 : j < runs.length) (h4 : j < a.length) (h5 : a[j] < runs[j].length),lx runs[i][m].Key i runs[j][a[j]].Key j
structure eO (runs : List (List aA)) (a : List Nat) : Prop where
  at' : At runs a
  passed : zeR runs a
theorem zfr (runs : List (List aA)) : eO runs (dE runs):=⟨nO runs,fun i h1 h2 m hm e=>by simp [dE] at e⟩
theorem zbn (a : List Nat) (w i : Nat) (h : i < (cE a w).length) (hw : w < a.length) (hi : i < a.length) : (cE a w)[i] = if w = i then a[w] + 1 else a[i]:=by
  simp only [vQ a w hw,List.getElem_set]
theorem zph (runs : List (List aA)) (a : List Nat) (hg : dD runs) (h : eO runs a) (hw : wn runs a < runs.length) (hwa : wn runs a < a.length) (hq : a[wn runs a] < runs[wn runs a].length) : eO runs (cE a (wn runs a)):=by
  refine ⟨mY runs a _ h.at' hw hwa hq,?_⟩
  have asc : ∀ n (hn : n + 1 < runs[wn runs a].length),bl (runs[wn runs a][n]'(by omega)).Key runs[wn runs a][n + 1].Key = true:=fun n hn =>
    ((hg.2.2 _ (List.getElem_mem hw)).2 (n + 1) hn).2 (by omega)
  intro i h1 h2 m hm e j h3 h4 h5
  have h2' : i < a.length:=by rw [iR] at h2; exact h2
  have h4' : j < a.length:=by rw [iR] at h4; exact h4
  have gi:=zbn a (wn runs a) i h2 hwa h2'
  have gj:=zbn a (wn runs a) j h4 hwa h4'
  simp only [gj] at h5 ⊢
  rw [gi] at e
  by_cases ei : wn runs a = i
  · subst ei
    simp only [↓reduceIte] at e
    obtain rfl : m = a[wn runs a]:=by omega
    by_cases ej : wn runs a = j
    · subst ej
      simp only [↓reduceIte] at h5 ⊢
      exact .inl (asc _ h5)
    · simp only [if_neg ej] at h5 ⊢
      rcases ze3 runs a h.at' hg.1 hw hwa hq j h3 h4' h5 with e | e
      · exact absurd e.symm ej
      · exact e
  · simp only [if_neg ei] at e
    by_cases ej : wn runs a = j
    · subst ej
      simp only [↓reduceIte] at h5 ⊢
      exact .inl (lx_bl (h.passed i h1 h2' m hm e _ hw hwa hq) (asc _ h5))
    · simp only [if_neg ej] at h5 ⊢
      exact h.passed i h1 h2' m hm e j h3 h4' h5
theorem zps (runs : List (List aA)) (a : List Nat) (hg : dD runs) (h : eO runs a) : (∃ i,∃ h : i < runs.length,∃ h2 : i < a.length,a[i] ≠ runs[i].length) → pick (kH runs a (wn runs a)) a.length 0 = .inl ():=by
  rintro ⟨i,h1,h2,h3⟩
  rcases oM runs a h.at' hg.1 with ⟨hd,hall⟩ | ⟨hw,hwa,hq,hk⟩
  · exact absurd (hall i h1 h2) h3
  · refine zn8 fun j k1 k2=>?_
    have hj : j < a.length:=by omega
    have hjr : j < runs.length:=by rw [← h.at'.1]; exact hj
    simp only [kH,List.getElem?_eq_getElem hjr,List.getElem?_eq_getElem hj,List.getElem?_eq_getElem hw,List.getElem?_eq_getElem hwa]
    cases e : a[j] with
    | zero=>rfl
    | succ m =>
      have hle:=h.at'.2 j hjr hj
      have hm : m < runs[j].length:=by omega
      simp only [List.getElem?_eq_getElem hm,List.getElem?_eq_getElem hq]
      refine if_neg ?_
      rcases h.passed j hjr hj m hm e _ hw hwa hq with p | ⟨p,q⟩
      · rw [dL p]
        simp
        intro e; rw [e,oG] at p; cases p
      · rw [p,oG]; simp; omega
theorem zbB (runs : List (List aA)) (a : List Nat) (hg : dD runs) (h : eO runs a) : Ok (mC runs a) a:=⟨hg,h.at',rfl,zps runs a hg h⟩
theorem zb8 (runs : List (List aA)) (a : List Nat) (hn : yN runs) (hg : dD runs) (h : eO runs a) : Ev (fun fu=>eH fu (mC runs a)) (0,0):=by
  have hl:=zaF runs a h.at'
  have:=hn.1
  obtain ⟨r,r1,-,-,r4⟩:=zaw (mC runs a) ⟨hn,by rw [hl.1]; omega,by rw [hl.2.2.1]; omega,by rw [hl.2.2.2]; omega⟩
  rw [r4 a (zbB runs a hg h)] at r1
  exact r1
def kC (runs : List (List aA)) (i : Nat) : List Nat:=wH runs i (dE runs)
theorem zgw (runs : List (List aA)) (i : Nat) : ∀ a,wH runs (i + 1) a = cE (wH runs i a) (wn runs (wH runs i a)):=by
  induction i with
  | zero=>intro a; rfl
  | succ i ih=>intro a; exact ih (cE a (wn runs a))
theorem wX (runs : List (List aA)) (i : Nat) : kC runs (i + 1) = cE (kC runs i) (wn runs (kC runs i)):=zgw runs i _
def iC (runs : List (List aA)) : Nat:=jB runs (dE runs)
structure Plc (runs : List (List aA)) (i : Nat) : Prop where
  rch : eO runs (kC runs i)
  left : jB runs (kC runs i) = iC runs - i
theorem dO (runs : List (List aA)) (hg : dD runs) (i : Nat) (h : i ≤ iC runs) : Plc runs i:=by
  induction i with
  | zero=>exact ⟨zfr runs,rfl⟩
  | succ i ih =>
    have p:=ih (by omega)
    rcases oM runs (kC runs i) p.rch.at' hg.1 with ⟨hd,hall⟩ | ⟨hw,hwa,hq,hk⟩
    · have:=yU runs _ hall
      rw [p.left] at this; omega
    · have:=pS runs _ _ hw hwa hq
      rw [← wX,p.left] at this
      exact ⟨by rw [wX]; exact zph runs _ hg p.rch hw hwa hq,by omega⟩
structure Cur (runs : List (List aA)) (i : Nat) : Prop where
  hw : wn runs (kC runs i) < runs.length
  hwa : wn runs (kC runs i) < (kC runs i).length
  hq : (kC runs i)[wn runs (kC runs i)] < runs[wn runs (kC runs i)].length
theorem vY (runs : List (List aA)) (hg : dD runs) (i : Nat) (h : i < iC runs) : Cur runs i:=by
  have p:=dO runs hg i (by omega)
  rcases oM runs (kC runs i) p.rch.at' hg.1 with ⟨hd,hall⟩ | ⟨hw,hwa,hq,hk⟩
  · have:=yU runs _ hall
    rw [p.left] at this; omega
  · exact ⟨hw,hwa,hq⟩
theorem zi1 (runs : List (List aA)) (m : Nat) : ∀ (a : List Nat) (i : Nat),i < m → (wF runs m a)[i]? = some ((runs[wn runs (wH runs i a)]?.getD [])[(wH runs i a)[wn runs (wH runs i a)]?.getD 0]?.getD ⟨[],[],false,0⟩,wn runs (wH runs i a)):=by
  induction m with
  | zero=>intro a i h; omega
  | succ m ih =>
    intro a i h
    cases i with
    | zero=>rfl
    | succ i=>simp only [wF,List.getElem?_cons_succ]; exact ih _ i (by omega)
def eC (runs : List (List aA)) : List aA:=aN (wF runs (iC runs) (dE runs))
def allF (runs : List (List aA)) : List Int:=wR (wF runs (iC runs) (dE runs))
theorem cV (runs : List (List aA)) : (eC runs).length = iC runs:=by simp [eC,aN,zk9]
theorem zla (runs : List (List aA)) (i : Nat) (h : i < iC runs) (c : Cur runs i) : ix (eC runs) (i : Int) = some ((runs[wn runs (kC runs i)]'(c.hw))[(kC runs i)[wn runs (kC runs i)]'(c.hwa)]'(c.hq)):=by
  rw [yT]
  simp only [eC,aN,List.getElem?_map,zi1 runs _ _ i h,Option.map_some]
  have h1:=c.hw
  have h2:=c.hwa
  have h3:=c.hq
  simp only [kC] at h1 h2 h3 ⊢
  simp only [List.getElem?_eq_getElem h1,List.getElem?_eq_getElem h2,Option.getD_some,List.getElem?_eq_getElem h3]
def lT (runs : List (List aA)) : Nat:=(runs.map List.length).sum
theorem zfc : ∀ (runs : List (List aA)) (a : List Nat),jB runs a ≤ lT runs
  | [],_=>by simp [jB,lT]
  | _::_,[]=>by simp [jB]
  | l::runs,n::a=>by
    have:=zfc runs a
    simp only [jB,lT,List.zipWith_cons_cons,List.sum_cons,List.map_cons] at this ⊢
    omega
structure kL (runs : List (List aA)) : Prop where
  near : yN runs
  few : dD runs → iC runs ≤ 120
def jO (b s : Bool) (k : List UInt8) (e : aA) : Bool:=!(s && e.Key == k) && !(b && e.Dead)
def pH (b : Bool) : Bool → List UInt8 → List aA → List aA
  | _,_,[]=>[]
  | s,k,e::l=>if jO b s k e then e::pH b true e.Key l else pH b true e.Key l
def mE : Bool → List UInt8 → List aA → Bool × List UInt8
  | s,k,[]=>(s,k)
  | _,_,e::l=>mE true e.Key l
def yI (b : Bool) (l : List aA) : List aA:=pH b false [] l
def qF (b : Bool) (l : List aA) : lB:=⟨(mE false [] l).1,(mE false [] l).2,b⟩
def sG : Bool → List UInt8 → List aA → Prop
  | _,_,[]=>True
  | s,k,e::l=>chk e = 0 ∧ (s = true → bl e.Key k = false) ∧ sG true e.Key l
def yP (s : Bool) (k : List UInt8) : Prop:=k.length ≤ 32 ∧ (s = false → k = [])
theorem zlV {e : aA} (h : chk e = 0) : e.Key.length ≤ 32:=by
  simp only [chk] at h
  split at h
  · cases h
  · omega
theorem eY {e : aA} (h : chk e = 0) : yP true e.Key:=⟨zlV h,by simp⟩
theorem zaG (b : Bool) : ∀ (l : List aA) s k,(pH b s k l).length ≤ l.length
  | [],_,_=>Nat.le_refl _
  | e::l,s,k=>by
    have:=zaG b l true e.Key
    simp only [pH]
    split <;> simp only [List.length_cons] <;> omega
theorem zcY (b : Bool) : ∀ (l r : List aA) s k,pH b s k (l++r) = pH b s k l++pH b (mE s k l).1 (mE s k l).2 r
  | [],r,s,k=>rfl
  | e::l,r,s,k=>by
    have:=zcY b l r true e.Key
    simp only [pH,mE,List.cons_append,this]
    split <;> rfl
theorem zdR : ∀ (l r : List aA) s k,mE s k (l++r) = mE (mE s k l).1 (mE s k l).2 r
  | [],_,_,_=>rfl
  | e::l,r,s,k=>by simp only [mE,List.cons_append,zdR l r]
theorem zc0 : ∀ (l r : List aA) s k,sG s k (l++r) ↔ sG s k l ∧ sG (mE s k l).1 (mE s k l).2 r
  | [],r,s,k=>by simp [sG,mE]
  | e::l,r,s,k=>by simp only [sG,mE,List.cons_append,zc0 l r,and_assoc]
theorem zda : ∀ (l : List aA) s k,yP s k → sG s k l → yP (mE s k l).1 (mE s k l).2
  | [],_,_,h,_=>h
  | e::l,s,k,_,f=>zda l true e.Key (eY f.1) f.2.2
theorem zbA : ∀ (l : List aA) s k (h : 0 < l.length),mE s k l = (true,l[l.length - 1].Key)
  | [e],_,_,_=>rfl
  | e::f::l,s,k,h=>by
    have:=zbA (f::l) true e.Key (by simp)
    rw [mE,this]
    simp
theorem zhx (fu : Nat) (k : List UInt8) : wM fu k = some (if 32 < k.length then 3 else 0):=by
  have c1 : decide ((32 : Int) < (k.length : Int)) = decide (32 < k.length):=decide_eq_decide.2 (by omega)
  simp only [wM,c1]
  by_cases h : 32 < k.length <;> simp [h]
theorem zeo (fu : Nat) (s : Bool) (k : List UInt8) (b : Bool) (h : yP s k) : zP fu ⟨s,k,b⟩ = some 0:=by
  simp only [zP,zhx,if_neg (show ¬ 32 < k.length by have:=h.1; omega),bS]
  cases s with
  | false=>rw [h.2 rfl]; simp
  | true=>simp
theorem zgu (fu : Nat) (s : Bool) (k : List UInt8) (b : Bool) (h : yP s k) : gX fu ⟨s,k,b⟩ = some 0:=by
  have d : decide ((32 : Int) < (k.length : Int)) = false:=dF (by have:=h.1; omega)
  simp only [gX,d,bF,↓reduceIte]
  cases s with
  | false=>rw [h.2 rfl]; simp
  | true=>simp
theorem zoQ (fu : Nat) (s : Bool) (k : List UInt8) (b : Bool) (e : aA) (h : yP s k) (h1 : chk e = 0) (h2 : s = true → bl e.Key k = false) : bN fu ⟨s,k,b⟩ e = some (jO b s k e,⟨true,e.Key,b⟩,0):=by
  have h2' : s = true → Op.bytesLess e.Key k = false:=h2
  simp only [bN,zeo fu s k b h,sR,h1,bS,jO]
  cases s with
  | false=>cases b <;> cases hd : e.Dead <;> simp
  | true =>
    simp only [h2' rfl]
    cases hk : (e.Key == k) <;> cases b <;> cases hd : e.Dead <;> simp
theorem zi5 (fu : Nat) (s : Bool) (k : List UInt8) (b : Bool) (e : aA) (h : yP s k) (h1 : chk e = 0) (h2 : s = true → bl e.Key k = false) : dX fu ⟨s,k,b⟩ e = some (jO b s k e,⟨true,e.Key,b⟩,0):=by
  have h2' : s = true → Op.bytesLess e.Key k = false:=h2
  simp only [dX,zgu fu s k b h,iX,h1,bS,jO]
  cases s with
  | false=>cases b <;> cases hd : e.Dead <;> simp
  | true =>
    simp only [h2' rfl]
    cases hk : (e.Key == k) <;> cases b <;> cases hd : e.Dead <;> simp
theorem zpc (l : List aA) (v : lB) (hl : l.length ≤ 1000000) (m : Nat) : ∀ (n : Nat) (s : Bool) (k : List UInt8) (out : List aA), n + m = l.length → yP s k → sG s k (l.drop n) → out.length ≤ n →
    Ev (fun fu=>sH l v fu (n : Int) s k out) (.inl ((mE s k (l.drop n)).1,(mE s k (l.drop n)).2,out++pH v.Bottom s k (l.drop n))):=by
  induction m with
  | zero =>
    intro n s k out hn hs hf ho
    obtain rfl : n = l.length:=by omega
    exact Ev.succ (Ev.of (fun fu=>by simp [sH,List.drop_length,mE,pH]) (Ev.ret _))
  | succ m ih =>
    intro n s k out hn hs hf ho
    have hnl : n < l.length:=by omega
    have d : decide ((n : Int) < (l.length : Int)) = true:=dT (by omega)
    rw [List.drop_eq_getElem_cons hnl] at hf ⊢
    have h2 : s = true → Op.bytesLess l[n].Key k = false:=hf.2.1
    have g : 2 * ((out.length + 1) * 48) ≤ 281474976710656:=by omega
    have hcl : (⟨l[n].Key,l[n].Val,l[n].Dead,l[n].Seq⟩ : aA) = l[n]:=rfl
    have ih1:=ih (n + 1) true l[n].Key (out++[l[n]]) (by omega) (eY hf.1) hf.2.2 (by simp; omega)
    have ih2:=ih (n + 1) true l[n].Key out (by omega) (eY hf.1) hf.2.2 (by omega)
    simp only [mE,pH]
    refine Ev.succ ?_
    simp only [sH,d,↓reduceIte,aB l n hnl,bS,zeo _ s k v.Bottom hs,sR,hf.1,decide_true,Bool.not_true,bF,sC n (by omega),iS,hcl,if_pos g,jO]
    rw [List.append_assoc] at ih1
    cases s with
    | false =>
      simp only [bF,↓reduceIte,bS,Bool.false_and,Bool.not_false,Bool.true_and]
      cases hb : v.Bottom with
      | false=>rw [hb] at ih1; exact ih1
      | true =>
        rw [hb] at ih1 ih2
        cases hd : l[n].Dead with
        | false=>exact ih1
        | true=>exact ih2
    | true =>
      simp only [↓reduceIte,h2 rfl,bS,bF,Bool.true_and]
      cases hk : (l[n].Key == k) with
      | true=>exact ih2
      | false =>
        simp only [bF,↓reduceIte,Bool.not_false,Bool.true_and]
        cases hb : v.Bottom with
        | false=>rw [hb] at ih1; exact ih1
        | true =>
          rw [hb] at ih1 ih2
          cases hd : l[n].Dead with
          | false=>exact ih1
          | true=>exact ih2
theorem zov (l : List aA) (b : Bool) (hl : l.length ≤ 20000) (hf : sG false [] l) : Ev (fun fu=>zR fu l b) (yI b l,0,0):=by
  unfold zR
  have d : decide ((20000 : Int) < (l.length : Int)) = false:=dF (by omega)
  simp only [d,bF,↓reduceIte,sM,bS]
  have:=zpc l ⟨false,[],b⟩ (by omega) l.length 0 false [] [] (by omega) ⟨by simp,fun _=>rfl⟩ (by simpa using hf) (by simp)
  exact Ev.bind this (by simp only [List.drop_zero,List.nil_append]; exact Ev.ret _)
theorem znM (l : List aA) (b : Bool) (hl : l.length ≤ 1000000) (m : Nat) : ∀ (n : Nat) (s : Bool) (k : List UInt8) (out : List aA), n + m = l.length → yP s k → sG s k (l.drop n) → out.length ≤ n →
    Ev (fun fu=>dM l fu (n : Int) s k b out) (.inl ((mE s k (l.drop n)).1,(mE s k (l.drop n)).2,b,out++pH b s k (l.drop n))):=by
  induction m with
  | zero =>
    intro n s k out hn hs hf ho
    obtain rfl : n = l.length:=by omega
    exact Ev.succ (Ev.of (fun fu=>by simp [dM,List.drop_length,mE,pH]) (Ev.ret _))
  | succ m ih =>
    intro n s k out hn hs hf ho
    have hnl : n < l.length:=by omega
    have d : decide ((n : Int) < (l.length : Int)) = true:=dT (by omega)
    rw [List.drop_eq_getElem_cons hnl] at hf ⊢
    have g : 2 * ((out.length + 1) * 48) ≤ 281474976710656:=by omega
    have ih1:=ih (n + 1) true l[n].Key (out++[l[n]]) (by omega) (eY hf.1) hf.2.2 (by simp; omega)
    have ih2:=ih (n + 1) true l[n].Key out (by omega) (eY hf.1) hf.2.2 (by omega)
    simp only [mE,pH]
    refine Ev.succ ?_
    simp only [dM,d,↓reduceIte,aB l n hnl,bS,zi5 _ s k b l[n] hs hf.1 hf.2.1,decide_true,Bool.not_true,bF,sC n (by omega),if_pos g]
    rw [List.append_assoc] at ih1
    cases jO b s k l[n] with
    | true=>exact ih1
    | false=>exact ih2
theorem zgf (l : List aA) (b : Bool) (hl : l.length ≤ 20000) (hf : sG false [] l) : Ev (fun fu=>qX fu l b) (yI b l,0,0):=by
  unfold qX
  have d : decide ((20000 : Int) < (l.length : Int)) = false:=dF (by omega)
  simp only [d,bF,↓reduceIte,uR,bS]
  have:=znM l b (by omega) l.length 0 false [] [] (by omega) ⟨by simp,fun _=>rfl⟩ (by simpa using hf) (by simp)
  exact Ev.bind this (by simp only [List.drop_zero,List.nil_append]; exact Ev.ret _)
theorem zdU (l : List aA) (b : Bool) (hl : l.length ≤ 20000) (hf : sG false [] l) : Ev (fun fu=>uV fu l b) (yI b l,qF b l):=by
  unfold uV
  refine Ev.bind (zgf l b hl hf) ?_
  simp only [uR,bS]
  by_cases h : 0 < l.length
  · have d : decide ((0 : Int) < (l.length : Int)) = true:=dT (by omega)
    have w : IntKind.i64.wrap ((l.length : Int) - 1) = ((l.length - 1 : Nat) : Int):=by rw [wr (by omega) (by omega)]; omega
    simp only [d,↓reduceIte,w,aB l (l.length - 1) (by omega),bS,qF,zbA l false [] h]
    exact Ev.ret _
  · have d : decide ((0 : Int) < (l.length : Int)) = false:=dF (by omega)
    obtain rfl : l = []:=List.length_eq_zero_iff.1 (by omega)
    simp only [d,bF,↓reduceIte,qF,mE]
    exact Ev.ret _
theorem zeQ : ∀ (l : List aA) (s : Bool) (k : List UInt8),(∀ i (h : i < l.length),chk l[i] = 0) → (∀ i (h : i + 1 < l.length),bl l[i + 1].Key l[i].Key = false) → (∀ h : 0 < l.length,s = true → bl l[0].Key k = false) → sG s k l
  | [],_,_,_,_,_=>trivial
  | e::l,s,k,h1,h2,h3=>⟨h1 0 (by simp),h3 (by simp),zeQ l true e.Key (fun i h=>h1 (i + 1) (by simp; omega)) (fun i h=>h2 (i + 1) (by simp; omega)) (fun h _=>h2 0 (by simp; omega))⟩
theorem zeD : ∀ (l : List aA) (n : Nat) s k,sG s k l → sG s k (l.take n)
  | [],n,_,_,_=>by simp [sG]
  | e::l,0,_,_,_=>trivial
  | e::l,n + 1,s,k,h=>⟨h.1,h.2.1,zeD l n true e.Key h.2.2⟩
theorem zar (runs : List (List aA)) (i : Nat) (h : i < iC runs) (c : Cur runs i) (h2 : i < (eC runs).length) : (eC runs)[i] = (runs[wn runs (kC runs i)]'(c.hw))[(kC runs i)[wn runs (kC runs i)]'(c.hwa)]'(c.hq):=by
  have:=zla runs i h c
  rw [aB _ _ h2] at this
  exact oI this
theorem zjX (runs : List (List aA)) (hg : dD runs) : sG false [] (eC runs):=by
  refine zeQ _ _ _ (fun i h=>?_) (fun i h=>?_) (by simp)
  · rw [cV] at h
    have c:=vY runs hg i h
    rw [zar runs i h c]
    exact ((hg.2.2 _ (List.getElem_mem c.hw)).2 _ c.hq).1
  · rw [cV] at h
    have c:=vY runs hg (i + 1) h
    have c':=vY runs hg i (by omega)
    have p:=dO runs hg (i + 1) (by omega)
    have hw:=c.hw
    have hwa:=c.hwa
    have hq:=c.hq
    have hw':=c'.hw
    have hwa':=c'.hwa
    have hq':=c'.hq
    rw [zar runs i (by omega) c',zar runs (i + 1) h c]
    have hl2 : wn runs (kC runs i) < (kC runs (i + 1)).length:=by rw [wX,iR]; exact hwa'
    have e1 : (kC runs (i + 1))[wn runs (kC runs i)] = (kC runs i)[wn runs (kC runs i)] + 1:=by
      have:=zbn (kC runs i) (wn runs (kC runs i)) (wn runs (kC runs i)) (by rw [iR]; exact hwa') hwa' hwa'
      simp only [wX,this,↓reduceIte]
    rcases p.rch.passed (wn runs (kC runs i)) hw' hl2 _ hq' e1 _ hw hwa hq with l | ⟨l,l2⟩
    · exact dL l
    · rw [l]; exact oG _
theorem zbw : ∀ (runs : List (List aA)) (a : List Nat),a.length = runs.length → (∀ i (h : i < runs.length) (h2 : i < a.length),a[i] ≤ runs[i].length) → jB runs a + a.sum = lT runs
  | [],[],_,_=>rfl
  | l::runs,n::a,hl,h=>by
    have:=zbw runs a (by simpa using hl) (fun i h1 h2=>h (i + 1) (by simp; omega) (by simp; omega))
    have h0:=h 0 (by simp) (by simp)
    simp only [List.getElem_cons_zero] at h0
    simp only [jB,lT,List.zipWith_cons_cons,List.sum_cons,List.map_cons] at this ⊢
    omega
theorem zoK (runs : List (List aA)) : (dE runs).sum = 0:=by
  simp [dE]
theorem zjp (runs : List (List aA)) : iC runs = lT runs:=by
  have:=zbw runs (dE runs) (nO runs).1 (nO runs).2
  rw [zoK] at this
  simpa [iC] using this
theorem zer (runs : List (List aA)) (a : List Nat) (h : At runs a) : jB runs a + a.sum = iC runs:=by
  rw [zjp]; exact zbw runs a h.1 h.2
theorem zbW (runs : List (List aA)) (hg : dD runs) (i : Nat) (h : i ≤ iC runs) : (kC runs i).sum = i:=by
  have p:=dO runs hg i h
  have:=zer runs _ p.rch.at'
  have:=p.left
  omega
theorem zd2 : ∀ (a b : List Nat),a.length = b.length → (∀ i (h1 : i < a.length) (h2 : i < b.length),a[i] ≤ b[i]) → a.sum ≤ b.sum ∧ (a.sum = b.sum → a = b)
  | [],[],_,_=>⟨Nat.le_refl _,fun _=>rfl⟩
  | x::a,y::b,hl,h=>by
    obtain ⟨p,q⟩:=zd2 a b (by simpa using hl) (fun i h1 h2=>h (i + 1) (by simp; omega) (by simp; omega))
    have h0:=h 0 (by simp) (by simp)
    simp only [List.getElem_cons_zero] at h0
    simp only [List.sum_cons]
    refine ⟨by omega,fun e=>?_⟩
    obtain rfl : x = y:=by omega
    rw [q (by omega)]
theorem more (a b : List Nat) (hl : a.length = b.length) (hs : a.sum = b.sum) (hne : a ≠ b) : ∃ i,∃ h1 : i < a.length,∃ h2 : i < b.length,a[i] < b[i]:=by
  refine Classical.byContradiction fun hn=>hne ?_
  have:=zd2 b a hl.symm fun i h1 h2=>Nat.le_of_not_lt fun h=>hn ⟨i,h2,h1,h⟩
  exact (this.2 hs.symm).symm
def le (k l : List UInt8) : Prop:=bl k l = true ∨ k = l
theorem zaC (l : List aA) (hg : oP l) (i : Nat) : ∀ (d : Nat) (h : i + d < l.length),le (l[i]'(by omega)).Key l[i + d].Key ∧ (0 < d → bl (l[i]'(by omega)).Key l[i + d].Key = true)
  | 0,_=>⟨.inr rfl,by omega⟩
  | d + 1,h=>by
    have p:=(zaC l hg i d (by omega)).1
    have q : bl (l[i + d]'(by omega)).Key l[i + (d + 1)].Key = true:=(hg.2 (i + (d + 1)) h).2 (by omega)
    rcases p with p | p
    · exact ⟨.inl (jN p q),fun _=>jN p q⟩
    · rw [p]; exact ⟨.inl q,fun _=>q⟩
theorem zea (l : List aA) (hg : oP l) (i j : Nat) (h : i ≤ j) (hj : j < l.length) : le (l[i]'(by omega)).Key l[j].Key:=by
  obtain ⟨d,rfl⟩ : ∃ d,j = i + d:=⟨j - i,by omega⟩
  exact (zaC l hg i d hj).1
theorem run_lt (l : List aA) (hg : oP l) (i j : Nat) (h : i < j) (hj : j < l.length) : bl (l[i]'(by omega)).Key l[j].Key = true:=by
  obtain ⟨d,rfl⟩ : ∃ d,j = i + d:=⟨j - i,by omega⟩
  exact (zaC l hg i d hj).2 (by omega)
theorem za1 {a b c : List UInt8} (h : bl a b = true) (k : le b c) : bl a c = true:=by
  rcases k with k | rfl
  · exact jN h k
  · exact h
theorem le_bl {a b c : List UInt8} (h : le a b) (k : bl b c = true) : bl a c = true:=by
  rcases h with h | rfl
  · exact jN h k
  · exact k
theorem znE (runs : List (List aA)) (hg : dD runs) (a b : List Nat) (ha : eO runs a) (hb : eO runs b) (hs : a.sum = b.sum) : a = b:=by
  refine Classical.byContradiction fun hne=>?_
  have hl : a.length = b.length:=by rw [ha.at'.1,hb.at'.1]
  obtain ⟨i,i1,i2,i3⟩:=more a b hl hs hne
  obtain ⟨j,j1,j2,j3⟩:=more b a hl.symm hs.symm (Ne.symm hne)
  have ir : i < runs.length:=by rw [← ha.at'.1]; exact i1
  have jr : j < runs.length:=by rw [← ha.at'.1]; exact j2
  have hbi:=hb.at'.2 i ir i2
  have haj:=ha.at'.2 j jr j2
  have gi:=hg.2.2 _ (List.getElem_mem ir)
  have gj:=hg.2.2 _ (List.getElem_mem jr)
  have p1:=ha.passed j jr j2 (a[j] - 1) (by omega) (by omega) i ir i1 (by omega)
  have p2:=hb.passed i ir i2 (b[i] - 1) (by omega) (by omega) j jr j1 (by omega)
  have q1:=zea runs[i] gi a[i] (b[i] - 1) (by omega) (by omega)
  have q2:=zea runs[j] gj b[j] (a[j] - 1) (by omega) (by omega)
  rcases p1 with p1 | ⟨p1,o1⟩
  · have r1:=za1 p1 q1
    have r2 : bl runs[j][a[j] - 1].Key runs[j][b[j]].Key = true:=by
      rcases p2 with p2 | ⟨p2,_⟩
      · exact jN r1 p2
      · rw [← p2]; exact r1
    have:=za1 r2 q2
    rw [oG] at this; cases this
  · rcases p2 with p2 | ⟨p2,o2⟩
    · have r1:=le_bl q1 p2
      rw [← p1] at r1
      have:=za1 r1 q2
      rw [oG] at this; cases this
    · omega
theorem zgs (runs : List (List aA)) (hg : dD runs) (a : List Nat) (ha : At runs a) (h : (∃ i,∃ h : i < runs.length,∃ h2 : i < a.length,a[i] ≠ runs[i].length) → pick (kH runs a (wn runs a)) a.length 0 = .inl ()) : zeR runs a:=by
  intro i h1 h2 m hm e j h3 h4 h5
  have hp:=h ⟨j,h3,h4,by omega⟩
  rcases oM runs a ha hg.1 with ⟨hd,hall⟩ | ⟨hw,hwa,hq,hk⟩
  · have:=hall j h3 h4; omega
  · have hb:=tZ hp i (by omega) (by omega)
    simp only [kH,List.getElem?_eq_getElem h1,List.getElem?_eq_getElem h2,e,List.getElem?_eq_getElem hw,List.getElem?_eq_getElem hwa,List.getElem?_eq_getElem hm,List.getElem?_eq_getElem hq] at hb
    have hb' : ¬ (bl runs[wn runs a][a[wn runs a]].Key runs[i][m].Key = true ∨ (runs[i][m].Key = runs[wn runs a][a[wn runs a]].Key ∧ wn runs a < i)):=by
      intro q; rw [if_pos q] at hb; cases hb
    have w1 : lx runs[i][m].Key i runs[wn runs a][a[wn runs a]].Key (wn runs a):=by
      rcases eS runs[i][m].Key runs[wn runs a][a[wn runs a]].Key with t | t | t
      · exact .inl t
      · refine .inr ⟨t,?_⟩
        have : ¬ wn runs a < i:=fun q=>hb' (.inr ⟨t,q⟩)
        rcases Nat.lt_or_ge i (wn runs a) with q | q
        · exact q
        · obtain rfl : i = wn runs a:=by omega
          have:=run_lt _ (hg.2.2 _ (List.getElem_mem h1)) m a[wn runs a] (by omega) hq
          rw [t,oG] at this; cases this
      · exact absurd (.inl t) hb'
    rcases ze3 runs a ha hg.1 hw hwa hq j h3 h4 h5 with rfl | w2
    · exact w1
    · rcases w2 with w2 | ⟨w2,w3⟩
      · rcases w1 with w1 | ⟨w1,_⟩
        · exact .inl (jN w1 w2)
        · rw [w1]; exact .inl w2
      · rcases w1 with w1 | ⟨w1,w4⟩
        · rw [← w2]; exact .inl w1
        · exact .inr ⟨w1.trans w2,by omega⟩
theorem ok_plc (s : iB) (a : List Nat) (h : Ok s a) : a = kC s.Runs a.sum ∧ a.sum ≤ iC s.Runs:=by
  obtain ⟨hg,ha,he,hr⟩:=h
  have hs:=zer s.Runs a ha
  have hle : a.sum ≤ iC s.Runs:=by omega
  exact ⟨znE s.Runs hg a _ ⟨ha,zgs s.Runs hg a ha hr⟩ (dO s.Runs hg _ hle).rch (zbW s.Runs hg _ hle).symm,hle⟩
theorem zac (x y : lB) : lB.eqb x y = decide (x = y):=by
  obtain ⟨a,b,c⟩:=x
  obtain ⟨a',b',c'⟩:=y
  by_cases h1 : a = a' <;> by_cases h2 : b = b' <;> by_cases h3 : c = c' <;> simp [lB.eqb,h1,h2,h3]
theorem zkl (l k : List aA) (hl : l.length < 1000000000000000000) : ∃ b,Ev (fun fu=>mP fu l k) b ∧ (b = true ↔ l = k):=by
  unfold mP
  by_cases h : l.length = k.length
  · have hd : (!decide ((l.length : Int) = (k.length : Int))) = false:=by simp; omega
    simp only [hd,bF,↓reduceIte]
    obtain ⟨r,r1,r2⟩:=Ev.eqs false l k h (L:=bI l k) (fun fu=>by simp [bI]) (fun fu n h1 h2=>by
      have d : decide ((n : Int) < (l.length : Int)) = true:=dT (by omega)
      simp only [bI,d,↓reduceIte,aB l n h1,aB k n h2,bS,zaq,sC n (by omega)]
      by_cases e : l[n] = k[n] <;> simp [e])
    rcases r2 with ⟨rfl,e⟩ | ⟨rfl,e⟩
    · exact ⟨true,Ev.bind r1 (Ev.ret _),by simp [e]⟩
    · exact ⟨false,Ev.bind r1 (Ev.ret _),by simp [e]⟩
  · have hd : (!decide ((l.length : Int) = (k.length : Int))) = true:=by simp; omega
    simp only [hd,↓reduceIte]
    exact ⟨false,Ev.ret _,by simp; intro e; exact h (by rw [e])⟩
theorem zb2 {L : Nat → Int → Int → Option Int} (a : List Nat) (hl : a.length ≤ 1000000) (hb : a.sum ≤ 1000000) (stop : ∀ fu c, L (fu + 1) c (a.length : Int) = some c)
    (step : ∀ fu c n (h : n < a.length),L (fu + 1) c (n : Int) = L fu (IntKind.i64.wrap (c + (a[n] : Int))) ((n + 1 : Nat) : Int)) : Ev (fun fu=>L fu 0 0) (a.sum : Int):=by
  have go : ∀ m (n c : Nat),n + m = a.length → c + (a.drop n).sum = a.sum → Ev (fun fu=>L fu (c : Int) (n : Int)) (a.sum : Int):=by
    intro m
    induction m with
    | zero =>
      intro n c hn hc
      obtain rfl : n = a.length:=by omega
      simp only [List.drop_length,List.sum_nil,Nat.add_zero] at hc
      subst hc
      exact Ev.succ (Ev.of (fun fu=>stop fu _) (Ev.ret _))
    | succ m ih =>
      intro n c hn hc
      have hnl : n < a.length:=by omega
      rw [List.drop_eq_getElem_cons hnl,List.sum_cons] at hc
      have w : IntKind.i64.wrap ((c : Int) + (a[n] : Int)) = ((c + a[n] : Nat) : Int):=by rw [wr (by omega) (by omega)]; omega
      exact Ev.succ (Ev.of (fun fu=>(step fu c n hnl).trans (by rw [w])) (ih (n + 1) (c + a[n]) (by omega) (by omega)))
  exact go a.length 0 0 (by omega) (by simp)
def yC (runs : List (List aA)) (b : Bool) (n : Nat) : mB:=⟨mC runs (kC runs n),qF b ((eC runs).take n),yI b ((eC runs).take n),(n : Int)⟩
structure pR (s : mB) : Prop where
  merge : zdj s.Merge
  seen : kL s.Merge.Runs
  out : s.Out.length ≤ 1000
theorem fZ (runs : List (List aA)) (b : Bool) (n : Nat) (hs : kL runs) (hg : dD runs) (hn : n ≤ iC runs) : pR (yC runs b n):=by
  have p:=dO runs hg n hn
  have hl:=zaF runs _ p.rch.at'
  have h1:=hs.near.1
  refine ⟨⟨hs.near,?_,?_,?_⟩,hs,?_⟩
  · show (mC runs (kC runs n)).At.length ≤ 1000
    rw [hl.1]; omega
  · show (mC runs (kC runs n)).Tree.Keys.length ≤ 1000
    rw [hl.2.2.1]; omega
  · show (mC runs (kC runs n)).Tree.Lose.length ≤ 1000
    rw [hl.2.2.2]; omega
  · show (yI b ((eC runs).take n)).length ≤ 1000
    have:=zaG b ((eC runs).take n) false []
    have h2:=hs.few hg
    have h3 : ((eC runs).take n).length ≤ n:=by simp; omega
    show (pH b false [] ((eC runs).take n)).length ≤ 1000
    omega
theorem zb0 (runs : List (List aA)) (hg : dD runs) (n : Nat) : sG false [] ((eC runs).take n):=zeD _ _ _ _ (zjX runs hg)
theorem shd_eq (b : Bool) (l : List aA) (h : 0 < l.length) : qF b l = ⟨true,l[l.length - 1].Key,b⟩:=by simp only [qF,zbA l false [] h]
theorem fin6 (x : Bool) (p : Prop) [Decidable p] : (if (!x) = true then some true else some (!decide p)).bind (fun b=>if b = true then some (6 : Int) else some 0) = some (if x = true ∧ p then 0 else 6):=by
  cases x <;> by_cases h : p <;> simp [h]
theorem zpd (runs : List (List aA)) (hn : yN runs) (hg : dD runs) : Ev (fun fu=>yJ fu runs) (0,0) ∧ Ev (fun fu=>jQ fu runs) (0,0):=by
  obtain ⟨c,c1,c2,c3⟩:=zab runs hn.fits (by have:=hn.1; omega)
  rcases c3 with ⟨rfl,_⟩ | hc
  · exact ⟨c1,c2⟩
  · exfalso
    have h:=zb8 runs _ hn hg (zfr runs)
    have : Ev (fun fu=>eH fu (mC runs (dE runs))) c:=by
      unfold eH
      refine Ev.bind c1 (Ev.of (fun fu=>?_) (Ev.ret _))
      simp only [dF hc,Bool.not_false,↓reduceIte]
    have:=Ev.uniq this h
    rw [this] at hc
    exact hc rfl
theorem zdr (runs : List (List aA)) (hn : yN runs) (hg : dD runs) : Ev (fun fu=>cI fu runs) (mC runs (dE runs),0,0) ∧ Ev (fun fu=>nM fu runs) (mC runs (dE runs),0,0):=by
  obtain ⟨b,b1,b2,b3⟩:=zb4 runs hn.fits (by have:=hn.1; omega)
  rcases b3 with ⟨_,rfl⟩ | ⟨_,hb⟩
  · exact ⟨b1,b2⟩
  · exfalso
    have g3 : (0 : Int) ≤ (runs.length : Int) ∧ (runs.length : Int) ≤ (runs.length : Int) ∧ (runs.length : Int) ≤ 9223372036854775807 ∧ 8 * (runs.length : Int) ≤ 281474976710656:=by have:=hg.2.1; omega
    have : Ev (fun fu=>nM fu runs) (mC runs (dE runs),0,0):=by
      unfold nM
      refine Ev.bind (zpd runs hn hg).2 ?_
      simp only [decide_true,Bool.not_true,bF,↓reduceIte,if_pos g3]
      rw [zV]
      exact Ev.bind (pX runs _ (nO runs) hg.1 hg.2.1) (Ev.ret _)
    have:=Ev.uniq this b2
    rw [← this] at hb
    exact hb rfl
theorem zck (runs : List (List aA)) (hn : yN runs) (hg : dD runs) : Ev (fun fu=>uL fu runs) (eC runs,allF runs,0) ∧ Ev (fun fu=>kT fu runs) (eC runs,allF runs,0):=by
  obtain ⟨w,w1,w2,w3⟩:=all_ev runs hn.fits (by have:=hn.1; omega)
  rcases w3 with ⟨_,rfl⟩ | ⟨_,_,hw⟩
  · exact ⟨w1,w2⟩
  · exfalso
    have hr:=zcp runs hg (dE runs)
    have : Ev (fun fu=>uL fu runs) (eC runs,allF runs,0):=by
      unfold uL
      rw [zcF]
      refine Ev.bind (zdr runs hn hg).1 ?_
      simp only [decide_true,Bool.not_true,bF,↓reduceIte]
      exact Ev.bind (zdF runs hg (mC runs (dE runs),0,0) rfl _ (dE runs) _ [] [] (nO runs) rfl rfl (by simp; omega) rfl) (Ev.of (fun fu=>by simp [eC,allF,iC]) (Ev.ret _))
    have:=Ev.uniq this w1
    rw [← this] at hw
    exact hw rfl
theorem zkC (s : mB) (hs : pR s) : ∃ r, Ev (fun fu => eP fu s) r ∧ Ev (fun fu => tV fu s) r ∧
    ((r = 0 ∧ dD s.Merge.Runs ∧ ∃ n,n ≤ iC s.Merge.Runs ∧ s = yC s.Merge.Runs s.Shadow.Bottom n) ∨ r ≠ 0) ∧
    (dD s.Merge.Runs → ∀ n,n ≤ iC s.Merge.Runs → s = yC s.Merge.Runs s.Shadow.Bottom n → r = 0):=by
  obtain ⟨c,c1,c2,c3,c4⟩:=zaw s.Merge hs.merge
  unfold eP tV
  have toOk : dD s.Merge.Runs → ∀ n,n ≤ iC s.Merge.Runs → s = yC s.Merge.Runs s.Shadow.Bottom n → Ok s.Merge (kC s.Merge.Runs n):=by
    intro hg n hn e
    have:=zbB s.Merge.Runs _ hg (dO s.Merge.Runs hg n hn).rch
    have e2 : s.Merge = mC s.Merge.Runs (kC s.Merge.Runs n):=congrArg mB.Merge e
    rw [← e2] at this
    exact this
  rcases c3 with ⟨rfl,a,ho⟩ | hc
  · obtain ⟨hp,hle⟩:=ok_plc _ a ho
    obtain ⟨hg,ha,he,hr⟩:=ho
    have h120:=hs.seen.few hg
    have hal : a.length ≤ 34:=by rw [ha.1]; exact hs.seen.near.1
    have hAt : s.Merge.At = tB a:=congrArg iB.At he
    have z1 : Ev (fun fu=>uI s fu 0 0) (a.sum : Int):=zb2 a (by omega) (by omega) (fun fu c=>by simp [uI,hAt,zF]) (fun fu c n h=>by
      have d : decide ((n : Int) < ((tB a).length : Int)) = true:=dT (by rw [zF]; omega)
      simp only [uI,hAt,d,↓reduceIte,cF a n h,bS,sC n (by omega)])
    have z2 : Ev (fun fu=>nQ fu s) (a.sum : Int):=by
      unfold nQ
      exact Ev.bind (zb2 (L:=tJ s) a (by omega) (by omega) (fun fu c=>by simp [tJ,hAt,zF]) (fun fu c n h=>by
        have d : decide ((n : Int) < ((tB a).length : Int)) = true:=dT (by rw [zF]; omega)
        simp only [tJ,hAt,d,↓reduceIte,cF a n h,bS,sC n (by omega)])) (Ev.ret _)
    generalize hn : a.sum = n at *
    have o1 : decide ((20000 : Int) < (s.Out.length : Int)) = false:=dF (by have:=hs.out; omega)
    have o2 : decide ((20000 : Int) < (n : Int)) = false:=dF (by omega)
    by_cases hst : s.Steps = (n : Int)
    · have d1 : decide (s.Steps = (n : Int)) = true:=dT hst
      obtain ⟨w1,w2⟩:=zck s.Merge.Runs hs.seen.near hg
      have hlen:=cV s.Merge.Runs
      have g : (0 : Int) ≤ (n : Int) ∧ (n : Int) ≤ ((eC s.Merge.Runs).length : Int):=by omega
      have hF:=zb0 s.Merge.Runs hg n
      have htl : ((eC s.Merge.Runs).take n).length = n:=by simp; omega
      have f1:=zov ((eC s.Merge.Runs).take n) s.Shadow.Bottom (by omega) hF
      have f2:=zdU ((eC s.Merge.Runs).take n) s.Shadow.Bottom (by omega) hF
      obtain ⟨x,x1,x2⟩:=zkl s.Out (yI s.Shadow.Bottom ((eC s.Merge.Runs).take n)) (by have:=hs.out; omega)
      obtain ⟨y,y1,y2⟩:=za8 s.Out (yI s.Shadow.Bottom ((eC s.Merge.Runs).take n)) (by have:=hs.out; omega)
      obtain rfl : x = y:=Bool.eq_iff_iff.2 (x2.trans y2.symm)
      have sheq : ∀ n' : Nat,n' = n → s.Steps = n':=fun _ h=>by rw [h]; exact hst
      have full : s.Out = yI s.Shadow.Bottom ((eC s.Merge.Runs).take n) → s.Shadow = qF s.Shadow.Bottom ((eC s.Merge.Runs).take n) → s = yC s.Merge.Runs s.Shadow.Bottom n:=by
        intro e1 e2
        have e3 : s.Merge = mC s.Merge.Runs (kC s.Merge.Runs n):=by rw [← hp]; exact he
        show s = ⟨mC s.Merge.Runs (kC s.Merge.Runs n),qF s.Shadow.Bottom ((eC s.Merge.Runs).take n),yI s.Shadow.Bottom ((eC s.Merge.Runs).take n),(n : Int)⟩
        rw [← e3,← e1,← e2,← hst]
      have only : ∀ n',n' ≤ iC s.Merge.Runs → s = yC s.Merge.Runs s.Shadow.Bottom n' → n' = n:=by
        intro n' hn' e
        have : s.Steps = (n' : Int):=congrArg mB.Steps e
        omega
      refine ⟨if x = true ∧ s.Shadow = qF s.Shadow.Bottom ((eC s.Merge.Runs).take n) then 0 else 6,Ev.bind c1 ?_,Ev.bind c2 ?_,?_,fun _ n' hn' e=>?_⟩
      · simp only [decide_true,Bool.not_true,bF,↓reduceIte]
        refine Ev.bind z1 ?_
        simp only [o1,o2,bF,↓reduceIte,bS,d1,Bool.not_true]
        refine Ev.bind w1 ?_
        simp only [decide_true,Bool.not_true,bF,↓reduceIte,if_pos g,Int.toNat_natCast]
        refine Ev.bind f1 ?_
        simp only [decide_true,Bool.not_true,bF,↓reduceIte,sM,bS,zac]
        by_cases h0 : 0 < n
        · have d0 : decide ((0 : Int) < (n : Int)) = true:=dT (by omega)
          have w : IntKind.i64.wrap ((n : Int) - 1) = ((n - 1 : Nat) : Int):=by rw [wr (by omega) (by omega)]; omega
          have e1:=shd_eq s.Shadow.Bottom ((eC s.Merge.Runs).take n) (by omega)
          have e2 : ((eC s.Merge.Runs).take n)[((eC s.Merge.Runs).take n).length - 1]'(by omega) = (eC s.Merge.Runs)[n - 1]'(by omega):=by
            rw [List.getElem_take]; congr 1; omega
          rw [e2] at e1
          simp only [d0,↓reduceIte,w,aB (eC s.Merge.Runs) (n - 1) (by omega),bS,e1]
          exact Ev.bind x1 (Ev.of (fun fu=>fin6 x _) (Ev.ret _))
        · have d0 : decide ((0 : Int) < (n : Int)) = false:=dF (by omega)
          obtain rfl : n = 0:=by omega
          simp only [d0,bF,↓reduceIte,List.take_zero,qF,mE] at x1 ⊢
          exact Ev.bind x1 (Ev.of (fun fu=>fin6 x _) (Ev.ret _))
      · simp only [decide_true,Bool.not_true,bF,↓reduceIte]
        refine Ev.bind z2 ?_
        simp only [o1,o2,bF,↓reduceIte,bS,d1,Bool.not_true]
        refine Ev.bind w2 ?_
        simp only [if_pos g,Int.toNat_natCast]
        refine Ev.bind f2 ?_
        simp only [zac]
        exact Ev.bind y1 (Ev.of (fun fu=>fin6 x _) (Ev.ret _))
      · by_cases h : x = true ∧ s.Shadow = qF s.Shadow.Bottom ((eC s.Merge.Runs).take n)
        · rw [if_pos h]; exact .inl ⟨rfl,hg,n,hle,full (x2.1 h.1) h.2⟩
        · rw [if_neg h]; exact .inr (by decide)
      · obtain rfl:=only n' hn' e
        rw [if_pos]
        exact ⟨x2.2 (congrArg mB.Out e),congrArg mB.Shadow e⟩
    · have d1 : decide (s.Steps = (n : Int)) = false:=dF hst
      refine ⟨7,Ev.bind c1 ?_,Ev.bind c2 ?_,.inr (by decide),fun hg' n' hn' e=>?_⟩
      · simp only [decide_true,Bool.not_true,bF,↓reduceIte]
        refine Ev.bind z1 ?_
        simp only [o1,o2,bF,↓reduceIte,bS,d1,Bool.not_false]
        exact Ev.ret _
      · simp only [decide_true,Bool.not_true,bF,↓reduceIte]
        refine Ev.bind z2 ?_
        simp only [o1,o2,bF,↓reduceIte,bS,d1,Bool.not_false]
        exact Ev.ret _
      · exfalso
        have h1 : s.Steps = (n' : Int):=congrArg mB.Steps e
        have h2 : s.Merge = mC s.Merge.Runs (kC s.Merge.Runs n'):=congrArg mB.Merge e
        have h3 : tB a = tB (kC s.Merge.Runs n'):=by rw [← hAt]; exact congrArg iB.At h2
        have h4 : a = kC s.Merge.Runs n':=(List.map_inj_right (fun x y h=>by have h : (x : Int) = (y : Int):=h; omega)).1 h3
        have h5:=zbW s.Merge.Runs hg' n' hn'
        rw [← h4,hn] at h5
        exact hst (by rw [h1,h5])
  · refine ⟨c.2,Ev.bind c1 ?_,Ev.bind c2 ?_,.inr hc,fun hg n hn e=>absurd (congrArg Prod.snd (c4 _ (toOk hg n hn e))) hc⟩
    · simp only [dF hc,Bool.not_false,↓reduceIte]; exact Ev.ret _
    · simp only [dF hc,Bool.not_false,↓reduceIte]; exact Ev.ret _
theorem zd1 (runs : List (List aA)) (a : List Nat) (hn : yN runs) (hg : dD runs) (h : eO runs a) : Ev (fun fu=>bL fu (mC runs a)) (0,0):=by
  have hl:=zaF runs a h.at'
  have:=hn.1
  obtain ⟨r,-,r1,-,r4⟩:=zaw (mC runs a) ⟨hn,by rw [hl.1]; omega,by rw [hl.2.2.1]; omega,by rw [hl.2.2.2]; omega⟩
  rw [r4 a (zbB runs a hg h)] at r1
  exact r1
inductive Said (s : mB) (r : Int) : Prop
  | at (e : r = 0) (hg : dD s.Merge.Runs) (n : Nat) (hn : n ≤ iC s.Merge.Runs) (hs : s = yC s.Merge.Runs s.Shadow.Bottom n)
  | no (h : r ≠ 0)
theorem znX (runs : List (List aA)) (b : Bool) (n : Nat) (hs : kL runs) (hg : dD runs) (hn : n ≤ iC runs) : Ev (fun fu=>eP fu (yC runs b n)) 0 ∧ Ev (fun fu=>tV fu (yC runs b n)) 0:=by
  obtain ⟨r,r1,r2,-,r4⟩:=zkC (yC runs b n) (fZ runs b n hs hg hn)
  have:=r4 hg n hn rfl
  subst this
  exact ⟨r1,r2⟩
theorem mW (runs : List (List aA)) (b : Bool) (n : Nat) (hs : kL runs) (hg : dD runs) (hn : n ≤ iC runs) : Ev (fun fu=>kM fu (yC runs b n)) (((iC runs - n : Nat) : Int),0) ∧ Ev (fun fu=>bT fu (yC runs b n)) (((iC runs - n : Nat) : Int),0):=by
  obtain ⟨c1,c2⟩:=znX runs b n hs hg hn
  have p:=dO runs hg n hn
  have l1:=zf5 runs _ hg p.rch.at' (zb8 runs _ hs.near hg p.rch)
  have l2:=zmS runs _ hg p.rch.at' (zd1 runs _ hs.near hg p.rch)
  rw [p.left] at l1 l2
  constructor
  · unfold kM
    refine Ev.bind c1 ?_
    simp only [decide_true,Bool.not_true,bF,↓reduceIte]
    exact Ev.bind l1 (Ev.ret _)
  · unfold bT
    refine Ev.bind c2 ?_
    simp only [decide_true,Bool.not_true,bF,↓reduceIte]
    exact Ev.bind l2 (Ev.ret _)
theorem zcz (runs : List (List aA)) (b : Bool) (n : Nat) (h : n ≤ iC runs) : (yI b ((eC runs).take n)).length ≤ n:=by
  have:=zaG b ((eC runs).take n) false []
  have h3 : ((eC runs).take n).length ≤ n:=by simp; omega
  exact Nat.le_trans this h3
theorem zfu (runs : List (List aA)) (i : Nat) (hs : kL runs) (hg : dD runs) (h : i < iC runs) (h2 : i < (eC runs).length) : Ev (fun fu => dP fu (mC runs (kC runs i))) ((eC runs)[i], (wn runs (kC runs i) : Int), mC runs (kC runs (i + 1)), 0) ∧
    Ev (fun fu=>qV fu (mC runs (kC runs i))) ((eC runs)[i],(wn runs (kC runs i) : Int),mC runs (kC runs (i + 1)),0):=by
  have p:=dO runs hg i (by omega)
  have c:=vY runs hg i h
  have e:=zbu runs _ c.hw c.hwa c.hq
  have n1:=zlk runs _ hg p.rch.at' (zb8 runs _ hs.near hg p.rch)
  have n2:=zgD runs _ hg p.rch.at' (zd1 runs _ hs.near hg p.rch)
  rw [e,← zar runs i h c h2,← wX] at n1 n2
  exact ⟨n1,n2⟩
theorem zbR (runs : List (List aA)) (i : Nat) (h2 : i < (eC runs).length) : (eC runs).take (i + 1) = (eC runs).take i++[(eC runs)[i]]:=(List.take_append_getElem h2).symm
theorem zow (runs : List (List aA)) (b : Bool) (i : Nat) (h2 : i < (eC runs).length) : qF b ((eC runs).take (i + 1)) = ⟨true,(eC runs)[i].Key,b⟩:=by
  rw [zbR runs i h2]
  simp only [qF,zdR,mE]
theorem zfW (runs : List (List aA)) (b : Bool) (i : Nat) (h2 : i < (eC runs).length) : yI b ((eC runs).take (i + 1)) = yI b ((eC runs).take i)++(if jO b (qF b ((eC runs).take i)).Some (qF b ((eC runs).take i)).Last (eC runs)[i] then [(eC runs)[i]] else []):=by
  rw [zbR runs i h2]
  simp only [yI,zcY,pH,qF]
  rfl
theorem zmO (runs : List (List aA)) (b : Bool) (i : Nat) (hg : dD runs) (h2 : i < (eC runs).length) (fu : Nat) : bN fu (qF b ((eC runs).take i)) (eC runs)[i] = some (jO b (qF b ((eC runs).take i)).Some (qF b ((eC runs).take i)).Last (eC runs)[i],qF b ((eC runs).take (i + 1)),0):=by
  have f:=zb0 runs hg (i + 1)
  rw [zbR runs i h2,zc0] at f
  have ok:=zda _ false [] ⟨by simp,fun _=>rfl⟩ f.1
  rw [zow runs b i h2]
  exact zoQ fu _ _ b _ ok f.2.1 f.2.2.1
def tupSl (s : mB) : List (List aA) × List Int × List eA × List Int × Int × Bool × List UInt8 × Bool × Int × List aA :=
  (s.Merge.Runs,s.Merge.At,s.Merge.Tree.Keys,s.Merge.Tree.Lose,s.Merge.Tree.Win,s.Shadow.Some,s.Shadow.Last,s.Shadow.Bottom,s.Steps,s.Out)
theorem zmu (runs : List (List aA)) (b : Bool) (hs : kL runs) (hg : dD runs) (n U : Nat) (v : Int × Int) (k : Int) (hU : (if v.1 < k then v.1 else k) = (U : Int)) (hn : n + U ≤ iC runs) (m : Nat) : ∀ i, i + m = U →
    Ev (fun fu=>xH v k fu (i : Int) (yC runs b (n + i)).Merge.Runs (yC runs b (n + i)).Merge.At (yC runs b (n + i)).Merge.Tree.Keys (yC runs b (n + i)).Merge.Tree.Lose (yC runs b (n + i)).Merge.Tree.Win (yC runs b (n + i)).Shadow.Some (yC runs b (n + i)).Shadow.Last (yC runs b (n + i)).Shadow.Bottom (yC runs b (n + i)).Steps (yC runs b (n + i)).Out) (.inl (tupSl (yC runs b (n + U)))):=by
  have h120:=hs.few hg
  induction m with
  | zero =>
    intro i hi
    obtain rfl : i = U:=by omega
    have d : decide ((i : Int) < (i : Int)) = false:=dF (by omega)
    refine Ev.succ ?_
    simp only [xH,hU,d,bF,↓reduceIte]
    exact Ev.ret _
  | succ m ih =>
    intro i hi
    have d : decide ((i : Int) < (U : Int)) = true:=dT (by omega)
    have hl : n + i < (eC runs).length:=by rw [cV]; omega
    have nx:=(zfu runs (n + i) hs hg (by omega) hl).1
    have hrec:=ih (i + 1) (by omega)
    refine Ev.succ ?_
    simp only [xH,hU,d,↓reduceIte]
    refine Ev.bind (a:=((eC runs)[n + i],(wn runs (kC runs (n + i)) : Int),mC runs (kC runs (n + i + 1)),0)) nx ?_
    simp only [decide_true,Bool.not_true,bF,↓reduceIte]
    have sh : ∀ fu,bN fu ⟨(yC runs b (n + i)).Shadow.Some,(yC runs b (n + i)).Shadow.Last,(yC runs b (n + i)).Shadow.Bottom⟩ (eC runs)[n + i] = _:=zmO runs b (n + i) hg hl
    have hk:=zcz runs b (n + i) (by omega)
    have g : 2 * (((yC runs b (n + i)).Out.length + 1) * 48) ≤ 281474976710656:=by show 2 * (((yI b ((eC runs).take (n + i))).length + 1) * 48) ≤ 281474976710656; omega
    have w1 : IntKind.i64.wrap ((yC runs b (n + i)).Steps + 1) = (yC runs b (n + (i + 1))).Steps:=sC (n + i) (by omega)
    have ko : (yC runs b (n + (i + 1))).Out = _:=zfW runs b (n + i) hl
    simp only [sh,bS,decide_true,Bool.not_true,bF,↓reduceIte,if_pos g,sC i (show i < 9223372036854775807 by omega),w1]
    rw [ko] at hrec
    cases hkp : jO b (qF b ((eC runs).take (n + i))).Some (qF b ((eC runs).take (n + i))).Last (eC runs)[n + i] with
    | true=>rw [hkp] at hrec; exact hrec
    | false =>
      rw [hkp] at hrec
      simp only [bF,↓reduceIte,List.append_nil] at hrec
      exact hrec
theorem zkN (runs : List (List aA)) (hs : kL runs) (hg : dD runs) (n U : Nat) (v : Int × Int) (k : Int) (hU : (if v.1 < k then v.1 else k) = (U : Int)) (hn : n + U ≤ iC runs) (m : Nat) : ∀ i, i + m = U →
    Ev (fun fu=>gO v k fu (i : Int) (mC runs (kC runs (n + i))).Runs (mC runs (kC runs (n + i))).At (mC runs (kC runs (n + i))).Tree.Keys (mC runs (kC runs (n + i))).Tree.Lose (mC runs (kC runs (n + i))).Tree.Win)
      ((mC runs (kC runs (n + U))).Runs,(mC runs (kC runs (n + U))).At,(mC runs (kC runs (n + U))).Tree.Keys,(mC runs (kC runs (n + U))).Tree.Lose,(mC runs (kC runs (n + U))).Tree.Win):=by
  have h120:=hs.few hg
  induction m with
  | zero =>
    intro i hi
    obtain rfl : i = U:=by omega
    have d : decide ((i : Int) < (i : Int)) = false:=dF (by omega)
    refine Ev.succ ?_
    simp only [gO,hU,d,bF,↓reduceIte]
    exact Ev.ret _
  | succ m ih =>
    intro i hi
    have d : decide ((i : Int) < (U : Int)) = true:=dT (by omega)
    have hl : n + i < (eC runs).length:=by rw [cV]; omega
    have nx:=(zfu runs (n + i) hs hg (by omega) hl).2
    have hrec:=ih (i + 1) (by omega)
    refine Ev.succ ?_
    simp only [gO,hU,d,↓reduceIte]
    refine Ev.bind (a:=((eC runs)[n + i],(wn runs (kC runs (n + i)) : Int),mC runs (kC runs (n + i + 1)),0)) nx ?_
    simp only [sC i (show i < 9223372036854775807 by omega)]
    exact hrec
def used (runs : List (List aA)) (n : Nat) (k : Nat) : Nat:=min k (iC runs - n)
theorem zfL (runs : List (List aA)) (b : Bool) (n : Nat) (hs : kL runs) (hg : dD runs) (hn : n ≤ iC runs) : Ev (fun fu=>nQ fu (yC runs b n)) (n : Int):=by
  have p:=dO runs hg n hn
  have hal : (kC runs n).length ≤ 34:=by rw [p.rch.at'.1]; exact hs.near.1
  have h120:=hs.few hg
  have e:=zbW runs hg n hn
  have hAt : (yC runs b n).Merge.At = tB (kC runs n):=rfl
  unfold nQ
  have:=zb2 (L:=tJ (yC runs b n)) (kC runs n) (by omega) (by omega) (fun fu c=>by simp [tJ,hAt,zF]) (fun fu c i h=>by
    have d : decide ((i : Int) < ((tB (kC runs n)).length : Int)) = true:=dT (by rw [zF]; omega)
    simp only [tJ,hAt,d,↓reduceIte,cF _ i h,bS,sC i (show i < 9223372036854775807 by omega)])
  rw [e] at this
  exact Ev.bind this (Ev.ret _)
theorem ze2 (runs : List (List aA)) (b : Bool) (n k : Nat) (hs : kL runs) (hg : dD runs) (hn : n ≤ iC runs) :
    Ev (fun fu=>tP fu (yC runs b n) (k : Int)) (yC runs b (n + used runs n k),(used runs n k : Int),0) ∧ Ev (fun fu=>vU fu (yC runs b n) (k : Int)) (yC runs b (n + used runs n k),(used runs n k : Int),0):=by
  obtain ⟨c1,c2⟩:=mW runs b n hs hg hn
  have h120:=hs.few hg
  have p:=dO runs hg n hn
  have hal : (tB (kC runs n)).length ≤ 34:=by rw [zF,p.rch.at'.1]; exact hs.near.1
  have hk:=zcz runs b n hn
  have hu : used runs n k ≤ iC runs - n:=Nat.min_le_right _ _
  have hU : (if ((iC runs - n : Nat) : Int) < (k : Int) then ((iC runs - n : Nat) : Int) else (k : Int)) = (used runs n k : Int):=by
    unfold used; split <;> omega
  have d1 : decide ((k : Int) < 0) = false:=dF (by omega)
  have hSt : (yC runs b n).Steps = (n : Int):=rfl
  have w : IntKind.i64.wrap ((n : Int) + (used runs n k : Int)) = ((n + used runs n k : Nat) : Int):=by rw [wr (by omega) (by omega)]; omega
  have d2 : decide ((20000 : Int) < ((n + used runs n k : Nat) : Int)) = false:=dF (by omega)
  have g1 : 2 * ((yC runs b n).Out.length * 48) ≤ 281474976710656:=by show 2 * ((yI b ((eC runs).take n)).length * 48) ≤ 281474976710656; omega
  have g2 : 2 * ((yC runs b n).Merge.At.length * 8) ≤ 281474976710656:=by show 2 * ((tB (kC runs n)).length * 8) ≤ 281474976710656; omega
  constructor
  · have st:=zmu runs b hs hg n (used runs n k) (((iC runs - n : Nat) : Int),0) (k : Int) hU (by omega) (used runs n k) 0 (by omega)
    unfold tP
    refine Ev.bind c1 ?_
    simp only [decide_true,Bool.not_true,bF,↓reduceIte,d1,hU,hSt,w,d2,if_pos g1,if_pos g2]
    refine Ev.bind st ?_
    exact Ev.ret _
  · have st:=zkN runs hs hg n (used runs n k) (((iC runs - n : Nat) : Int),0) (k : Int) hU (by omega) (used runs n k) 0 (by omega)
    unfold vU
    refine Ev.bind c2 ?_
    simp only [decide_true,Bool.not_true,bF,↓reduceIte,d1,bS]
    refine Ev.bind (zfL runs b n hs hg hn) ?_
    simp only [hU,hSt,w,d2,bF,↓reduceIte]
    refine Ev.bind st ?_
    refine Ev.bind (zck runs hs.near hg).2 ?_
    have g3 : (0 : Int) ≤ ((n + used runs n k : Nat) : Int) ∧ ((n + used runs n k : Nat) : Int) ≤ ((eC runs).length : Int):=by rw [cV]; omega
    simp only [if_pos g3,Int.toNat_natCast]
    have htl : ((eC runs).take (n + used runs n k)).length ≤ 20000:=by simp; omega
    refine Ev.bind (zdU _ b htl (zb0 runs hg _)) ?_
    exact Ev.ret _
theorem zem (a b : mB) (ha : pR a) : ∃ r,Ev (fun fu=>oR fu a b) r ∧ (r = true ↔ a = b):=by
  obtain ⟨m,m1,m2⟩:=zgi a.Merge b.Merge (by have:=ha.merge.at'; omega) (by have:=ha.seen.near.1; omega) (by have:=ha.merge.keys; omega) (by have:=ha.merge.lose; omega) (fun l hl=>by have:=ha.seen.near.2.1 l hl; omega)
  obtain ⟨o,o1,o2⟩:=za8 a.Out b.Out (by have:=ha.out; omega)
  obtain ⟨am,ash,ao,ast⟩:=a
  obtain ⟨bm,bsh,bo,bst⟩:=b
  unfold oR
  simp only [zac] at *
  by_cases h1 : am = bm
  · obtain rfl : m = true:=m2.2 h1
    by_cases h2 : ash = bsh
    · by_cases h3 : ao = bo
      · obtain rfl : o = true:=o2.2 h3
        by_cases h4 : ast = bst
        · exact ⟨true,Ev.bind m1 (Ev.bind (a:=true) (Ev.of (fun fu=>by simp [h2]) (Ev.ret _)) (Ev.bind (a:=true) (Ev.bind o1 (Ev.ret _)) (Ev.bind (a:=true) (Ev.of (fun fu=>by simp [h4]) (Ev.ret _)) (Ev.ret _)))),by simp [h1,h2,h3,h4]⟩
        · exact ⟨false,Ev.bind m1 (Ev.bind (a:=true) (Ev.of (fun fu=>by simp [h2]) (Ev.ret _)) (Ev.bind (a:=true) (Ev.bind o1 (Ev.ret _)) (Ev.bind (a:=false) (Ev.of (fun fu=>by simp [h4]) (Ev.ret _)) (Ev.ret _)))),by simp [h4]⟩
      · obtain rfl : o = false:=by cases o with | false=>rfl | true=>exact absurd (o2.1 rfl) h3
        exact ⟨false,Ev.bind m1 (Ev.bind (a:=true) (Ev.of (fun fu=>by simp [h2]) (Ev.ret _)) (Ev.bind (a:=false) (Ev.bind o1 (Ev.ret _)) (Ev.bind (a:=false) (Ev.of (fun fu=>by simp) (Ev.ret _)) (Ev.ret _)))),by simp [h3]⟩
    · exact ⟨false,Ev.bind m1 (Ev.bind (a:=false) (Ev.of (fun fu=>by simp [h2]) (Ev.ret _)) (Ev.bind (a:=false) (Ev.of (fun fu=>by simp) (Ev.ret _)) (Ev.bind (a:=false) (Ev.of (fun fu=>by simp) (Ev.ret _)) (Ev.ret _)))),by simp [h2]⟩
  · obtain rfl : m = false:=by cases m with | false=>rfl | true=>exact absurd (m2.1 rfl) h1
    exact ⟨false,Ev.bind m1 (Ev.bind (a:=false) (Ev.of (fun fu=>by simp) (Ev.ret _)) (Ev.bind (a:=false) (Ev.of (fun fu=>by simp) (Ev.ret _)) (Ev.bind (a:=false) (Ev.of (fun fu=>by simp) (Ev.ret _)) (Ev.ret _)))),by simp [h1]⟩
theorem zjL (a : mB) (ha : pR a) : Ev (fun fu=>oR fu a a) true:=by
  obtain ⟨r,r1,r2⟩:=zem a a ha
  obtain rfl : r = true:=r2.2 rfl
  exact r1
theorem zoO (runs : List (List aA)) (b : Bool) (hs : kL runs) (hg : dD runs) : Ev (fun fu=>eQ fu runs b) (yC runs b 0,0,0) ∧ Ev (fun fu=>dW fu runs b) (yC runs b 0,0,0):=by
  obtain ⟨a1,a2⟩:=zdr runs hs.near hg
  constructor
  · unfold eQ
    refine Ev.bind a1 ?_
    simp only [decide_true,Bool.not_true,bF,↓reduceIte,sM,bS]
    exact Ev.ret _
  · unfold dW
    refine Ev.bind a2 ?_
    simp only [decide_true,Bool.not_true,bF,↓reduceIte,uR,bS]
    exact Ev.ret _
theorem sK {β : Type} (E : Nat → Sum Unit β → Prop) (len : Nat) (Q : Nat → Prop) (Bad : Nat → β → Prop) (stop : E len (.inl ()))
    (step : ∀ n,n < len → (∃ v,Bad n v ∧ E n (.inr v)) ∨ (Q n ∧ ∀ r,E (n + 1) r → E n r)) :
    ∃ r,E 0 r ∧ ((r = .inl () ∧ ∀ i,i < len → Q i) ∨ ∃ n v,n < len ∧ Bad n v ∧ r = .inr v ∧ ∀ i,i < n → Q i):=by
  have go : ∀ m n,n + m = len → ∃ r,E n r ∧ ((r = .inl () ∧ ∀ i,n ≤ i → i < len → Q i) ∨ ∃ k v,n ≤ k ∧ k < len ∧ Bad k v ∧ r = .inr v ∧ ∀ i,n ≤ i → i < k → Q i):=by
    intro m
    induction m with
    | zero =>
      intro n hn
      obtain rfl : n = len:=by omega
      exact ⟨_,stop,.inl ⟨rfl,fun i h1 h2=>by omega⟩⟩
    | succ m ih =>
      intro n hn
      rcases step n (by omega) with ⟨v,hb,he⟩ | ⟨hq,hs⟩
      · exact ⟨_,he,.inr ⟨n,v,Nat.le_refl _,by omega,hb,rfl,fun i h1 h2=>by omega⟩⟩
      · obtain ⟨r,r1,r2⟩:=ih (n + 1) (by omega)
        refine ⟨r,hs r r1,?_⟩
        rcases r2 with ⟨e,h⟩ | ⟨k,v,h1,h2,h3,h4,h5⟩
        · refine .inl ⟨e,fun i h1 h2=>?_⟩
          by_cases e : i = n
          · rw [e]; exact hq
          · exact h i (by omega) h2
        · refine .inr ⟨k,v,by omega,h2,h3,h4,fun i q1 q2=>?_⟩
          by_cases e : i = n
          · rw [e]; exact hq
          · exact h5 i (by omega) q2
  obtain ⟨r,r1,r2⟩:=go len 0 (by omega)
  refine ⟨r,r1,?_⟩
  rcases r2 with ⟨e,h⟩ | ⟨k,v,h1,h2,h3,h4,h5⟩
  · exact .inl ⟨e,fun i h2=>h i (by omega) h2⟩
  · exact .inr ⟨k,v,h2,h3,h4,fun i q=>h5 i (by omega) q⟩
def fT (l : List aA) : Prop:=l.length ≤ 30 ∧ ∀ e ∈ l,e.Key.length ≤ 100
theorem zoq (l : List aA) : ∃ b,Ev (fun fu=>nX fu l) b ∧ (b = false → fT l):=by
  obtain ⟨r,r1,r2⟩:=sK (β:=Bool) (fun n r=>Ev (fun fu=>nK l fu (n : Int)) r) (min l.length 40) (fun i=>∀ h : i < l.length,l[i].Key.length ≤ 100) (fun _ v=>v = true)
    (by
      refine Ev.succ (Ev.of (fun fu=>?_) (Ev.ret _))
      by_cases h : l.length ≤ 40
      · rw [Nat.min_eq_left h]; simp [nK]
      · rw [Nat.min_eq_right (by omega)]; simp [nK])
    (fun n hn=>by
      have hl : n < l.length:=Nat.lt_of_lt_of_le hn (Nat.min_le_left _ _)
      have h40 : n < 40:=Nat.lt_of_lt_of_le hn (Nat.min_le_right _ _)
      have d1 : decide ((n : Int) < (l.length : Int)) = true:=dT (by omega)
      have d2 : decide ((n : Int) < 40) = true:=dT (by omega)
      have c1 : decide ((100 : Int) < (l[n].Key.length : Int)) = decide (100 < l[n].Key.length):=decide_eq_decide.2 (by omega)
      have c2 : decide ((100 : Int) < (l[n].Val.length : Int)) = decide (100 < l[n].Val.length):=decide_eq_decide.2 (by omega)
      by_cases hk : 100 < l[n].Key.length
      · exact .inl ⟨true,rfl,Ev.succ (Ev.of (fun fu=>by simp only [nK,d1,d2,aB l n hl,c1,dT hk,↓reduceIte,bS]) (Ev.ret _))⟩
      · by_cases hv : 100 < l[n].Val.length
        · exact .inl ⟨true,rfl,Ev.succ (Ev.of (fun fu=>by simp only [nK,d1,d2,aB l n hl,c1,c2,dF hk,dT hv,bF,↓reduceIte,bS]) (Ev.ret _))⟩
        · refine .inr ⟨fun _=>by omega,fun r hr=>Ev.succ (Ev.of (fun fu=>?_) hr)⟩
          simp only [nK,d1,d2,↓reduceIte,bS,aB l n hl,c1,c2,dF hk,dF hv,bF,sC n (show n < 9223372036854775807 by omega)])
  unfold nX
  rcases r2 with ⟨rfl,h⟩ | ⟨n,v,-,rfl,rfl,-⟩
  · refine ⟨_,Ev.bind r1 (Ev.ret _),fun hb=>?_⟩
    have hl : l.length ≤ 30:=by have:=of_decide_eq_false hb; omega
    refine ⟨hl,fun e he=>?_⟩
    obtain ⟨i,hi,rfl⟩:=List.mem_iff_getElem.1 he
    exact h i (by omega) hi
  · exact ⟨true,Ev.bind r1 (Ev.ret _),by simp⟩
theorem zf0 (l : List gB) : ∃ b,Ev (fun fu=>kX fu l) b ∧ (b = false → l.length ≤ 6 ∧ ∀ r ∈ l,fT r.Entries):=by
  obtain ⟨r,r1,r2⟩:=sK (β:=Bool) (fun n r=>Ev (fun fu=>tK l fu (n : Int)) r) (min l.length 10) (fun i=>∀ h : i < l.length,fT l[i].Entries) (fun _ v=>v = true)
    (by
      refine Ev.succ (Ev.of (fun fu=>?_) (Ev.ret _))
      by_cases h : l.length ≤ 10
      · rw [Nat.min_eq_left h]; simp [tK]
      · rw [Nat.min_eq_right (by omega)]; simp [tK])
    (fun n hn=>by
      have hl : n < l.length:=Nat.lt_of_lt_of_le hn (Nat.min_le_left _ _)
      have h40 : n < 10:=Nat.lt_of_lt_of_le hn (Nat.min_le_right _ _)
      have d1 : decide ((n : Int) < (l.length : Int)) = true:=dT (by omega)
      have d2 : decide ((n : Int) < 10) = true:=dT (by omega)
      obtain ⟨b,b1,b2⟩:=zoq l[n].Entries
      cases b with
      | true =>
        refine .inl ⟨true,rfl,Ev.succ ?_⟩
        simp only [tK,d1,d2,↓reduceIte,bS,aB l n hl]
        exact Ev.bind b1 (Ev.ret _)
      | false =>
        refine .inr ⟨fun _=>b2 rfl,fun r hr=>Ev.succ ?_⟩
        simp only [tK,d1,d2,↓reduceIte,bS,aB l n hl,sC n (show n < 9223372036854775807 by omega)]
        exact Ev.bind b1 hr)
  unfold kX
  rcases r2 with ⟨rfl,h⟩ | ⟨n,v,-,rfl,rfl,-⟩
  · refine ⟨_,Ev.bind r1 (Ev.ret _),fun hb=>?_⟩
    have hl : l.length ≤ 6:=by have:=of_decide_eq_false hb; omega
    refine ⟨hl,fun e he=>?_⟩
    obtain ⟨i,hi,rfl⟩:=List.mem_iff_getElem.1 he
    exact h i (by omega) hi
  · exact ⟨true,Ev.bind r1 (Ev.ret _),by simp⟩
def wG (l : eB) : Prop:=l.Levels.length ≤ 14 ∧ ∀ x ∈ l.Levels,x.Runs.length ≤ 6 ∧ ∀ r ∈ x.Runs,fT r.Entries
theorem zoD (l : eB) : ∃ b,Ev (fun fu=>cU fu l) b ∧ (b = false → wG l):=by
  obtain ⟨r,r1,r2⟩:=sK (β:=Bool) (fun n r=>Ev (fun fu=>zK l fu (n : Int)) r) (min l.Levels.length 20) (fun i=>∀ h : i < l.Levels.length,l.Levels[i].Runs.length ≤ 6 ∧ ∀ r ∈ l.Levels[i].Runs,fT r.Entries) (fun _ v=>v = true)
    (by
      refine Ev.succ (Ev.of (fun fu=>?_) (Ev.ret _))
      by_cases h : l.Levels.length ≤ 20
      · rw [Nat.min_eq_left h]; simp [zK]
      · rw [Nat.min_eq_right (by omega)]; simp [zK])
    (fun n hn=>by
      have hl : n < l.Levels.length:=Nat.lt_of_lt_of_le hn (Nat.min_le_left _ _)
      have h40 : n < 20:=Nat.lt_of_lt_of_le hn (Nat.min_le_right _ _)
      have d1 : decide ((n : Int) < (l.Levels.length : Int)) = true:=dT (by omega)
      have d2 : decide ((n : Int) < 20) = true:=dT (by omega)
      obtain ⟨b,b1,b2⟩:=zf0 l.Levels[n].Runs
      cases b with
      | true =>
        refine .inl ⟨true,rfl,Ev.succ ?_⟩
        simp only [zK,d1,d2,↓reduceIte,bS,aB l.Levels n hl]
        exact Ev.bind b1 (Ev.ret _)
      | false =>
        refine .inr ⟨fun _=>b2 rfl,fun r hr=>Ev.succ ?_⟩
        simp only [zK,d1,d2,↓reduceIte,bS,aB l.Levels n hl,sC n (show n < 9223372036854775807 by omega)]
        exact Ev.bind b1 hr)
  unfold cU
  rcases r2 with ⟨rfl,h⟩ | ⟨n,v,-,rfl,rfl,-⟩
  · refine ⟨_,Ev.bind r1 (Ev.ret _),fun hb=>?_⟩
    have hl : l.Levels.length ≤ 14:=by have:=of_decide_eq_false hb; omega
    refine ⟨hl,fun e he=>?_⟩
    obtain ⟨i,hi,rfl⟩:=List.mem_iff_getElem.1 he
    exact h i (by omega) hi
  · exact ⟨true,Ev.bind r1 (Ev.ret _),by simp⟩
theorem ziq (b n : Nat) (hb : b ≤ 16) (hn : n ≤ 12) : Ev (fun fu=>rX fu (b : Int) (n : Int)) ((b * 2 ^ n : Nat) : Int):=by
  have go : ∀ (m i c : Nat),i + m = n → c ≤ 16 * 2 ^ i → Ev (fun fu=>oN (n : Int) fu (c : Int) (i : Int)) ((c * 2 ^ m : Nat) : Int):=by
    intro m
    induction m with
    | zero =>
      intro i c hi _
      obtain rfl : i = n:=by omega
      exact Ev.succ (Ev.of (fun fu=>by simp [oN]) (Ev.ret _))
    | succ m ih =>
      intro i c hi hc
      have d1 : decide ((i : Int) < (n : Int)) = true:=dT (by omega)
      have hp : 2 ^ i ≤ 2 ^ 12:=Nat.pow_le_pow_right (by decide) (by omega)
      have w1 : IntKind.i64.wrap (2 * (c : Int)) = ((2 * c : Nat) : Int):=by rw [wr (by omega) (by omega)]; omega
      have:=ih (i + 1) (2 * c) (by omega) (by rw [Nat.pow_succ]; omega)
      rw [show 2 * c * 2 ^ m = c * 2 ^ (m + 1) by rw [Nat.pow_succ,Nat.mul_comm 2 c,Nat.mul_assoc,Nat.mul_comm 2]] at this
      refine Ev.succ (Ev.of (fun fu=>?_) this)
      simp only [oN,d1,↓reduceIte,w1,sC i (show i < 9223372036854775807 by omega)]
  unfold rX
  exact Ev.bind (go n 0 b (by omega) (by simpa using hb)) (Ev.ret _)
def gZ (r : gB) : Prop:=oP r.Entries ∧ 1 ≤ r.Id ∧ r.Id ≤ 1000000
theorem ids_l1 (ids : List Int) (r : gB) (hl : ids.length ≤ 1000) : ∃ x,Ev (fun fu=>xK ids r fu 0) x ∧ ((x = .inl () ∧ r.Id ∉ ids) ∨ (x = .inr 8 ∧ r.Id ∈ ids)):=by
  obtain ⟨x,x1,x2⟩:=sK (β:=Int) (fun n x=>Ev (fun fu=>xK ids r fu (n : Int)) x) ids.length (fun i=>∀ h : i < ids.length,ids[i] ≠ r.Id) (fun i v=>v = 8 ∧ ∃ h : i < ids.length,ids[i] = r.Id)
    (Ev.succ (Ev.of (fun fu=>by simp [xK]) (Ev.ret _)))
    (fun n hn=>by
      have d1 : decide ((n : Int) < (ids.length : Int)) = true:=dT (by omega)
      by_cases e : ids[n] = r.Id
      · exact .inl ⟨8,⟨rfl,hn,e⟩,Ev.succ (Ev.of (fun fu=>by simp [xK,hn,aB ids n hn,e]) (Ev.ret _))⟩
      · refine .inr ⟨fun _=>e,fun x hx=>Ev.succ (Ev.of (fun fu=>?_) hx)⟩
        simp only [xK,d1,↓reduceIte,aB ids n hn,bS,dF e,bF,sC n (show n < 9223372036854775807 by omega)])
  refine ⟨x,x1,?_⟩
  rcases x2 with ⟨rfl,h⟩ | ⟨n,v,-,⟨rfl,hn,e⟩,rfl,-⟩
  · refine .inl ⟨rfl,fun hm=>?_⟩
    obtain ⟨i,hi,e⟩:=List.mem_iff_getElem.1 hm
    exact h i hi hi e
  · exact .inr ⟨rfl,e ▸ List.getElem_mem hn⟩
theorem zo2 (r : gB) (hr : fT r.Entries) (most : Int) : ∃ c, Ev (fun fu => fR fu r most) c ∧
    (∀ ids : List Int,ids.length ≤ 1000 → Ev (fun fu=>fX fu r most ids) (if c = 0 then (if r.Id ∈ ids then 8 else 0) else c)) ∧ (c = 0 → gZ r):=by
  obtain ⟨q,q1,q2,q3⟩:=zcJ r.Entries (fun e he=>by have:=hr.2 e he; omega)
  unfold fR fX oS rZ
  by_cases h1 : r.Id < 1
  · have d1 : decide (r.Id < 1) = true:=dT h1
    refine ⟨7,Ev.of (fun fu=>by simp [d1]) (Ev.ret _),fun ids _=>Ev.of (fun fu=>by simp [d1]) (Ev.ret _),by simp⟩
  · by_cases h2 : 1000000 < r.Id
    · refine ⟨7,Ev.of (fun fu=>by simp [h1,h2]) (Ev.ret _),fun ids _=>Ev.of (fun fu=>by simp [h1,h2]) (Ev.ret _),by simp⟩
    · simp only [dF h1,dF h2,bF,↓reduceIte,bS,Option.bind_assoc]
      by_cases h3 : q.2 = 0
      · by_cases h4 : (r.Entries.length : Int) = 0
        · refine ⟨4,Ev.bind q1 (Ev.of (fun fu=>by simp [h3,h4]) (Ev.ret _)),fun ids _=>Ev.bind q2 (Ev.of (fun fu=>by simp [h3,h4]) (Ev.ret _)),by simp⟩
        · by_cases h5 : most < (r.Entries.length : Int)
          · refine ⟨3,Ev.bind q1 (Ev.of (fun fu=>by simp only [h3,h4,h5,decide_true,decide_false,Bool.not_true,bF,↓reduceIte]) (Ev.ret _)),fun ids _=>Ev.bind q2 (Ev.of (fun fu=>by simp only [h3,h4,h5,decide_true,decide_false,Bool.not_true,bF,↓reduceIte]; rfl) (Ev.ret _)),by simp⟩
          · refine ⟨0,Ev.bind q1 (Ev.of (fun fu=>by simp only [h3,h4,h5,decide_true,decide_false,Bool.not_true,bF,↓reduceIte]) (Ev.ret _)),fun ids hi=>Ev.bind q2 ?_,fun _=>⟨q3 h3,by omega,by omega⟩⟩
            simp only [h3,h4,h5,decide_true,decide_false,Bool.not_true,bF,↓reduceIte]
            obtain ⟨x,x1,x2⟩:=ids_l1 ids r hi
            rcases x2 with ⟨rfl,hx⟩ | ⟨rfl,hx⟩
            · rw [if_neg hx]; exact Ev.bind x1 (Ev.ret _)
            · rw [if_pos hx]; exact Ev.bind x1 (Ev.ret _)
      · refine ⟨q.2,Ev.bind q1 (Ev.of (fun fu=>by simp only [dF h3,Bool.not_false,↓reduceIte]) (Ev.ret _)),fun ids _=>Ev.bind q2 (Ev.of (fun fu=>by simp only [dF h3,Bool.not_false,↓reduceIte]; rw [if_neg h3]) (Ev.ret _)),fun h=>absurd h h3⟩
def Inv (mp : List (Int × Bool)) (ids : List Int) : Prop:=∀ x,yE mp x = if x ∈ ids then some true else none
theorem zfF {α : Type} (mp : List (Int × α)) (n x : Int) (y : α) : yE (jF mp n y) x = if x = n then some y else yE mp x:=by
  induction mp with
  | nil=>simp only [jF,yE]
  | cons e mp ih =>
    obtain ⟨k,v⟩:=e
    simp only [jF]
    by_cases h : n = k
    · rw [if_pos h]; subst h
      simp only [yE]
      by_cases h2 : x = n <;> simp [h2]
    · rw [if_neg h]
      simp only [yE,ih]
      by_cases h2 : x = k
      · rw [if_pos h2,if_pos h2]
        rw [if_neg (by omega)]
      · rw [if_neg h2,if_neg h2]
theorem Inv.add {mp : List (Int × Bool)} {ids : List Int} (h : Inv mp ids) (n : Int) : Inv (jF mp n true) (ids++[n]):=by
  intro x
  rw [zfF,h x]
  by_cases e : x = n
  · simp [e]
  · by_cases e2 : x ∈ ids <;> simp [e,e2]
theorem zhg (l : eB) (x : qA) (i B : Nat) (hi : i < 12) (hB : l.B = (B : Int)) (hB2 : B ≤ 16) (hs : ∀ r ∈ x.Runs, fT r.Entries) (hlen : x.Runs.length ≤ 6) (m : Nat) : ∀ (k : Nat) (mp : List (Int × Bool)) (ids : List Int) (run : Int), k + m = x.Runs.length → Inv mp ids → ids.length + m ≤ 200 →
    (∃ mp' ids' run',Ev (fun fu=>yF x (i : Int) l fu 0 (k : Int) mp run) (.inl (run',0,mp')) ∧ Ev (fun fu=>tI x l (i : Int) fu (k : Int) ids) (.inl ids') ∧ Inv mp' ids' ∧ ids'.length ≤ ids.length + m ∧ ∀ j,k ≤ j → ∀ h : j < x.Runs.length,gZ x.Runs[j]) ∨
    (∃ (k' c : Int) (mp' : List (Int × Bool)),c ≠ 0 ∧ Ev (fun fu=>yF x (i : Int) l fu 0 (k : Int) mp run) (.inr (k',c,mp')) ∧ Ev (fun fu=>tI x l (i : Int) fu (k : Int) ids) (.inr ((i : Int),k',c))):=by
  induction m with
  | zero =>
    intro k mp ids run hk hinv hl
    obtain rfl : k = x.Runs.length:=by omega
    exact .inl ⟨mp,ids,run,Ev.succ (Ev.of (fun fu=>by simp [yF]) (Ev.ret _)),Ev.succ (Ev.of (fun fu=>by simp [tI]) (Ev.ret _)),hinv,Nat.le_refl _,fun j h1 h2=>by omega⟩
  | succ m ih =>
    intro k mp ids run hk hinv hl
    have hkl : k < x.Runs.length:=by omega
    have d1 : decide ((k : Int) < (x.Runs.length : Int)) = true:=dT (by omega)
    have hp : 2 ^ i ≤ 2 ^ 12:=Nat.pow_le_pow_right (by decide) (by omega)
    have hm : B * 2 ^ i ≤ 16 * 2 ^ 12:=Nat.mul_le_mul hB2 hp
    have hw : IntKind.i64.wrap (l.B * 2 ^ (min (i : Int).toNat (IntKind.bits .i64))) = ((B * 2 ^ i : Nat) : Int):=by
      have e : min (i : Int).toNat (IntKind.bits .i64) = i:=by
        have : IntKind.bits .i64 = 64:=rfl
        rw [this]; omega
      have e2 : l.B * 2 ^ i = ((B * 2 ^ i : Nat) : Int):=by rw [hB]; simp
      rw [e,e2,wr (by omega) (by omega)]
    have h0 : (0 : Int) ≤ (i : Int):=by omega
    obtain ⟨c,c1,c2,c3⟩:=zo2 x.Runs[k] (hs _ (List.getElem_mem hkl)) ((B * 2 ^ i : Nat) : Int)
    have c2:=c2 ids (by omega)
    have sz:=ziq B i hB2 (by omega)
    rw [← hB] at sz
    have g : 2 * ((ids.length + 1) * 8) ≤ 281474976710656:=by omega
    by_cases hc : c = 0
    · subst hc
      rw [if_pos rfl] at c2
      by_cases hin : x.Runs[k].Id ∈ ids
      · rw [if_pos hin] at c2
        have hg : yE mp x.Runs[k].Id = some true:=by rw [hinv,if_pos hin]
        refine .inr ⟨(k : Int),8,mp,by decide,Ev.succ ?_,Ev.succ ?_⟩
        · simp only [yF,d1,↓reduceIte,aB x.Runs k hkl,bS,if_pos h0,hw]
          refine Ev.bind c1 ?_
          simp only [decide_true,↓reduceIte,hg,Option.getD_some]
          exact Ev.ret _
        · simp only [tI,d1,↓reduceIte,aB x.Runs k hkl,bS]
          refine Ev.bind sz (Ev.bind c2 ?_)
          exact Ev.ret _
      · rw [if_neg hin] at c2
        have hg : yE mp x.Runs[k].Id = none:=by rw [hinv,if_neg hin]
        have rec':=ih (k + 1) (jF mp x.Runs[k].Id true) (ids++[x.Runs[k].Id]) (k : Int) (by omega) (hinv.add _) (by simp; omega)
        have s1 : ∀ r,Ev (fun fu=>yF x (i : Int) l fu 0 ((k + 1 : Nat) : Int) (jF mp x.Runs[k].Id true) (k : Int)) r → Ev (fun fu=>yF x (i : Int) l fu 0 (k : Int) mp run) r:=fun r hr=>by
          refine Ev.succ ?_
          simp only [yF,d1,↓reduceIte,aB x.Runs k hkl,bS,if_pos h0,hw]
          refine Ev.bind c1 ?_
          simp only [decide_true,↓reduceIte,hg,Option.getD_none,bF,Bool.not_true,sC k (show k < 9223372036854775807 by omega)]
          exact hr
        have s2 : ∀ r,Ev (fun fu=>tI x l (i : Int) fu ((k + 1 : Nat) : Int) (ids++[x.Runs[k].Id])) r → Ev (fun fu=>tI x l (i : Int) fu (k : Int) ids) r:=fun r hr=>by
          refine Ev.succ ?_
          simp only [tI,d1,↓reduceIte,aB x.Runs k hkl,bS]
          refine Ev.bind sz (Ev.bind c2 ?_)
          simp only [decide_true,Bool.not_true,bF,↓reduceIte,if_pos g,sC k (show k < 9223372036854775807 by omega)]
          exact hr
        rcases rec' with ⟨mp',ids',run',q1,q2,q3,q4,q5⟩ | ⟨k',c,mp',q0,q1,q2⟩
        · refine .inl ⟨mp',ids',run',s1 _ q1,s2 _ q2,q3,by simp at q4; omega,fun j h1 h2=>?_⟩
          by_cases e : j = k
          · subst e; exact c3 rfl
          · exact q5 j (by omega) h2
        · exact .inr ⟨k',c,mp',q0,s1 _ q1,s2 _ q2⟩
    · rw [if_neg hc] at c2
      refine .inr ⟨(k : Int),c,mp,hc,Ev.succ ?_,Ev.succ ?_⟩
      · simp only [yF,d1,↓reduceIte,aB x.Runs k hkl,bS,if_pos h0,hw]
        refine Ev.bind c1 ?_
        simp only [dF hc,bF,↓reduceIte,Bool.not_false]
        exact Ev.ret _
      · simp only [tI,d1,↓reduceIte,aB x.Runs k hkl,bS]
        refine Ev.bind sz (Ev.bind c2 ?_)
        simp only [dF hc,Bool.not_false,↓reduceIte]
        exact Ev.ret _
theorem zgQ (l : eB) (B : Nat) (hB : l.B = (B : Int)) (hB2 : B ≤ 16) (hs : wG l) (h12 : l.Levels.length ≤ 12) (m : Nat) : ∀ (i : Nat) (mp : List (Int × Bool)) (ids : List Int) (run level : Int), i + m = l.Levels.length → Inv mp ids → ids.length + 6 * m ≤ 150 →
    (∃ mp' ids' run' level',Ev (fun fu=>cG l fu run 0 (i : Int) mp level) (level',run',0,mp') ∧ Ev (fun fu=>hI l fu (i : Int) ids) (.inl ids') ∧ ∀ j,i ≤ j → ∀ h : j < l.Levels.length,l.Levels[j].Runs.length ≤ 2 ∧ ∀ r ∈ l.Levels[j].Runs,gZ r) ∨
    (∃ (i' k' c : Int) (mp' : List (Int × Bool)),c ≠ 0 ∧ Ev (fun fu=>cG l fu run 0 (i : Int) mp level) (i',k',c,mp') ∧ Ev (fun fu=>hI l fu (i : Int) ids) (.inr (i',k',c))):=by
  induction m with
  | zero =>
    intro i mp ids run level hi hinv hl
    obtain rfl : i = l.Levels.length:=by omega
    exact .inl ⟨mp,ids,run,level,Ev.succ (Ev.of (fun fu=>by simp [cG]) (Ev.ret _)),Ev.succ (Ev.of (fun fu=>by simp [hI]) (Ev.ret _)),fun j h1 h2=>by omega⟩
  | succ m ih =>
    intro i mp ids run level hi hinv hl
    have hil : i < l.Levels.length:=by omega
    have d1 : decide ((i : Int) < (l.Levels.length : Int)) = true:=dT (by omega)
    have hx:=hs.2 _ (List.getElem_mem hil)
    by_cases h2 : 2 < l.Levels[i].Runs.length
    · have d2 : decide ((2 : Int) < (l.Levels[i].Runs.length : Int)) = true:=dT (by omega)
      refine .inr ⟨(i : Int),0,3,mp,by decide,Ev.succ ?_,Ev.succ ?_⟩
      · simp only [cG,d1,↓reduceIte,aB l.Levels i hil,bS,d2]
        exact Ev.ret _
      · simp only [hI,d1,↓reduceIte,aB l.Levels i hil,bS,d2]
        exact Ev.ret _
    · have d2 : decide ((2 : Int) < (l.Levels[i].Runs.length : Int)) = false:=dF (by omega)
      rcases zhg l l.Levels[i] i B (by omega) hB hB2 hx.2 hx.1 l.Levels[i].Runs.length 0 mp ids 0 (by omega) hinv (by omega) with ⟨mp',ids',run',q1,q2,q3,q4,q5⟩ | ⟨k',c,mp',q0,q1,q2⟩
      · have s1 : ∀ r, Ev (fun fu => cG l fu run' 0 ((i + 1 : Nat) : Int) mp' (i : Int)) r → Ev (fun fu => cG l fu run 0 (i : Int) mp level) r := fun r hr => by
          refine Ev.succ ?_
          simp only [cG,d1,↓reduceIte,aB l.Levels i hil,bS,d2,bF]
          refine Ev.bind q1 ?_
          simp only [sC i (show i < 9223372036854775807 by omega)]
          exact hr
        have s2 : ∀ r,Ev (fun fu=>hI l fu ((i + 1 : Nat) : Int) ids') r → Ev (fun fu=>hI l fu (i : Int) ids) r:=fun r hr=>by
          refine Ev.succ ?_
          simp only [hI,d1,↓reduceIte,aB l.Levels i hil,bS,d2,bF]
          refine Ev.bind q2 ?_
          simp only [sC i (show i < 9223372036854775807 by omega)]
          exact hr
        rcases ih (i + 1) mp' ids' run' (i : Int) (by omega) q3 (by omega) with ⟨mp2,ids2,run2,lev2,t1,t2,t3⟩ | ⟨i2,k2,c2,mp2,t0,t1,t2⟩
        · refine .inl ⟨mp2,ids2,run2,lev2,s1 _ t1,s2 _ t2,fun j h1 h3=>?_⟩
          by_cases e : j = i
          · subst e
            refine ⟨by omega,fun r hr=>?_⟩
            obtain ⟨n,hn,rfl⟩:=List.mem_iff_getElem.1 hr
            exact q5 n (by omega) hn
          · exact t3 j (by omega) h3
        · exact .inr ⟨i2,k2,c2,mp2,t0,s1 _ t1,s2 _ t2⟩
      · refine .inr ⟨(i : Int),k',c,mp',q0,Ev.succ ?_,Ev.succ ?_⟩
        · simp only [cG,d1,↓reduceIte,aB l.Levels i hil,bS,d2,bF]
          refine Ev.bind q1 ?_
          exact Ev.ret _
        · simp only [hI,d1,↓reduceIte,aB l.Levels i hil,bS,d2,bF]
          refine Ev.bind q2 ?_
          exact Ev.ret _
structure zT (l : eB) : Prop where
  b : 1 ≤ l.B ∧ l.B ≤ 16
  few : l.Levels.length ≤ 12
  runs : ∀ x ∈ l.Levels,x.Runs.length ≤ 2 ∧ ∀ r ∈ x.Runs,gZ r
theorem zif (l : eB) (hs : wG l) : ∃ r,Ev (fun fu=>aK fu l) r ∧ Ev (fun fu=>oJ fu l) r ∧ ((r = (0,0,0) ∧ zT l) ∨ r.2.2 ≠ 0):=by
  unfold aK oJ
  by_cases h1 : l.B < 1
  · exact ⟨(0,0,7),Ev.of (fun fu=>by simp [h1]) (Ev.ret _),Ev.of (fun fu=>by simp [h1]) (Ev.ret _),.inr (by decide)⟩
  · by_cases h2 : 16 < l.B
    · exact ⟨(0,0,7),Ev.of (fun fu=>by simp [h1,h2]) (Ev.ret _),Ev.of (fun fu=>by simp [h1,h2]) (Ev.ret _),.inr (by decide)⟩
    · simp only [dF h1,dF h2,bF,↓reduceIte,bS]
      by_cases h3 : 12 < l.Levels.length
      · have d : decide ((12 : Int) < (l.Levels.length : Int)) = true:=dT (by omega)
        simp only [d,↓reduceIte]
        exact ⟨(0,0,3),Ev.ret _,Ev.ret _,.inr (by decide)⟩
      · have d : decide ((12 : Int) < (l.Levels.length : Int)) = false:=dF (by omega)
        simp only [d,bF,↓reduceIte]
        obtain ⟨B,hB⟩ : ∃ B : Nat,l.B = (B : Int):=⟨l.B.toNat,by omega⟩
        rcases zgQ l B hB (by omega) hs (by omega) l.Levels.length 0 [] [] 0 0 (by omega) (fun x=>by simp [yE]) (by simp; omega) with ⟨mp',ids',run',lev',q1,q2,q3⟩ | ⟨i',k',c,mp',q0,q1,q2⟩
        · obtain ⟨b, hb⟩ : ∃ b : Bool, (if decide ((0 : Int) < (l.Levels.length : Int)) = true then (ix l.Levels (IntKind.i64.wrap ((l.Levels.length : Int) - 1))).bind fun e218 => some (decide ((e218.Runs.length : Int) = 0)) else some false) = some b := by
            by_cases h0 : 0 < l.Levels.length
            · have d0 : decide ((0 : Int) < (l.Levels.length : Int)) = true:=dT (by omega)
              have w : IntKind.i64.wrap ((l.Levels.length : Int) - 1) = ((l.Levels.length - 1 : Nat) : Int):=by rw [wr (by omega) (by omega)]; omega
              simp only [d0,↓reduceIte,w,aB l.Levels (l.Levels.length - 1) (by omega),bS]
              exact ⟨_,rfl⟩
            · have d0 : decide ((0 : Int) < (l.Levels.length : Int)) = false:=dF (by omega)
              simp only [d0,bF,↓reduceIte]
              exact ⟨_,rfl⟩
          cases b with
          | true =>
            refine ⟨(IntKind.i64.wrap ((l.Levels.length : Int) - 1),0,6),Ev.bind q1 ?_,Ev.bind q2 ?_,.inr (show (6 : Int) ≠ 0 by decide)⟩
            · simp only [decide_true,Bool.not_true,bF,↓reduceIte,hb,bS]; exact Ev.ret _
            · simp only [hb,bS,↓reduceIte]; exact Ev.ret _
          | false =>
            refine ⟨(0,0,0),Ev.bind q1 ?_,Ev.bind q2 ?_,.inl ⟨rfl,⟨⟨by omega,by omega⟩,by omega,fun x hx=>?_⟩⟩⟩
            · simp only [decide_true,Bool.not_true,bF,↓reduceIte,hb,bS]; exact Ev.ret _
            · simp only [hb,bS,bF,↓reduceIte]; exact Ev.ret _
            · obtain ⟨n,hn,rfl⟩:=List.mem_iff_getElem.1 hx
              exact q3 n (by omega) hn
        · refine ⟨(i',k',c),Ev.bind q1 ?_,Ev.bind q2 ?_,.inr q0⟩
          · simp only [dF q0,Bool.not_false,↓reduceIte]; exact Ev.ret _
          · exact Ev.ret _
def iG (b : Int) (xs : List Int) : Int:=xs.foldl (fun b x=>if b < x then x else b) b
theorem zgz (xs ys : List Int) (b : Int) : iG b (xs++ys) = iG (iG b xs) ys:=by simp [iG]
theorem ziP {xs ys : List Int} (h : xs.Perm ys) (b : Int) : iG b xs = iG b ys:=by
  induction h generalizing b with
  | nil=>rfl
  | cons x _ ih=>exact ih _
  | swap x y l =>
    show iG (if (if b < y then y else b) < x then x else (if b < y then y else b)) l = iG (if (if b < x then x else b) < y then y else (if b < x then x else b)) l
    congr 1
    split <;> split <;> (try split) <;> omega
  | trans _ _ ih1 ih2=>exact (ih1 b).trans (ih2 b)
def vO (xs : List qA) : List Int:=(xs.map fun x=>x.Runs.map gB.Id).flatten
theorem znS (l : eB) (hs : wG l) : Ev (fun fu=>fO fu l) (iG 0 (vO l.Levels)):=by
  have inner : ∀ (x : qA) (_ : x.Runs.length ≤ 6) (m k : Nat) (best : Int),k + m = x.Runs.length → Ev (fun fu=>mI x fu best (k : Int)) (iG best ((x.Runs.drop k).map gB.Id)):=by
    intro x hx m
    induction m with
    | zero =>
      intro k best hk
      obtain rfl : k = x.Runs.length:=by omega
      exact Ev.succ (Ev.of (fun fu=>by simp [mI,iG]) (Ev.ret _))
    | succ m ih =>
      intro k best hk
      have hkl : k < x.Runs.length:=by omega
      have d : decide ((k : Int) < (x.Runs.length : Int)) = true:=dT (by omega)
      have:=ih (k + 1) (if best < x.Runs[k].Id then x.Runs[k].Id else best) (by omega)
      rw [List.drop_eq_getElem_cons hkl]
      refine Ev.succ ?_
      simp only [mI,d,↓reduceIte,aB x.Runs k hkl,bS,sC k (show k < 9223372036854775807 by omega)]
      exact this
  have outer : ∀ (m i : Nat) (best : Int),i + m = l.Levels.length → Ev (fun fu=>qI l fu best (i : Int)) (iG best (vO (l.Levels.drop i))):=by
    intro m
    induction m with
    | zero =>
      intro i best hi
      obtain rfl : i = l.Levels.length:=by omega
      exact Ev.succ (Ev.of (fun fu=>by simp [qI,iG,vO]) (Ev.ret _))
    | succ m ih =>
      intro i best hi
      have hil : i < l.Levels.length:=by omega
      have d : decide ((i : Int) < (l.Levels.length : Int)) = true:=dT (by omega)
      have hx:=(hs.2 _ (List.getElem_mem hil)).1
      have:=ih (i + 1) (iG best (l.Levels[i].Runs.map gB.Id)) (by omega)
      have h14:=hs.1
      rw [List.drop_eq_getElem_cons hil]
      rw [show vO (l.Levels[i]::l.Levels.drop (i + 1)) = l.Levels[i].Runs.map gB.Id++vO (l.Levels.drop (i + 1)) from rfl,zgz]
      refine Ev.succ ?_
      simp only [qI,d,↓reduceIte,aB l.Levels i hil,bS,sC i (show i < 9223372036854775807 by omega)]
      refine Ev.bind (inner l.Levels[i] hx l.Levels[i].Runs.length 0 best (by omega)) ?_
      exact this
  unfold fO
  exact Ev.bind (outer l.Levels.length 0 0 (by omega)) (Ev.ret _)
def mG : Nat → List qA → List Nat
  | _,[]=>[]
  | n,x::xs=>if x.Runs.length = 2 then n::mG (n + 1) xs else mG (n + 1) xs
def uC (l : eB) : List Nat:=mG 0 l.Levels
theorem zca : ∀ (xs : List qA) (n i : Nat),i ∈ mG n xs → n ≤ i ∧ ∃ h : i - n < xs.length,xs[i - n].Runs.length = 2
  | [],n,i,h=>by simp [mG] at h
  | x::xs,n,i,h=>by
    simp only [mG] at h
    have jB : i ∈ mG (n + 1) xs → n ≤ i ∧ ∃ h : i - n < (x::xs).length,(x::xs)[i - n].Runs.length = 2:=fun h=>by
      obtain ⟨h1,h2,h3⟩:=zca xs (n + 1) i h
      refine ⟨by omega,by simp; omega,?_⟩
      have e : i - n = (i - (n + 1)) + 1:=by omega
      simp only [e,List.getElem_cons_succ]; exact h3
    split at h
    · rename_i hx
      rcases List.mem_cons.1 h with rfl | h
      · exact ⟨Nat.le_refl _,by simp,by simpa using hx⟩
      · exact jB h
    · exact jB h
theorem zff (l : eB) (k : Nat) (h : k < (uC l).length) : ∃ h2 : (uC l)[k] < l.Levels.length,l.Levels[(uC l)[k]].Runs.length = 2:=by
  obtain ⟨-,h2,h3⟩:=zca l.Levels 0 _ (List.getElem_mem h)
  exact ⟨by simpa using h2,by simpa using h3⟩
theorem zcg : ∀ (xs : List qA) (n : Nat),(mG n xs).Pairwise (· < ·)
  | [],_=>List.Pairwise.nil
  | x::xs,n=>by
    simp only [mG]
    split
    · exact List.Pairwise.cons (fun i hi=>by have:=(zca xs (n + 1) i hi).1; omega) (zcg xs (n + 1))
    · exact zcg xs (n + 1)
theorem zon (l : eB) (i j : Nat) (hi : i < (uC l).length) (hj : j < (uC l).length) (h : (uC l)[i] = (uC l)[j]) : i = j:=by
  have p:=List.pairwise_iff_getElem.1 (zcg l.Levels 0)
  rcases Nat.lt_trichotomy i j with q | q | q
  · have:=p i j hi hj q; exact absurd h (by show ¬ (mG 0 l.Levels)[i] = (mG 0 l.Levels)[j]; omega)
  · exact q
  · have:=p j i hj hi q; exact absurd h (by show ¬ (mG 0 l.Levels)[i] = (mG 0 l.Levels)[j]; omega)
theorem zdW (l : eB) (hl : l.Levels.length ≤ 14) : Ev (fun fu=>qN fu l.B l.Levels) (tB (uC l)) ∧ Ev (fun fu=>aV fu l) (tB (uC l)):=by
  have go : ∀ (m n : Nat) (acc : List Nat),n + m = l.Levels.length → acc.length ≤ n → Ev (fun fu=>nH l.Levels fu (n : Int) (tB acc)) (tB (acc++mG n (l.Levels.drop n))) ∧ Ev (fun fu=>aL l fu (n : Int) (tB acc)) (tB (acc++mG n (l.Levels.drop n))):=by
    intro m
    induction m with
    | zero =>
      intro n acc hn _
      obtain rfl : n = l.Levels.length:=by omega
      exact ⟨Ev.succ (Ev.of (fun fu=>by simp [nH,mG]) (Ev.ret _)),Ev.succ (Ev.of (fun fu=>by simp [aL,mG]) (Ev.ret _))⟩
    | succ m ih =>
      intro n acc hn ha
      have hnl : n < l.Levels.length:=by omega
      have d : decide ((n : Int) < (l.Levels.length : Int)) = true:=dT (by omega)
      have g : 2 * (((tB acc).length + 1) * 8) ≤ 281474976710656:=by rw [zF]; omega
      rw [List.drop_eq_getElem_cons hnl]
      by_cases h2 : l.Levels[n].Runs.length = 2
      · have d2 : decide ((l.Levels[n].Runs.length : Int) = 2) = true:=dT (by omega)
        have e : tB acc++[(n : Int)] = tB (acc++[n]):=by simp [tB]
        obtain ⟨i1,i2⟩:=ih (n + 1) (acc++[n]) (by omega) (by simp; omega)
        rw [List.append_assoc,List.singleton_append] at i1 i2
        simp only [mG,if_pos h2]
        constructor
        · refine Ev.succ ?_
          simp only [nH,d,d2,↓reduceIte,aB l.Levels n hnl,bS,if_pos g,e,sC n (show n < 9223372036854775807 by omega)]
          exact i1
        · refine Ev.succ ?_
          simp only [aL,d,d2,↓reduceIte,aB l.Levels n hnl,bS,if_pos g,e,sC n (show n < 9223372036854775807 by omega)]
          exact i2
      · have d2 : decide ((l.Levels[n].Runs.length : Int) = 2) = false:=dF (by omega)
        obtain ⟨i1,i2⟩:=ih (n + 1) acc (by omega) (by omega)
        simp only [mG,if_neg h2]
        constructor
        · refine Ev.succ ?_
          simp only [nH,d,d2,↓reduceIte,aB l.Levels n hnl,bS,bF,sC n (show n < 9223372036854775807 by omega)]
          exact i1
        · refine Ev.succ ?_
          simp only [aL,d,d2,↓reduceIte,aB l.Levels n hnl,bS,bF,sC n (show n < 9223372036854775807 by omega)]
          exact i2
  obtain ⟨g1,g2⟩:=go l.Levels.length 0 [] (by omega) (by simp)
  unfold qN aV
  exact ⟨Ev.bind g1 (Ev.ret _),Ev.bind g2 (Ev.ret _)⟩
def lY (x : qA) : List (List aA):=match x.Runs with | [a,b]=>[b.Entries,a.Entries] | _=>[]
def tC (l : eB) (i : Nat) : List (List aA):=match l.Levels[i]? with | some x=>lY x | none=>[]
theorem zeX (x : qA) (h : x.Runs.length = 2) : ∃ a b,x.Runs = [a,b]:=by
  match hx : x.Runs,h with
  | [a,b],_=>exact ⟨a,b,rfl⟩
theorem zd4 (l : eB) (i : Nat) (hi : i < l.Levels.length) : tC l i = lY l.Levels[i]:=by
  unfold tC; rw [List.getElem?_eq_getElem hi]
theorem zbp (l : eB) (hs : wG l) (hg : zT l) (i : Nat) (hi : i < l.Levels.length) (h2 : l.Levels[i].Runs.length = 2) : dD (tC l i) ∧ kL (tC l i):=by
  obtain ⟨a,b,e⟩:=zeX _ h2
  have hr:=(hg.runs _ (List.getElem_mem hi)).2
  have hs2:=(hs.2 _ (List.getElem_mem hi)).2
  have ha:=hr a (by rw [e]; simp)
  have hb:=hr b (by rw [e]; simp)
  have sa:=hs2 a (by rw [e]; simp)
  have sb:=hs2 b (by rw [e]; simp)
  have er : tC l i = [b.Entries,a.Entries]:=by rw [zd4 l i hi]; unfold lY; rw [e]
  rw [er]
  have near : yN [b.Entries,a.Entries]:=⟨by simp,fun x hx=>by
    rcases List.mem_cons.1 hx with rfl | hx
    · have:=sb.1; omega
    · rcases List.mem_cons.1 hx with rfl | hx
      · have:=sa.1; omega
      · simp at hx,fun x hx y hy=>by
    rcases List.mem_cons.1 hx with rfl | hx
    · have:=sb.2 y hy; omega
    · rcases List.mem_cons.1 hx with rfl | hx
      · have:=sa.2 y hy; omega
      · simp at hx⟩
  refine ⟨⟨by simp,by simp,fun x hx=>?_⟩,⟨near,fun _=>?_⟩⟩
  · rcases List.mem_cons.1 hx with rfl | hx
    · exact hb.1
    · rcases List.mem_cons.1 hx with rfl | hx
      · exact ha.1
      · simp at hx
  · have:=zfc [b.Entries,a.Entries] (dE [b.Entries,a.Entries])
    have h1:=sa.1
    have h3:=sb.1
    simp only [lT,List.map_cons,List.map_nil,List.sum_cons,List.sum_nil] at this
    show jB [b.Entries,a.Entries] (dE [b.Entries,a.Entries]) ≤ 120
    omega
def eL (l : eB) (i : Nat) (b : Bool) (n : Nat) : bB:=⟨(i : Int),yC (tC l i) b n⟩
theorem zoX (l : eB) (hs : wG l) (hg : zT l) (i : Nat) (b : Bool) (hi : i < l.Levels.length) (h2 : l.Levels[i].Runs.length = 2) : Ev (fun fu=>qP fu l (i : Int) b) (eL l i b 0) ∧ Ev (fun fu=>xW fu l (i : Int) b) (eL l i b 0):=by
  obtain ⟨x,y,e⟩:=zeX _ h2
  obtain ⟨g,s⟩:=zbp l hs hg i hi h2
  obtain ⟨b1,b2⟩:=zoO (tC l i) b s g
  have er : tC l i = [y.Entries,x.Entries]:=by rw [zd4 l i hi]; unfold lY; rw [e]
  have b1':=b1; have b2':=b2
  rw [er] at b1' b2'
  have i1 : ix l.Levels[i].Runs 1 = some y:=by rw [e]; rfl
  have i0 : ix l.Levels[i].Runs 0 = some x:=by rw [e]; rfl
  constructor
  · unfold qP
    simp only [aB l.Levels i hi,bS,i1,i0]
    refine Ev.bind b1' ?_
    show Ev _ (bB.mk (i : Int) (yC (tC l i) b 0))
    rw [er]; exact Ev.ret _
  · unfold xW dZ
    have d : decide ((l.Levels.length : Int) ≤ (i : Int)) = false:=dF (by omega)
    simp only [d,bF,↓reduceIte,aB l.Levels i hi,bS,i1,i0]
    refine Ev.bind b2' ?_
    show Ev _ (bB.mk (i : Int) (yC (tC l i) b 0))
    rw [er]; exact Ev.ret _
def mR (l : eB) (i : Nat) : Bool:=decide (i + 1 = l.Levels.length)
theorem zee (fu : Nat) (l : eB) (hl : l.Levels.length ≤ 14) (i : Nat) : mL fu l (i : Int) = some (mR l i):=by
  unfold mL mR
  rw [wr (by omega) (by omega)]
  congr 1
  exact decide_eq_decide.2 (by omega)
def wJ : cB:=⟨⟨0,[]⟩,[],0⟩
theorem zdo (l k : List aA) (hl : l.length ≤ 1000000) : ∃ b,Ev (fun fu=>vM fu l k) b ∧ (b = true ↔ l = k):=by
  unfold vM qS
  by_cases h : l.length = k.length
  · have hd : (!decide ((l.length : Int) = (k.length : Int))) = false:=by simp; omega
    simp only [hd,bF,↓reduceIte]
    obtain ⟨r,r1,r2⟩:=Ev.eqs false l k h (L:=fI l k) (fun fu=>by simp [fI]) (fun fu n h1 h2=>by
      have d : decide ((n : Int) < (l.length : Int)) = true:=dT (by omega)
      simp only [fI,d,↓reduceIte,aB l n h1,aB k n h2,bS,zaq,sC n (by omega)]
      by_cases e : l[n] = k[n] <;> simp [e])
    rcases r2 with ⟨rfl,e⟩ | ⟨rfl,e⟩
    · exact ⟨true,Ev.bind (Ev.bind r1 (Ev.ret _)) (Ev.ret _),by simp [e]⟩
    · exact ⟨false,Ev.bind (Ev.bind r1 (Ev.ret _)) (Ev.ret _),by simp [e]⟩
  · have hd : (!decide ((l.length : Int) = (k.length : Int))) = true:=by simp; omega
    simp only [hd,↓reduceIte]
    exact ⟨false,Ev.bind (Ev.ret _) (Ev.ret _),by simp; intro e; exact h (by rw [e])⟩
theorem zkY (l k : List (List aA)) (hl : l.length ≤ 1000) (hE : ∀ x ∈ l,x.length ≤ 1000000) : ∃ b,Ev (fun fu=>gR fu l k) b ∧ (b = true ↔ l = k):=by
  unfold gR
  by_cases h : l.length = k.length
  · have hd : (!decide ((l.length : Int) = (k.length : Int))) = false:=by simp; omega
    simp only [hd,bF,↓reduceIte]
    obtain ⟨r,r1,r2⟩:=sK (β:=Bool) (fun n r=>Ev (fun fu=>tH l k fu (n : Int)) r) l.length (fun i=>∀ (h1 : i < l.length) (h2 : i < k.length),l[i] = k[i]) (fun n v=>v = false ∧ ∃ (h1 : n < l.length) (h2 : n < k.length),l[n] ≠ k[n])
      (Ev.succ (Ev.of (fun fu=>by simp [tH]) (Ev.ret _)))
      (fun n hn=>by
        have h2 : n < k.length:=by omega
        have d : decide ((n : Int) < (l.length : Int)) = true:=dT (by omega)
        obtain ⟨b,b1,b2⟩:=zdo l[n] k[n] (hE _ (List.getElem_mem hn))
        cases b with
        | true =>
          refine .inr ⟨fun _ _=>b2.1 rfl,fun r hr=>Ev.succ ?_⟩
          simp only [tH,d,↓reduceIte,aB l n hn,aB k n h2,bS,sC n (show n < 9223372036854775807 by omega)]
          exact Ev.bind b1 hr
        | false =>
          refine .inl ⟨false,⟨rfl,hn,h2,fun e=>by have:=b2.2 e; cases this⟩,Ev.succ ?_⟩
          simp only [tH,d,↓reduceIte,aB l n hn,aB k n h2,bS]
          exact Ev.bind b1 (Ev.ret _))
    rcases r2 with ⟨rfl,e⟩ | ⟨n,v,-,⟨rfl,h1,h2,e⟩,rfl,-⟩
    · refine ⟨true,Ev.bind r1 (Ev.ret _),⟨fun _=>?_,fun _=>rfl⟩⟩
      exact List.ext_getElem h fun i h1 h2=>e i h1 h1 h2
    · exact ⟨false,Ev.bind r1 (Ev.ret _),⟨fun q=>(by cases q),fun q=>(by subst q; exact absurd rfl e)⟩⟩
  · have hd : (!decide ((l.length : Int) = (k.length : Int))) = true:=by simp; omega
    simp only [hd,↓reduceIte]
    exact ⟨false,Ev.ret _,by simp; intro e; exact h (by rw [e])⟩
theorem hY {p q : Prop} {x y : Bool} {A : Nat → Option Bool} (hx : x = true ↔ p) (hA : Ev A y) (hy : y = true ↔ q) : ∃ z,Ev (fun fu=>if x = true then (A fu).bind fun v=>some v else some false) z ∧ (z = true ↔ p ∧ q):=by
  cases x with
  | true=>exact ⟨y,Ev.bind hA (Ev.ret _),by rw [hy]; exact ⟨fun h=>⟨hx.1 rfl,h⟩,fun h=>h.2⟩⟩
  | false=>exact ⟨false,Ev.ret _,⟨fun h=>(by cases h),fun h=>(by have:=hx.2 h.1; cases this)⟩⟩
theorem andP {p q : Prop} {x y : Bool} (hx : x = true ↔ p) (hy : y = true ↔ q) : ∃ z,Ev (fun _=>if x = true then some y else some false) z ∧ (z = true ↔ p ∧ q):=by
  cases x with
  | true=>exact ⟨y,Ev.ret _,by rw [hy]; exact ⟨fun h=>⟨hx.1 rfl,h⟩,fun h=>h.2⟩⟩
  | false=>exact ⟨false,Ev.ret _,⟨fun h=>(by cases h),fun h=>(by have:=hx.2 h.1; cases this)⟩⟩
theorem zk1 (a b : mB) (ha : pR a) : ∃ r,Ev (fun fu=>bR fu a b) r ∧ (r = true ↔ a = b):=by
  have hn:=ha.seen.near
  obtain ⟨x1,e1,h1⟩:=zkY a.Merge.Runs b.Merge.Runs (by have:=hn.1; omega) (fun l hl=>by have:=hn.2.1 l hl; omega)
  obtain ⟨y2,f2,g2⟩:=zbE a.Merge.At b.Merge.At ha.merge.at'
  obtain ⟨x2,e2,h2⟩:=hY h1 f2 g2
  obtain ⟨y3,f3,g3⟩:=zdZ a.Merge.Tree.Keys b.Merge.Tree.Keys ha.merge.keys
  obtain ⟨x3,e3,h3⟩:=hY h2 f3 g3
  obtain ⟨y4,f4,g4⟩:=zbE a.Merge.Tree.Lose b.Merge.Tree.Lose ha.merge.lose
  obtain ⟨x4,e4,h4⟩:=hY h3 f4 g4
  obtain ⟨x5,e5,h5⟩:=andP h4 (decide_eq_true_iff (p:=a.Merge.Tree.Win = b.Merge.Tree.Win))
  obtain ⟨x6,e6,h6⟩:=andP h5 (show lB.eqb a.Shadow b.Shadow = true ↔ a.Shadow = b.Shadow by rw [zac]; exact decide_eq_true_iff)
  obtain ⟨y7,f7,g7⟩:=zdo a.Out b.Out (by have:=ha.out; omega)
  obtain ⟨x7,e7,h7⟩:=hY h6 f7 g7
  obtain ⟨x8,e8,h8⟩:=andP h7 (decide_eq_true_iff (p:=a.Steps = b.Steps))
  refine ⟨x8,?_,h8.trans ⟨fun h=>?_,fun h=>by subst h; simp⟩⟩
  · unfold bR
    exact Ev.bind e1 (Ev.bind e2 (Ev.bind e3 (Ev.bind e4 (Ev.bind e5 (Ev.bind e6 (Ev.bind e7 (Ev.bind e8 (Ev.ret _))))))))
  · obtain ⟨⟨⟨⟨⟨⟨⟨q1,q2⟩,q3⟩,q4⟩,q5⟩,q6⟩,q7⟩,q8⟩:=h
    obtain ⟨⟨ar,aa,⟨ak,al,aw⟩⟩,ash,ao,ast⟩:=a
    obtain ⟨⟨br,ba,⟨bk,bl',bw⟩⟩,bsh,bo,bst⟩:=b
    simp only at q1 q2 q3 q4 q5 q6 q7 q8
    subst q1 q2 q3 q4 q5 q6 q7 q8
    rfl
theorem zpo (l : eB) (hs : wG l) (hc : Ev (fun fu=>oJ fu l) (0,0,0)) : Ev (fun fu=>cW fu l) ((l.Levels.map fun x=>x.Runs.reverse).flatten,0):=by
  have inner : ∀ (x : qA) (_ : x.Runs.length ≤ 6) (k : Nat) (out : List gB),k ≤ x.Runs.length → out.length ≤ 1000 → Ev (fun fu=>eK x fu ((k : Int) - 1) out) (out++(x.Runs.take k).reverse):=by
    intro x hx k
    induction k with
    | zero =>
      intro out _ _
      exact Ev.succ (Ev.of (fun fu=>by simp [eK]) (Ev.ret _))
    | succ k ih =>
      intro out hk ho
      have hkl : k < x.Runs.length:=by omega
      have e1 : ((k + 1 : Nat) : Int) - 1 = (k : Int):=by omega
      have d : decide ((0 : Int) ≤ (k : Int)) = true:=dT (by omega)
      have g : 2 * ((out.length + 1) * 32) ≤ 281474976710656:=by omega
      have w : IntKind.i64.wrap ((k : Int) - 1) = (k : Int) - 1:=wr (by omega) (by omega)
      have e2 : (x.Runs.take (k + 1)).reverse = x.Runs[k]::(x.Runs.take k).reverse:=by
        rw [← List.take_append_getElem hkl,List.reverse_append]; rfl
      rw [e1,e2]
      by_cases ho2 : out.length < 1000
      · have:=ih (out++[x.Runs[k]]) (by omega) (by simp; omega)
        rw [List.append_assoc,List.singleton_append] at this
        refine Ev.succ ?_
        simp only [eK,d,↓reduceIte,aB x.Runs k hkl,bS,if_pos g,w]
        exact this
      ·
        have hgen : ∀ (k : Nat) (out : List gB),k ≤ x.Runs.length → out.length ≤ 2000 - k → k ≤ 6 → Ev (fun fu=>eK x fu ((k : Int) - 1) out) (out++(x.Runs.take k).reverse):=by
          intro k
          induction k with
          | zero=>intro out _ _ _; exact Ev.succ (Ev.of (fun fu=>by simp [eK]) (Ev.ret _))
          | succ k ih2 =>
            intro out hk ho h6
            have hkl : k < x.Runs.length:=by omega
            have e1 : ((k + 1 : Nat) : Int) - 1 = (k : Int):=by omega
            have d : decide ((0 : Int) ≤ (k : Int)) = true:=dT (by omega)
            have g : 2 * ((out.length + 1) * 32) ≤ 281474976710656:=by omega
            have w : IntKind.i64.wrap ((k : Int) - 1) = (k : Int) - 1:=wr (by omega) (by omega)
            have e2 : (x.Runs.take (k + 1)).reverse = x.Runs[k]::(x.Runs.take k).reverse:=by
              rw [← List.take_append_getElem hkl,List.reverse_append]; rfl
            rw [e1,e2]
            have:=ih2 (out++[x.Runs[k]]) (by omega) (by simp; omega) (by omega)
            rw [List.append_assoc,List.singleton_append] at this
            refine Ev.succ ?_
            simp only [eK,d,↓reduceIte,aB x.Runs k hkl,bS,if_pos g,w]
            exact this
        have:=hgen (k + 1) out (by omega) (by omega) (by omega)
        rw [e1,e2] at this
        exact this
  have outer : ∀ (m i : Nat) (out : List gB),i + m = l.Levels.length → out.length ≤ 6 * i → Ev (fun fu=>gN l fu (i : Int) out) (out++((l.Levels.drop i).map fun x=>x.Runs.reverse).flatten):=by
    intro m
    induction m with
    | zero =>
      intro i out hi _
      obtain rfl : i = l.Levels.length:=by omega
      exact Ev.succ (Ev.of (fun fu=>by simp [gN]) (Ev.ret _))
    | succ m ih =>
      intro i out hi ho
      have hil : i < l.Levels.length:=by omega
      have h14:=hs.1
      have d : decide ((i : Int) < (l.Levels.length : Int)) = true:=dT (by omega)
      have hx:=(hs.2 _ (List.getElem_mem hil)).1
      have w : IntKind.i64.wrap ((l.Levels[i].Runs.length : Int) - 1) = (l.Levels[i].Runs.length : Int) - 1:=wr (by omega) (by omega)
      have i1:=inner l.Levels[i] hx l.Levels[i].Runs.length out (Nat.le_refl _) (by omega)
      rw [List.take_length] at i1
      have:=ih (i + 1) (out++l.Levels[i].Runs.reverse) (by omega) (by simp; omega)
      rw [List.drop_eq_getElem_cons hil,List.map_cons,List.flatten_cons,← List.append_assoc]
      refine Ev.succ ?_
      simp only [gN,d,↓reduceIte,aB l.Levels i hil,bS,w,sC i (show i < 9223372036854775807 by omega)]
      exact Ev.bind i1 this
  unfold cW
  refine Ev.bind hc ?_
  simp only [decide_true,Bool.not_true,bF,↓reduceIte]
  exact Ev.bind (outer l.Levels.length 0 [] (by omega) (by simp)) (Ev.ret _)
theorem zeK : ∀ (xs : List qA),((xs.map fun x=>x.Runs.reverse).flatten.map gB.Id).Perm (vO xs)
  | []=>List.Perm.nil
  | x::xs=>by
    simp only [vO,List.map_cons,List.flatten_cons,List.map_append]
    exact List.Perm.append ((List.reverse_perm _).map _) (zeK xs)
theorem zcD : ∀ (xs : List qA),(∀ x ∈ xs,x.Runs.length ≤ 6) → ((xs.map fun x=>x.Runs.reverse).flatten).length ≤ 6 * xs.length
  | [],_=>by simp
  | x::xs,h=>by
    have h1:=h x (by simp)
    have h2:=zcD xs fun y hy=>h y (by simp [hy])
    simp only [List.map_cons,List.flatten_cons,List.length_append,List.length_reverse,List.length_cons]
    omega
theorem zgv (l : eB) (hs : wG l) (hc : Ev (fun fu=>oJ fu l) (0,0,0)) : Ev (fun fu=>dU fu l) (iG 0 (vO l.Levels)):=by
  rw [← ziP (zeK l.Levels)]
  have hl:=zcD l.Levels fun x hx=>(hs.2 x hx).1
  have h14:=hs.1
  generalize hv : (l.Levels.map fun x=>x.Runs.reverse).flatten = v at hl
  have go : ∀ (m i : Nat) (best : Int),i + m = v.length → Ev (fun fu=>mN (v,0) fu best (i : Int)) (iG best ((v.drop i).map gB.Id)):=by
    intro m
    induction m with
    | zero =>
      intro i best hi
      obtain rfl : i = v.length:=by omega
      exact Ev.succ (Ev.of (fun fu=>by simp [mN,iG]) (Ev.ret _))
    | succ m ih =>
      intro i best hi
      have hil : i < v.length:=by omega
      have d : decide ((i : Int) < (v.length : Int)) = true:=dT (by omega)
      have:=ih (i + 1) (if best < v[i].Id then v[i].Id else best) (by omega)
      rw [List.drop_eq_getElem_cons hil]
      refine Ev.succ ?_
      simp only [mN,d,↓reduceIte,aB v i hil,bS,sC i (show i < 9223372036854775807 by omega)]
      exact this
  have nw:=zpo l hs hc
  rw [hv] at nw
  unfold dU
  exact Ev.bind nw (Ev.bind (go v.length 0 0 (by omega)) (Ev.ret _))
theorem zkq (l : eB) (hs : wG l) (hc : Ev (fun fu=>oJ fu l) (0,0,0)) (hg : zT l) (i : Nat) (hi : i < l.Levels.length) : Ev (fun fu=>qT fu l (i : Int)) (mR l i):=by
  have h12:=hg.few
  have d1 : decide ((i : Int) < 0) = false:=dF (by omega)
  have d2 : decide ((12 : Int) ≤ (i : Int)) = false:=dF (by omega)
  have e : (!decide (((i + 1 : Nat) : Int) < (l.Levels.length : Int))) = mR l i:=by
    unfold mR
    by_cases q : i + 1 = l.Levels.length
    · rw [dT q,dF (by omega)]; rfl
    · rw [dF q,dT (by omega)]; rfl
  unfold qT gY kY
  refine Ev.bind (a:=(decide (((i + 1 : Nat) : Int) < (l.Levels.length : Int)),0)) (Ev.bind (a:=0) (Ev.bind hc ?_) ?_) ?_
  · simp only [decide_true,↓reduceIte,d1,d2,bF,bS]; exact Ev.ret _
  · simp only [decide_true,Bool.not_true,bF,↓reduceIte,sC i (show i < 9223372036854775807 by omega)]; exact Ev.ret _
  · rw [← e]; exact Ev.ret _
end Go.T
end
