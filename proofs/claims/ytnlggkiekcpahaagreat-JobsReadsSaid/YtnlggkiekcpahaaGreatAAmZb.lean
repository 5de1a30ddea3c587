/- A text of the proof. -/
import Derived.Test.YtnlggkiekcpahaaGreatAAmZa
set_option linter.unusedSimpArgs false
set_option linter.unusedVariables false
namespace Go.AM
open Go Go.RowKit
def ix {α : Type} (l : List α) (i : Int) : Option α:=if 0 ≤ i then l[i.toNat]? else none
theorem vA {α : Type} {l : List α} {i : Int} {x : α} (h : ix l i = some x) : 0 ≤ i ∧ i < (l.length : Int) ∧ l[i.toNat]? = some x:=by
  unfold ix at h
  split at h
  · rename_i h0
    refine ⟨h0,?_,h⟩
    have:=(List.getElem?_eq_some_iff.1 h).1
    omega
  · cases h
theorem dG {α : Type} {l : List α} {i : Int} {x : α} (n : Nat) (h : ix l i = some x) (e : i = (n : Int)) : l[n]? = some x ∧ n < l.length:=by
  subst e
  have:=vA h
  simp only [Int.toNat_natCast] at this
  exact ⟨this.2.2,by omega⟩
theorem bA {α β : Type} {x : Option α} {f : α → Option β} {r : β} (h : x.bind f = some r) : ∃ a,x = some a ∧ f a = some r:=by
  cases x with
  | none=>cases h
  | some a=>exact ⟨a,rfl,h⟩
theorem zA {α : Type} {c : Bool} {a b r : α} (h : (if c = true then a else b) = r) (hc : c = true) : a = r:=by rwa [if_pos hc] at h
theorem sA {α : Type} {c : Bool} {a b r : α} (h : (if c = true then a else b) = r) (hc : c = false) : b = r:=by rwa [if_neg (by simp [hc])] at h
theorem pD {α : Type} {c : Prop} [Decidable c] {a : Option α} {r : α} (h : (if c then a else none) = some r) : c ∧ a = some r:=by
  split at h
  · rename_i hc; exact ⟨hc,h⟩
  · cases h
section
variable {P : Program} {nt : Nat} {K : Exit → St → Prop} {fr fr' : List (Nat × AV)} {hp hp' : List (Nat × pA)} {nx : Nat} {lp : List (Nat × yD)}
theorem nB {id : Nat} {l : List Oper} (nx2 : Nat) (L : List Nat) (ans : Nat → Option (AV × List pA)) (hnx : nx + 8 * l.length = nx2)
    (h1 : ∀ Kt : List (Nat × AV) → List (Nat × pA) → Prop,Kt fr' hp' → @WL P nt ⟨l⟩ ans (Xa nx) (pE 0 l) fr hp ⟨[],[]⟩ fun fr hp _=>Kt (sE L fr) hp)
    (h2 : K .normal ⟨fr',hp',nx2,lp⟩) : wB P nt (.region id (List.toArray l) false) K ⟨fr,hp,nx,lp⟩:=by subst hnx; exact awp_r (s:=⟨fr,hp,nx,lp⟩) L ans h1 h2
theorem aH {id : Nat} {l : List Oper} (nx2 : Nat) (L : List Nat) (ans : Nat → Option (AV × List pA)) (hnx : nx + 8 * l.length = nx2) (hmix : P.follows .mixedOrders = true) (hback : vK 0 l = true)
    (h1 : ∀ Kt : List (Nat × AV) → List (Nat × pA) → Prop,Kt fr' hp' → @WL P nt ⟨l⟩ ans (Xa nx) (pE 0 l) fr hp ⟨l,[]⟩ fun fr hp acc=>@sS acc ∧ Kt (sE L fr) hp)
    (h2 : K .normal ⟨fr',hp',nx2,lp⟩) : wB P nt (.region id (List.toArray l) true) K ⟨fr,hp,nx,lp⟩:=by subst hnx; exact awp_d (s:=⟨fr,hp,nx,lp⟩) L ans hmix hback h1 h2
theorem nA {id : Nat} {l : List Oper} {y : Code} (nx2 : Nat) (L : List Nat) (ans : Nat → Option (AV × List pA)) (hnx : nx + 8 * l.length = nx2)
    (h1 : ∀ Kt : List (Nat × AV) → List (Nat × pA) → Prop,Kt fr' hp' → @WL P nt ⟨l⟩ ans (Xa nx) (pE 0 l) fr hp ⟨[],[]⟩ fun fr hp _=>Kt (sE L fr) hp)
    (h2 : wB P nt y K ⟨fr',hp',nx2,lp⟩) : wB P nt (.seq (.region id (List.toArray l) false) y) K ⟨fr,hp,nx,lp⟩:=iA (nB nx2 L ans hnx h1 h2)
theorem qC {id : Nat} {l : List Oper} {y : Code} (nx2 : Nat) (L : List Nat) (ans : Nat → Option (AV × List pA)) (hnx : nx + 8 * l.length = nx2) (hmix : P.follows .mixedOrders = true) (hback : vK 0 l = true)
    (h1 : ∀ Kt : List (Nat × AV) → List (Nat × pA) → Prop,Kt fr' hp' → @WL P nt ⟨l⟩ ans (Xa nx) (pE 0 l) fr hp ⟨l,[]⟩ fun fr hp acc=>@sS acc ∧ Kt (sE L fr) hp)
    (h2 : wB P nt y K ⟨fr',hp',nx2,lp⟩) : wB P nt (.seq (.region id (List.toArray l) true) y) K ⟨fr,hp,nx,lp⟩:=iA (aH nx2 L ans hnx hmix hback h1 h2)
variable {s : St}
theorem kI {c : Operand} {x y : Code} (hc : yB (qB s.fr) c = .bool true) (h : wB P nt x K s) : wB P nt (.cond c x y) K s:=zbO hc h
theorem pF {c : Operand} {x y : Code} (hc : yB (qB s.fr) c = .bool false) (h : wB P nt y K s) : wB P nt (.cond c x y) K s:=zbO hc h
theorem mV {b : Frame} {a : Act} {k : List Item} {cs : List Frame} {w : World} {c : Code} : step P (lone (b.atR a (.code (.scope c)::k)) cs w) = .next (lone (b.atR a (.code c::.inScope c::k)) cs w) :=
  step_lone_go (by simp [stepG,stepG.exec,Frame.atR])
theorem znl {b : Frame} {a : Act} {k : List Item} {cs : List Frame} {w : World} {c : Code} : step P (lone (b.atR a (.inScope c::k)) cs w) = .next (lone (b.atR a k) cs w) :=
  step_lone_go (by simp [stepG,stepG.exec,Frame.atR])
def noGo (Q : Exit → Act → World → Prop) : Exit → Act → World → Prop
  | .goto _,_,_=>False
  | e,a,w=>Q e a w
theorem zeF {F : Fence} {n : Nat} {Q : Exit → Act → World → Prop} {c : Code} {a : Act} {w : World} (h : c.wpIn F n P (noGo Q) a w) : (Code.scope c).wpIn F n P Q a w:=by
  intro b k cs hro hb hr
  obtain ⟨e,a1,w1,hq,harr⟩:=h b (.inScope c::k) cs hro hb hr
  have h0 : (lone (b.atR a (.code (.scope c)::k)) cs w).fenced P F:=fenced_calm hb hr rfl
  cases e with
  | normal=>exact ⟨.normal,a1,w1,hq,.head h0 mV (StepsIn.trans harr (.one (fenced_calm hb hr rfl) znl))⟩
  | exit id =>
    have hx : exitTo id (.inScope c::k) = exitTo id k:=by simp [exitTo]
    exact ⟨.exit id,a1,w1,hq,fun k' hk=>.head h0 mV (harr.1 k' (by rw [hx]; exact hk)),
      fun hr' hk=>let ⟨k₁,h1,h2⟩:=harr.2 hr' (by rw [hx]; exact hk); ⟨k₁,h1,.head h0 mV h2⟩⟩
  | goto l=>exact hq.elim
  | ret=>exact ⟨_,a1,w1,hq,.of_steps (.one h0 mV) harr⟩
  | panic ch=>exact ⟨_,a1,w1,hq,.of_steps (.one h0 mV) harr⟩
  | outgrown=>exact ⟨_,a1,w1,hq,.of_steps (.one h0 mV) harr⟩
def zfb (K : Exit → St → Prop) : Exit → St → Prop
  | .goto _,_=>False
  | e,s=>K e s
theorem zo7 {c : Code} (h : wB P nt c (zfb K) s) : wB P nt (.scope c) K s:=by
  intro cx w0 w F φ a hf
  refine zeF (wpIn_mono (h cx w0 w F φ a hf) ?_)
  rintro e a' w' ⟨s',φ',F',h1,h2,h3⟩
  cases e with
  | goto l=>exact h3.elim
  | normal=>exact ⟨s',φ',F',h1,h2,h3⟩
  | exit id=>exact ⟨s',φ',F',h1,h2,h3⟩
  | ret=>exact ⟨s',φ',F',h1,h2,h3⟩
  | panic ch=>exact ⟨s',φ',F',h1,h2,h3⟩
  | outgrown=>exact ⟨s',φ',F',h1,h2,h3⟩
theorem fY (h : K .ret s) : zfb K .ret s:=h
theorem xA {n : St → Prop} {i : Nat} (h : K (.exit i) s) : tN n K (.exit i) s:=h
theorem za3 {i : Nat} (h : K .normal s) : pM i K (.exit i) s:=by simp only [pM,if_true]; exact h
theorem jR {i j : Nat} (e : i ≠ j) (h : K (.exit i) s) : pM j K (.exit i) s:=by simp only [pM,if_neg e]; exact h
theorem cA {n : St → Prop} (h : n s) : tN n K .normal s:=h
theorem pB {i : Nat} (h : K .normal s) : pM i K .normal s:=h
theorem mA {n : St → Prop} (h : K .ret s) : tN n K .ret s:=h
theorem zB {i : Nat} (h : K .ret s) : pM i K .ret s:=h
def rP (i : Nat) (D : St → Prop) (K : Exit → St → Prop) : Exit → St → Prop
  | .normal,_=>False
  | .exit j,s=>if j = i then D s else K (.exit j) s
  | e,s=>K e s
theorem gC {i : Nat} {D : St → Prop} (h : D s) : rP i D K (.exit i) s:=by simp only [rP,if_true]; exact h
theorem za7 {i j : Nat} {D : St → Prop} (e : j ≠ i) (h : K (.exit j) s) : rP i D K (.exit j) s:=by simp only [rP,if_neg e]; exact h
theorem xC {i : Nat} {D : St → Prop} (h : K .ret s) : rP i D K .ret s:=h
theorem zeW {i : Nat} {c y : Code} (D : St → Prop) (hD : ∀ s',D s' → wB P nt y K s') (hl : wB P nt (.loop c) (rP i D K) s) : wB P nt (.seq (.block i (.loop c)) y) K s:=by
  refine zl1 (zeM hl ?_)
  intro e s' h
  cases e with
  | exit j =>
    simp only [rP,pM] at h ⊢
    split
    · rename_i e; rw [if_pos e] at h; exact hD _ h
    · rename_i e; rw [if_neg e] at h; exact h
  | normal=>exact h.elim
  | goto l=>exact h
  | ret=>exact h
  | panic c=>exact h
  | outgrown=>exact h
theorem pC {i : Nat} {c : Code} (D : St → Prop) (hD : ∀ s',D s' → K .normal s') (hl : wB P nt (.loop c) (rP i D K) s) : wB P nt (.block i (.loop c)) K s:=by
  refine vB (zeM hl ?_)
  intro e s' h
  cases e with
  | exit j =>
    simp only [rP,pM] at h ⊢
    split
    · rename_i e; rw [if_pos e] at h; exact hD _ h
    · rename_i e; rw [if_neg e] at h; exact h
  | normal=>exact h.elim
  | goto l=>exact h
  | ret=>exact h
  | panic c=>exact h
  | outgrown=>exact h
theorem znK : jE P s [] = some []:=rfl
theorem zoy {t : Nat} {rs : List ResultVar} : jE P s (.tmp t::rs) = Bd (Xa (jE P s rs)) fun vs=>some (qB s.fr t::vs):=by
  simp only [jE]; cases jE P s rs <;> rfl
theorem zhR {a : Nat} {t : TypeId} {rs : List ResultVar} : jE P s (.cell a t::rs) = Bd (Xa (uD P t)) fun ag=>Bd (Xa (sB P t)) fun n=>Bd (Xa (sN ag n (qB s.fr a) (wA s.hp))) fun r=>Bd (Xa (jE P s rs)) fun vs=>some (r.1::vs):=by
  simp only [jE,kO]
  cases uD P t with
  | none=>rfl
  | some ag=>cases sB P t with
    | none=>rfl
    | some n =>
      show (match sN ag n (qB s.fr a) (wA s.hp),jE P s rs with | some (v,_),some vs=>some (v::vs) | _,_=>none) = _
      simp only [Bd,Xa]
      cases sN ag n (qB s.fr a) (wA s.hp) with
      | none=>cases jE P s rs <;> rfl
      | some r=>cases jE P s rs <;> rfl
theorem lA {rs : List ResultVar} {r : AV} {blks : List pA} {N : List Nat} (ns : List Nat) (h : bC (jE P s rs) fun vs=>fS ns r blks (qH vs) { s with lp:=fE N s.lp }) : bP P rs N (fun v s=>∃ ns,fS ns r blks v s) .ret s:=by
  obtain ⟨vs,h1,h2⟩:=h.get
  exact ⟨vs,h1,ns,h2⟩
end
theorem resV_1 {v : AV} : qH [v] = v:=rfl
theorem resV_0 : qH [] = .tup []:=rfl
theorem resV_2 {v w : AV} {vs : List AV} : qH (v::w::vs) = .tup (v::w::vs):=rfl
section
variable {η : kB} {d : Nat} {ns : List Nat}
theorem zki {k : IntKind} {n : Int} : nC ns η (d + 1) (.int k n) = some (.int k n,[]):=rfl
theorem zhj {s : List UInt8} : nC ns η (d + 1) (.str s) = some (.str s,[]):=rfl
theorem zlc {b : Bool} : nC ns η (d + 1) (.bool b) = some (.bool b,[]):=rfl
theorem exp_pp {cs : List AV} : nC ns η (d + 1) (.pp cs) = some (.pp cs,[]):=rfl
theorem zhn {z : Nat} {es : List (List AV)} : nC ns η (d + 1) (.psl z es) = some (.psl z es,[]):=rfl
theorem ziU : nC ns η (d + 1) .nils = some (.nils,[]):=rfl
theorem zkS : nC ns η (d + 1) .nilp = some (.nilp,[]):=rfl
theorem zgC : nC ns η (d + 1) .nilf = some (.nilf,[]):=rfl
theorem zi7 {cs : List AV} : nC ns η (d + 1) (.agg cs) = Bd (Xa (nC.exps ns η d cs)) fun p=>some (.agg p.1,p.2):=by
  simp only [nC]; cases nC.exps ns η d cs <;> rfl
theorem zpp {cs : List AV} : nC ns η (d + 1) (.tup cs) = Bd (Xa (nC.exps ns η d cs)) fun p=>some (.tup p.1,p.2):=by
  simp only [nC]; cases nC.exps ns η d cs <;> rfl
theorem exp_fn {f : FuncId} {a c : List AV} : nC ns η (d + 1) (.fn f a c) = Bd (Xa (nC.exps ns η d a)) fun p=>Bd (Xa (nC.exps ns η d c)) fun q=>some (.fn f p.1 q.1,p.2++q.2):=by
  simp only [nC]; cases nC.exps ns η d a <;> cases nC.exps ns η d c <;> rfl
theorem exp_sl {b g z off len : Nat} : nC ns η (d + 1) (.sl b g z off len) = match vP ns b with | some m=>some (.sl m g z off len,[]) | none=>aC η (d + 1) (.sl b g z off len):=rfl
theorem zhO {b g i j : Nat} : nC ns η (d + 1) (.ref b g i j) = match vP ns b with | some m=>some (.ref m g i j,[]) | none=>aC η (d + 1) (.ref b g i j):=rfl
theorem zkT : nC.exps ns η (d + 1) [] = some ([],[]):=rfl
theorem zgI {v : AV} {vs : List AV} : nC.exps ns η (d + 1) (v::vs) = Bd (Xa (nC ns η d v)) fun p=>Bd (Xa (nC.exps ns η d vs)) fun q=>some (p.1::q.1,p.2++q.2):=by
  simp only [nC.exps]; cases nC ns η d v <;> cases nC.exps ns η d vs <;> rfl
theorem zik {b g i j : Nat} : aC η (d + 1) (.ref b g i j) = Bd (Xa (dH η b g i)) fun e=>Bd (Xa (η b)) fun blk=>if e.length < j then none else if blk.pure then some (.pp (e.drop j),[b]) else Bd (Xa (aC.purs η d (e.drop j))) fun p=>some (.pp p.1,b::p.2):=by
  simp only [aC]
  cases dH η b g i with
  | none=>rfl
  | some e=>cases η b with
    | none=>rfl
    | some blk => simp only [Bd, Xa]; split
                  · rfl
                  · split
                    · rfl
                    · cases aC.purs η d (e.drop j) <;> rfl
theorem zkk : qL ns η [] = some ([],[]):=rfl
theorem zgb {b : Nat} {bs : List Nat} : qL ns η (b::bs) = Bd (Xa (η b)) fun x=>Bd (Xa (qL ns η bs)) fun p=>if x.pure then some (x::p.1,p.2) else Bd (Xa (rI ns η x.es)) fun q=>some ({ x with es:=q.1 }::p.1,q.2++p.2):=by
  simp only [qL]
  cases η b with
  | none=>rfl
  | some x=>cases qL ns η bs with
    | none=>rfl
    | some p => simp only [Bd, Xa]; split
                · rfl
                · cases rI ns η x.es <;> rfl
theorem zho : rI ns η [] = some ([],[]):=rfl
theorem zk6 {e : List AV} {es : List (List AV)} : rI ns η (e::es) = Bd (Xa (nC.exps ns η 60 e)) fun p=>Bd (Xa (rI ns η es)) fun q=>some (p.1::q.1,p.2++q.2):=by
  simp only [rI]; cases nC.exps ns η 60 e <;> cases rI ns η es <;> rfl
end
theorem N_eql {P : Program} {t : TypeId} {z : Nat} {es : List (List AV)} : eD P .eql t (.psl z es) .nils = Bd (Xa (jD P t)) fun _=>some (zO (if es.isEmpty then none else some false)):=by
  simp only [eD,xP,jD]
  cases P.underlying t with
  | none=>rfl
  | some u=>cases u <;> rfl
theorem N_neq {P : Program} {t : TypeId} {z : Nat} {es : List (List AV)} : eD P .neq t (.psl z es) .nils = Bd (Xa (jD P t)) fun _=>some (zO (if es.isEmpty then none else some true)):=by
  simp only [eD,xP,jD]
  cases P.underlying t with
  | none=>rfl
  | some u=>cases u <;> first | rfl | (cases es <;> rfl)
theorem N_eqlN {P : Program} {t : TypeId} : eD P .eql t .nils .nils = Bd (Xa (jD P t)) fun _=>some (.bool true):=by
  simp only [eD,xP,jD]
  cases P.underlying t with
  | none=>rfl
  | some u=>cases u <;> rfl
theorem Sl_emp {P : Program} {t : TypeId} {z : Nat} {es : List (List AV)} {k k' : IntKind} : sL P t (.psl z es) none (some (.int k 0)) (some (.int k' 0)) = Bd (Xa (jD P t)) fun e=>Bd (Xa (sB P e)) fun _=>some .emp:=by
  simp only [sL,jD]
  cases P.underlying t with
  | none=>rfl
  | some u =>
    cases u with
    | slice e=>simp only [Bd,Xa]; cases sB P e <;> simp [gE]
    | _=>rfl
theorem Sl_hi {P : Program} {t : TypeId} {z : Nat} {es : List (List AV)} {k : IntKind} {n : Int} : sL P t (.psl z es) none (some (.int k n)) none = Bd (Xa (jD P t)) fun e=>Bd (Xa (sB P e)) fun sz=>wC (0 ≤ n ∧ sz = z ∧ n.toNat ≤ es.length) (some (.psl z (es.take n.toNat))):=by
  simp only [sL,jD]
  cases P.underlying t with
  | none=>rfl
  | some u =>
    cases u with
    | slice e =>
      simp only [Bd,Xa,wC]
      cases sB P e with
      | none=>rfl
      | some sz =>
        by_cases h1 : 0 ≤ n <;> by_cases h2 : sz = z <;> by_cases h3 : n.toNat ≤ es.length <;> simp [gE,h1,h2,h3]
    | _=>rfl
def tStr (P : Program) (t : TypeId) : Option Unit:=match P.underlying t with | some .string=>some () | _=>none
theorem Sl_str {P : Program} {t : TypeId} {s : List UInt8} {k k' : IntKind} {n m : Int} : sL P t (.str s) (some (.int k n)) (some (.int k' m)) none = Bd (Xa (tStr P t)) fun _=>wC (0 ≤ n ∧ n ≤ m ∧ m ≤ s.length) (some (.str ((s.drop n.toNat).take (m.toNat - n.toNat)))):=by
  simp only [sL,tStr]
  cases P.underlying t with
  | none=>rfl
  | some u =>
    cases u with
    | string =>
      simp only [Bd,Xa,wC,gE,Option.isSome_none,Bool.false_eq_true,if_false]
      by_cases h1 : 0 ≤ n
      · by_cases h2 : 0 ≤ m
        · rw [if_pos h1,if_pos h2]
          by_cases h3 : n ≤ m ∧ m ≤ s.length
          · rw [if_pos (show 0 ≤ n ∧ n ≤ m ∧ m ≤ s.length from ⟨h1,h3⟩)]; simp only; rw [if_pos (by omega)]
          · rw [if_neg (show ¬ (0 ≤ n ∧ n ≤ m ∧ m ≤ s.length) by omega)]; simp only; rw [if_neg (by omega)]
        · rw [if_pos h1,if_neg h2,if_neg (show ¬ (0 ≤ n ∧ n ≤ m ∧ m ≤ s.length) by omega)]
      · rw [if_neg h1,if_neg (show ¬ (0 ≤ n ∧ n ≤ m ∧ m ≤ s.length) by omega)]
    | _=>rfl
theorem takeM {α β : Type} {f : α → β} {l : List α} {n : Nat} : (List.map f l).take n = List.map f (l.take n):=List.map_take.symm
theorem zkM : AV.emp.cells = some [.emp]:=rfl
theorem zpI {η : kB} {d : Nat} : aC η (d + 1) .emp = some (.emp,[]):=rfl
theorem zmf {ns : List Nat} {η : kB} {d : Nat} : nC ns η (d + 1) .emp = some (.emp,[]):=rfl
theorem zdQ {P : Program} {nt : Nat} {K : Exit → St → Prop} {c : Code} {s s2 : St} (rd : List Nat) (h1 : ∀ Kt : St → Prop,Kt s2 → Kt (s.frz rd)) (h2 : wB P nt c K s2) : wB P nt c K s:=ziR rd (h1 _ h2)
def gA (k : IntKind) (n : Int) : List AV:=[.int k n]
def xM (b : Bool) : List AV:=[.bool b]
def pL (s : List UInt8) : List AV:=[.str s]
def tA {α : Type} (z : Nat) (f : α → List AV) (l : List α) : List AV:=[.psl z (l.map f)]
theorem zdD {α β : Type} {f : α → β} {l : List α} : (List.map f l).take l.length = List.map f l:=by rw [← List.length_map (f:=f)]; exact List.take_length
theorem uG {α : Type} {f : α → List AV} (h : ∀ x,AV.isP.isPs (f x) = true) (l : List α) : (l.map f).all AV.isP.isPs = true:=by simp [h]
theorem pQ {α : Type} {f : α → List AV} (h : ∀ x,AV.flatR.flatRs (f x) = true) (l : List α) : (l.map f).all AV.flatR.flatRs = true:=by simp [h]
theorem AV.LeN.of_eq {N : vD} {a b : AV} (h : a = b) : a.LeN N b:=h ▸ AV.LeN.refl a
theorem qE.of_eq {N : vD} {a b : List (List AV)} (h : a = b) : qE N a b:=h ▸ qE.refl a
theorem AV.Le.of_eq {a b : AV} (h : a = b) : a.Le b:=h ▸ AV.Le.refl a
end Go.AM
