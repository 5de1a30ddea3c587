/- A text of the proof. -/
import Derived.Test.YtnlggkiekcpahaaGreatAAmZc
set_option linter.unusedSimpArgs false
set_option linter.unusedVariables false
namespace Go.AM
open Go Go.RowKit
section
variable {P : Program} {nt : Nat} {K : Exit → St → Prop} {ops : Array Oper}
theorem zfn {ans : Nat → Option (AV × List pA)} {nx : Nat} {lp : List (Nat × yD)} {jB : List Nat} : ∀ (seg : List Oper) (i j : Nat) (fr fr' : List (Nat × AV)) (hp hp' : List (Nat × pA)) (ses : List SE),
    lJ P nt ops ans nx (pE j seg) fr hp = some (fr',hp',ses) → fM P ses → (∀ (k : Nat) (o : Oper),seg[k]? = some o → ops[i + k]? = some o) →
    lE P nt ops jB K ⟨fr',hp',nx + 8 * (j + seg.length),lp⟩ → lE P nt ops (List.range' i seg.length++jB) K ⟨fr,hp,nx + 8 * j,lp⟩
  | [],i,j,fr,fr',hp,hp',ses,hr,_,_,h=>by
    simp only [pE,lJ,Option.some.injEq,Prod.mk.injEq] at hr
    obtain ⟨rfl,rfl,-⟩:=hr
    simpa using h
  | o::seg,i,j,fr,fr',hp,hp',ses,hr,hob,hops,h=>by
    simp only [pE,lJ] at hr
    split at hr
    · rename_i se hse
      split at hr
      · rename_i a b c hr2
        simp only [Option.some.injEq,Prod.mk.injEq] at hr
        obtain ⟨rfl,rfl,rfl⟩:=hr
        have h2:=zfn (lp:=lp) (jB:=jB) seg (i + 1) (j + 1) _ a _ b c hr2 hob.2 (fun k o hk=>by have:=hops (k + 1) o (by simpa using hk); rwa [show i + 1 + k = i + (k + 1) by omega]) (by rw [show j + 1 + seg.length = j + (o::seg).length by simp; omega]; exact h)
        have hi : ops[i]? = some o:=by have:=hops 0 o (by simp); simpa using this
        simp only [List.length_cons,List.range'_succ,List.cons_append]
        refine zhw (s:=⟨fr,hp,nx + 8 * j,lp⟩) hi hse ⟨hob.1,trivial⟩ ?_
        rw [show nx + 8 * j + 8 = nx + 8 * (j + 1) by omega]
        exact h2
      · cases hr
    · cases hr
theorem vC {seg : List Oper} {fr fr' : List (Nat × AV)} {hp hp' : List (Nat × pA)} {nx : Nat} {lp : List (Nat × yD)} (i n nx2 : Nat) (jB : List Nat) (ans : Nat → Option (AV × List pA)) (hseg : (ops.toList.drop i).take n = seg) (hl : seg.length = n) (hnx : nx + 8 * n = nx2)
    (h1 : ∀ Kt : List (Nat × AV) → List (Nat × pA) → Prop,Kt fr' hp' → @WL P nt ops ans (Xa nx) (pE 0 seg) fr hp ⟨[],[]⟩ fun fr hp _=>Kt fr hp)
    (h2 : lE P nt ops jB K ⟨fr',hp',nx2,lp⟩) : lE P nt ops (List.range' i n++jB) K ⟨fr,hp,nx,lp⟩:=by
  subst hnx
  obtain ⟨fr1,hp1,ses,q1,q2,q3,q4⟩:=WL.run _ _ _ _ (h1 (fun a b=>a = fr' ∧ b = hp') ⟨rfl,rfl⟩)
  subst q3; subst q4
  have h3:=zfn (lp:=lp) (jB:=jB) (K:=K) (ops:=ops) seg i 0 fr fr1 hp hp1 ses q1 q2 (fun k o hk=>by
    rw [← hseg,List.getElem?_take] at hk
    split at hk
    · rw [List.getElem?_drop] at hk
      rwa [Array.getElem?_toList] at hk
    · cases hk) (by rw [hl,Nat.zero_add]; exact h2)
  rw [hl] at h3
  exact h3
theorem oX {id : Nat} {ops : Array Oper} {s : St} (n : Nat) (hn : ops.size = n) (h : lE P nt ops (List.range' 0 n++[]) K s) : wB P nt (.region id ops false) K s:=by
  refine zgK ?_
  rw [List.range_eq_range',hn]; simpa using h
theorem vH {id : Nat} {ops : Array Oper} {y : Code} {s : St} (n : Nat) (hn : ops.size = n) (h : lE P nt ops (List.range' 0 n++[]) (tN (wB P nt y K) K) s) : wB P nt (.seq (.region id ops false) y) K s:=iA (oX n hn h)
theorem oC {s : St} {l l' : List Nat} (e : l = l') (h : lE P nt ops l' K s) : lE P nt ops l K s:=e ▸ h
theorem fK {s : St} {i : Nat} {o : Oper} {jB : List Nat} {f : Operand} {args : List Operand} {fid : FuncId} {first cap avs : List AV} {fn : Func} {c : Code} (hi : ops[i]? = some o) (hc : mM o.op = some (f, args)) (hg : kN nt ops o (qB s.fr) = true) (hd : xG nt o = true)
    (hfv : yB (qB s.fr) f = .fn fid first cap) (hf : P.funcs[fid]? = some fn) (hb : fn.body = some c) (hn : fn.name ≠ "runtime.NumGoroutine") (ha : first++args.map (yB (qB s.fr))++cap = avs) (hl : avs.length ≤ fn.ntmps)
    (h : wB P fn.ntmps c (bP P fn.results.toList (s.lp.map (·.1)) fun r s'=>lE P nt ops jB K ⟨jH s.fr o.dst r,s'.hp,s'.nx,s'.lp⟩) ⟨gK 0 avs,s.hp,s.nx,s.lp⟩) : lE P nt ops (i::jB) K s:=by
  refine zfU hi hc hg hd hfv ?_
  rw [ha]
  exact zbK hf hb hn hl h
theorem oE {s : St} {rs : List ResultVar} {G : AV → St → Prop} {N : List Nat} {vs : List AV} (h1 : ∀ Kt : List AV → Prop,Kt vs → bC (jE P s rs) Kt) (h2 : G (qH vs) { s with lp:=fE N s.lp }) : bP P rs N G .ret s:=by
  obtain ⟨vs',h3,h4⟩:=(h1 (fun x=>x = vs) rfl).get
  subst h4
  exact ⟨vs',h3,h2⟩
theorem jS {s : St} {rs : List ResultVar} {G : AV → St → Prop} {N : List Nat} {vs : List AV} (h1 : ∀ Kt : List AV → Prop,Kt vs → bC (jE P s rs) Kt) (h2 : G (qH vs) { s with lp:=fE N s.lp }) : bP P rs N G .normal s:=by
  obtain ⟨vs',h3,h4⟩:=(h1 (fun x=>x = vs) rfl).get
  subst h4
  exact ⟨vs',h3,h2⟩
theorem kK {s s2 : St} {l : List Nat} (N : vD) (hn : s.nx ≤ s2.nx) (hl : LeN N s s2) (h : lE P nt ops l K s2) : lE P nt ops l K s:=by
  intro x w0 w F φ a hf Q hQ
  have hsle:=(hl.mem hf.mem).2.1
  refine h x w0 w F _ a (hl.fits hf) Q fun e a' w' s' φ' F' h1 h2 h3=>hQ e a' w' s' φ' F' h1 ⟨⟨fun b g y hy=>h2.le.1 _ _ _ ?_,fun l k hk=>h2.le.2 _ _ ?_⟩,h2.sub,h2.new,h2.ext,h2.opn,h2.lps,h2.mps⟩ h3
  · have hb:=hf.mem.heap.used _ _ _ hy
    have:=hsle.1 _ _ _ hy
    simp only [kA.cut]; rw [if_pos (by omega)]; exact this
  · have:=(hf.mem.lused _ _ hk).1
    simp only [kA.cut]; rw [if_pos (by omega)]; exact hk
variable {s : St}
theorem za4 {g : Operand} {ps : Array Tmp} {assign body c : Code} {fid : FuncId} {first cap : List AV} {fn : Func} (hg : yB (qB s.fr) g = .fn fid first cap) (hf : P.funcs[fid]? = some fn) (hb : fn.body = some c) (hn : fn.name ≠ "runtime.NumGoroutine") (hl : (first ++ [AV.yld s.nx] ++ cap).length ≤ fn.ntmps)
    (h : ∀ RC : yD,RC = ⟨s.fr,nt,ps.toList,assign,body,.ready,none,none⟩ → wB P fn.ntmps c (bP P fn.results.toList (s.nx::s.lp.map (·.1)) (za2 P nt K s)) ⟨gK 0 (first++[AV.yld s.nx]++cap),s.hp,s.nx + 1,(s.nx,RC)::s.lp⟩) : wB P nt (.rangeFunc g ps assign body) K s :=
  zgd hg (zbK hf hb hn hl (h _ rfl))
theorem zaR {i : Nat} {o : Oper} {jB : List Nat} {f : Operand} {args : List Operand} {l nt0 : Nat} {x : yD} {fr0 : List (Nat × AV)} {ps0 : List Nat} {asg bdy : Code} {avs : List AV} (e : x = ⟨fr0, nt0, ps0, asg, bdy, .ready, none, none⟩) (hi : ops[i]? = some o) (hc : mM o.op = some (f, args)) (hg : kN nt ops o (qB s.fr) = true) (hd : xG nt o = true)
    (hfv : yB (qB s.fr) f = .yld l) (hlx : wA s.lp l = some x) (hlen : args.length = ps0.length) (hps : ps0.all (fun p=>decide (p < nt0)) = true) (ha : args.map (yB (qB s.fr)) = avs)
    (h : wB P nt0 asg (tN (fun s1=>∃ y,wA s1.lp l = some y ∧ y.st = .ready ∧
      wB P nt0 bdy (zaN l fun b s2=>lE P nt ops jB K ⟨jH s.fr o.dst (.bool b),s2.hp,s2.nx,s2.lp⟩) { s1 with lp:=bG s1.lp l { y with st:=.busy,pend:=y.pend } }) (fun _ _=>False))
      ⟨qR fr0 ps0 avs,s.hp,s.nx,s.lp⟩) : lE P nt ops (i::jB) K s:=by
  subst e
  subst ha
  exact zly hi hc hg hd hfv hlx rfl hlen hps h
theorem gP {c : Operand} {x y : Code} {b : Bool} (hc : yB (qB s.fr) c = .bool b) (hb : b = true) (h : wB P nt x K s) : wB P nt (.cond c x y) K s:=kI (hc.trans (by rw [hb])) h
def uY (m : Nat) (x : yD) : Prop:=lS x.fr x.fr ∧ cM m x.fr = true
mutual
theorem zaO {m n : Nat} (h : m ≤ n) : ∀ (v : AV),v.under m = true → v.under n = true
  | .ref b g i j,hv=>by simp only [AV.under,decide_eq_true_eq] at hv ⊢; omega
  | .sl b g z o l,hv=>by simp only [AV.under,decide_eq_true_eq] at hv ⊢; omega
  | .yld l,hv=>by simp only [AV.under,decide_eq_true_eq] at hv ⊢; omega
  | .mp l,hv=>by simp only [AV.under,decide_eq_true_eq] at hv ⊢; omega
  | .fn f a c,hv=>by
    simp only [AV.under,Bool.and_eq_true] at hv ⊢
    exact ⟨iW h a hv.1,iW h c hv.2⟩
  | .iface t x,hv=>by simp only [AV.under] at hv ⊢; exact zaO h x hv
  | .agg cs,hv=>by simp only [AV.under] at hv ⊢; exact iW h cs hv
  | .tup cs,hv=>by simp only [AV.under] at hv ⊢; exact iW h cs hv
  | .top,_=>rfl
  | .anyb,_=>rfl
  | .bool _,_=>rfl
  | .int _ _,_=>rfl
  | .str _,_=>rfl
  | .nilp,_=>rfl
  | .pp _,_=>rfl
  | .psl _ _,_=>rfl
  | .nils,_=>rfl
  | .nilf,_=>rfl
  | .nili,_=>rfl
  | .emp,_=>rfl
theorem iW {m n : Nat} (h : m ≤ n) : ∀ (vs : List AV),AV.under.belows m vs = true → AV.under.belows n vs = true
  | [],_=>rfl
  | a::as,hv=>by
    simp only [AV.under.belows,Bool.and_eq_true] at hv ⊢
    exact ⟨zaO h a hv.1,iW h as hv.2⟩
end
theorem zde {m n : Nat} (h : m ≤ n) : ∀ (l : List (Nat × AV)),cM m l = true → cM n l = true
  | [],_=>rfl
  | (_,v)::l,hl=>by
    simp only [cM,Bool.and_eq_true] at hl ⊢
    exact ⟨zaO h v hl.1,zde h l hl.2⟩
theorem hC.consR {n m l : Nat} {lp' jB : List (Nat × yD)} {x : yD} (h1 : l < n) (h2 : wA lp' l = some x) (ok : uY m x) (hm : m ≤ n) (hr : hC n lp' jB) : hC n lp' ((l,x)::jB) :=
  ⟨h1,⟨x,h2,rfl,rfl,rfl,rfl,rfl,rfl,rfl,ok.1,zde hm _ ok.2⟩,hr⟩
theorem za5 {l : Nat} {N : Bool → St → Prop} {RC : yD} {p : Option Code} (e : RC.st = .ready ∧ RC.pend = none) (hy : wA s.lp l = some { RC with st:=.busy,pend:=p }) (h : N true { s with lp:=bG s.lp l RC }) : zaN l N .normal s:=by
  refine ⟨_,hy,?_⟩
  have : ({ RC with st:=.ready,pend:=none } : yD) = RC:=by obtain ⟨e1,e2⟩:=e; cases RC; simp_all
  simp only [this]; exact h
theorem zbI {s2 : St} {v : AV} {RC : yD} (e : RC.st = .ready ∧ RC.pend = none) (hy : wA s2.lp s.nx = some RC) (h : K .normal ⟨s.fr,s2.hp,s2.nx,fE (s.lp.map (·.1)) s2.lp⟩) : za2 P nt K s v s2:=by
  refine ⟨RC,hy,by rw [e.1]; rfl,?_⟩
  rw [e.2]; exact h
theorem awp_r3 {id : Nat} {l : List Oper} {fr fr' : List (Nat × AV)} {hp hp' : List (Nat × pA)} {nx : Nat} {lp : List (Nat × yD)} (N : List Nat) (nx2 : Nat) (L : List Nat) (ans : Nat → Option (AV × List pA)) (hnx : nx + 8 * l.length = nx2)
    (h1 : ∀ Kt : List (Nat × AV) → List (Nat × pA) → Prop,Kt fr' hp' → @WL P nt ⟨l⟩ ans (Xa nx) (pE 0 l) fr hp ⟨[],[]⟩ fun fr hp _=>Kt (sE L fr) (fE N hp))
    (h2 : K .normal ⟨fr',hp',nx2,lp⟩) : wB P nt (.region id (List.toArray l) false) K ⟨fr,hp,nx,lp⟩:=by
  subst hnx
  obtain ⟨fr1,hp1,ses,q1,q2,q3,q4⟩:=WL.run _ _ _ _ (h1 (fun a b=>a = fr' ∧ b = hp') ⟨rfl,rfl⟩)
  subst q4
  exact zoN (s:=⟨fr,hp,nx,lp⟩) (ops:=List.toArray l) L N q1 q2 (by rw [q3]; exact h2)
theorem awp_d3 {id : Nat} {l : List Oper} {fr fr' : List (Nat × AV)} {hp hp' : List (Nat × pA)} {nx : Nat} {lp : List (Nat × yD)} (N : List Nat) (nx2 : Nat) (L : List Nat) (ans : Nat → Option (AV × List pA)) (hnx : nx + 8 * l.length = nx2) (hmix : P.follows .mixedOrders = true) (hback : vK 0 l = true)
    (h1 : ∀ Kt : List (Nat × AV) → List (Nat × pA) → Prop,Kt fr' hp' → @WL P nt ⟨l⟩ ans (Xa nx) (pE 0 l) fr hp ⟨l,[]⟩ fun fr hp acc=>@sS acc ∧ Kt (sE L fr) (fE N hp))
    (h2 : K .normal ⟨fr',hp',nx2,lp⟩) : wB P nt (.region id (List.toArray l) true) K ⟨fr,hp,nx,lp⟩:=by
  subst hnx
  obtain ⟨fr1,hp1,ses,q1,q2,q0,q3,q4⟩:=WL.run _ _ _ _ (h1 (fun a b=>a = fr' ∧ b = hp') ⟨rfl,rfl⟩)
  subst q4
  exact zmH (s:=⟨fr,hp,nx,lp⟩) (ops:=List.toArray l) L N q1 q2 hmix hback (by simpa [sS] using q0) (by rw [q3]; exact h2)
theorem jC {id : Nat} {l : List Oper} {y : Code} {fr fr' : List (Nat × AV)} {hp hp' : List (Nat × pA)} {nx : Nat} {lp : List (Nat × yD)} (N : List Nat) (nx2 : Nat) (L : List Nat) (ans : Nat → Option (AV × List pA)) (hnx : nx + 8 * l.length = nx2)
    (h1 : ∀ Kt : List (Nat × AV) → List (Nat × pA) → Prop,Kt fr' hp' → @WL P nt ⟨l⟩ ans (Xa nx) (pE 0 l) fr hp ⟨[],[]⟩ fun fr hp _=>Kt (sE L fr) (fE N hp))
    (h2 : wB P nt y K ⟨fr',hp',nx2,lp⟩) : wB P nt (.seq (.region id (List.toArray l) false) y) K ⟨fr,hp,nx,lp⟩:=iA (awp_r3 N nx2 L ans hnx h1 h2)
theorem iL {id : Nat} {l : List Oper} {y : Code} {fr fr' : List (Nat × AV)} {hp hp' : List (Nat × pA)} {nx : Nat} {lp : List (Nat × yD)} (N : List Nat) (nx2 : Nat) (L : List Nat) (ans : Nat → Option (AV × List pA)) (hnx : nx + 8 * l.length = nx2) (hmix : P.follows .mixedOrders = true) (hback : vK 0 l = true)
    (h1 : ∀ Kt : List (Nat × AV) → List (Nat × pA) → Prop,Kt fr' hp' → @WL P nt ⟨l⟩ ans (Xa nx) (pE 0 l) fr hp ⟨l,[]⟩ fun fr hp acc=>@sS acc ∧ Kt (sE L fr) (fE N hp))
    (h2 : wB P nt y K ⟨fr',hp',nx2,lp⟩) : wB P nt (.seq (.region id (List.toArray l) true) y) K ⟨fr,hp,nx,lp⟩:=iA (awp_d3 N nx2 L ans hnx hmix hback h1 h2)
end
theorem replI {k : IntKind} {n : Nat} {z : Int} : List.replicate n [AV.int k z] = List.map (gA k) (List.replicate n z):=by simp [gA]
theorem replB {n : Nat} {z : Bool} : List.replicate n [AV.bool z] = List.map xM (List.replicate n z):=by simp [xM]
theorem replS {n : Nat} {z : List UInt8} : List.replicate n [AV.str z] = List.map pL (List.replicate n z):=by simp [pL]
theorem zjb {α : Type} {f : α → List AV} {n : Nat} {a : α} : (List.map f (List.replicate n a)).take n = List.map f (List.replicate n a):=by
  have:=zdD (f:=f) (l:=List.replicate n a)
  rwa [List.length_replicate] at this
theorem ziI {α : Type} {n : Nat} {a : α} : (List.replicate n a).take n = List.replicate n a:=by
  rw [List.take_replicate,Nat.min_self]
attribute [push_cast] zjb ziI replI replB replS List.filter_cons
theorem rA {p q : Prop} (h : p) (k : q) : p ∧ q:=⟨h,k⟩
theorem rL {n m : Nat} (h : Nat.ble n m = true:=by rfl) : n ≤ m:=Nat.le_of_ble_eq_true h
theorem rT {p : Prop} (h : p:=by
  simp (maxSteps:=1000000) only [↓reduceIte,reduceCtorEq,Nat.reduceEqDiff,Nat.reduceLT,Nat.reduceLeDiff,Nat.reduceAdd,Nat.reduceMul,Int.reduceToNat,push_cast]
  repeat' (first | assumption | refine And.intro ?_ ?_ | exact Nat.le_refl _ | omega | (intro _) | (simp; done))) : p:=h
theorem rC {q p : Prop} (c : q) (h : q → p:=by
  intro c
  simp (maxSteps:=1000000) only [↓reduceIte,reduceCtorEq,Nat.reduceEqDiff,Nat.reduceLT,Nat.reduceLeDiff,Nat.reduceAdd,Nat.reduceMul,Int.reduceToNat,push_cast]
  repeat' (first | assumption | refine And.intro ?_ ?_ | exact Nat.le_refl _ | omega | (intro _) | (simp; done))) : p:=h c
theorem rS {q p : Prop} (f : q) (h : q → p:=by
  intro f
  simp (maxSteps:=1000000) only [↓reduceIte,reduceCtorEq,Nat.reduceEqDiff,Nat.reduceLT,Nat.reduceLeDiff,Nat.reduceAdd,Nat.reduceMul,Int.reduceToNat,push_cast,f]
  repeat' (first | assumption | refine And.intro ?_ ?_ | exact Nat.le_refl _ | omega | (intro _) | (simp; done))) : p:=h f
theorem rB {q r p : Prop} (f : q) (c : r) (h : q → r → p:=by
  intro f c
  simp (maxSteps:=1000000) only [↓reduceIte,reduceCtorEq,Nat.reduceEqDiff,Nat.reduceLT,Nat.reduceLeDiff,Nat.reduceAdd,Nat.reduceMul,Int.reduceToNat,push_cast,f]
  repeat' (first | assumption | refine And.intro ?_ ?_ | exact Nat.le_refl _ | omega | (intro _) | (simp; done))) : p:=h f c
theorem rU {p : Prop} (h : p:=by
  repeat' (first | assumption | refine And.intro ?_ ?_ | exact Nat.le_refl _ | omega | (intro _) | (simp; done))) : p:=h
theorem iF {p : Prop} (h : p:=by
  simp (maxSteps:=1000000) only [↓reduceIte,reduceCtorEq,Nat.reduceEqDiff,Nat.reduceLT,Nat.reduceLeDiff,Nat.reduceAdd,Nat.reduceMul,Int.reduceToNat,push_cast]
  repeat' (first | assumption | (show mH _ _ _ = true; kernel_rfl) | refine And.intro ?_ ?_ | exact Nat.le_refl _ | omega | (intro _) | (simp; done))) : p:=h
theorem hO {q p : Prop} (c : q) (h : q → p:=by
  intro c
  simp (maxSteps:=1000000) only [↓reduceIte,reduceCtorEq,Nat.reduceEqDiff,Nat.reduceLT,Nat.reduceLeDiff,Nat.reduceAdd,Nat.reduceMul,Int.reduceToNat,push_cast]
  repeat' (first | assumption | (show mH _ _ _ = true; kernel_rfl) | refine And.intro ?_ ?_ | exact Nat.le_refl _ | omega | (intro _) | (simp; done))) : p:=h c
theorem xD {q p : Prop} (f : q) (h : q → p:=by
  intro f
  simp (maxSteps:=1000000) only [↓reduceIte,reduceCtorEq,Nat.reduceEqDiff,Nat.reduceLT,Nat.reduceLeDiff,Nat.reduceAdd,Nat.reduceMul,Int.reduceToNat,push_cast,f]
  repeat' (first | assumption | (show mH _ _ _ = true; kernel_rfl) | refine And.intro ?_ ?_ | exact Nat.le_refl _ | omega | (intro _) | (simp; done))) : p:=h f
theorem wK {q r p : Prop} (f : q) (c : r) (h : q → r → p:=by
  intro f c
  simp (maxSteps:=1000000) only [↓reduceIte,reduceCtorEq,Nat.reduceEqDiff,Nat.reduceLT,Nat.reduceLeDiff,Nat.reduceAdd,Nat.reduceMul,Int.reduceToNat,push_cast,f]
  repeat' (first | assumption | (show mH _ _ _ = true; kernel_rfl) | refine And.intro ?_ ?_ | exact Nat.le_refl _ | omega | (intro _) | (simp; done))) : p:=h f c
section
variable {P : Program} {nt : Nat} {K : Exit → St → Prop} {fr fr' : List (Nat × AV)} {hp hp' : List (Nat × pA)} {nx : Nat} {lp : List (Nat × yD)}
theorem xR {id : Nat} {l : List Oper} (nx2 : Nat) (L : List Nat) (h2 : K .normal ⟨fr', hp', nx2, lp⟩) (hnx : nx + 8 * l.length = nx2 := by rfl)
    (h1 : ∀ Kt : List (Nat × AV) → List (Nat × pA) → Prop,Kt fr' hp' → @WL P nt ⟨l⟩ (fun _=>none) (Xa nx) (pE 0 l) fr hp ⟨[],[]⟩ fun fr hp _=>Kt (sE L fr) hp:=by exact fun _ _=>rT) : wB P nt (.region id (List.toArray l) false) K ⟨fr,hp,nx,lp⟩:=nB nx2 L _ hnx h1 h2
theorem xS {id : Nat} {l : List Oper} {y : Code} (nx2 : Nat) (L : List Nat) (h2 : wB P nt y K ⟨fr', hp', nx2, lp⟩) (hnx : nx + 8 * l.length = nx2 := by rfl)
    (h1 : ∀ Kt : List (Nat × AV) → List (Nat × pA) → Prop,Kt fr' hp' → @WL P nt ⟨l⟩ (fun _=>none) (Xa nx) (pE 0 l) fr hp ⟨[],[]⟩ fun fr hp _=>Kt (sE L fr) hp:=by exact fun _ _=>rT) : wB P nt (.seq (.region id (List.toArray l) false) y) K ⟨fr,hp,nx,lp⟩:=nA nx2 L _ hnx h1 h2
theorem xI {α : Type} {A B : Option α} {r : Option α} {b : Bool} {c : Operand} {x y : Code} {s : St} (h : (if b = true then A else B) = r) (hc : yB (qB s.fr) c = .bool b) (h1 : A = r → b = true → wB P nt x K s) (h2 : B = r → b = false → wB P nt y K s) : wB P nt (.cond c x y) K s :=
  awp_if hc (fun hb=>h1 (zA h hb) hb) (fun hb=>h2 (sA h hb) hb)
end
end Go.AM
