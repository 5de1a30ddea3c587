/- A text of the proof. -/
import Derived.Test.YtnlggkiekcpahaaGreatAAmY
set_option linter.unusedSimpArgs false
set_option linter.unusedVariables false
namespace Go.AM
open Go Go.RowKit
abbrev vD:=List (Nat × Nat)
def vD.ok (N : vD) (φ : kA) : Prop:=∀ n sz,wA N n = some sz → φ.blk n 0 = some (none,sz)
def AV.LeN (N : vD) (a b : AV) : Prop:=∀ (w : World) (F : Nat → Prop) (φ : kA) (v : Value),N.ok φ → fA w F φ a v → fA w F φ b v
theorem AV.LeN.refl {N : vD} (a : AV) : a.LeN N a:=fun _ _ _ _ _ h=>h
theorem AV.Le.toN {N : vD} {a b : AV} (h : a.Le b) : a.LeN N b:=fun _ _ _ _ _ hr=>h _ _ _ _ hr
theorem AV.LeN.top {N : vD} (a : AV) : a.LeN N .top:=(AV.Le.top a).toN
theorem AV.LeN.nils {N : vD} (sz : Nat) : AV.nils.LeN N (.psl sz []):=(AV.Le.nils sz).toN
theorem AV.LeN.bool {N : vD} (b : Bool) : (AV.bool b).LeN N .anyb:=(AV.Le.bool b).toN
theorem AV.LeN.nilb {N : vD} {n sz : Nat} (h : wA N n = some sz) : AV.nils.LeN N (.sl n 0 sz 0 0):=fun w F φ v hN hr=>by
  simp only [fA] at hr ⊢; refine .inl ⟨hN n sz h,?_,?_,none,hr⟩ <;> first | rfl | trivial
def wI (N : vD) : List AV → List AV → Prop
  | [],[]=>True
  | a::as,b::bs=>a.LeN N b ∧ wI N as bs
  | _,_=>False
theorem wI.refl {N : vD} : ∀ as : List AV,wI N as as
  | []=>trivial
  | a::as=>⟨AV.LeN.refl a,wI.refl as⟩
theorem wI.rel {N : vD} {w : World} {F : Nat → Prop} {φ : kA} (hN : N.ok φ) : ∀ {as bs : List AV} {vs : List Value},wI N as bs → uA w F φ as vs → uA w F φ bs vs
  | [],[],_,_,h=>h
  | a::as,b::bs,vs,hl,h=>by
    simp only [uA] at h ⊢
    obtain ⟨v,vs',h1,h2,h3⟩:=h
    exact ⟨v,vs',h1,hl.1 _ _ _ _ hN h2,wI.rel hN hl.2 h3⟩
  | [],_::_,_,hl,_=>hl.elim
  | _::_,[],_,hl,_=>hl.elim
theorem wI.length {N : vD} : ∀ {as bs : List AV},wI N as bs → as.length = bs.length
  | [],[],_=>rfl
  | _::as,_::bs,h=>by simp [wI.length h.2]
  | [],_::_,h=>h.elim
  | _::_,[],h=>h.elim
theorem AV.LeN.agg {N : vD} {as bs : List AV} (h : wI N as bs) : (AV.agg as).LeN N (.agg bs):=fun w F φ v hN hv=>by
  simp only [fA] at hv ⊢; obtain ⟨cs,h1,h2,h3⟩:=hv; exact ⟨cs,h1,h.rel hN h2,h3⟩
theorem AV.LeN.tup {N : vD} {as bs : List AV} (h : wI N as bs) : (AV.tup as).LeN N (.tup bs):=fun w F φ v hN hv=>by
  simp only [fA] at hv ⊢; obtain ⟨cs,h1,h2⟩:=hv; exact ⟨cs,h1,h.rel hN h2⟩
def qE (N : vD) : List (List AV) → List (List AV) → Prop
  | [],[]=>True
  | a::as,b::bs=>wI N a b ∧ qE N as bs
  | _,_=>False
theorem qE.refl {N : vD} : ∀ as : List (List AV),qE N as as
  | []=>trivial
  | a::as=>⟨wI.refl a,qE.refl as⟩
theorem qE.map {α : Type} {N : vD} {f g : α → List AV} (h : ∀ x,wI N (f x) (g x)) : ∀ l : List α,qE N (l.map f) (l.map g)
  | []=>trivial
  | a::as=>⟨h a,qE.map h as⟩
theorem qE.append {N : vD} : ∀ {a b c d : List (List AV)},qE N a b → qE N c d → qE N (a++c) (b++d)
  | [],[],_,_,_,h=>h
  | _::_,_::_,_,_,h,k=>⟨h.1,qE.append h.2 k⟩
  | [],_::_,_,_,h,_=>h.elim
  | _::_,[],_,_,h,_=>h.elim
theorem qE.rel {N : vD} {w : World} {F : Nat → Prop} {φ : kA} {b : Nat} (hN : N.ok φ) : ∀ {as bs : List (List AV)} {o : Nat},qE N as bs → fC w F φ as b o → fC w F φ bs b o
  | [],[],_,_,h=>h
  | a::as,c::bs,o,hl,h=>by
    simp only [fC] at h ⊢
    refine ⟨?_,?_⟩
    · have:=h.1
      rw [vF] at this ⊢
      obtain ⟨vs,h1,h2,h3⟩:=this
      exact ⟨vs,hl.1.rel hN h1,h2,h3⟩
    · rw [← hl.1.length]; exact qE.rel hN hl.2 h.2
  | [],_::_,_,hl,_=>hl.elim
  | _::_,[],_,hl,_=>hl.elim
theorem qE.length {N : vD} : ∀ {as bs : List (List AV)},qE N as bs → as.length = bs.length
  | [],[],_=>rfl
  | _::as,_::bs,h=>by simp [qE.length h.2]
  | [],_::_,h=>h.elim
  | _::_,[],h=>h.elim
theorem qE.sized {N : vD} {n : Nat} : ∀ {as bs : List (List AV)},qE N as bs → (∀ e ∈ as,e.length = n) → ∀ e ∈ bs,e.length = n
  | [],[],_,_,e,he=>by simp at he
  | a::as,b::bs,h,hs,e,he=>by
    rcases List.mem_cons.1 he with q | q
    · subst q; rw [← h.1.length]; exact hs a (by simp)
    · exact qE.sized h.2 (fun x hx=>hs x (by simp [hx])) e q
  | [],_::_,h,_,_,_=>h.elim
  | _::_,[],h,_,_,_=>h.elim
def yZ (N : vD) (fr : List (Nat × AV)) : List (Nat × AV) → Prop
  | []=>True
  | (t,v)::l=>(qB fr t).LeN N v ∧ yZ N fr l
theorem yZ.get {N : vD} {fr : List (Nat × AV)} : ∀ {l : List (Nat × AV)},yZ N fr l → ∀ t,(qB fr t).LeN N (qB l t)
  | [],_,t=>by rw [xV]; exact AV.LeN.top _
  | (k,v)::l,h,t=>by
    rw [cR]
    split
    · rename_i q; subst q; exact h.1
    · exact h.2.get t
def hZ (sz : Nat) : pA:={ g:=0,own:=true,pure:=true,sz:=sz,es:=[] }
def yX (N : vD) (y x : pA) : Prop:=y.g = x.g ∧ y.sz = x.sz ∧ qE (if x.pure then [] else N) y.es x.es ∧ (x.own = true → y.own = true) ∧ (x.pure = true → y.pure = true)
theorem yX.refl {N : vD} (x : pA) : yX N x x:=⟨rfl,rfl,qE.refl _,fun h=>h,fun h=>h⟩
def bZ (N : vD) (hp : List (Nat × pA)) : List (Nat × pA) → Prop
  | []=>True
  | (b,x)::l=>(match wA hp b with | some y=>yX N y x | none=>∃ sz,wA N b = some sz ∧ x = hZ sz) ∧ bZ N hp l
theorem bZ.get {N : vD} {hp : List (Nat × pA)} : ∀ {l : List (Nat × pA)},bZ N hp l → ∀ b x,wA l b = some x → (∃ y,wA hp b = some y ∧ yX N y x) ∨ (wA hp b = none ∧ ∃ sz,wA N b = some sz ∧ x = hZ sz)
  | [],_,b,x,hx=>by simp [wA] at hx
  | (k,z)::l,h,b,x,hx=>by
    simp only [wA] at hx
    split at hx
    · rename_i e; subst e; cases hx
      have:=h.1
      cases hy : wA hp b with
      | none=>rw [hy] at this; exact .inr ⟨rfl,this⟩
      | some y=>rw [hy] at this; exact .inl ⟨y,rfl,this⟩
    · exact h.2.get b x hx
def lZ (lo hi : Nat) : vD → Prop
  | []=>True
  | (n,_)::l=>lo ≤ n ∧ n < hi ∧ lZ lo hi l
theorem lZ.get {lo hi : Nat} : ∀ {N : vD},lZ lo hi N → ∀ n sz,wA N n = some sz → lo ≤ n ∧ n < hi
  | [],_,n,sz,h=>by simp [wA] at h
  | (k,z)::l,hN,n,sz,h=>by
    simp only [wA] at h
    split at h
    · rename_i e; subst e; exact ⟨hN.1,hN.2.1⟩
    · exact hN.2.2.get n sz h
structure LeN (N : vD) (s' s : St) : Prop where
  fr : yZ N s'.fr s.fr
  hp : bZ N s'.hp s.hp
  frB : cM s.nx s.fr = true
  hpB : nW s.nx s.hp = true
  lp : hC s.nx s'.lp s.lp
  nin : lZ s'.nx s.nx N
def kA.addN (φ : kA) (N : vD) : kA:={ φ with blk:=fun b g=>match wA N b with | some sz=>if g = 0 then some (none,sz) else none | none=>φ.blk b g }
section
variable {w0 w : World} {F : Nat → Prop} {φ : kA} {s s' : St} {N : vD}
theorem LeN.mem (h : LeN N s' s) (hm : qD w0 w F φ s') : qD w0 w F ((φ.addN N).cut s.nx) s ∧ φ.le (φ.addN N) ∧ N.ok (φ.addN N):=by
  have hno : ∀ n sz,wA N n = some sz → ∀ g,φ.blk n g = none:=fun n sz e g=>by
    cases hb : φ.blk n g with
    | none=>rfl
    | some x=>have:=hm.heap.used _ _ _ hb; have:=(h.nin.get n sz e).1; omega
  have hle : φ.le (φ.addN N):=by
    refine ⟨fun b g x hx=>?_,fun _ _ h=>h⟩
    simp only [kA.addN]
    cases e : wA N b with
    | none=>exact hx
    | some sz=>rw [hno b sz e g] at hx; cases hx
  have hok : N.ok (φ.addN N):=fun n sz e=>by simp only [kA.addN,e,if_true]
  have back : ∀ b g x,(φ.addN N).blk b g = some x → φ.blk b g = some x ∨ ∃ sz,wA N b = some sz ∧ g = 0 ∧ x = (none,sz):=fun b g x hx=>by
    simp only [kA.addN] at hx
    split at hx
    · rename_i sz e
      split at hx
      · rename_i e0; cases hx; exact .inr ⟨sz,e,e0,rfl⟩
      · cases hx
    · exact .inl hx
  have cutSome : ∀ b g x,((φ.addN N).cut s.nx).blk b g = some x → b < s.nx ∧ (φ.addN N).blk b g = some x:=fun b g x hx=>by
    simp only [kA.cut] at hx; split at hx
    · rename_i hb; exact ⟨hb,hx⟩
    · cases hx
  have oldB : ∀ b y,wA s'.hp b = some y → wA N b = none:=fun b y hy=>by
    cases e : wA N b with
    | none=>rfl
    | some sz =>
      obtain ⟨pl,p1,-⟩:=hm.heap.blk b y hy
      rw [hno b sz e] at p1; cases p1
  refine ⟨⟨⟨hm.heap.below,hm.heap.fb,fun b g x hx=>(cutSome b g x hx).1,fun b g cb sz hx=>?_,fun b x hx=>?_,fun b x hx g hg=>?_,fun b b' x y cb sz sz' hx hy e1 e2=>?_,hm.heap.fwk⟩,fun l x hx=>?_,fun l k hk=>⟨(kA.cut_loop hk).1,(hm.lused l k (kA.cut_loop hk).2).2⟩,fun l l' k e1 e2=>hm.linj l l' k (kA.cut_loop e1).2 (kA.cut_loop e2).2⟩,hle,hok⟩
  · rcases back _ _ _ (cutSome _ _ _ hx).2 with q | ⟨sz',_,_,q⟩
    · exact hm.heap.inb b g cb sz q
    · cases q
  · obtain ⟨hb,hpe⟩:=aZ h.hpB b x hx
    rcases h.hp.get b x hx with ⟨y,hy,g1,g2,g3,g4,g5⟩ | ⟨hy,sz,e,rfl⟩
    · obtain ⟨pl,p1,p2,p3⟩:=hm.heap.blk b y hy
      have hnn:=oldB b y hy
      refine ⟨pl,?_,by rw [← g2]; exact g3.sized p2,?_⟩
      · simp only [kA.cut]; rw [if_pos hb,← g1,← g2]; exact hle.1 _ _ _ p1
      · cases pl with
        | none=>simp only [kJ] at p3 ⊢; exact List.eq_nil_of_length_eq_zero (by rw [← g3.length,p3]; rfl)
        | some cb =>
          obtain ⟨f1,f2,f3,f4⟩:=p3
          refine ⟨f1,fun ho=>f2 (g4 ho),by rw [← g3.length,← g2]; exact f3,?_⟩
          unfold pA.emb at f4 ⊢
          by_cases hp : x.pure = true
          · rw [if_pos hp]; rw [if_pos (g5 hp)] at f4
            rw [if_pos hp] at g3
            exact g3.rel (fun n sz e=>by simp [wA] at e) f4
          · rw [if_neg hp]
            rw [if_neg hp] at g3
            have f5 : fC w F (φ.addN N) y.es cb 0:=by
              refine fC.mono (Ext0.refl F w) (fun _ h=>h) ?_ _ _ _ rfl f4
              split
              · exact kA.zero_le _
              · exact hle
            refine zch ?_ (g3.rel hok f5)
            rcases hpe with q | q
            · exact absurd q hp
            · exact q
    · refine ⟨none,?_,by simp [hZ],rfl⟩
      simp only [kA.cut]; rw [if_pos hb]; exact hok b sz e
  · have hb:=(aZ h.hpB b x hx).1
    simp only [kA.cut]; rw [if_pos hb]
    rcases h.hp.get b x hx with ⟨y,hy,g1,-⟩ | ⟨hy,sz,e,rfl⟩
    · have:=hm.heap.gen b y hy g (by rw [g1]; exact hg)
      simp only [kA.addN,oldB b y hy]; exact this
    · simp only [kA.addN,e]; rw [if_neg (by simp [hZ] at hg; omega)]
  · rcases back _ _ _ (cutSome _ _ _ e1).2 with q | ⟨z,_,_,q⟩
    · rcases back _ _ _ (cutSome _ _ _ e2).2 with q' | ⟨z,_,_,q'⟩
      · have pick : ∀ b x cb sz, wA s.hp b = some x → φ.blk b x.g = some (some cb, sz) → ∃ x', wA s'.hp b = some x' ∧ x'.g = x.g := fun b x cb sz hx e => by
          rcases h.hp.get b x hx with ⟨y,hy,g1,-⟩ | ⟨hy,z,e',rfl⟩
          · exact ⟨y,hy,g1⟩
          · rw [hno b z e'] at e; cases e
        obtain ⟨x',hx',g1⟩:=pick b x cb sz hx q
        obtain ⟨y',hy',g1'⟩:=pick b' y cb sz' hy q'
        exact hm.heap.inj b b' x' y' cb sz sz' hx' hy' (by rw [g1]; exact q) (by rw [g1']; exact q')
      · cases q'
    · cases q
  · obtain ⟨hln,y,hy,e1,e2,e3,e4,e5,e6,em,e7,e8⟩:=h.lp.get l x hx
    refine ⟨fun hm0=>?_,fun m hm1=>?_⟩
    rotate_left
    · obtain ⟨k,es,c,h1,h2,h3,h4⟩:=(hm.lps l y hy).2 m (em.trans hm1)
      exact ⟨k,es,c,by simp only [kA.cut]; rw [if_pos hln]; exact h1,h2,h3,h4⟩
    obtain ⟨k,rec,h1,h2,h3,h4,h5,h6,h7,h8,h9,h10⟩:=(hm.lps l y hy).1 (em.trans hm0)
    refine ⟨k,rec,by simp only [kA.cut]; rw [if_pos hln]; exact h1,h2,h3,h4.trans e5,h5.trans e6,h6.trans e2,h7.trans e3,h8.trans e4,⟨by rw [h9.size,e1],fun t=>?_⟩,h10⟩
    exact kU _ _ (jW e8 t) (fA.mono (Ext0.refl F w) (fun _ h=>h) hle _ _ (e7.get t _ _ _ _ (h9.val t)))
theorem LeN.fits {cx : Cx} {nt : Nat} {a : Act} (h : LeN N s' s) (hf : tE cx w0 w F φ nt a s') : tE cx w0 w F ((φ.addN N).cut s.nx) nt a s:=by
  obtain ⟨m1,m2,m3⟩:=h.mem hf.mem
  exact ⟨m1,⟨hf.tmps.size,fun t=>kU _ _ (jW h.frB t) (h.fr.get t _ _ _ _ m3 (fA.mono (Ext0.refl F w) (fun _ h=>h) m2 _ _ (hf.tmps.val t)))⟩,hf.env⟩
theorem oB {P : Program} {nt : Nat} {K : Exit → St → Prop} {c : Code} {s s2 : St} (N : vD) (hn : s.nx ≤ s2.nx) (hl : LeN N s s2) (h : wB P nt c K s2) : wB P nt c K s:=by
  intro cx w0 w F φ a hf
  refine wpIn_mono (h cx w0 w F _ a (hl.fits hf)) ?_
  rintro e a' w' ⟨s',φ',F',h1,h2,h3⟩
  refine ⟨s',φ',F',h1,⟨⟨fun b g x hx=>h2.le.1 _ _ _ ?_,fun l k hk=>h2.le.2 _ _ ?_⟩,h2.sub,h2.new,h2.ext,h2.opn,h2.lps,h2.mps⟩,h3⟩
  · have hb:=hf.mem.heap.used _ _ _ hx
    have:=(hl.mem hf.mem).2.1.1 _ _ _ hx
    simp only [kA.cut]; rw [if_pos (by omega)]; exact this
  · have:=(hf.mem.lused _ _ hk).1
    simp only [kA.cut]; rw [if_pos (by omega)]; exact hk
end
end Go.AM
