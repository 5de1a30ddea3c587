/- Texts of the proof, joined by program. -/
import Derived.Test.YtaeifdlkolfdjaaGreatDoorKAmZu
section
set_option linter.unusedSimpArgs false
set_option linter.unusedVariables false
namespace Go.AM
open Go
inductive R:Type->Type 1 where|bad{L:Type}:R L|lf{L:Type}(o:L):R L|both{L:Type}(x y:R L):R L|br{L:Type}(b:Bool)(x y:R L):R L|ask{L α:Type}(o:Option α)(k:α->R L):R L|gd{L:Type}(p:Prop)(d:Decidable p)(x:R L):R L|eqn{L α:Type}(a b:α)(x:R L):R L|len{L:Type}(a b:Nat)(x:R L):R L|sub{L α:Type}(x:R α)(k:α->R L):R L|alt{L A B:Type}(s:Sum A B)(k:A->R L)(l:B->R L):R L|loop{L X Y:Type}(fu:Nat)(b:Nat->X->R (Sum X Y))(x0:X)(k:Y->R L):R L|pk{L α:Type}(xs:List α)(n:R L)(k:α->List α->R L):R L|loopC{L X Y:Type}(fu:Nat)(b:Nat->X->R (Sum X Y))(x0:X)(k:Y->R L):R L
noncomputable def bnd{A B:Type}(r:R A)(f:A->R B):R B:=R.rec (motive:=λL _=>(L->R B)->R B) (λ_=>.bad) (λo f=>f o) (λ_ _ x y f=>.both (x f) (y f)) (λb _ _ x y f=>.br b (x f) (y f)) (λo _ k f=>.ask o λa=>k a f) (λp d _ x f=>.gd p d (x f)) (λa b _ x f=>.eqn a b (x f)) (λa b _ x f=>.len a b (x f)) (λx _ _ k f=>.sub x λa=>k a f) (λs _ _ k l f=>.alt s (λa=>k a f) λb=>l b f) (λfu b x0 _ _ k f=>.loop fu b x0 λy=>k y f) (λxs _ _ n k f=>.pk xs (n f) λa l=>k a l f) (λfu b x0 _ _ k f=>.loopC fu b x0 λy=>k y f) r f
noncomputable def lpc{X Y:Type}(step:Nat->(X->Option Y)->X->Option Y)(fu:Nat):X->Option Y:=Nat.rec (motive:=λ_=>X->Option Y) (λ_=>none) (λn ih x=>step n ih x) fu
theorem lpc_succ{X Y:Type}(step:Nat->(X->Option Y)->X->Option Y)(n:Nat)(x:X):lpc step (n+1) x=step n (lpc step n) x:=rfl
def loopH{X Y:Type}(hb:Nat->X->(Sum X Y->Prop)->Prop):Nat->X->(Y->Prop)->Prop|0,_,_=>False|n+1,x,Q=>hb n x λs=>match s with|.inl x'=>loopH hb n x' Q|.inr y=>Q y
noncomputable def holds{L:Type}(r:R L):(L->Prop)->Prop:=R.rec (motive:=λL _=>(L->Prop)->Prop) (λ_=>False) (λo Q=>Q o) (λ_ _ x y Q=>x Q/\y Q) (λb _ _ x y Q=>if b=true then x Q else y Q) (λo _ k Q=>∃a,o=some a/\k a Q) (λp _ _ x Q=>p/\x Q) (λa b _ x Q=>a=b/\x Q) (λa b _ x Q=>a=b/\x Q) (λ_ _ x k Q=>x λa=>k a Q) (λs _ _ k l Q=>match s with|.inl a=>k a Q|.inr b=>l b Q) (λfu _ x0 _ hb k Q=>loopH hb fu x0 λy=>k y Q) (λxs _ _ n k Q=>(xs=[]->n Q)/\ ∀j a,xs[j]?=some a->k a (dropAt xs j) Q) (λfu _ x0 _ hb k Q=>loopH hb fu x0 λy=>k y Q) r
noncomputable def pick{α Z:Type}(xs:List α)(n:Option Z)(f:α->List α->Option Z):Option Z:=open Classical in match xs with|[]=>n|x::l=>if h:∃z,∀j a,(x::l)[j]?=some a->f a (dropAt (x::l) j)=some z then some h.choose else none
theorem pick_some{α Z:Type}{xs:List α}{n:Option Z}{f:α->List α->Option Z}{z:Z}(h:pick xs n f=some z):(xs=[]->n=some z)/\ ∀j a,xs[j]?=some a->f a (dropAt xs j)=some z:=by
 cases xs with
  |nil=>exact⟨λ_=>h,(λj a e=>nomatch e)⟩
  |cons x l=>
   refine⟨(λe=>nomatch e),?_⟩;unfold pick at h;simp only at h;split at h;.rename_i k;cases h;exact k.choose_spec
   .cases h
theorem pick_all{α Z:Type}{xs:List α}{n:Option Z}{f:α->List α->Option Z}{z:Z}(h0:xs=[]->n=some z)(h:∀j a,xs[j]?=some a->f a (dropAt xs j)=some z):pick xs n f=some z:=by cases xs with|nil=>exact h0 rfl|cons x l=>unfold pick;have k:∃z,∀j a,(x::l)[j]?=some a->f a (dropAt (x::l) j)=some z:=⟨z,h⟩;simp only;rw[dif_pos k];have h1:=k.choose_spec 0 x rfl;rw[h 0 x rfl]at h1;rw[h1]
noncomputable def meet{Z:Type}(a b:Option Z):Option Z:=open Classical in if a=b then a else none
theorem meet_some{Z:Type}{a b:Option Z}{z:Z}(h:meet a b=some z):a=some z/\b=some z:=by
 unfold meet at h;split at h;.rename_i e;exact⟨h,e▸h⟩
 .cases h
noncomputable def eval(m:Bool){L:Type}(r:R L):(Z:Type)->(L->Option Z)->Option Z:=R.rec (motive:=λL _=>(Z:Type)->(L->Option Z)->Option Z) (λ_ _=>none) (λo _ q=>q o) (λ_ _ x y Z q=>meet (x Z q) (y Z q)) (λb _ _ x y Z q=>if b=true then x Z q else y Z q) (λo _ k Z q=>o.bind λa=>k a Z q) (λp d _ x Z q=>@ite _ p d (x Z q) none) (λ_ _ _ x Z q=>x Z q) (λa b _ x Z q=>match m with|true=>if a=b then x Z q else none|false=>x Z q) (λ{_ α} _ _ x k Z q=>(x α some).bind λa=>k a Z q) (λs _ _ k l Z q=>match s with|.inl a=>k a Z q|.inr b=>l b Z q) (λ{_ X Y} fu _ x0 _ hb k Z q=>(lpc (λn rec x=>hb n x Y λs=>match s with|.inl x'=>rec x'|.inr y=>some y) fu x0).bind λy=>k y Z q) (λxs _ _ n k Z q=>pick xs (n Z q) λa l=>k a l Z q) (λ{_ X Y} fu _ x0 _ hb k Z q=>lpc (λn rec x=>hb n x Z λs=>match s with|.inl x'=>rec x'|.inr y=>k y Z q) fu x0) r
noncomputable def nrm(m:Bool){L:Type}(r:R L):R L:=R.rec (motive:=λL _=>R L) .bad (λo=>.lf o) (λ_ _ x y=>.both x y) (λb _ _ x y=>.br b x y) (λo _ k=>.ask o k) (λp d _ x=>.gd p d x) (λa _ _ x=>.eqn a a x) (λa b _ x=>match m with|true=>.len a b x|false=>.len a a x) (λ_ _ x k=>.sub x k) (λs _ _ k l=>.alt s k l) (λfu _ x0 _ hb k=>.loop fu hb x0 k) (λxs _ _ n k=>.pk xs n k) (λfu _ x0 _ hb k=>.loopC fu hb x0 k) r
noncomputable def okE(m:Bool){L:Type}(r:R L):Prop:=R.rec (motive:=λL _=>Prop) True (λ_=>True) (λ_ _ x y=>x/\y) (λ_ _ _ x y=>x/\y) (λ_ _ k=>∀a,k a) (λ_ _ _ x=>x) (λa b _ x=>a=b/\x) (λa b _ x=>(m=true\/a=b)/\x) (λ_ _ x k=>x/\ ∀a,k a) (λ_ _ _ k l=>(∀a,k a)/\ ∀b,l b) (λ_ _ _ _ hb k=>(∀n x,hb n x)/\ ∀y,k y) (λ_ _ _ n k=>n/\ ∀a l,k a l) (λ_ _ _ _ hb k=>(∀n x,hb n x)/\ ∀y,k y) r
noncomputable def leaves{L:Type}(r:R L):Option (List L):=R.rec (motive:=λL _=>Option (List L)) none (λo=>some [o]) (λ_ _ x y=>match x,y with|some a,some b=>some (a++b)|_,_=>none) (λ_ _ _ _ _=>none) (λ_ _ _=>none) (λ_ _ _ _=>none) (λ_ _ _ _=>none) (λ_ _ _ _=>none) (λ_ _ _ _=>none) (λ_ _ _ _ _=>none) (λ_ _ _ _ _ _=>none) (λ_ _ _ _ _=>none) (λ_ _ _ _ _ _=>none) r
noncomputable def dets{L:Type}(r:R L):R L:=R.rec (motive:=λL _=>R L) .bad (λo=>.lf o) (λ_ _ _ _=>.bad) (λb _ _ x y=>.br b x y) (λo _ k=>.ask o k) (λp d _ x=>.gd p d x) (λa b _ x=>.eqn a b x) (λa b _ x=>.len a b x) (λ_ _ x k=>.sub x k) (λs _ _ k l=>.alt s k l) (λfu _ x0 _ hb k=>.loop fu hb x0 k) (λ_ _ _ _ _=>.bad) (λfu _ x0 _ hb k=>.loopC fu hb x0 k) r
theorem loopH_mono{X Y:Type}{h h':Nat->X->(Sum X Y->Prop)->Prop}(hh:∀n x(P Q:Sum X Y->Prop),(∀s,P s->Q s)->h n x P->h' n x Q):∀(n:Nat)(x:X)(P Q:Y->Prop),(∀y,P y->Q y)->loopH h n x P->loopH h' n x Q|0,_,_,_,_,k=>k.elim|n+1,x,P,Q,hQ,k=>hh n x _ _ (λs=>match s with|.inl x'=>loopH_mono hh n x' P Q hQ|.inr y=>hQ y) k
theorem holds_mono{L:Type}{r:R L}{P Q:L->Prop}(h:∀o,P o->Q o)(k:holds r P):holds r Q:=by
 induction r with
  |bad=>exact k
  |lf o=>exact h _ k
  |both x y ix iy=>exact⟨ix h k.1,iy h k.2⟩
  |br b x y ix iy=>
   change if b=true then holds x P else holds y P at k;change if b=true then holds x Q else holds y Q;split at k;.rename_i e;rw[if_pos e];exact ix h k
   .rename_i e;rw[if_neg e];exact iy h k
  |ask o f ih=>obtain⟨a,e,k⟩:=k;exact⟨a,e,ih a h k⟩
  |gd p d x ih=>exact⟨k.1,ih h k.2⟩
  |eqn a b x ih=>exact⟨k.1,ih h k.2⟩
  |len a b x ih=>exact⟨k.1,ih h k.2⟩
  |sub x f ix ik=>exact ix (λa ha=>ik a h ha) k
  |alt s f g ik il=>cases s with|inl a=>exact ik a h k|inr b=>exact il b h k
  |loop fu b x0 f ib ik=>exact loopH_mono (λn x P Q hh kk=>ib n x hh kk) fu x0 _ _ (λy hy=>ik y h hy) k
  |pk xs n f i0 ik=>exact⟨λe=>i0 h (k.1 e),λj a e=>ik a _ h (k.2 j a e)⟩
  |loopC fu b x0 f ib ik=>exact loopH_mono (λn x P Q hh kk=>ib n x hh kk) fu x0 _ _ (λy hy=>ik y h hy) k
theorem holds_ask{L α:Type}{o:Option α}{k:α->R L}{Q:L->Prop}:holds (.ask o k) Q↔∃a,o=some a/\holds (k a) Q:=Iff.rfl
theorem holds_bnd{A B:Type}{r:R A}{f:A->R B}{Q:B->Prop}:holds (bnd r f) Q↔holds r λo=>holds (f o) Q:=by
 induction r with
  |bad=>exact Iff.rfl
  |lf o=>exact Iff.rfl
  |both x y ix iy=>exact and_congr ix iy
  |br b x y ix iy=>
   change(if b=true then holds (bnd x f) Q else holds (bnd y f) Q)↔(if b=true then _ else _);split;.exact ix
   .exact iy
  |ask o k ih=>exact exists_congr λa=>and_congr Iff.rfl (ih a)
  |gd p d x ih=>exact and_congr Iff.rfl ih
  |eqn a b x ih=>exact and_congr Iff.rfl ih
  |len a b x ih=>exact and_congr Iff.rfl ih
  |sub x k ix ik=>exact⟨holds_mono λa=>(ik a).1,holds_mono λa=>(ik a).2⟩
  |alt s k l ik il=>cases s with|inl a=>exact ik a|inr b=>exact il b
  |loop fu b x0 k ib ik=>exact⟨loopH_mono (λn x P Q hh=>holds_mono (r:=b n x) hh) fu x0 _ _ λy=>(ik y).1,loopH_mono (λn x P Q hh=>holds_mono (r:=b n x) hh) fu x0 _ _ λy=>(ik y).2⟩
  |pk xs n k i0 ik=>exact and_congr (forall_congr' λ_=>i0) (forall_congr' λ_=>forall_congr' λ_=>forall_congr' λ_=>ik _ _)
  |loopC fu b x0 k ib ik=>exact⟨loopH_mono (λn x P Q hh=>holds_mono (r:=b n x) hh) fu x0 _ _ λy=>(ik y).1,loopH_mono (λn x P Q hh=>holds_mono (r:=b n x) hh) fu x0 _ _ λy=>(ik y).2⟩
theorem nrm_ok{m:Bool}{L:Type}{r:R L}(h:nrm m r=r):okE m r:=by
 induction r with
  |bad=>trivial
  |lf o=>trivial
  |both x y ix iy=>injection h with h0 h1 h2;exact⟨ix h1,iy h2⟩
  |br b x y ix iy=>injection h with h0 h1 h2 h3;exact⟨ix h2,iy h3⟩
  |ask o f ih=>injection h with h1 h2 h3 h4;exact λa=>ih a (congrFun h4 a)
  |gd p d x ih=>injection h with h0 h1 h2 h3;exact ih h3
  |eqn a b x ih=>injection h with h1 h2 h3 h4 h5;exact⟨h4,ih h5⟩
  |len a b x ih=>cases m with|true=>injection h with h1 h2 h3 h4;exact⟨.inl rfl,ih h4⟩|false=>injection h with h1 h2 h3 h4;exact⟨.inr h3,ih h4⟩
  |sub x f ix ik=>injection h with h1 h2 h3 h4;exact⟨ix h3,λa=>ik a (congrFun h4 a)⟩
  |alt s f g ik il=>injection h with h1 h2 h3 h4 h5 h6;exact⟨λa=>ik a (congrFun h5 a),λb=>il b (congrFun h6 b)⟩
  |loop fu b x0 f ib ik=>injection h with h1 h2 h3 h4 h5 h6 h7;exact⟨λn x=>ib n x (congrFun (congrFun h5 n) x),λy=>ik y (congrFun h7 y)⟩
  |pk xs n f i0 ik=>injection h with h1 h2 h3 h4 h5;exact⟨i0 h4,λa l=>ik a l (congrFun (congrFun h5 a) l)⟩
  |loopC fu b x0 f ib ik=>injection h with h1 h2 h3 h4 h5 h6 h7;exact⟨λn x=>ib n x (congrFun (congrFun h5 n) x),λy=>ik y (congrFun h7 y)⟩
theorem loop_eval{m:Bool}{X Y:Type}{b:Nat->X->R (Sum X Y)}(hb:∀n x(q:Sum X Y->Option Y)(y:Y),eval m (b n x) Y q=some y->holds (b n x) λs=>q s=some y):∀(n:Nat)(x:X)(y:Y),lpc (λn rec x=>eval m (b n x) Y λs=>match s with|.inl x'=>rec x'|.inr y=>some y) n x=some y->loopH (λn x=>holds (b n x)) n x λz=>z=y|0,x,y,h=>by cases h|n+1,x,y,h=>holds_mono (λs hs=>match s with|.inl x'=>loop_eval hb n x' y hs|.inr z=>(by cases hs;rfl)) (hb n x _ y h)
theorem loop_evalC{m:Bool}{L X Y Z:Type}{q:L->Option Z}{b:Nat->X->R (Sum X Y)}{f:Y->R L}(hb:∀n x(q:Sum X Y->Option Z)(z:Z),eval m (b n x) Z q=some z->holds (b n x) λs=>q s=some z)(hf:∀y z,eval m (f y) Z q=some z->holds (f y) λo=>q o=some z):∀(n:Nat)(x:X)(z:Z),lpc (λn rec x=>eval m (b n x) Z λs=>match s with|.inl x'=>rec x'|.inr y=>eval m (f y) Z q) n x=some z->loopH (λn x=>holds (b n x)) n x λy=>holds (f y) λo=>q o=some z|0,x,y,h=>by cases h|n+1,x,z,h=>holds_mono (λs hs=>match s with|.inl x'=>loop_evalC hb hf n x' z hs|.inr y=>hf y z hs) (hb n x _ z h)
theorem eval_holds{m:Bool}{L:Type}{r:R L}(he:okE m r){Z:Type}{q:L->Option Z}{z:Z}(h:eval m r Z q=some z):holds r λo=>q o=some z:=by
 induction r generalizing Z with
  |bad=>cases h
  |lf o=>exact h
  |both x y ix iy=>have h:=meet_some h;exact⟨ix he.1 h.1,iy he.2 h.2⟩
  |br b x y ix iy=>
   change(if b=true then eval m x Z q else eval m y Z q)=some z at h;change if b=true then _ else _;split at h;.rename_i e;rw[if_pos e];exact ix he.1 h
   .rename_i e;rw[if_neg e];exact iy he.2 h
  |ask o f ih=>change(o.bind λa=>eval m (f a) Z q)=some z at h;cases o with|none=>cases h|some a=>exact⟨a,rfl,ih a (he a) h⟩
  |gd p d x ih=>
   change(if p then eval m x Z q else none)=some z at h;split at h;.rename_i e;exact⟨e,ih he h⟩
   .cases h
  |eqn a b x ih=>exact⟨he.1,ih he.2 h⟩
  |len a b x ih=>
   cases m with
    |true=>
     change(if a=b then eval true x Z q else none)=some z at h;split at h;.rename_i e;exact⟨e,ih he.2 h⟩
     .cases h
    |false=>exact⟨he.1.elim (λe=>by cases e) id,ih he.2 h⟩
  | @sub L α x f ix ik=>change((eval m x α some).bind λa=>eval m (f a) Z q)=some z at h;cases e:eval m x α some with|none=>rw[e]at h;cases h|some a=>rw[e]at h;exact holds_mono (r:=x) (λo ho=>by cases ho;exact ik a (he.2 a) h) (ix he.1 e)
  |alt s f g ik il=>cases s with|inl a=>exact ik a (he.1 a) h|inr b=>exact il b (he.2 b) h
  | @loop L X Y fu b x0 f ib ik=>change((lpc (λn rec x=>eval m (b n x) Y λs=>match s with|.inl x'=>rec x'|.inr y=>some y) fu x0).bind λy=>eval m (f y) Z q)=some z at h;cases e:lpc (λn rec x=>eval m (b n x) Y λs=>match s with|.inl x'=>rec x'|.inr y=>some y) fu x0 with|none=>rw[e]at h;cases h|some y=>rw[e]at h;exact loopH_mono (λn x P Q hh=>holds_mono (r:=b n x) hh) fu x0 _ _ (λw hw=>by subst hw;exact ik _ (he.2 _) h) (loop_eval (λn x q y hq=>ib n x (he.1 n x) hq) fu x0 y e)
  |pk xs n f i0 ik=>have h:=pick_some (n:=eval m n Z q) (f:=λa l=>eval m (f a l) Z q) h;exact⟨λe=>i0 he.1 (h.1 e),λj a e=>ik a _ (he.2 _ _) (h.2 j a e)⟩
  | @loopC L X Y fu b x0 f ib ik=>exact loop_evalC (λn x q z hq=>ib n x (he.1 n x) hq) (λy z hz=>ik y (he.2 y) hz) fu x0 z h
theorem leaves_ok{L:Type}{r:R L}{os:List L}(h:leaves r=some os):holds r λo=>o∈os:=by
 induction r with
  |lf o=>cases h;simp[holds]
  |both x y ix iy=>
   change(match leaves x,leaves y with|some a,some b=>some (a++b)|_,_=>none)=some os at h;split at h;.rename_i a b ha hb;cases h;exact⟨holds_mono (λo ho=>List.mem_append_left _ ho) (ix ha),holds_mono (λo ho=>List.mem_append_right _ ho) (iy hb)⟩
   .cases h
  |_=>cases h
theorem loopH_one{X Y:Type}{b:Nat->X->R (Sum X Y)}(hb:∀n x(Q:Sum X Y->Prop),holds (dets (b n x)) Q->∃s,Q s/\holds (b n x) λs'=>s'=s):∀(n:Nat)(x:X)(Q:Y->Prop),loopH (λn x=>holds (dets (b n x))) n x Q->∃y,Q y/\loopH (λn x=>holds (b n x)) n x λy'=>y'=y|0,_,_,h=>h.elim|n+1,x,Q,h=>by obtain⟨s,h1,h2⟩:=hb n x _ h;cases s with|inl x'=>obtain⟨y,k1,k2⟩:=loopH_one hb n x' Q h1;exact⟨y,k1,holds_mono (λs' e=>by subst e;exact k2) h2⟩|inr y=>exact⟨y,h1,holds_mono (λs' e=>by subst e;rfl) h2⟩
theorem dets_one{L:Type}{r:R L}{Q:L->Prop}(h:holds (dets r) Q):∃o,Q o/\holds r λo'=>o'=o:=by
 induction r with
  |bad=>exact h.elim
  |lf o=>exact⟨o,h,rfl⟩
  |both x y ix iy=>exact h.elim
  |br b x y ix iy=>
   change if b=true then holds (dets x) Q else holds (dets y) Q at h;by_cases e:b=true;.rw[if_pos e]at h;obtain⟨o,h1,h2⟩:=ix h;exact⟨o,h1,by change if b=true then _ else _;rw[if_pos e];exact h2⟩
   .rw[if_neg e]at h;obtain⟨o,h1,h2⟩:=iy h;exact⟨o,h1,by change if b=true then _ else _;rw[if_neg e];exact h2⟩
  |ask o f ih=>obtain⟨a,e,h⟩:=h;obtain⟨o',h1,h2⟩:=ih a h;exact⟨o',h1,a,e,h2⟩
  |gd p d x ih=>obtain⟨o,h1,h2⟩:=ih h.2;exact⟨o,h1,h.1,h2⟩
  |eqn a b x ih=>obtain⟨o,h1,h2⟩:=ih h.2;exact⟨o,h1,h.1,h2⟩
  |len a b x ih=>obtain⟨o,h1,h2⟩:=ih h.2;exact⟨o,h1,h.1,h2⟩
  |sub x f ix ik=>obtain⟨a,h1,h2⟩:=ix h;obtain⟨o,k1,k2⟩:=ik a h1;exact⟨o,k1,holds_mono (r:=x) (λa' e=>by subst e;exact k2) h2⟩
  |alt s f g ik il=>cases s with|inl a=>exact ik a h|inr b=>exact il b h
  |loop fu b x0 f ib ik=>obtain⟨y,h1,h2⟩:=loopH_one (λn x Q hh=>ib n x hh) fu x0 _ h;obtain⟨o,k1,k2⟩:=ik y h1;exact⟨o,k1,loopH_mono (λn x P Q hh=>holds_mono (r:=b n x) hh) fu x0 _ _ (λy' e=>by subst e;exact k2) h2⟩
  |pk xs n f i0 ik=>exact h.elim
  |loopC fu b x0 f ib ik=>obtain⟨y,h1,h2⟩:=loopH_one (λn x Q hh=>ib n x hh) fu x0 _ h;obtain⟨o,k1,k2⟩:=ik y h1;exact⟨o,k1,loopH_mono (λn x P Q hh=>holds_mono (r:=b n x) hh) fu x0 _ _ (λy' e=>by subst e;exact k2) h2⟩
end Go.AM
end
section
set_option linter.unusedSimpArgs false
set_option linter.unusedVariables false
namespace Go.AM
open Go Go.RowKit
inductive Tr(α:Type)where|e|n(l:Tr α)(v:Option α)(r:Tr α)
namespace Tr
variable{α:Type}
noncomputable def get(t:Tr α):Nat->Option α:=Tr.rec (motive:=λ_=>Nat->Option α) (λ_=>none) (λ_ v _ il ir k=>Bool.rec (motive:=λ_=>Option α) (Bool.rec (motive:=λ_=>Option α) (ir (Nat.sub (Nat.div k 2) 1)) (il (Nat.div k 2)) (Nat.beq (Nat.mod k 2) 1)) v (Nat.beq k 0)) t
noncomputable def putF(x:α)(f:Nat):Nat->Tr α->Tr α:=Nat.rec (motive:=λ_=>Nat->Tr α->Tr α) (λ_ t=>t) (λ_ ih k t=>Tr.rec (motive:=λ_=>Tr α) (Bool.rec (motive:=λ_=>Tr α) (Bool.rec (motive:=λ_=>Tr α) (.n .e none (ih (Nat.sub (Nat.div k 2) 1) .e)) (.n (ih (Nat.div k 2) .e) none .e) (Nat.beq (Nat.mod k 2) 1)) (.n .e (some x) .e) (Nat.beq k 0)) (λl v r _ _=>Bool.rec (motive:=λ_=>Tr α) (Bool.rec (motive:=λ_=>Tr α) (.n l v (ih (Nat.sub (Nat.div k 2) 1) r)) (.n (ih (Nat.div k 2) l) v r) (Nat.beq (Nat.mod k 2) 1)) (.n l (some x) r) (Nat.beq k 0)) t) f
noncomputable def put(t:Tr α)(k:Nat)(x:α):Tr α:=putF x (k+1) k t
theorem get_e(k:Nat):(e:Tr α).get k=none:=rfl
theorem get_n(l r:Tr α)(v:Option α)(k:Nat):(n l v r).get k=if k=0 then v else if k%2=1 then l.get (k/2)else r.get (k/2-1):=by
 show Bool.rec (motive:=λ_=>Option α) (Bool.rec (motive:=λ_=>Option α) (r.get (k/2-1)) (l.get (k/2)) (Nat.beq (k%2) 1)) v (Nat.beq k 0)=_;by_cases h:k=0;.subst h;simp
 .rw[if_neg h,show Nat.beq k 0=false by cases e:Nat.beq k 0 with|false=>rfl|true=>exact absurd (Nat.eq_of_beq_eq_true e) h];by_cases h2:k%2=1;.rw[if_pos h2,h2];rfl
  .rw[if_neg h2,show Nat.beq (k%2) 1=false by cases e:Nat.beq (k%2) 1 with|false=>rfl|true=>exact absurd (Nat.eq_of_beq_eq_true e) h2]
theorem putF_succ(x:α)(f k:Nat)(t:Tr α):putF x (f+1) k t=match t with|.e=>if k=0 then .n .e (some x) .e else if k%2=1 then .n (putF x f (k/2) .e) none .e else .n .e none (putF x f (k/2-1) .e)|.n l v r=>if k=0 then .n l (some x) r else if k%2=1 then .n (putF x f (k/2) l) v r else .n l v (putF x f (k/2-1) r):=by
 have b0:∀{A B:Tr α},Bool.rec (motive:=λ_=>Tr α) A B (Nat.beq k 0)=if k=0 then B else A:=by
  intro A B;by_cases h:k=0;.subst h;simp
  .rw[if_neg h,show Nat.beq k 0=false by cases e:Nat.beq k 0 with|false=>rfl|true=>exact absurd (Nat.eq_of_beq_eq_true e) h]
 have b1:∀{A B:Tr α},Bool.rec (motive:=λ_=>Tr α) A B (Nat.beq (k%2) 1)=if k%2=1 then B else A:=by
  intro A B;by_cases h:k%2=1;.rw[if_pos h,h];rfl
  .rw[if_neg h,show Nat.beq (k%2) 1=false by cases e:Nat.beq (k%2) 1 with|false=>rfl|true=>exact absurd (Nat.eq_of_beq_eq_true e) h]
 cases t with|e=>show Bool.rec (motive:=λ_=>Tr α) (Bool.rec (motive:=λ_=>Tr α) (.n .e none (putF x f (k/2-1) .e)) (.n (putF x f (k/2) .e) none .e) (Nat.beq (k%2) 1)) (.n .e (some x) .e) (Nat.beq k 0)=_;rw[b0,b1]|n l v r=>show Bool.rec (motive:=λ_=>Tr α) (Bool.rec (motive:=λ_=>Tr α) (.n l v (putF x f (k/2-1) r)) (.n (putF x f (k/2) l) v r) (Nat.beq (k%2) 1)) (.n l (some x) r) (Nat.beq k 0)=_;rw[b0,b1]
theorem get_putF(x:α):∀(f k:Nat)(t:Tr α)(c:Nat),k<f->(putF x f k t).get c=if c=k then some x else t.get c
 |0,k,t,c,h=>by omega
 |f+1,k,t,c,h=>by
  rw[putF_succ]
  have key:∀(l r:Tr α)(v:Option α),(if k=0 then Tr.n l (some x) r else if k%2=1 then Tr.n (putF x f (k/2) l) v r else Tr.n l v (putF x f (k/2-1) r)).get c=if c=k then some x else(Tr.n l v r).get c:=by
   intro l r v;by_cases h0:k=0
   .subst h0;rw[if_pos rfl,get_n,get_n];by_cases hc:c=0;.simp[hc]
    .simp[hc]
   .rw[if_neg h0];by_cases h1:k%2=1
    .rw[if_pos h1,get_n,get_n];by_cases hc:c=0;.subst hc;rw[if_pos rfl,if_pos rfl,if_neg (λe=>h0 e.symm)]
     .rw[if_neg hc,if_neg hc];by_cases h2:c%2=1
      .rw[if_pos h2,if_pos h2,get_putF x f (k/2) l (c/2) (by omega)];by_cases e:c=k;.subst e;simp
       .rw[if_neg e,if_neg (by omega)]
      .rw[if_neg h2,if_neg h2,if_neg (by omega)]
    .rw[if_neg h1,get_n,get_n];by_cases hc:c=0;.subst hc;rw[if_pos rfl,if_pos rfl,if_neg (λe=>h0 e.symm)]
     .rw[if_neg hc,if_neg hc];by_cases h2:c%2=1;.rw[if_pos h2,if_pos h2,if_neg (by omega)]
      .rw[if_neg h2,if_neg h2,get_putF x f (k/2-1) r (c/2-1) (by omega)];by_cases e:c=k;.subst e;simp
       .rw[if_neg e,if_neg (by omega)]
  cases t with|n l v r=>exact key l r v|e=>have :=key .e .e none;simp only[get_n (α:=α) .e .e none c,get_e,ite_self]at this;simp only[get_e];exact this
theorem get_put(t:Tr α)(k:Nat)(x:α)(c:Nat):(t.put k x).get c=if c=k then some x else t.get c:=get_putF x (k+1) k t c (Nat.lt_succ_self k)
def keys:Tr α->List Nat|.e=>[]|.n l v r=>(match v with|some _=>[0]|none=>[])++(l.keys.map λk=>2*k+1)++(r.keys.map λk=>2*k+2)
theorem mem_keys:∀(t:Tr α)(k:Nat),k∈t.keys↔∃x,t.get k=some x
 |.e,k=>by simp[keys,get_e]
 |.n l v r,k=>by
  have hl:=mem_keys l;have hr:=mem_keys r;simp only[keys,List.mem_append,List.mem_map,get_n];by_cases h0:k=0;.subst h0;simp only[if_true];cases v with|none=>simp|some x=>simp
  .rw[if_neg h0];have hv:¬k∈(match v with|some _=>[0]|none=>[]):=by cases v<;>simp[h0]
   by_cases h1:k%2=1
   .rw[if_pos h1,<-hl];constructor
    .rintro((h|⟨j,hj,e⟩)|⟨j,hj,e⟩);.exact absurd h hv
     .rw[show k/2=j by omega];exact hj
     .omega
    .intro h;exact .inl (.inr ⟨k/2,h,by omega⟩)
   .rw[if_neg h1,<-hr];constructor
    .rintro((h|⟨j,hj,e⟩)|⟨j,hj,e⟩);.exact absurd h hv
     .omega
     .rw[show k/2-1=j by omega];exact hj
    .intro h;exact .inr ⟨k/2-1,h,by omega⟩
def all:(Nat->α->Bool)->Tr α->Bool|_,.e=>true|p,.n l v r=>(match v with|some x=>p 0 x|none=>true)&&all (λk=>p (2*k+1)) l&&all (λk=>p (2*k+2)) r
end Tr
noncomputable def Tr.toL{α:Type}(t:Tr α):List (Nat×α):=t.keys.filterMap λk=>(t.get k).map λx=>(k,x)
theorem alg_ks{α:Type}(g:Nat->Option α)(j:Nat):∀ks:List Nat,(j∈ks\/g j=none)->alg (ks.filterMap λk=>(g k).map λx=>(k,x)) j=g j
 |[],h=>by
  rcases h with h|h;.cases h
  .rw[h];rfl
 |k::ks,h=>by
  simp only[List.filterMap_cons];by_cases e:j=k;.subst e;cases hg:g j with|none=>simp only[Option.map_none];rw[alg_ks g j ks (.inr hg),hg]|some x=>simp[alg]
  .have h':j∈ks\/g j=none:=by
    rcases h with h|h
    .rcases List.mem_cons.1 h with h|h;.exact absurd h e
     .exact .inl h
    .exact .inr h
   cases hg:g k with|none=>simp only[Option.map_none];exact alg_ks g j ks h'|some x=>simp only[Option.map_some,alg,if_neg e];exact alg_ks g j ks h'
theorem alg_toL{α:Type}(t:Tr α):alg t.toL=t.get:=by funext j;refine alg_ks _ _ _ ?_;cases h:t.get j with|none=>exact .inr rfl|some x=>exact .inl ((Tr.mem_keys t j).2 ⟨x,h⟩)
def listB{α:Type}(f:α->α->Bool):List α->List α->Bool
 |[],[]=>true
 |a::as,b::bs=>match f a b with|true=>listB f as bs|false=>false
 |_,_=>false
def avB:Nat->AV->AV->Bool|0,_,_=>false|d+1,a,b=>match a,b with|.int k n,.int k' n'=>decide (k=k')&&decide (n=n')|.bool x,.bool y=>x==y|.str s,.str t=>listB (λx y=>decide (x=y)) s t|.agg as,.agg bs=>listB (avB d) as bs|.tup as,.tup bs=>listB (avB d) as bs|.psl z es,.psl z' es'=>Nat.beq z z'&&listB (listB (avB d)) es es'|.pp as,.pp bs=>listB (avB d) as bs|.iface t x,.iface t' y=>Nat.beq t t'&&avB d x y|.fn f x y,.fn f' x' y'=>Nat.beq f f'&&(listB (avB d) x x'&&listB (avB d) y y')|.gp k o x,.gp k' o' y=>Nat.beq k k'&&(Nat.beq o o'&&listB (avB d) x y)|.psx z es,.psx z' es'=>Nat.beq z z'&&listB (listB (avB d)) es es'|.ref b g i j,.ref b' g' i' j'=>Nat.beq b b'&&(Nat.beq g g'&&(Nat.beq i i'&&Nat.beq j j'))|.sl b g z o l,.sl b' g' z' o' l'=>Nat.beq b b'&&(Nat.beq g g'&&(Nat.beq z z'&&(Nat.beq o o'&&Nat.beq l l')))|.slk b g z o l c e,.slk b' g' z' o' l' c' e'=>Nat.beq b b'&&(Nat.beq g g'&&(Nat.beq z z'&&(Nat.beq o o'&&(Nat.beq l l'&&(Nat.beq c c'&&(e==e'))))))|.nilp,.nilp=>true|.nils,.nils=>true|.nilf,.nilf=>true|.nili,.nili=>true|.nilm,.nilm=>true|.emp,.emp=>true|_,_=>false
def optB:Option Nat->Option Nat->Bool|none,none=>true|some a,some b=>Nat.beq a b|_,_=>false
def blkB(x y:ABlk):Bool:=Nat.beq x.g y.g&&((x.own==y.own)&&((x.pure==y.pure)&&(Nat.beq x.sz y.sz&&(listB (listB (avB 40)) x.es y.es&&optB x.ty y.ty))))
structure LB where
 fr:Tr AV
 nt:Nat
 ps:List Nat
 assign:Code
 body:Code
 st:LoopState
 pend:Option Code
 mp:Option Ob
noncomputable def LB.l(b:LB):LBlk:=⟨b.fr.toL,b.nt,b.ps,b.assign,b.body,b.st,b.pend,b.mp⟩
inductive CB where|u(b:ABlk)|t(g:Nat)(own:Bool)(n:Nat)(xs:List (U n))
def CB.a:CB->ABlk|.u b=>b|.t g own n xs=>{g:=g,own:=own,pure:=true,sz:=szU n,es:=xs.map (encU n)}
def CB.frz:CB->CB|.u b=>.u {b with own:=false}|.t g _ n xs=>.t g false n xs
structure Fu where
 n:Nat
 kn:List Nat
structure Cs where
 fr:Tr AV
 hp:Tr CB
 nx:Nat
 lp:List (Nat×LB)
 fu:Fu
noncomputable def lpL(lp:List (Nat×LB)):List (Nat×LBlk):=lp.map λp=>(p.1,p.2.l)
noncomputable def hpL(hp:Tr CB):List (Nat×ABlk):=hp.toL.map λp=>(p.1,p.2.a)
noncomputable def vw(hp:Tr CB):Heap:=λb=>match hp.get b with|some x=>some x.a|none=>none
noncomputable def Cs.st(c:Cs):St:=⟨c.fr.toL,hpL c.hp,c.nx,lpL c.lp⟩
noncomputable def tau(fr:Tr AV):Nat->AV:=λt=>match fr.get t with|some v=>v|none=>.top
noncomputable def putD(fr:Tr AV)(d:Option Nat)(v:AV):Tr AV:=match d with|some d=>fr.put d v|none=>fr
noncomputable def putC(hp:Tr CB):List (Nat×CB)->Tr CB|[]=>hp|(b,x)::l=>putC (hp.put b x) l
noncomputable def putW(hp:Tr CB):List (Nat×ABlk)->Tr CB|[]=>hp|(b,x)::l=>putW (hp.put b (.u x)) l
noncomputable def putsT(fr:Tr AV):List Nat->List AV->Tr AV|p::ps,v::vs=>putsT (fr.put p v) ps vs|_,_=>fr
noncomputable def enumT:Nat->List AV->Tr AV|_,[]=>.e|i,v::vs=>(enumT (i+1) vs).put i v
def noItC(l:Nat):List (Nat×LB)->Bool
 |[]=>true
 |p::lp=>match p.2.mp with
  |some (.mit l0 _ _)=>match Nat.beq l0 l with|true=>false|false=>noItC l lp
  |_=>noItC l lp
def mapRec(o:Ob):LB:=⟨.e,0,[],.skip,.skip,.ready,none,some o⟩
theorem alg_mapA{α β:Type}(f:α->β)(b:Nat):∀l:List (Nat×α),alg (l.map λp=>(p.1,f p.2)) b=(alg l b).map f
 |[]=>rfl
 |(k,x)::l=>by
  simp only[List.map_cons,alg];split;.rfl
  .exact alg_mapA f b l
theorem alg_hpL(hp:Tr CB):alg (hpL hp)=vw hp:=by funext b;unfold hpL vw;rw[alg_mapA CB.a,alg_toL];cases hp.get b<;>rfl
theorem vw_put(hp:Tr CB)(b:Nat)(x:CB):vw (hp.put b x)=fupd (vw hp) b (some x.a):=by
 funext c;unfold vw fupd;rw[Tr.get_put];by_cases e:c=b;.rw[if_pos e,if_pos e]
 .rw[if_neg e,if_neg e]
theorem vw_putW:∀(l:List (Nat×ABlk))(hp:Tr CB),vw (putW hp l)=apWr (vw hp) l|[],hp=>rfl|(b,x)::l,hp=>by simp only[putW,apWr];rw[vw_putW l,vw_put];rfl
theorem vw_putC:∀(l:List (Nat×CB))(hp:Tr CB),vw (putC hp l)=apWr (vw hp) (l.map λp=>(p.1,p.2.a))|[],hp=>rfl|(b,x)::l,hp=>by simp only[putC,List.map_cons,apWr];rw[vw_putC l,vw_put]
theorem frGet_toL(t:Tr AV):frGet t.toL=tau t:=by funext k;unfold frGet tau;rw[alg_toL];cases t.get k<;>rfl
theorem tau_put(fr:Tr AV)(k:Nat)(v:AV):tau (fr.put k v)=fupd (tau fr) k v:=by
 funext t;unfold fupd;simp only[tau,Tr.get_put];by_cases e:t=k;.rw[if_pos e,if_pos e]
 .rw[if_neg e,if_neg e]
theorem tau_putD[Adr](fr:Tr AV)(d:Option Nat)(v:AV):tau (putD fr d v)=putT (tau fr) d v:=by cases d with|none=>rfl|some d=>exact tau_put fr d v
theorem frGet_put'[Adr](fr:Tr AV)(d:Option Nat)(v:AV):frGet (frPut fr.toL d v)=frGet (putD fr d v).toL:=by rw[frGet_put,frGet_toL,frGet_toL,tau_putD]
theorem alg_putW[Adr](hp:Tr CB)(l:List (Nat×ABlk)):alg (hsets (hpL hp) l)=alg (hpL (putW hp l)):=by rw[alg_hsets,alg_hpL,alg_hpL,vw_putW]
theorem frGet_puts[Adr]:∀(ps:List Nat)(vs:List AV)(l:List (Nat×AV))(fr:Tr AV),frGet l=tau fr->frGet (frPuts l ps vs)=tau (putsT fr ps vs)|[],_,l,fr,h=>by simpa[frPuts,putsT]using h|p::ps,[],l,fr,h=>by simpa[frPuts,putsT]using h|p::ps,v::vs,l,fr,h=>by simp only[frPuts,putsT];refine frGet_puts ps vs _ _ ?_;rw[tau_put,<-h];funext t;rw[frGet_cons];unfold fupd;rfl
theorem frGet_enum[Adr]:∀(vs:List AV)(i:Nat),frGet (enumFr i vs)=tau (enumT i vs)|[],i=>by funext t;simp[enumFr,enumT,frGet,alg,tau,Tr.get_e]|v::vs,i=>by simp only[enumFr,enumT];rw[tau_put,<-frGet_enum vs (i+1)];funext t;rw[frGet_cons];unfold fupd;rfl
theorem alg_lpL(lp:List (Nat×LB))(l:Nat):alg (lpL lp) l=(alg lp l).map LB.l:=alg_mapA LB.l l lp
theorem hset_lpL(l:Nat)(y:LB):∀(lp:List (Nat×LB)),lpL (hset lp l y)=hset (lpL lp) l y.l
 |[]=>rfl
 |(k,x)::lp=>by
  simp only[lpL,List.map_cons,hset];split;.rfl
  .simp only[List.map_cons,List.cons.injEq,true_and];exact hset_lpL l y lp
theorem keepHp_lpL(N:List Nat)(lp:List (Nat×LB)):lpL (keepHp N lp)=keepHp N (lpL lp):=by unfold keepHp lpL;rw[List.filter_map];rfl
theorem lpL_names(lp:List (Nat×LB)):(lpL lp).map (·.1)=lp.map (·.1):=by unfold lpL;rw[List.map_map];rfl
theorem Sim.refl(s:St):Sim s s:=⟨rfl,rfl,rfl,rfl⟩
theorem Sim.mem[Adr]{w0 w:World}{F:Nat->Prop}{φ:Emb}{s t:St}(e:Sim s t)(h:Mem w0 w F φ s):Mem w0 w F φ t:=by obtain⟨sf,sh,sn,sl⟩:=s;obtain⟨tf,th,tn,tl⟩:=t;obtain⟨e1,e2,e3,e4⟩:=e;simp only at e1 e2 e3 e4;subst e3 e4;obtain⟨m1,m2,m3,m4⟩:=h;simp only at m1 m2 m3 m4;rw[e2]at m1;exact⟨m1,m2,m3,m4⟩
end Go.AM
end
