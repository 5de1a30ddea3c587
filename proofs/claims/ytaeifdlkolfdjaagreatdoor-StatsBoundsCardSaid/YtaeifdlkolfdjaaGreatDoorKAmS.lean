/- Texts of the proof, joined by program. -/
import Derived.Test.YtaeifdlkolfdjaaGreatDoorKAmR
import Derived.RangeFuncLeaves
import Derived.RangeFuncNested
section
set_option linter.unusedSimpArgs false
set_option linter.unusedVariables false
namespace Go.AM
open Go Go.RowKit
def AV.under(n:Nat):AV->Bool|.ref b .. =>b<n|.sl b .. =>b<n|.slk b .. =>b<n|.fn _ a c=>belows n a&&belows n c|.iface _ v=>v.under n|.agg cs=>belows n cs|.tup cs=>belows n cs|.yld l=>l<n|.mp l=>l<n|.itr l=>l<n|_=>true where
 belows(n:Nat):List AV->Bool|[]=>true|v::vs=>v.under n&&belows n vs
def Emb.cut(φ:Emb)(n:Nat):Emb:={blk:=λb g=>if b<n then φ.blk b g else none,loop:=λl=>if l<n then φ.loop l else none}
theorem Emb.cut_loop{φ:Emb}{n l k:Nat}(h:(φ.cut n).loop l=some k):l<n/\φ.loop l=some k:=by
 simp only[Emb.cut]at h;split at h;.rename_i q;exact⟨q,h⟩
 .cases h
mutual
theorem below_rel[Adr]{w:World}{F:Nat->Prop}{φ:Emb}{n:Nat}:∀(a:AV)(v:Value),a.under n=true->VRel w F φ a v->VRel w F (φ.cut n) a v
 |a,v=>by
  cases a with
   |ref b g i j=>intro h hr;simp only[AV.under,decide_eq_true_eq]at h;simp only[VRel]at hr⊢;obtain⟨cb,sz,h1,h2⟩:=hr;exact⟨cb,sz,by simp only[Emb.cut];rw[if_pos h];exact h1,h2⟩
   |sl b g z o l=>
    intro h hr;simp only[AV.under,decide_eq_true_eq]at h;simp only[VRel]at hr⊢;rcases hr with⟨h1,h2⟩|⟨cb,cap,h1,h2⟩;.exact .inl ⟨by simp only[Emb.cut];rw[if_pos h];exact h1,h2⟩
    .exact .inr ⟨cb,cap,by simp only[Emb.cut];rw[if_pos h];exact h1,h2⟩
   |fn f x c=>intro h hr;simp only[AV.under,Bool.and_eq_true]at h;simp only[VRel]at hr⊢;obtain⟨fs,cs,h1,h2,h3⟩:=hr;exact⟨fs,cs,h1,belows_rel x fs h.1 h2,belows_rel c cs h.2 h3⟩
   |iface t x=>intro h hr;simp only[AV.under]at h;simp only[VRel]at hr⊢;obtain⟨y,h1,h2⟩:=hr;exact⟨y,h1,below_rel x y h h2⟩
   |agg cs=>intro h hr;simp only[AV.under]at h;simp only[VRel]at hr⊢;obtain⟨y,h1,h2,h3⟩:=hr;exact⟨y,h1,belows_rel cs y h h2,h3⟩
   |tup cs=>intro h hr;simp only[AV.under]at h;simp only[VRel]at hr⊢;obtain⟨y,h1,h2⟩:=hr;exact⟨y,h1,belows_rel cs y h h2⟩
   |yld l=>intro h hr;simp only[AV.under,decide_eq_true_eq]at h;simp only[VRel]at hr⊢;obtain⟨lc,h1,h2⟩:=hr;exact⟨lc,by simp only[Emb.cut];rw[if_pos h];exact h1,h2⟩
   |mp l=>intro h hr;simp only[AV.under,decide_eq_true_eq]at h;simp only[VRel]at hr⊢;obtain⟨lc,h1,h2⟩:=hr;exact⟨lc,by simp only[Emb.cut];rw[if_pos h];exact h1,h2⟩
   |itr l=>intro h hr;simp only[AV.under,decide_eq_true_eq]at h;simp only[VRel]at hr⊢;obtain⟨lc,h1,h2⟩:=hr;exact⟨lc,by simp only[Emb.cut];rw[if_pos h];exact h1,h2⟩
   |top=>intro _ _;simp[VRel]
   |anyb=>intro _ hr;simpa[VRel]using hr
   |bool b=>intro _ hr;simpa[VRel]using hr
   |int k n=>intro _ hr;simpa[VRel]using hr
   |str s=>intro _ hr;simpa[VRel]using hr
   |nilp=>intro _ hr;simpa[VRel]using hr
   |pp cs=>intro _ hr;simpa[VRel]using hr
   |psl sz es=>intro _ hr;simpa[VRel]using hr
   |psx sz es=>intro _ hr;simpa[VRel]using hr
   |nils=>intro _ hr;simpa[VRel]using hr
   |nilf=>intro _ hr;simpa[VRel]using hr
   |nili=>intro _ hr;simpa[VRel]using hr
   |emp=>intro _ hr;simpa[VRel]using hr
   |nilm=>intro _ hr;simpa[VRel]using hr
   |strb n s=>intro _ hr;simpa[VRel]using hr
   |inty k=>intro _ hr;simpa[VRel]using hr
   |dl n xs=>intro _ hr;simpa only[VRel]using hr
   |gp k o cs=>intro _ hr;simpa only[VRel]using hr
   |slk b g z o l c e=>intro h hr;simp only[AV.under,decide_eq_true_eq]at h;simp only[VRel]at hr⊢;obtain⟨cb,cap,h1,h2⟩:=hr;exact⟨cb,cap,by simp only[Emb.cut];rw[if_pos h];exact h1,h2⟩
theorem belows_rel[Adr]{w:World}{F:Nat->Prop}{φ:Emb}{n:Nat}:∀(as:List AV)(vs:List Value),AV.under.belows n as=true->VRels w F φ as vs->VRels w F (φ.cut n) as vs|[],vs=>by intro _ h;simpa[VRels]using h|a::as,vs=>by intro h hr;simp only[AV.under.belows,Bool.and_eq_true]at h;simp only[VRels]at hr⊢;obtain⟨v,vs',h1,h2,h3⟩:=hr;exact⟨v,vs',h1,below_rel a v h.1 h2,belows_rel as vs' h.2 h3⟩
end
theorem belowE_rel[Adr]{w:World}{F:Nat->Prop}{φ:Emb}{n b:Nat}:∀{es:List (List AV)}{o:Nat},es.all (AV.under.belows n)=true->ERel w F φ es b o->ERel w F (φ.cut n) es b o|[],o,_,_=>by simp[ERel]|e::es,o,h,hr=>by simp only[List.all_cons,Bool.and_eq_true]at h;simp only[ERel]at hr⊢;refine⟨?_,belowE_rel h.2 hr.2⟩;have :=hr.1;rw[CRel_iff]at this⊢;obtain⟨vs,h1,h2,h3⟩:=this;exact⟨vs,belows_rel e vs h.1 h1,h2,h3⟩
def frBelow(n:Nat):List (Nat×AV)->Bool|[]=>true|(_,v)::l=>v.under n&&frBelow n l
theorem frBelow_get[Adr]{n:Nat}:∀{l:List (Nat×AV)},frBelow n l=true->∀t,(frGet l t).under n=true
 |[],_,t=>by rw[frGet_nil];rfl
 |(k,v)::l,h,t=>by
  simp only[frBelow,Bool.and_eq_true]at h;rw[frGet_cons];split;.exact h.1
  .exact frBelow_get h.2 t
def hpBelow(n:Nat):List (Nat×ABlk)->Bool|[]=>true|(b,x)::l=>decide (b<n)&&(x.pure||x.es.all (AV.under.belows n))&&hpBelow n l
theorem hpBelow_get{n:Nat}:∀{l:List (Nat×ABlk)},hpBelow n l=true->∀b x,alg l b=some x->b<n/\(x.pure=true\/x.es.all (AV.under.belows n)=true)
 |[],_,b,x,hx=>by simp[alg]at hx
 |(k,y)::l,h,b,x,hx=>by
  simp only[hpBelow,Bool.and_eq_true,Bool.or_eq_true,decide_eq_true_eq]at h;simp only[alg]at hx;split at hx;.rename_i e;subst e;cases hx;exact⟨h.1.1,h.1.2⟩
  .exact hpBelow_get h.2 b x hx
def BLe(y x:ABlk):Prop:=y.g=x.g/\y.sz=x.sz/\y.es=x.es/\(x.own=true->y.own=true)/\(x.pure=true->y.pure=true)/\(x.ty.isSome=true->y.ty=x.ty)
theorem BLe.refl(x:ABlk):BLe x x:=⟨rfl,rfl,rfl,λh=>h,λh=>h,λ_=>rfl⟩
def HpLe(hp:List (Nat×ABlk)):List (Nat×ABlk)->Prop|[]=>True|(b,x)::l=>(match alg hp b with|some y=>BLe y x|none=>False)/\HpLe hp l
theorem HpLe.get{hp:List (Nat×ABlk)}:∀{l:List (Nat×ABlk)},HpLe hp l->∀b x,alg l b=some x->∃y,alg hp b=some y/\BLe y x
 |[],_,b,x,hx=>by simp[alg]at hx
 |(k,z)::l,h,b,x,hx=>by
  simp only[alg]at hx;split at hx;.rename_i e;subst e;cases hx;have :=h.1;cases hy:alg hp b with|none=>rw[hy]at this;exact this.elim|some y=>rw[hy]at this;exact⟨y,rfl,this⟩
  .exact h.2.get b x hx
def mitB(n:Nat):Option Ob->Prop|some (.mit l0 _ _)=>l0<n|_=>True
def LpLe[Adr](n:Nat)(lp':List (Nat×LBlk)):List (Nat×LBlk)->Prop|[]=>True|(l,x)::rest=>l<n/\(∃y,alg lp' l=some y/\y.nt=x.nt/\y.ps=x.ps/\y.assign=x.assign/\y.body=x.body/\y.st=x.st/\y.pend=x.pend/\y.mp=x.mp/\FrLe y.fr x.fr/\frBelow n x.fr=true/\mitB n x.mp)/\LpLe n lp' rest
theorem LpLe.get[Adr]{n:Nat}{lp':List (Nat×LBlk)}:∀{lp:List (Nat×LBlk)},LpLe n lp' lp->∀l x,alg lp l=some x->l<n/\ ∃y,alg lp' l=some y/\y.nt=x.nt/\y.ps=x.ps/\y.assign=x.assign/\y.body=x.body/\y.st=x.st/\y.pend=x.pend/\y.mp=x.mp/\FrLe y.fr x.fr/\frBelow n x.fr=true/\mitB n x.mp
 |[],_,l,x,hx=>by simp[alg]at hx
 |(k,z)::rest,h,l,x,hx=>by
  simp only[alg]at hx;split at hx;.rename_i e;subst e;cases hx;exact⟨h.1,h.2.1⟩
  .exact h.2.2.get l x hx
structure LeS[Adr](s' s:St):Prop where
 fr:FrLe s'.fr s.fr
 hp:HpLe s'.hp s.hp
 frB:frBelow s.nx s.fr=true
 hpB:hpBelow s.nx s.hp=true
 lp:LpLe s.nx s'.lp s.lp
theorem LeS.mem[Adr]{w0 w:World}{F:Nat->Prop}{φ:Emb}{s' s:St}(h:LeS s' s)(hm:Mem w0 w F φ s'):Mem w0 w F (φ.cut s.nx) s:=by
 have cutSome:∀b g x,(φ.cut s.nx).blk b g=some x->b<s.nx/\φ.blk b g=some x:=λb g x hx=>by
  simp only[Emb.cut]at hx;split at hx;.rename_i hb;exact⟨hb,hx⟩
  .cases hx
 refine⟨⟨hm.heap.below,hm.heap.fb,λb g x hx=>(cutSome b g x hx).1,λb g cb sz hx=>hm.heap.inb b g cb sz (cutSome _ _ _ hx).2,λb x hx=>?_,λb x hx g hg=>?_,λb b' x y cb sz sz' hx hy e1 e2=>?_,hm.heap.fwk⟩,λl x hx=>?_,λl k hk=>⟨(Emb.cut_loop hk).1,(hm.lused l k (Emb.cut_loop hk).2).2⟩,λl l' k e1 e2=>hm.linj l l' k (Emb.cut_loop e1).2 (Emb.cut_loop e2).2⟩
 .obtain⟨y,hy,g1,g2,g3,g4,g5,g6⟩:=h.hp.get b x hx;obtain⟨hb,hpe⟩:=hpBelow_get h.hpB b x hx;obtain⟨pl,p1,p2,p3⟩:=hm.heap.blk b y hy;refine⟨pl,?_,by rw[<-g3,<-g2];exact p2,?_⟩;.simp only[Emb.cut];rw[if_pos hb,<-g1,<-g2];exact p1
  .cases pl with
    |none=>simp only[LRel]at p3⊢;rw[<-g3];exact p3
    |some cb=>
     obtain⟨f1,f2,f3,f4⟩:=p3;refine⟨f1,λho=>f2 (g4 ho),by rw[<-g3,<-g2];obtain⟨c,el,fz,q1,q2,q3⟩:=f3;exact⟨c,el,fz,q1,⟨λho=>q2.1 (g4 ho),λt ht=>q2.2 t (by rw[g6 (by rw[ht];rfl)];exact ht)⟩,q3⟩,?_⟩;rw[<-g3];unfold ABlk.emb at f4⊢;by_cases hp:x.pure=true;.rw[if_pos hp];rw[if_pos (g5 hp)]at f4;exact f4
     .rw[if_neg hp]
      have hbe:y.es.all (AV.under.belows s.nx)=true:=by
       rw[g3];rcases hpe with q|q;.exact absurd q hp
       .exact q
      refine belowE_rel hbe (ERel.mono (Ext0.refl F w) (λ_ h=>h) ?_ _ _ _ rfl f4);split;.exact Emb.zero_le φ
      .exact Emb.le_refl φ
 .obtain⟨y,hy,g1,-⟩:=h.hp.get b x hx;have :=hm.heap.gen b y hy g (by rw[g1];exact hg);simp only[Emb.cut];split;.exact this
  .rfl
 .obtain⟨x',hx',g1,-⟩:=h.hp.get b x hx;obtain⟨y',hy',g1',-⟩:=h.hp.get b' y hy;exact hm.heap.inj b b' x' y' cb sz sz' hx' hy' (by rw[g1];exact(cutSome _ _ _ e1).2) (by rw[g1'];exact(cutSome _ _ _ e2).2)
 .obtain⟨hln,y,hy,e1,e2,e3,e4,e5,e6,em,e7,e8,e9⟩:=h.lp.get l x hx;refine⟨λhm0=>?_,λm hm1=>?_⟩;.obtain⟨k,rec,h1,h2,h3,h4,h5,h6,h7,h8,h9,h10⟩:=(hm.lps l y hy).1 (em.trans hm0);refine⟨k,rec,by simp only[Emb.cut];rw[if_pos hln];exact h1,h2,h3,h4.trans e5,h5.trans e6,h6.trans e2,h7.trans e3,h8.trans e4,⟨by rw[h9.size,e1],λt=>?_,h9.glob⟩,h10⟩;exact below_rel _ _ (frBelow_get e8 t) (e7.get t _ _ _ _ (h9.val t))
  .have hob:=(hm.lps l y hy).2 m (em.trans hm1)
   cases m with
    |map m=>obtain⟨k,es,c,h1,h2,h3,h4⟩:=hob;exact⟨k,es,c,by simp only[Emb.cut];rw[if_pos hln];exact h1,h2,h3,h4⟩
    |md mk mv xs=>obtain⟨k,es,c,h1,h2,h3,h4⟩:=hob;exact⟨k,es,c,by simp only[Emb.cut];rw[if_pos hln];exact h1,h2,h3,h4⟩
    |mit l0 left cur=>
     obtain⟨k,bm,es,c,si,se,la,h1,h2,h3,h4,h5⟩:=hob;have e9:l0<s.nx:=by rw[hm1]at e9;exact e9
     exact⟨k,bm,es,c,si,se,la,by simp only[Emb.cut];rw[if_pos hln];exact h1,h2,h3,by simp only[Emb.cut];rw[if_pos e9];exact h4,h5⟩
    |sit u p=>obtain⟨k,h1,h2,h3⟩:=hob;exact⟨k,by simp only[Emb.cut];rw[if_pos hln];exact h1,h2,h3⟩
theorem LeS.fits[Adr]{cx:Cx}{w0 w:World}{F:Nat->Prop}{φ:Emb}{nt:Nat}{a:Act}{s' s:St}(h:LeS s' s)(hf:Fits cx w0 w F φ nt a s'):Fits cx w0 w F (φ.cut s.nx) nt a s:=⟨h.mem hf.mem,⟨hf.tmps.size,λt=>below_rel _ _ (frBelow_get h.frB t) (h.fr.get t _ _ _ _ (hf.tmps.val t)),hf.tmps.glob⟩,hf.env⟩
theorem GrowW.cut{w0 w w':World}{F F':Nat->Prop}{φ φ':Emb}(h:GrowW w0 w F φ w' F' φ'){n:Nat}(hn:∀b g x,φ.blk b g=some x->b<n)(hl:∀l k,φ.loop l=some k->l<n):GrowW w0 w F φ w' F' (φ'.cut n):=⟨⟨λb g x hx=>by simp only[Emb.cut];rw[if_pos (hn b g x hx)];exact h.le.1 _ _ _ hx,λl k hk=>by simp only[Emb.cut];rw[if_pos (hl l k hk)];exact h.le.2 _ _ hk⟩,h.sub,h.new,h.ext,h.opn,h.lps,h.mps⟩
section
variable{P:Program}{nt:Nat}{K:Exit->St->Prop}{s:St}
end
end Go.AM
end
section
set_option linter.unusedSimpArgs false
set_option linter.unusedVariables false
namespace Go.AM
open Go Go.RowKit
def idx:List Nat->Nat->Option Nat|[],_=>none|k::l,b=>if b=k then some 0 else(idx l b).map (·+1)
theorem idx_get:∀(l:List Nat)(b m:Nat),idx l b=some m->l[m]?=some b
 |[],b,m,h=>by simp[idx]at h
 |k::l,b,m,h=>by
  simp only[idx]at h;split at h;.rename_i e;cases h;simp[e]
  .simp only[Option.map_eq_some_iff]at h;obtain⟨m',h1,rfl⟩:=h;simpa using idx_get l b m' h1
def exp(ns:List Nat)(η:Heap):Nat->AV->Option (AV×List Nat)
 |0,_=>none
 |d+1,v=>match v with
  |.ref b g i j=>match idx ns b with|some m=>some (.ref m g i j,[])|none=>pur η (d+1) (.ref b g i j)
  |.sl b g z off len=>match idx ns b with|some m=>some (.sl m g z off len,[])|none=>pur η (d+1) (.sl b g z off len)
  |.slk b g z off len c e=>match idx ns b with|some m=>some (.slk m g z off len c e,[])|none=>pur η (d+1) (.slk b g z off len c e)
  |.fn f a c=>match exps ns η d a,exps ns η d c with|some (a',r),some (c',r')=>some (.fn f a' c',r++r')|_,_=>none
  |.iface t v=>match exp ns η d v with|some (v',r)=>some (.iface t v',r)|none=>none
  |.agg cs=>match exps ns η d cs with|some (cs',r)=>some (.agg cs',r)|none=>none
  |.tup cs=>match exps ns η d cs with|some (cs',r)=>some (.tup cs',r)|none=>none
  |.yld _=>none
  |.mp _=>none
  |.itr _=>none
  |v=>some (v,[])where
 exps(ns:List Nat)(η:Heap):Nat->List AV->Option (List AV×List Nat)|0,_=>none|_+1,[]=>some ([],[])|d+1,v::vs=>match exp ns η d v,exps ns η d vs with|some (v',r),some (vs',r')=>some (v'::vs',r++r')|_,_=>none
def expEs(ns:List Nat)(η:Heap):List (List AV)->Option (List (List AV)×List Nat)|[]=>some ([],[])|e::es=>match exp.exps ns η 60 e,expEs ns η es with|some (e',r),some (es',r')=>some (e'::es',r++r')|_,_=>none
def expB(ns:List Nat)(η:Heap):List Nat->Option (List ABlk×List Nat)
 |[]=>some ([],[])
 |b::bs=>match η b,expB ns η bs with
  |some x,some (xs,rd)=>if x.pure then some (x::xs,rd)else match expEs ns η x.es with|some (es,rd')=>some ({x with es:=es}::xs,rd'++rd)|none=>none
  |_,_=>none
def Emb.pick(φ:Emb)(ns:List Nat):Emb:={blk:=λm g=>match ns[m]? with|some b=>φ.blk b g|none=>none,loop:=λ_=>none}
section
variable{w0 w:World}{F:Nat->Prop}{φ:Emb}{U:Nat->Prop}{η:Heap}
mutual
theorem exp_ok[Adr](h:HRel w0 w F φ U η)(ns:List Nat):∀(d:Nat)(v v':AV)(rd:List Nat)(x:Value),exp ns η d v=some (v',rd)->VRel w F φ v x->VRel w (Lent F φ η rd) (φ.pick ns) v' x
 |0,v,v',rd,x=>by intro hp;simp[exp]at hp
 |d+1,v,v',rd,x=>by
  intro hp hx;have hz:∀ψ:Emb,Emb.zero.le ψ:=Emb.zero_le;have hF:∀rd' b,F b->Lent F φ η rd' b:=λ_ b hb=>.inl hb;have same:∀(u:AV),u.isP=true->VRel w F φ u x->VRel w (Lent F φ η []) (φ.pick ns) u x:=λu hu hr=>VRel.mono (Ext0.refl F w) (hF []) (Emb.le_refl _) _ _ (isP_rel u x hu hr)
  cases v with
   |ref b g i j=>
    simp only[exp]at hp;split at hp;.rename_i m hm;cases hp;simp only[VRel]at hx⊢;obtain⟨cb,sz,h1,h2⟩:=hx;exact⟨cb,sz,by simp only[Emb.pick,idx_get _ _ _ hm];exact h1,h2⟩
    .exact VRel.mono (Ext0.refl _ w) (λ_ h=>h) (hz _) _ _ (pur_ok h _ _ _ _ _ hp hx)
   |sl b g z off len=>
    simp only[exp]at hp;split at hp
    .rename_i m hm;cases hp;simp only[VRel]at hx⊢;rcases hx with⟨h1,h2⟩|⟨cb,cap,h1,h2⟩;.exact .inl ⟨by simp only[Emb.pick,idx_get _ _ _ hm];exact h1,h2⟩
     .exact .inr ⟨cb,cap,by simp only[Emb.pick,idx_get _ _ _ hm];exact h1,h2⟩
    .exact VRel.mono (Ext0.refl _ w) (λ_ h=>h) (hz _) _ _ (pur_ok h _ _ _ _ _ hp hx)
   |slk b g z off len cap ex=>
    simp only[exp]at hp;split at hp;.rename_i m hm;cases hp;simp only[VRel]at hx⊢;obtain⟨cb,cap',h1,h2⟩:=hx;exact⟨cb,cap',by simp only[Emb.pick,idx_get _ _ _ hm];exact h1,h2⟩
    .exact VRel.mono (Ext0.refl _ w) (λ_ h=>h) (hz _) _ _ (pur_ok h _ _ _ _ _ hp hx)
   |fn f a c=>
    simp only[exp]at hp;split at hp;.rename_i a' r c' r' h1 h2;cases hp;simp only[VRel]at hx⊢;obtain⟨fs,cs,rfl,k1,k2⟩:=hx;exact⟨fs,cs,rfl,VRels.mono (Ext0.refl _ w) (Lent.mono (λ_ hm=>List.mem_append_left _ hm)) (Emb.le_refl _) _ _ (exps_ok h ns d _ _ _ _ h1 k1),VRels.mono (Ext0.refl _ w) (Lent.mono (λ_ hm=>List.mem_append_right _ hm)) (Emb.le_refl _) _ _ (exps_ok h ns d _ _ _ _ h2 k2)⟩
    .cases hp
   |iface t u=>
    simp only[exp]at hp;split at hp;.rename_i u' r h1;cases hp;simp only[VRel]at hx⊢;obtain⟨y,rfl,k1⟩:=hx;exact⟨y,rfl,exp_ok h ns d _ _ _ _ h1 k1⟩
    .cases hp
   |agg cs=>
    simp only[exp]at hp;split at hp;.rename_i u' r h1;cases hp;simp only[VRel]at hx⊢;obtain⟨y,rfl,k1,k2⟩:=hx;exact⟨y,rfl,exps_ok h ns d _ _ _ _ h1 k1,k2⟩
    .cases hp
   |tup cs=>
    simp only[exp]at hp;split at hp;.rename_i u' r h1;cases hp;simp only[VRel]at hx⊢;obtain⟨y,rfl,k1⟩:=hx;exact⟨y,rfl,exps_ok h ns d _ _ _ _ h1 k1⟩
    .cases hp
   |yld l=>simp only[exp]at hp;cases hp
   |mp l=>simp only[exp]at hp;cases hp
   |itr l=>simp only[exp]at hp;cases hp
   |top=>simp only[exp,Option.some.injEq,Prod.mk.injEq]at hp;obtain⟨rfl,rfl⟩:=hp;exact same _ rfl hx
   |anyb=>simp only[exp,Option.some.injEq,Prod.mk.injEq]at hp;obtain⟨rfl,rfl⟩:=hp;exact same _ rfl hx
   |bool b=>simp only[exp,Option.some.injEq,Prod.mk.injEq]at hp;obtain⟨rfl,rfl⟩:=hp;exact same _ rfl hx
   |int k n=>simp only[exp,Option.some.injEq,Prod.mk.injEq]at hp;obtain⟨rfl,rfl⟩:=hp;exact same _ rfl hx
   |str s=>simp only[exp,Option.some.injEq,Prod.mk.injEq]at hp;obtain⟨rfl,rfl⟩:=hp;exact same _ rfl hx
   |nilp=>simp only[exp,Option.some.injEq,Prod.mk.injEq]at hp;obtain⟨rfl,rfl⟩:=hp;exact same _ rfl hx
   |pp cs=>simp only[exp,Option.some.injEq,Prod.mk.injEq]at hp;obtain⟨rfl,rfl⟩:=hp;exact same _ rfl hx
   |nils=>simp only[exp,Option.some.injEq,Prod.mk.injEq]at hp;obtain⟨rfl,rfl⟩:=hp;exact same _ rfl hx
   |psl sz es=>simp only[exp,Option.some.injEq,Prod.mk.injEq]at hp;obtain⟨rfl,rfl⟩:=hp;exact same _ rfl hx
   |psx sz es=>simp only[exp,Option.some.injEq,Prod.mk.injEq]at hp;obtain⟨rfl,rfl⟩:=hp;exact same _ rfl hx
   |nilf=>simp only[exp,Option.some.injEq,Prod.mk.injEq]at hp;obtain⟨rfl,rfl⟩:=hp;exact same _ rfl hx
   |nili=>simp only[exp,Option.some.injEq,Prod.mk.injEq]at hp;obtain⟨rfl,rfl⟩:=hp;exact same _ rfl hx
   |emp=>simp only[exp,Option.some.injEq,Prod.mk.injEq]at hp;obtain⟨rfl,rfl⟩:=hp;exact same _ rfl hx
   |nilm=>simp only[exp,Option.some.injEq,Prod.mk.injEq]at hp;obtain⟨rfl,rfl⟩:=hp;exact same _ rfl hx
   |strb n s=>simp only[exp,Option.some.injEq,Prod.mk.injEq]at hp;obtain⟨rfl,rfl⟩:=hp;exact same _ rfl hx
   |inty k=>simp only[exp,Option.some.injEq,Prod.mk.injEq]at hp;obtain⟨rfl,rfl⟩:=hp;exact same _ rfl hx
   |dl n xs=>simp only[exp,Option.some.injEq,Prod.mk.injEq]at hp;obtain⟨rfl,rfl⟩:=hp;exact same _ rfl hx
   |gp k o cs=>simp only[exp,Option.some.injEq,Prod.mk.injEq]at hp;obtain⟨rfl,rfl⟩:=hp;exact same _ rfl hx
theorem exps_ok[Adr](h:HRel w0 w F φ U η)(ns:List Nat):∀(d:Nat)(vs vs':List AV)(rd:List Nat)(xs:List Value),exp.exps ns η d vs=some (vs',rd)->VRels w F φ vs xs->VRels w (Lent F φ η rd) (φ.pick ns) vs' xs
 |0,vs,vs',rd,xs=>by intro hp;simp[exp.exps]at hp
 |d+1,[],vs',rd,xs=>by intro hp hx;simp[exp.exps]at hp;obtain⟨rfl,rfl⟩:=hp;simpa[VRels]using hx
 |d+1,v::vs,vs',rd,xs=>by
  intro hp hx;simp only[exp.exps]at hp;split at hp;.rename_i v' r vs'' r' h1 h2;cases hp;simp only[VRels]at hx⊢;obtain⟨y,ys,rfl,k1,k2⟩:=hx;exact⟨y,ys,rfl,VRel.mono (Ext0.refl _ w) (Lent.mono (λ_ hm=>List.mem_append_left _ hm)) (Emb.le_refl _) _ _ (exp_ok h ns d _ _ _ _ h1 k1),VRels.mono (Ext0.refl _ w) (Lent.mono (λ_ hm=>List.mem_append_right _ hm)) (Emb.le_refl _) _ _ (exps_ok h ns d _ _ _ _ h2 k2)⟩
  .cases hp
end
theorem exps_length(ns:List Nat):∀(d:Nat)(vs vs':List AV)(rd:List Nat),exp.exps ns η d vs=some (vs',rd)->vs'.length=vs.length
 |0,vs,vs',rd,h=>by simp[exp.exps]at h
 |d+1,[],vs',rd,h=>by simp[exp.exps]at h;rw[h.1]
 |d+1,v::vs,vs',rd,h=>by
  simp only[exp.exps]at h;split at h;.rename_i v' r vs'' r' h1 h2;cases h;simp[exps_length ns d _ _ _ h2]
  .cases h
theorem expEs_ok[Adr](h:HRel w0 w F φ U η)(ns:List Nat){b sz:Nat}:∀(es es':List (List AV))(rd:List Nat)(o:Nat),expEs ns η es=some (es',rd)->(∀e∈es,e.length=sz)->ERel w F φ es b o->ERel w (Lent F φ η rd) (φ.pick ns) es' b o/\(∀e∈es',e.length=sz)/\es'.length=es.length
 |[],es',rd,o,hp,_,_=>by simp[expEs]at hp;obtain⟨rfl,rfl⟩:=hp;simp[ERel]
 |e::es,es',rd,o,hp,hl,hr=>by
  simp only[expEs]at hp;split at hp
  .rename_i e' r es'' r' h1 h2;cases hp;simp only[ERel]at hr⊢;have hlen:=exps_length ns 60 _ _ _ h1;obtain⟨i1,i2,i3⟩:=expEs_ok h ns es es'' r' (o+e.length) h2 (λx hx=>hl x (by simp[hx])) hr.2;refine⟨⟨?_,?_⟩,?_,by simp[i3]⟩;.have :=hr.1;rw[CRel_iff]at this⊢;obtain⟨vs,c1,c2,c3⟩:=this;exact⟨vs,VRels.mono (Ext0.refl _ w) (Lent.mono (λ_ hm=>List.mem_append_left _ hm)) (Emb.le_refl _) _ _ (exps_ok h ns 60 _ _ _ _ h1 c1),c2,c3⟩
   .rw[hlen];exact ERel.mono (Ext0.refl _ w) (Lent.mono (λ_ hm=>List.mem_append_right _ hm)) (Emb.le_refl _) _ _ _ rfl i1
   .intro x hx;rcases List.mem_cons.1 hx with q|q;.rw[q,hlen];exact hl e (by simp)
    .exact i2 x q
  .cases hp
theorem expB_get(ns:List Nat):∀(bs:List Nat)(xs:List ABlk)(rd:List Nat),expB ns η bs=some (xs,rd)->xs.length=bs.length/\ ∀(m b:Nat),bs[m]?=some b->∃x y,η b=some x/\xs[m]?=some y/\y.g=x.g/\y.sz=x.sz/\y.own=x.own/\y.pure=x.pure/\y.ty=x.ty/\((x.pure=true/\y.es=x.es)\/(x.pure=false/\ ∃rd',expEs ns η x.es=some (y.es,rd')/\ ∀c,c∈rd'->c∈rd))
 |[],xs,rd,h=>by simp[expB]at h;obtain⟨rfl,rfl⟩:=h;simp
 |b::bs,xs,rd,h=>by
  simp only[expB]at h;split at h
  .rename_i x xs' rd' hx hr;obtain⟨i1,i2⟩:=expB_get ns bs xs' rd' hr;split at h;.rename_i hp;cases h;refine⟨by simp[i1],λm c hm=>?_⟩;cases m with|zero=>simp at hm;subst hm;exact⟨x,x,hx,rfl,rfl,rfl,rfl,rfl,rfl,.inl ⟨hp,rfl⟩⟩|succ m=>exact i2 m c (by simpa using hm)
   .rename_i hp;split at h
    .rename_i es rd2 he;cases h;refine⟨by simp[i1],λm c hm=>?_⟩
     cases m with
      |zero=>simp at hm;subst hm;exact⟨x,{x with es:=es},hx,rfl,rfl,rfl,rfl,rfl,rfl,.inr ⟨by simpa using hp,rd2,he,λc hc=>List.mem_append_left _ hc⟩⟩
      |succ m=>
       obtain⟨y,z,g1,g2,g3,g4,g5,g6,g8,g7⟩:=i2 m c (by simpa using hm);refine⟨y,z,g1,by simpa using g2,g3,g4,g5,g6,g8,?_⟩;rcases g7 with q|⟨q1,q2,q3,q4⟩;.exact .inl q
       .exact .inr ⟨q1,q2,q3,λc hc=>List.mem_append_right _ (q4 c hc)⟩
    .cases h
  .cases h
theorem HRel.pick[Adr](h:HRel w0 w F φ U η){ns:List Nat}{blks:List ABlk}{rd0 rd:List Nat}(hb:expB ns η ns=some (blks,rd0))(hsub:∀c,c∈rd0->c∈rd)(hn:ns.Nodup)(hdis:∀b,b∈ns->b∉rd):HRel w0 w (Lent F φ η rd) (φ.pick ns) (λm=>m<blks.length) (λm=>blks[m]?):=by
 obtain⟨hl,hget⟩:=expB_get ns ns blks rd0 hb
 have get:∀(m:Nat)(y:ABlk),blks[m]?=some y->∃b x,ns[m]?=some b/\η b=some x/\y.g=x.g/\y.sz=x.sz/\y.own=x.own/\y.pure=x.pure/\y.ty=x.ty/\((x.pure=true/\y.es=x.es)\/(x.pure=false/\ ∃rd',expEs ns η x.es=some (y.es,rd')/\ ∀c,c∈rd'->c∈rd0)):=by
  intro m y hy;have hm:m<ns.length:=by rw[<-hl];exact(List.getElem?_eq_some_iff.1 hy).1
  obtain⟨x,y',g1,g2,g3,g4,g5,g6,g8,g7⟩:=hget m ns[m] (List.getElem?_eq_getElem hm);rw[hy]at g2;cases g2;exact⟨ns[m],x,List.getElem?_eq_getElem hm,g1,g3,g4,g5,g6,g8,g7⟩
 have pk:∀(m b g:Nat),ns[m]?=some b->(φ.pick ns).blk m g=φ.blk b g:=λm b g hm=>by simp only[Emb.pick,hm]
 refine⟨h.below,(h.freeze rd).fb,λm g x hx=>?_,λm g cb sz hx=>?_,λm y hy=>?_,λm y hy g hg=>?_,λm m' y y' cb sz sz' hy hy' e1 e2=>?_,(h.freeze rd).fwk⟩
 .simp only[Emb.pick]at hx;split at hx;.rename_i b hm;rw[hl];exact(List.getElem?_eq_some_iff.1 hm).1
  .cases hx
 .simp only[Emb.pick]at hx;split at hx;.exact h.inb _ _ _ _ hx
  .cases hx
 .obtain⟨b,x,g1,g2,g3,g4,g5,g6,g8,g7⟩:=get m y hy;obtain⟨pl,p1,p2,p3⟩:=h.blk b x g2
  have hes:(∀cb,pl=some cb->ERel w (Lent F φ η rd) (y.emb (φ.pick ns)) y.es cb 0)/\(∀e∈y.es,e.length=y.sz)/\y.es.length=x.es.length:=by
   rcases g7 with⟨q1,q2⟩|⟨q1,rd',q2,q3⟩;.refine⟨λcb hcb=>?_,by rw[q2,g4];exact p2,by rw[q2]⟩;subst hcb;have :=p3.2.2.2;rw[ABlk.emb,if_pos q1]at this;rw[ABlk.emb,if_pos (by rw[g6];exact q1),q2];exact ERel.mono (Ext0.refl _ w) (λ_ hb=>.inl hb) (Emb.le_refl _) _ _ _ rfl this
   .cases pl with|none=>simp only[LRel]at p3;rw[p3]at q2;simp only[expEs,Option.some.injEq,Prod.mk.injEq]at q2;exact⟨λcb hcb=>(by cases hcb),λe he=>(by rw[<-q2.1]at he;cases he),(by rw[<-q2.1,p3])⟩|some cb=>have :=p3.2.2.2;rw[ABlk.emb,if_neg (by simp[q1])]at this;obtain⟨i1,i2,i3⟩:=expEs_ok h ns x.es y.es rd' 0 q2 p2 this;refine⟨λcb' hcb=>?_,by rw[g4];exact i2,i3⟩;cases hcb;rw[ABlk.emb,if_neg (by rw[g6];simp[q1])];exact ERel.mono (Ext0.refl _ w) (Lent.mono (λc hc=>hsub c (q3 c hc))) (Emb.le_refl _) _ _ _ rfl i1
  refine⟨pl,by rw[pk m b _ g1,g3,g4];exact p1,hes.2.1,?_⟩
  cases pl with
   |none=>simp only[LRel]at p3⊢;exact List.eq_nil_of_length_eq_zero (by rw[hes.2.2,p3];rfl)
   |some cb=>
    obtain⟨f1,f2,f3,f4⟩:=p3;refine⟨f1,λho hL=>?_,by rw[hes.2.2,g4];obtain⟨c,el,fz,q1,q2,q3⟩:=f3;exact⟨c,el,fz,q1,⟨λho=>q2.1 (by rw[<-g5];exact ho),λt ht=>q2.2 t (by rw[<-g8];exact ht)⟩,q3⟩,hes.1 cb rfl⟩;rcases hL with q|⟨n,hn',z,hz,sz,e⟩;.exact f2 (by rw[<-g5];exact ho) q
    .have :=h.inj n b z x cb _ _ hz g2 e p1;exact hdis b (List.mem_of_getElem? g1) (this▸hn')
 .obtain⟨b,x,g1,g2,g3,-⟩:=get m y hy;rw[pk m b _ g1];exact h.gen b x g2 g (by rw[<-g3];exact hg)
 .obtain⟨b,x,g1,g2,g3,-⟩:=get m y hy;obtain⟨b',x',g1',g2',g3',-⟩:=get m' y' hy';rw[pk m b _ g1,g3]at e1;rw[pk m' b' _ g1',g3']at e2;have :=h.inj b b' x x' cb sz sz' g2 g2' e1 e2;subst this;have hm:=(List.getElem?_eq_some_iff.1 g1).1;have hm':=(List.getElem?_eq_some_iff.1 g1').1;have e3:=(List.getElem?_eq_some_iff.1 g1).2;have e4:=(List.getElem?_eq_some_iff.1 g1').2;exact(List.getElem_inj hn).1 (e3.trans e4.symm)
end
def resS(P:Program)(s:St):List ResultVar->Option (List AV)
 |[]=>some []
 |.tmp t::rs=>match resS P s rs with|some vs=>some (frGet s.fr t::vs)|none=>none
 |.cell a t::rs=>match aLoad P t (frGet s.fr a) (alg s.hp),resS P s rs with|some (v,_),some vs=>some (v::vs)|_,_=>none
def resV:List AV->AV|[v]=>v|vs=>.tup vs
def resRun(tmps:Array Value):ResultVar->Sem Value
 |.tmp t=>pure (tmps.getD t undef)
 |.cell c t=>do
  loadVar t (<-asAddr (tmps.getD c undef))
theorem results_eq(fn:Func)(tmps:Array Value):results fn tmps=(do
 let vs<-fn.results.mapM (resRun tmps)
 pure (if h:vs.size=1 then vs[0]else .tuple vs)):=by unfold results;congr 1
theorem resS_ok[Adr]{P:Program}{w0 w:World}{F:Nat->Prop}{φ:Emb}{nt:Nat}{tmps:Array Value}{s:St}(hm:Mem w0 w F φ s)(ht:TRel w F φ (frGet s.fr) nt tmps):∀(rs:List ResultVar)(vs:List AV),resS P s rs=some vs->∃xs,(rs.mapM (resRun tmps)).run P w=.ok xs w/\VRels w F φ vs xs
 |[],vs,h=>by simp[resS]at h;subst h;exact⟨[],by simp,by simp[VRels]⟩
 |.tmp t::rs,vs,h=>by
  simp only[resS]at h;split at h;.rename_i vs' hr;cases h;obtain⟨xs,h1,h2⟩:=resS_ok hm ht rs vs' hr;exact⟨tmps.getD t undef::xs,by simp only[List.mapM_cons,Sem.run_bind,Sem.run_pure,Result.andThen_ok,resRun,h1],by simp only[VRels];exact⟨_,_,rfl,ht.val t,h2⟩⟩
  .cases h
 |.cell c t::rs,vs,h=>by
  simp only[resS]at h;split at h
  .rename_i v _ vs' hl hr;cases h;obtain⟨xs,h1,h2⟩:=resS_ok hm ht rs vs' hr;obtain⟨y,k1,k2⟩:=load_ok (P:=P) hm.heap hl (ht.val c);refine⟨y::xs,?_,by simp only[VRels];exact⟨_,_,rfl,k2,h2⟩⟩
   have hp:∃ad,tmps.getD c undef=.pointer (some ad):=by
    have hv:=ht.val c;unfold aLoad at hl;split at hl
    .split at hl;.rename_i b g i j he;rw[he]at hv;simp only[VRel]at hv;obtain⟨cb,sz,-,e⟩:=hv;exact⟨_,e⟩
     .rename_i cs he;rw[he]at hv;simp only[VRel]at hv;obtain⟨b,o,e,-⟩:=hv;exact⟨_,e⟩
     .cases hl
    .cases hl
   obtain⟨ad,hp⟩:=hp;rw[hp]at k1;simp only[Instr.loadAt,Instr.sureAddr,Sem.run_bind,Sem.run_pure,Result.andThen_ok]at k1;simp only[List.mapM_cons,Sem.run_bind,Sem.run_pure,Result.andThen_ok,resRun,hp,show asAddr (.pointer (some ad))=pure ad from rfl,k1,h1]
  .cases h
theorem results_ok[Adr]{P:Program}{w0 w:World}{F:Nat->Prop}{φ:Emb}{nt:Nat}{tmps:Array Value}{s:St}(hm:Mem w0 w F φ s)(ht:TRel w F φ (frGet s.fr) nt tmps){fn:Func}{vs:List AV}(h:resS P s fn.results.toList=some vs):∃x,(results fn tmps).run P w=.ok x w/\VRel w F φ (resV vs) x:=by
 obtain⟨xs,h1,h2⟩:=resS_ok (P:=P) hm ht _ _ h;rw[results_eq,Array.mapM_eq_mapM_toList];simp only[Sem.run_bind,Sem.run_map,h1,Result.andThen_ok,Sem.run_pure];refine⟨_,rfl,?_⟩;have hl:=h2.length;unfold resV;split;.rename_i v;simp only[List.length_cons,List.length_nil]at hl;simp only[VRels]at h2;obtain⟨y,_,rfl,hy,rfl⟩:=h2;simpa using hy
 .rename_i vs hne;have :¬xs.length=1:=by intro e;rw[<-hl]at e;obtain⟨v,rfl⟩:=List.length_eq_one_iff.1 e;exact hne v rfl
  simp only[List.size_toArray,this,dite_false];simp only[VRel];exact⟨xs,rfl,h2⟩
def enumFr:Nat->List AV->List (Nat×AV)|_,[]=>[]|i,v::vs=>(i,v)::enumFr (i+1) vs
theorem enumFr_get[Adr](vs:List AV):∀(i t:Nat),frGet (enumFr i vs) t=if i<=t then(match vs[t-i]? with|some v=>v|none=>.top)else .top:=by
 induction vs with
  |nil=>intro i t;simp[enumFr,frGet_nil]
  |cons v vs ih=>
   intro i t;simp only[enumFr,frGet_cons,ih];by_cases e:t=i;.subst e;simp
   .rw[if_neg e];by_cases h:i<=t;.rw[if_pos (show i+1<=t by omega),if_pos h,show t-i=(t-(i+1))+1 by omega];simp
    .rw[if_neg (by omega),if_neg h]
section
variable{w0 w:World}{F:Nat->Prop}{φ:Emb}{U:Nat->Prop}{η:Heap}
theorem Ext0.put[Adr]{k:Nat}{o o':Obj}(hF:∀b o,F b->w.heap[b]?=some o->isRec o=false)(ho:w.heap[k]?=some o)(hr:isRec o=true):Ext0 F w (w.putObj k o'):=by
 refine⟨by simp,λb hb=>World.putObj_heap_other λe=>?_,λb x hx=>?_⟩;.subst e;have :=hF b o hb ho;rw[this]at hr;cases hr
 .by_cases e:b=k;.subst e;simp only[World.shape?,ho]at hx;cases o<;>simp_all[isRec]
  .rw[shape_of_heap (World.putObj_heap_other e)];exact hx
theorem HRel.put[Adr]{k:Nat}{o o':Obj}(h:HRel w0 w F φ U η)(ho:w.heap[k]?=some o)(hr:isRec o=true)(h0:w0.heap.size<=k):HRel w0 (w.putObj k o') F φ U η:=by have hx:=Ext0.put (o':=o') h.fwk ho hr;refine⟨⟨h.below.os,h.below.tape,h.below.output,by simp[h.below.size],λb hb=>(World.putObj_heap_other (by omega)).trans (h.below.block b hb)⟩,λb hb=>by rw[World.putObj_size];exact h.fb b hb,h.used,λb g cb sz e=>by rw[World.putObj_size];exact h.inb b g cb sz e,λb x hx'=>?_,h.gen,h.inj,λb o2 hb ho2=>h.fwk b o2 hb (by rw[<-hx.same b hb];exact ho2)⟩;obtain⟨pl,p1,p2,p3⟩:=h.blk b x hx';refine⟨pl,p1,p2,p3.mono hx (Emb.le_refl _) λcb e=>World.putObj_heap_other λe2=>?_⟩;subst e;subst e2;obtain⟨-,-,⟨c,el,fz,q,-⟩,-⟩:=p3;rw[q]at ho;cases ho;cases hr
theorem Mem.put[Adr]{k:Nat}{s:St}(h:Mem w0 w F φ s)(ho:Opened w k)(h0:w0.heap.size<=k)(hd:∀l x k' rec,alg s.lp l=some x->φ.loop l=some k'->w.heap[k']?=some (.loop rec)->rec.defers≠k):Mem w0 (w.putObj k (.deferred none)) F φ s:=by
 have hx:=Ext0.put (o':=.deferred none) h.heap.fwk ho rfl;refine⟨h.heap.put ho rfl h0,λl x hl=>?_,λl k' hk=>?_,h.linj⟩
 .refine⟨λhm0=>?_,λm hm1=>?_⟩
  .obtain⟨k',rec,h1,h2,h3,h4,h5,h6,h7,h8,h9,h10⟩:=(h.lps l x hl).1 hm0;refine⟨k',rec,h1,h2,?_,h4,h5,h6,h7,h8,⟨h9.size,λt=>VRel.mono hx (λ_ h=>h) (Emb.le_refl _) _ _ (h9.val t),h9.glob.mono hx λ_ h=>h⟩,?_⟩;.rw[World.putObj_heap_other λe=>?_];exact h3;subst e;rw[ho]at h3;cases h3
   .unfold Opened;rw[World.putObj_heap_other (hd l x k' rec hl h1 h3)];exact h10
  .have hob:=(h.lps l x hl).2 m hm1
   cases m with
    |map m=>obtain⟨k',es,c,h1,h2,h3,h4,h5⟩:=hob;refine⟨k',es,c,h1,h2,?_,h4.mono hx (λ_ h=>h),h5⟩;rw[World.putObj_heap_other λe=>?_];exact h3;subst e;rw[ho]at h3;cases h3
    |md mk mv xs=>obtain⟨k',es,c,h1,h2,h3,h4,h5⟩:=hob;refine⟨k',es,c,h1,h2,?_,h4.mono hx (λ_ h=>h),h5⟩;rw[World.putObj_heap_other λe=>?_];exact h3;subst e;rw[ho]at h3;cases h3
    |mit l0 left cur=>
     obtain⟨k',bm,es,c,si,se,la,h1,h2,h3,h4,h5,h6,h7,h7',h8,h9⟩:=hob;refine⟨k',bm,es,c,si,se,la,h1,h2,?_,h4,?_,h6,h7,h7',h8.mono hx (λ_ h=>h),λkv e=>let⟨q1,e0,q2,q3,q4,q5⟩:=h9 kv e;⟨q1,e0,q2,q3,VRel.mono hx (λ_ h=>h) (Emb.le_refl _) _ _ q4,VRel.mono hx (λ_ h=>h) (Emb.le_refl _) _ _ q5⟩⟩;.rw[World.putObj_heap_other λe=>?_];exact h3;subst e;rw[ho]at h3;cases h3
     .rw[World.putObj_heap_other λe=>?_];exact h5;subst e;rw[ho]at h5;cases h5
    |sit u p=>obtain⟨k',h1,h2,h3⟩:=hob;refine⟨k',h1,h2,?_⟩;rw[World.putObj_heap_other λe=>?_];exact h3;subst e;rw[ho]at h3;cases h3
 .rw[World.putObj_size];exact h.lused l k' hk
end
def EWP[Adr](P:Program)(f:FuncId)(args:List AV)(K:AV->St->Prop)(s:St):Prop:=Ent P f/\ ∀(w0 w:World)(F:Nat->Prop)(φ:Emb)(vs:List Value),Mem w0 w F φ s->GOk w F->VRels w F φ args vs->Calls P f ⟨vs⟩ w λe w'=>∃v r s' φ' F',e=.returned v/\Mem w0 w' F' φ' s'/\GrowW w0 w F φ w' F' φ'/\VRel w' F' φ' r v/\K r s'
theorem resS_lp(P:Program)(s:St)(lp:List (Nat×LBlk)):∀rs:List ResultVar,resS P {s with lp:=lp} rs=resS P s rs|[]=>rfl|.tmp t::rs=>by simp only[resS,resS_lp P s lp rs]|.cell a t::rs=>by simp only[resS,resS_lp P s lp rs]
theorem enum_rel[Adr]{w:World}{F:Nat->Prop}{φ:Emb}{args:List AV}{vs:List Value}(hgl:GOk w F)(hvs:VRels w F φ args vs){nt:Nat}(hl:args.length<=nt):TRel w F φ (frGet (enumFr 0 args)) nt (⟨vs⟩++Array.replicate (nt-(⟨vs⟩:Array Value).size) undef):=by
 have hlen:=hvs.length;refine⟨by simp;omega,λt=>?_,hgl⟩;rw[enumFr_get];simp only[Nat.zero_le,if_true,Nat.sub_zero]
 cases ha:args[t]? with
  |none=>simp[VRel]
  |some v=>
   obtain⟨x,hx,hr⟩:=hvs.get ha;have hlt:=(List.getElem?_eq_some_iff.1 hx).1;have :((⟨vs⟩:Array Value)++Array.replicate (nt-(⟨vs⟩:Array Value).size) undef).getD t undef=x:=by rw[Array.getD_eq_getD_getElem?,Array.getElem?_append_left (by simpa using hlt)];simp[hx]
   simp only[this];exact hr
def Returns[Adr](r:AV)(blks:List ABlk)(v:AV)(s:St):Prop:=∃(ns:List Nat) (r':AV) (rd rd':List Nat),exp ns (alg s.hp) 60 v=some (r',rd)/\expB ns (alg s.hp) ns=some (blks,rd')/\ns.Nodup/\(∀b,b∈ns->b∉rd++rd')/\r'.Le r
theorem pcall_of_ewp[Adr]{P:Program}{f:FuncId}{args:List AV}{r:AV}{blks:List ABlk}(h:EWP P f args (Returns r blks) ⟨[],[],0,[]⟩):PCall P f args r blks:=by
 refine⟨h.1,λw F vs hF hgl hvs=>?_⟩;have hm:Mem w w F Emb.zero ⟨[],[],0,[]⟩:=by refine⟨⟨Below.refl _ _,λb hb=>(hF b hb).1,λb g x hx=>by simp[Emb.zero]at hx,λb g cb sz hx=>by simp[Emb.zero]at hx,λb x hx=>by simp[alg]at hx,λb x hx=>by simp[alg]at hx,λb b' x y cb sz sz' hx=>by simp[alg]at hx,λb o hb ho=>(hF b hb).2 o ho⟩,λl x hx=>by simp[alg]at hx,λl k hx=>by simp[Emb.zero]at hx,λl l' k hx=>by simp[Emb.zero]at hx⟩
 refine(h.2 w w F Emb.zero vs hm hgl hvs).mono ?_;rintro e w' ⟨v,r0,s',φ',F',rfl,k1,k2,k3,ns,r',rd,rd',g2,g3,g4,g5,g6⟩;refine⟨v,φ'.pick ns,Lent F' φ' (alg s'.hp) (rd++rd'),rfl,λb hb=>.inl (k2.sub b hb),λb hb=>?_,k1.heap.pick g3 (λc hc=>List.mem_append_right _ hc) g4 g5,?_⟩
 .rcases hb with hb|⟨n,-,blk,hb,sz,e⟩;.exact k2.new b hb
  .obtain⟨pl,p1,-,p3⟩:=k1.heap.blk n blk hb;rw[e]at p1;cases p1;exact .inr p3.1
 .exact g6 _ _ _ _ (VRel.mono (Ext0.refl _ w') (Lent.mono (λ_ hm=>List.mem_append_left _ hm)) (Emb.le_refl _) _ _ (exp_ok k1.heap ns 60 _ _ _ _ g2 k3))
end Go.AM
end
