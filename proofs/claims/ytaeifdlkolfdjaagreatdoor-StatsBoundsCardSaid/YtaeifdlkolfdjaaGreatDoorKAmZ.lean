/- Texts of the proof, joined by program. -/
import Derived.Test.YtaeifdlkolfdjaaGreatDoorKAmU
section
set_option linter.unusedSimpArgs false
set_option linter.unusedVariables false
namespace Go.AM
open Go Go.RowKit
abbrev NilB:=List (Nat×Nat)
def NilB.ok(N:NilB)(φ:Emb):Prop:=∀n sz,alg N n=some sz->φ.blk n 0=some (none,sz)
def AV.LeN[Adr](N:NilB)(a b:AV):Prop:=∀(w:World)(F:Nat->Prop)(φ:Emb)(v:Value),N.ok φ->VRel w F φ a v->VRel w F φ b v
theorem AV.LeN.refl[Adr]{N:NilB}(a:AV):a.LeN N a:=λ_ _ _ _ _ h=>h
theorem AV.Le.toN[Adr]{N:NilB}{a b:AV}(h:a.Le b):a.LeN N b:=λ_ _ _ _ _ hr=>h _ _ _ _ hr
theorem AV.LeN.top[Adr]{N:NilB}(a:AV):a.LeN N .top:=(AV.Le.top a).toN
theorem AV.LeN.nils[Adr]{N:NilB}(sz:Nat):AV.nils.LeN N (.psl sz []):=(AV.Le.nils sz).toN
theorem AV.LeN.bool[Adr]{N:NilB}(b:Bool):(AV.bool b).LeN N .anyb:=(AV.Le.bool b).toN
def ALesN[Adr](N:NilB):List AV->List AV->Prop|[],[]=>True|a::as,b::bs=>a.LeN N b/\ALesN N as bs|_,_=>False
theorem ALesN.refl[Adr]{N:NilB}:∀as:List AV,ALesN N as as|[]=>trivial|a::as=>⟨AV.LeN.refl a,ALesN.refl as⟩
theorem ALesN.rel[Adr]{N:NilB}{w:World}{F:Nat->Prop}{φ:Emb}(hN:N.ok φ):∀{as bs:List AV}{vs:List Value},ALesN N as bs->VRels w F φ as vs->VRels w F φ bs vs|[],[],_,_,h=>h|a::as,b::bs,vs,hl,h=>by simp only[VRels]at h⊢;obtain⟨v,vs',h1,h2,h3⟩:=h;exact⟨v,vs',h1,hl.1 _ _ _ _ hN h2,ALesN.rel hN hl.2 h3⟩|[],_::_,_,hl,_=>hl.elim|_::_,[],_,hl,_=>hl.elim
theorem ALesN.length[Adr]{N:NilB}:∀{as bs:List AV},ALesN N as bs->as.length=bs.length|[],[],_=>rfl|_::as,_::bs,h=>by simp[ALesN.length h.2]|[],_::_,h=>h.elim|_::_,[],h=>h.elim
theorem AV.LeN.agg[Adr]{N:NilB}{as bs:List AV}(h:ALesN N as bs):(AV.agg as).LeN N (.agg bs):=λw F φ v hN hv=>by simp only[VRel]at hv⊢;obtain⟨cs,h1,h2,h3⟩:=hv;exact⟨cs,h1,h.rel hN h2,h3⟩
theorem AV.LeN.tup[Adr]{N:NilB}{as bs:List AV}(h:ALesN N as bs):(AV.tup as).LeN N (.tup bs):=λw F φ v hN hv=>by simp only[VRel]at hv⊢;obtain⟨cs,h1,h2⟩:=hv;exact⟨cs,h1,h.rel hN h2⟩
def EsLe[Adr](N:NilB):List (List AV)->List (List AV)->Prop|[],[]=>True|a::as,b::bs=>ALesN N a b/\EsLe N as bs|_,_=>False
theorem EsLe.refl[Adr]{N:NilB}:∀as:List (List AV),EsLe N as as|[]=>trivial|a::as=>⟨ALesN.refl a,EsLe.refl as⟩
theorem EsLe.map[Adr]{α:Type}{N:NilB}{f g:α->List AV}(h:∀x,ALesN N (f x) (g x)):∀l:List α,EsLe N (l.map f) (l.map g)|[]=>trivial|a::as=>⟨h a,EsLe.map h as⟩
theorem EsLe.append[Adr]{N:NilB}:∀{a b c d:List (List AV)},EsLe N a b->EsLe N c d->EsLe N (a++c) (b++d)|[],[],_,_,_,h=>h|_::_,_::_,_,_,h,k=>⟨h.1,EsLe.append h.2 k⟩|[],_::_,_,_,h,_=>h.elim|_::_,[],_,_,h,_=>h.elim
theorem EsLe.rel[Adr]{N:NilB}{w:World}{F:Nat->Prop}{φ:Emb}{b:Nat}(hN:N.ok φ):∀{as bs:List (List AV)}{o:Nat},EsLe N as bs->ERel w F φ as b o->ERel w F φ bs b o
 |[],[],_,_,h=>h
 |a::as,c::bs,o,hl,h=>by
  simp only[ERel]at h⊢;refine⟨?_,?_⟩;.have :=h.1;rw[CRel_iff]at this⊢;obtain⟨vs,h1,h2,h3⟩:=this;exact⟨vs,hl.1.rel hN h1,h2,h3⟩
  .rw[<-hl.1.length];exact EsLe.rel hN hl.2 h.2
 |[],_::_,_,hl,_=>hl.elim
 |_::_,[],_,hl,_=>hl.elim
theorem EsLe.length[Adr]{N:NilB}:∀{as bs:List (List AV)},EsLe N as bs->as.length=bs.length|[],[],_=>rfl|_::as,_::bs,h=>by simp[EsLe.length h.2]|[],_::_,h=>h.elim|_::_,[],h=>h.elim
theorem EsLe.sized[Adr]{N:NilB}{n:Nat}:∀{as bs:List (List AV)},EsLe N as bs->(∀e∈as,e.length=n)->∀e∈bs,e.length=n
 |[],[],_,_,e,he=>by simp at he
 |a::as,b::bs,h,hs,e,he=>by
  rcases List.mem_cons.1 he with q|q;.subst q;rw[<-h.1.length];exact hs a (by simp)
  .exact EsLe.sized h.2 (λx hx=>hs x (by simp[hx])) e q
 |[],_::_,h,_,_,_=>h.elim
 |_::_,[],h,_,_,_=>h.elim
def FrLeN[Adr](N:NilB)(fr:List (Nat×AV)):List (Nat×AV)->Prop|[]=>True|(t,v)::l=>(frGet fr t).LeN N v/\FrLeN N fr l
theorem FrLeN.get[Adr]{N:NilB}{fr:List (Nat×AV)}:∀{l:List (Nat×AV)},FrLeN N fr l->∀t,(frGet fr t).LeN N (frGet l t)
 |[],_,t=>by rw[frGet_nil];exact AV.LeN.top _
 |(k,v)::l,h,t=>by
  rw[frGet_cons];split;.rename_i q;subst q;exact h.1
  .exact h.2.get t
def nilBlk(sz:Nat):ABlk:={g:=0,own:=true,pure:=true,sz:=sz,es:=[]}
def BLeN[Adr](N:NilB)(y x:ABlk):Prop:=y.g=x.g/\y.sz=x.sz/\EsLe (if x.pure then[]else N) y.es x.es/\(x.own=true->y.own=true)/\(x.pure=true->y.pure=true)/\(x.ty.isSome=true->y.ty=x.ty)
theorem BLeN.refl[Adr]{N:NilB}(x:ABlk):BLeN N x x:=⟨rfl,rfl,EsLe.refl _,λh=>h,λh=>h,λ_=>rfl⟩
def HpLeN[Adr](N:NilB)(hp:List (Nat×ABlk)):List (Nat×ABlk)->Prop|[]=>True|(b,x)::l=>(match alg hp b with|some y=>BLeN N y x|none=>∃sz,alg N b=some sz/\x=nilBlk sz)/\HpLeN N hp l
theorem HpLeN.get[Adr]{N:NilB}{hp:List (Nat×ABlk)}:∀{l:List (Nat×ABlk)},HpLeN N hp l->∀b x,alg l b=some x->(∃y,alg hp b=some y/\BLeN N y x)\/(alg hp b=none/\ ∃sz,alg N b=some sz/\x=nilBlk sz)
 |[],_,b,x,hx=>by simp[alg]at hx
 |(k,z)::l,h,b,x,hx=>by
  simp only[alg]at hx;split at hx;.rename_i e;subst e;cases hx;have :=h.1;cases hy:alg hp b with|none=>rw[hy]at this;exact .inr ⟨rfl,this⟩|some y=>rw[hy]at this;exact .inl ⟨y,rfl,this⟩
  .exact h.2.get b x hx
def NilIn(lo hi:Nat):NilB->Prop|[]=>True|(n,_)::l=>lo<=n/\n<hi/\NilIn lo hi l
theorem NilIn.get{lo hi:Nat}:∀{N:NilB},NilIn lo hi N->∀n sz,alg N n=some sz->lo<=n/\n<hi
 |[],_,n,sz,h=>by simp[alg]at h
 |(k,z)::l,hN,n,sz,h=>by
  simp only[alg]at h;split at h;.rename_i e;subst e;exact⟨hN.1,hN.2.1⟩
  .exact hN.2.2.get n sz h
structure LeN[Adr](N:NilB)(s' s:St):Prop where
 fr:FrLeN N s'.fr s.fr
 hp:HpLeN N s'.hp s.hp
 frB:frBelow s.nx s.fr=true
 hpB:hpBelow s.nx s.hp=true
 lp:LpLe s.nx s'.lp s.lp
 nin:NilIn s'.nx s.nx N
def Emb.addN(φ:Emb)(N:NilB):Emb:={φ with blk:=λb g=>match alg N b with|some sz=>if g=0 then some (none,sz)else none|none=>φ.blk b g}
section
variable{w0 w:World}{F:Nat->Prop}{φ:Emb}{s s':St}{N:NilB}
theorem LeN.mem[Adr](h:LeN N s' s)(hm:Mem w0 w F φ s'):Mem w0 w F ((φ.addN N).cut s.nx) s/\φ.le (φ.addN N)/\N.ok (φ.addN N):=by
 have hno:∀n sz,alg N n=some sz->∀g,φ.blk n g=none:=λn sz e g=>by cases hb:φ.blk n g with|none=>rfl|some x=>have :=hm.heap.used _ _ _ hb;have :=(h.nin.get n sz e).1;omega
 have hle:φ.le (φ.addN N):=by refine⟨λb g x hx=>?_,λ_ _ h=>h⟩;simp only[Emb.addN];cases e:alg N b with|none=>exact hx|some sz=>rw[hno b sz e g]at hx;cases hx
 have hok:N.ok (φ.addN N):=λn sz e=>by simp only[Emb.addN,e,if_true]
 have back:∀b g x,(φ.addN N).blk b g=some x->φ.blk b g=some x\/ ∃sz,alg N b=some sz/\g=0/\x=(none,sz):=λb g x hx=>by
  simp only[Emb.addN]at hx;split at hx
  .rename_i sz e;split at hx;.rename_i e0;cases hx;exact .inr ⟨sz,e,e0,rfl⟩
   .cases hx
  .exact .inl hx
 have cutSome:∀b g x,((φ.addN N).cut s.nx).blk b g=some x->b<s.nx/\(φ.addN N).blk b g=some x:=λb g x hx=>by
  simp only[Emb.cut]at hx;split at hx;.rename_i hb;exact⟨hb,hx⟩
  .cases hx
 have oldB:∀b y,alg s'.hp b=some y->alg N b=none:=λb y hy=>by cases e:alg N b with|none=>rfl|some sz=>obtain⟨pl,p1,-⟩:=hm.heap.blk b y hy;rw[hno b sz e]at p1;cases p1
 refine⟨⟨⟨hm.heap.below,hm.heap.fb,λb g x hx=>(cutSome b g x hx).1,λb g cb sz hx=>?_,λb x hx=>?_,λb x hx g hg=>?_,λb b' x y cb sz sz' hx hy e1 e2=>?_,hm.heap.fwk⟩,λl x hx=>?_,λl k hk=>⟨(Emb.cut_loop hk).1,(hm.lused l k (Emb.cut_loop hk).2).2⟩,λl l' k e1 e2=>hm.linj l l' k (Emb.cut_loop e1).2 (Emb.cut_loop e2).2⟩,hle,hok⟩
 .rcases back _ _ _ (cutSome _ _ _ hx).2 with q|⟨sz',_,_,q⟩;.exact hm.heap.inb b g cb sz q
  .cases q
 .obtain⟨hb,hpe⟩:=hpBelow_get h.hpB b x hx;rcases h.hp.get b x hx with⟨y,hy,g1,g2,g3,g4,g5,g6⟩|⟨hy,sz,e,rfl⟩
  .obtain⟨pl,p1,p2,p3⟩:=hm.heap.blk b y hy;have hnn:=oldB b y hy;refine⟨pl,?_,by rw[<-g2];exact g3.sized p2,?_⟩;.simp only[Emb.cut];rw[if_pos hb,<-g1,<-g2];exact hle.1 _ _ _ p1
   .cases pl with
     |none=>simp only[LRel]at p3⊢;exact List.eq_nil_of_length_eq_zero (by rw[<-g3.length,p3];rfl)
     |some cb=>
      obtain⟨f1,f2,f3,f4⟩:=p3;refine⟨f1,λho=>f2 (g4 ho),by rw[<-g3.length,<-g2];obtain⟨c,el,fz,q1,q2,q3⟩:=f3;exact⟨c,el,fz,q1,⟨λho=>q2.1 (g4 ho),λt ht=>q2.2 t (by rw[g6 (by rw[ht];rfl)];exact ht)⟩,q3⟩,?_⟩;unfold ABlk.emb at f4⊢;by_cases hp:x.pure=true;.rw[if_pos hp];rw[if_pos (g5 hp)]at f4;rw[if_pos hp]at g3;exact g3.rel (λn sz e=>by simp[alg]at e) f4
      .rw[if_neg hp];rw[if_neg hp]at g3
       have f5:ERel w F (φ.addN N) y.es cb 0:=by
        refine ERel.mono (Ext0.refl F w) (λ_ h=>h) ?_ _ _ _ rfl f4;split;.exact Emb.zero_le _
        .exact hle
       refine belowE_rel ?_ (g3.rel hok f5);rcases hpe with q|q;.exact absurd q hp
       .exact q
  .refine⟨none,?_,by simp[nilBlk],rfl⟩;simp only[Emb.cut];rw[if_pos hb];exact hok b sz e
 .have hb:=(hpBelow_get h.hpB b x hx).1;simp only[Emb.cut];rw[if_pos hb];rcases h.hp.get b x hx with⟨y,hy,g1,-⟩|⟨hy,sz,e,rfl⟩;.have :=hm.heap.gen b y hy g (by rw[g1];exact hg);simp only[Emb.addN,oldB b y hy];exact this
  .simp only[Emb.addN,e];rw[if_neg (by simp[nilBlk]at hg;omega)]
 .rcases back _ _ _ (cutSome _ _ _ e1).2 with q|⟨z,_,_,q⟩
  .rcases back _ _ _ (cutSome _ _ _ e2).2 with q'|⟨z,_,_,q'⟩
   .have pick:∀b x cb sz,alg s.hp b=some x->φ.blk b x.g=some (some cb,sz)->∃x',alg s'.hp b=some x'/\x'.g=x.g:=λb x cb sz hx e=>by
     rcases h.hp.get b x hx with⟨y,hy,g1,-⟩|⟨hy,z,e',rfl⟩;.exact⟨y,hy,g1⟩
     .rw[hno b z e']at e;cases e
    obtain⟨x',hx',g1⟩:=pick b x cb sz hx q;obtain⟨y',hy',g1'⟩:=pick b' y cb sz' hy q';exact hm.heap.inj b b' x' y' cb sz sz' hx' hy' (by rw[g1];exact q) (by rw[g1'];exact q')
   .cases q'
  .cases q
 .obtain⟨hln,y,hy,e1,e2,e3,e4,e5,e6,em,e7,e8,e9⟩:=h.lp.get l x hx;refine⟨λhm0=>?_,λm hm1=>?_⟩;rotate_left
  .have hob:=(hm.lps l y hy).2 m (em.trans hm1)
   cases m with
    |map m=>obtain⟨k,es,c,h1,h2,h3,h4⟩:=hob;exact⟨k,es,c,by simp only[Emb.cut];rw[if_pos hln];exact h1,h2,h3,h4⟩
    |sit u p=>obtain⟨k,h1,h2,h3⟩:=hob;exact⟨k,by simp only[Emb.cut];rw[if_pos hln];exact h1,h2,h3⟩
    |md mk mv xs=>obtain⟨k,es,c,h1,h2,h3,h4⟩:=hob;exact⟨k,es,c,by simp only[Emb.cut];rw[if_pos hln];exact h1,h2,h3,h4⟩
    |mit l0 left cur=>
     obtain⟨k,bm,es,c,si,se,la,h1,h2,h3,h4,h5⟩:=hob;have e9:l0<s.nx:=by rw[hm1]at e9;exact e9
     exact⟨k,bm,es,c,si,se,la,by simp only[Emb.cut];rw[if_pos hln];exact h1,h2,h3,by simp only[Emb.cut];rw[if_pos e9];exact h4,h5⟩
  obtain⟨k,rec,h1,h2,h3,h4,h5,h6,h7,h8,h9,h10⟩:=(hm.lps l y hy).1 (em.trans hm0);refine⟨k,rec,by simp only[Emb.cut];rw[if_pos hln];exact h1,h2,h3,h4.trans e5,h5.trans e6,h6.trans e2,h7.trans e3,h8.trans e4,⟨by rw[h9.size,e1],λt=>?_,h9.glob⟩,h10⟩;exact below_rel _ _ (frBelow_get e8 t) (VRel.mono (Ext0.refl F w) (λ_ h=>h) hle _ _ (e7.get t _ _ _ _ (h9.val t)))
theorem LeN.fits[Adr]{cx:Cx}{nt:Nat}{a:Act}(h:LeN N s' s)(hf:Fits cx w0 w F φ nt a s'):Fits cx w0 w F ((φ.addN N).cut s.nx) nt a s:=by obtain⟨m1,m2,m3⟩:=h.mem hf.mem;exact⟨m1,⟨hf.tmps.size,λt=>below_rel _ _ (frBelow_get h.frB t) (h.fr.get t _ _ _ _ m3 (VRel.mono (Ext0.refl F w) (λ_ h=>h) m2 _ _ (hf.tmps.val t))),hf.tmps.glob⟩,hf.env⟩
end
end Go.AM
end
section
set_option linter.unusedSimpArgs false
set_option linter.unusedVariables false
namespace Go.AM
open Go Go.RowKit
theorem PCall.le[Adr]{P:Program}{f:FuncId}{args:List AV}{r r':AV}{blks:List ABlk}(h:PCall P f args r blks)(hl:r.Le r'):PCall P f args r' blks:=by refine⟨h.1,λw F vs hF hgl hvs=>(h.2 w F vs hF hgl hvs).mono ?_⟩;rintro e w' ⟨v,φ',F',rfl,k1,k2,k3,k4⟩;exact⟨v,φ',F',rfl,k1,k2,k3,hl _ _ _ _ k4⟩
end Go.AM
end
section
set_option linter.unusedSimpArgs false
set_option linter.unusedVariables false
namespace Go.AM
open Go Go.RowKit
def ix{α:Type}(l:List α)(i:Int):Option α:=if 0<=i then l[i.toNat]? else none
theorem idxS{α:Type}{l:List α}{i:Int}{x:α}(h:ix l i=some x):0<=i/\i<(l.length:Int)/\l[i.toNat]?=some x:=by
 unfold ix at h;split at h;.rename_i h0;refine⟨h0,?_,h⟩;have :=(List.getElem?_eq_some_iff.1 h).1;omega
 .cases h
section
variable{P:Program}{nt:Nat}{K:Exit->St->Prop}{s:St}
theorem stepR_scope{b:Frame}{a:Act}{k:List Item}{cs:List Frame}{w:World}{c:Code}:step P (lone (b.atR a (.code (.scope c)::k)) cs w)=.next (lone (b.atR a (.code c::.inScope c::k)) cs w):=step_lone_go (by simp[stepG,stepG.exec,Frame.atR])
theorem stepR_inScope{b:Frame}{a:Act}{k:List Item}{cs:List Frame}{w:World}{c:Code}:step P (lone (b.atR a (.inScope c::k)) cs w)=.next (lone (b.atR a k) cs w):=step_lone_go (by simp[stepG,stepG.exec,Frame.atR])
def noGo(Q:Exit->Act->World->Prop):Exit->Act->World->Prop|.goto _,_,_=>False|e,a,w=>Q e a w
theorem wpIn_scope[Adr]{F:Fence}{n:Nat}{Q:Exit->Act->World->Prop}{c:Code}{a:Act}{w:World}(h:c.wpIn F n P (noGo Q) a w):(Code.scope c).wpIn F n P Q a w:=by
 intro b k cs hro hb hr;obtain⟨e,a1,w1,hq,harr⟩:=h b (.inScope c::k) cs hro hb hr;have h0:(lone (b.atR a (.code (.scope c)::k)) cs w).fenced P F:=fenced_calm hb hr rfl
 cases e with
  |normal=>exact⟨.normal,a1,w1,hq,.head h0 stepR_scope (StepsIn.trans harr (.one (fenced_calm hb hr rfl) stepR_inScope))⟩
  |exit id=>
   have hx:exitTo id (.inScope c::k)=exitTo id k:=by simp[exitTo]
   exact⟨.exit id,a1,w1,hq,λk' hk=>.head h0 stepR_scope (harr.1 k' (by rw[hx];exact hk)),λhr' hk=>let⟨k₁,h1,h2⟩:=harr.2 hr' (by rw[hx];exact hk);⟨k₁,h1,.head h0 stepR_scope h2⟩⟩
  |goto l=>exact hq.elim
  |ret=>exact⟨_,a1,w1,hq,.of_steps (.one h0 stepR_scope) harr⟩
  |panic ch=>exact⟨_,a1,w1,hq,.of_steps (.one h0 stepR_scope) harr⟩
  |outgrown=>exact⟨_,a1,w1,hq,.of_steps (.one h0 stepR_scope) harr⟩
end
end Go.AM
end
section
set_option linter.unusedSimpArgs false
set_option linter.unusedVariables false
namespace Go.AM
open Go Go.RowKit
section
variable{P:Program}{nt:Nat}{K:Exit->St->Prop}{ops:Array Oper}
end
end Go.AM
end
section
set_option linter.unusedSimpArgs false
set_option linter.unusedVariables false
namespace Go.AM
open Go Go.RowKit
def mpRec(m:List (AV×AV)):LBlk:=⟨[],0,[],.skip,.skip,.ready,none,some (.map m)⟩
section
variable{κ α:Type}[DecidableEq κ]
end
theorem run_getObj_mp{P:Program}{l:Nat}{w:World}{es:Array MapEntry}{c:Nat}(h:w.heap[l]?=some (.map es c)):(getObj l).run P w=.ok (.map es c) w:=by simp[getObj,Sem.run,h]
theorem run_setObj_mp{P:Program}{l:Nat}{w:World}{es:Array MapEntry}{c:Nat}(o:Obj)(h:w.heap[l]?=some (.map es c)):(setObj l o).run P w=.ok () (w.putObj l o):=by simp[setObj,Sem.run,h,World.putObj]
structure KeyOk[Adr](P:Program)(kt:TypeId){κ:Type}[DecidableEq κ](ek:κ->AV):Prop where
 isP:∀a,(ek a).isP=true
 chk:∀(w:World)(F:Nat->Prop)(φ:Emb)(a:κ)(v:Value)(b:Bool),VRel w F φ (ek a) v->(Instr.checkKey b 10000 kt v).run P w=.ok () w
 cmp:∃d,P.underlying kt=some d/\ ∀(w:World)(F:Nat->Prop)(φ ψ:Emb)(a b:κ)(v u:Value),VRel w F φ (ek a) v->VRel w F ψ (ek b) u->Instr.sameNow d v u=some (decide (a=b))/\(a=b->Instr.sameBits 10000 u v=true)
section
variable{P:Program}{kt:TypeId}{κ α:Type}[DecidableEq κ]{ek:κ->AV}{ev:α->AV}{w:World}{F:Nat->Prop}{φ:Emb}
end
section
variable{P:Program}{nt:Nat}{K:Exit->St->Prop}{s:St}
end
section
variable{w0 w:World}{F:Nat->Prop}{φ:Emb}{s:St}
def noItB(l:Nat):List (Nat×LBlk)->Bool|[]=>true|p::lp=>match p.2.mp with|some (.mit l0 _ _)=>if l0=l then false else noItB l lp|_=>noItB l lp
def NoIt(l:Nat)(lp:List (Nat×LBlk)):Prop:=∀l' y l0 left cur,alg lp l'=some y->y.mp=some (.mit l0 left cur)->l0≠l
theorem noItB_ok{l:Nat}:∀{lp:List (Nat×LBlk)},noItB l lp=true->NoIt l lp
 |[],_=>λl' y l0 left cur hy=>by simp[alg]at hy
 |(k,x)::lp,h=>λl' y l0 left cur hy hm=>by
  simp only[noItB]at h;simp only[alg]at hy;split at hy
  .cases hy;rw[hm]at h;simp only at h;split at h;.cases h
   .assumption
  .refine noItB_ok ?_ l' y l0 left cur hy hm;split at h
   .split at h;.cases h
    .exact h
   .exact h
theorem BornOk.push{es:List MapEntry}{c:Nat}{e:MapEntry}(h:BornOk es c)(he:e.born=c):BornOk (es++[e]) (c+1):=by
 refine⟨?_,λx hx=>?_⟩;.rw[List.map_append,List.nodup_append];refine⟨h.1,by simp,λa ha b hb=>?_⟩;obtain⟨y,hy,rfl⟩:=List.mem_map.1 ha;simp only[List.map_cons,List.map_nil,List.mem_singleton]at hb;have :=h.2 y hy;omega
 .rcases List.mem_append.1 hx with hx|hx;.have :=h.2 x hx;omega
  .simp only[List.mem_singleton]at hx;subst hx;omega
theorem BornOk.map{es es':List MapEntry}{c:Nat}(h:BornOk es c)(e:es'.map (·.born)=es.map (·.born)):BornOk es' c:=by
 refine⟨by rw[e];exact h.1,λx hx=>?_⟩;have :x.born∈es.map (·.born):=by rw[<-e];exact List.mem_map.2 ⟨x,hx,rfl⟩
 obtain⟨y,hy,e2⟩:=List.mem_map.1 this;rw[<-e2];exact h.2 y hy
theorem BornOk.sub{es es':List MapEntry}{c:Nat}(h:BornOk es c)(hs:es'.Sublist es):BornOk es' c:=⟨(hs.map _).nodup h.1,λx hx=>h.2 x (hs.subset hx)⟩
theorem BornOk.nil(c:Nat):BornOk [] c:=⟨by simp,λx hx=>by cases hx⟩
theorem born_modify(f:MapEntry->MapEntry)(hf:∀e,(f e).born=e.born):∀(es:List MapEntry)(j:Nat),(es.modify j f).map (·.born)=es.map (·.born)|[],j=>by simp|e::es,0=>by simp[List.modify,hf]|e::es,j+1=>by simp only[List.modify_succ_cons,List.map_cons,born_modify f hf es j]
theorem Mem.putMap[Adr]{k l:Nat}{es es':Array MapEntry}{c c':Nat}{x:LBlk}{m m':List (AV×AV)}(h:Mem w0 w F φ s)(hl:alg s.lp l=some x)(hk:φ.loop l=some k)(hr:w.heap[k]?=some (.map es c))(h0:w0.heap.size<=k)(hm:MRel w F m' es'.toList)(hb:BornOk es'.toList c')(hni:NoIt l s.lp):Mem w0 (w.putObj k (.map es' c')) F φ {s with lp:=hset s.lp l {x with mp:=some (.map m')}}/\GrowW w0 w F φ (w.putObj k (.map es' c')) F φ:=by
 have hlt:k<w.heap.size:=(Array.getElem?_eq_some_iff.1 hr).1;have hx:=Ext0.put (o':=.map es' c') h.heap.fwk hr rfl
 have hg:GrowW w0 w F φ (w.putObj k (.map es' c')) F φ:=by
  refine⟨Emb.le_refl φ,λ_ h=>h,λ_ h=>.inl h,hx,λk' ho=>?_,λk' rec' hk'=>?_,λk' o1 hk' ho=>?_⟩;.unfold Opened;rw[World.putObj_heap_other (λe=>by subst e;unfold Opened at ho;rw[hr]at ho;cases ho)];exact ho
  .exact⟨rec',by rw[World.putObj_heap_other λe=>by subst e;rw[hr]at hk';cases hk'];exact hk',rfl⟩
  .by_cases e:k'=k;.subst e;exact⟨_,World.putObj_heap_same hlt,rfl⟩
   .exact⟨o1,by rw[World.putObj_heap_other e];exact hk',ho⟩
 refine⟨⟨h.heap.put hr rfl h0,λl' y hy=>?_,λl' k' e=>by rw[World.putObj_size];exact h.lused l' k' e,h.linj⟩,hg⟩;change alg (hset s.lp l {x with mp:=some (.map m')}) l'=some y at hy;rw[alg_hset]at hy;by_cases e:l'=l;.subst e;rw[fupd_same]at hy;cases hy;exact RecM.recd ⟨k,es',c',hk,h0,World.putObj_heap_same hlt,hm.mono hx (λ_ h=>h),hb⟩ rfl
 .rw[fupd_other _ _ _ _ e]at hy;refine(h.lps l' y hy).mono hg λk' o' e1 _ e2=>?_;rw[World.putObj_heap_other λe3=>?_];exact e2;rcases e1 with e1|⟨-,l0,left,cur,e4,e5⟩;.exact e (h.linj l' l k (by rw[e1,e3]) hk)
  .exact hni l' y l0 left cur hy e4 (h.linj l0 l k (by rw[e5,e3]) hk)
theorem Mem.allocMap[Adr](h:Mem w0 w F φ s):Mem w0 (w.alloc (.map #[] 0)) F (φ.addLoop s.nx w.heap.size) ⟨s.fr,s.hp,s.nx+8,(s.nx,mpRec [])::s.lp⟩/\GrowW w0 w F φ (w.alloc (.map #[] 0)) F (φ.addLoop s.nx w.heap.size):=by
 have hx:=ext_alloc h.heap.fb (.map #[] 0);have old:∀(k:Nat)(p:Obj),w.heap[k]?=some p->(w.alloc (.map #[] 0)).heap[k]?=some p:=λk p hk=>by rw[heap_alloc_old w _ k (Array.getElem?_eq_some_iff.1 hk).1];exact hk
 have hno:φ.loop s.nx=none:=by cases e:φ.loop s.nx with|none=>rfl|some k=>have :=(h.lused _ _ e).1;omega
 have hle:φ.le (φ.addLoop s.nx w.heap.size):=by refine⟨λ_ _ _ h=>h,λl k hk=>?_⟩;simp only[Emb.addLoop];rw[if_neg (λe=>by subst e;rw[hno]at hk;cases hk)];exact hk
 have hg:GrowW w0 w F φ (w.alloc (.map #[] 0)) F (φ.addLoop s.nx w.heap.size):=⟨hle,λ_ h=>h,λ_ h=>.inl h,hx.toExt0,λk hk=>old k _ hk,λk rec hk=>⟨rec,old k _ hk,rfl⟩,λk o hk ho=>⟨o,old k _ hk,ho⟩⟩
 have cases':∀l k,(φ.addLoop s.nx w.heap.size).loop l=some k->(l=s.nx/\k=w.heap.size)\/φ.loop l=some k:=λl k e=>by
  simp only[Emb.addLoop]at e;split at e;.rename_i q;cases e;exact .inl ⟨q,rfl⟩
  .exact .inr e
 refine⟨⟨h.heap.allocO (φ':=φ.addLoop s.nx w.heap.size) rfl hle (λb hb=>Nat.lt_of_lt_of_le hb (Nat.le_add_right _ _)) _,λl x hl=>?_,λl k e=>?_,λl l' k e1 e2=>?_⟩,hg⟩
 .simp only[alg]at hl;split at hl;.rename_i e;subst e;cases hl;exact RecM.recd (m:=[]) ⟨w.heap.size,#[],0,by simp[Emb.addLoop],h.heap.below.size,heap_alloc_new _ _,rfl,BornOk.nil _⟩ rfl
  .exact(h.lps l x hl).mono hg λk o _ _ e=>old k _ e
 .have :=hx.toExt0.size;rcases cases' l k e with⟨rfl,rfl⟩|q;.exact⟨by simp only;omega,by simp⟩
  .have :=h.lused _ _ q;simp only;omega
 .rcases cases' l k e1 with⟨rfl,rfl⟩|q
  .rcases cases' l' _ e2 with⟨rfl,-⟩|q';.rfl
   .have :=(h.lused _ _ q').2;omega
  .rcases cases' l' k e2 with⟨rfl,rfl⟩|q';.have :=(h.lused _ _ q).2;omega
   .exact h.linj _ _ _ q q'
end
section
variable{P:Program}{nt:Nat}{K:Exit->St->Prop}{s:St}{ops:Array Oper}
theorem awpo_mkmap[Adr]{i:Nat}{o:Oper}{rest:List Nat}{t:TypeId}(hi:ops[i]?=some o)(hop:o.op=.makeMap t none)(hw:wants nt ops o (frGet s.fr)=true)(hd:dstOk nt o=true)(h:AWPO P nt ops rest K ⟨frPut s.fr o.dst (.mp s.nx),s.hp,s.nx+8,(s.nx,mpRec [])::s.lp⟩):AWPO P nt ops (i::rest) K s:=by
 intro x w0 w F φ a hf Q hQ;rw[wpOpsIn_cons];unfold wpOpIn;simp only[hi];rw[if_pos (wanted_of hf hw)];refine⟨λ_ _=>trivial,?_⟩;rw[show(fen x.r).round=x.r from rfl,Oper.semAt_eq x.r _ _ (by rw[hop];intro c;simp)];have hrun:(execOp a.eval o).run P w=.ok (.value (.map (some w.heap.size))) (w.alloc (.map #[] 0)):=by unfold execOp;simp only[hop,Instr.makeMap,Option.map_none];rfl
 rw[hrun,Oper.uponIn_value];obtain⟨m1,m2⟩:=hf.mem.allocMap;refine h x w0 _ F _ _ ⟨⟨m1.heap,m1.lps,m1.lused,m1.linj⟩,?_,hf.env.mono m2 (put_defers _ _ _)⟩ Q λe a2 w2 s2 φ2 F2 g1 g2 g3=>hQ e a2 w2 s2 φ2 F2 g1 (m2.trans g2) g3;rw[frGet_put];exact(hf.tmps.monoW m2).put (ds_lt hd) (by simp only[VRel];exact⟨_,by simp[Emb.addLoop],rfl⟩)
end
end Go.AM
end
