/- Texts of the proof, joined by program. -/
import Derived.Test.YtaeifdlkolfdjaaGreatDoorKBu
import Derived.Laws.CopyRow
import Derived.Laws.CopyOwn
section
set_option linter.unusedSimpArgs false
set_option linter.unusedVariables false
namespace Go.AM
open Go Go.RowKit
structure Emb where
 blk:Nat->Nat->Option (Option Nat×Nat)
 loop:Nat->Option Nat
def Emb.zero:Emb:={blk:=λ_ _=>.none,loop:=λ_=>.none}
def Emb.le(φ ψ:Emb):Prop:=(∀b g x,φ.blk b g=some x->ψ.blk b g=some x)/\(∀l x,φ.loop l=some x->ψ.loop l=some x)
def roomAt(w:World)(cb sz off cap:Nat):Prop:=∃el n,w.shape? cb=some (el,n)/\(off+cap)*sz<=n
mutual
def DRel(w:World)(F:Nat->Prop):DV->Value->Prop|.b x,v=>v=.bool x|.i k n,v=>v=.int k n|.s x,v=>v=.string ⟨x.toArray⟩|.l z es,v=>∃a cap,v=.slice a es.length cap/\es.length<=cap/\(∀e∈es,e.length=z)/\(es≠[]->∃b o,a=some ⟨b,o,none⟩/\F b/\DERel w F es b o)|.a cs,v=>∃vs,v=.agg ⟨vs⟩/\DRels w F cs vs/\ ∀c∈vs,c.oneCell'=true|.f t x,v=>∃y,v=.iface t y/\DRel w F x y
def DRels(w:World)(F:Nat->Prop):List DV->List Value->Prop|[],vs=>vs=[]|a::as,vs=>∃v vs',vs=v::vs'/\DRel w F a v/\DRels w F as vs'
def DCRel(w:World)(F:Nat->Prop):List DV->Nat->Nat->Prop|[],_,_=>True|a::as,b,o=>(∃v,w.cell? ⟨b,o,none⟩=some v/\v.oneCell'=true/\DRel w F a v)/\DCRel w F as b (o+1)
def DERel(w:World)(F:Nat->Prop):List (List DV)->Nat->Nat->Prop|[],_,_=>True|e::es,b,o=>DCRel w F e b o/\DERel w F es b (o+e.length)
end
mutual
def VRel[Adr](w:World)(F:Nat->Prop):Emb->AV->Value->Prop|_,.top,_=>True|_,.anyb,v=>∃b,v=.bool b|_,.bool b,v=>v=.bool b|_,.int k n,v=>v=.int k n|_,.str s,v=>v=.string ⟨s.toArray⟩|_,.nilp,v=>v=.pointer none|φ,.ref b g i j,v=>∃cb sz,φ.blk b g=some (some cb,sz)/\v=.pointer (some ⟨cb,i*sz+j,none⟩)|_,.pp cs,v=>∃b o,v=.pointer (some ⟨b,o,none⟩)/\F b/\CRel w F Emb.zero cs b o|_,.nils,v=>v=.slice none 0 0|φ,.sl b g sz off len,v=>(φ.blk b g=some (none,sz)/\off=0/\len=0/\ ∃a,v=.slice a 0 0)\/ ∃cb cap,φ.blk b g=some (some cb,sz)/\v=.slice (some ⟨cb,off*sz,none⟩) len cap/\len<=cap/\roomAt w cb sz off cap|_,.psl sz es,v=>∃a cap,v=.slice a es.length cap/\es.length<=cap/\(∀e∈es,e.length=sz)/\(es≠[]->∃b o,a=some ⟨b,o,none⟩/\F b/\ERel w F Emb.zero es b o)|_,.psx sz es,v=>∃a,v=.slice a es.length es.length/\(∀e∈es,e.length=sz)/\(es≠[]->∃b o,a=some ⟨b,o,none⟩/\F b/\ERel w F Emb.zero es b o)|φ,.fn f first cap,v=>∃fs cs,v=.func (.func f) ⟨fs⟩ ⟨cs⟩/\VRels w F φ first fs/\VRels w F φ cap cs|φ,.yld l,v=>∃lc,φ.loop l=some lc/\v=.func (.yield lc) #[] #[]|φ,.mp l,v=>∃lc,φ.loop l=some lc/\v=.map (some lc)|φ,.itr l,v=>∃lc,φ.loop l=some lc/\v=.pointer (some ⟨lc,0,none⟩)|_,.nilf,v=>v=.nilFunc|_,.nili,v=>v=.nilIface|_,.nilm,v=>v=.map none|_,.strb n s,v=>v=.string ⟨s.toArray⟩/\s.length<=n|_,.inty k,v=>∃n,v=.int k n|_,.dl n xs,v=>DRel w F (.l (szU n) (xs.map (exU n))) v|_,.emp,v=>∃a,v=.slice a 0 0|φ,.iface t x,v=>∃y,v=.iface t y/\VRel w F φ x y|φ,.agg cells,v=>∃cs,v=.agg ⟨cs⟩/\VRels w F φ cells cs/\ ∀c∈cs,c.oneCell'=true|φ,.tup vs,v=>∃cs,v=.tuple ⟨cs⟩/\VRels w F φ vs cs|φ,.slk b g sz off len lo ex,v=>∃cb cap,φ.blk b g=some (some cb,sz)/\v=.slice (some ⟨cb,off*sz,none⟩) len cap/\len<=lo/\lo<=cap/\(ex=true->cap=lo)/\roomAt w cb sz off cap|_,.gp k o cs,v=>v=.pointer (some ⟨Adr.ad k,Adr.of k+o,none⟩)/\(cs≠[]->F (Adr.ad k)/\CRel w F Emb.zero cs (Adr.ad k) (Adr.of k+o))
def VRels[Adr](w:World)(F:Nat->Prop):Emb->List AV->List Value->Prop|_,[],vs=>vs=[]|φ,a::as,vs=>∃v vs',vs=v::vs'/\VRel w F φ a v/\VRels w F φ as vs'
def CRel[Adr](w:World)(F:Nat->Prop):Emb->List AV->Nat->Nat->Prop|_,[],_,_=>True|φ,a::as,b,o=>(∃v,w.cell? ⟨b,o,none⟩=some v/\v.oneCell'=true/\VRel w F φ a v)/\CRel w F φ as b (o+1)
def ERel[Adr](w:World)(F:Nat->Prop):Emb->List (List AV)->Nat->Nat->Prop|_,[],_,_=>True|φ,e::es,b,o=>CRel w F φ e b o/\ERel w F φ es b (o+e.length)
end
def GOk[Adr](w:World)(F:Nat->Prop):Prop:=∀g,VRel w F Emb.zero (Adr.gl g) (.pointer (some ⟨g,0,none⟩))
structure Ext0(F:Nat->Prop)(w w':World):Prop where
 size:w.heap.size<=w'.heap.size
 same:∀b,F b->w'.heap[b]?=w.heap[b]?
 shape:∀b x,w.shape? b=some x->w'.shape? b=some x
structure Ext(F:Nat->Prop)(w w':World):Prop extends Ext0 F w w' where
 objs:∀(b:Nat)(o:Obj),w.heap[b]?=some o->(∀c el fz,o≠.cells c el fz)->w'.heap[b]?=some o
theorem Ext0.refl(F:Nat->Prop)(w:World):Ext0 F w w:=⟨Nat.le_refl _,λ_ _=>rfl,λ_ _ h=>h⟩
theorem Ext0.trans{F G:Nat->Prop}{a b c:World}(h:Ext0 F a b)(k:Ext0 G b c)(hFG:∀x,F x->G x):Ext0 F a c:=⟨Nat.le_trans h.size k.size,λx hx=>(k.same x (hFG x hx)).trans (h.same x hx),λx y hxy=>k.shape x y (h.shape x y hxy)⟩
theorem Ext.refl[Adr](F:Nat->Prop)(w:World):Ext F w w:=⟨Ext0.refl F w,λ_ _ h _=>h⟩
theorem Ext.trans[Adr]{F G:Nat->Prop}{a b c:World}(h:Ext F a b)(k:Ext G b c)(hFG:∀x,F x->G x):Ext F a c:=⟨h.toExt0.trans k.toExt0 hFG,λx o hx ho=>k.objs x o (h.objs x o hx ho) ho⟩
instance{F:Nat->Prop}{w w':World}:Coe (Ext F w w') (Ext0 F w w'):=⟨Ext.toExt0⟩
theorem Emb.le_refl(φ:Emb):φ.le φ:=⟨λ_ _ _ h=>h,λ_ _ h=>h⟩
theorem Emb.le_trans{a b c:Emb}(h:a.le b)(k:b.le c):a.le c:=⟨λx y z hz=>k.1 _ _ _ (h.1 x y z hz),λx y hy=>k.2 _ _ (h.2 x y hy)⟩
structure Emb.sle(φ ψ:Emb):Prop where
 le:φ.le ψ
 lp:ψ.loop=φ.loop
instance{φ ψ:Emb}:Coe (φ.sle ψ) (φ.le ψ):=⟨Emb.sle.le⟩
theorem Emb.sle_refl[Adr](φ:Emb):φ.sle φ:=⟨Emb.le_refl φ,rfl⟩
theorem Emb.sle_trans[Adr]{a b c:Emb}(h:a.sle b)(k:b.sle c):a.sle c:=⟨Emb.le_trans h.le k.le,k.lp.trans h.lp⟩
theorem Emb.zero_le(φ:Emb):Emb.zero.le φ:=⟨λ_ _ _ h=>by simp[Emb.zero]at h,λ_ _ h=>by simp[Emb.zero]at h⟩
theorem cell_same{w w':World}{b o:Nat}(h:w'.heap[b]?=w.heap[b]?):w'.cell? ⟨b,o,none⟩=w.cell? ⟨b,o,none⟩:=by simp only[World.cell?,h]
mutual
theorem DRel.mono{w w':World}{F F':Nat->Prop}(hx:Ext0 F w w')(hF:∀b,F b->F' b):∀(a:DV)(v:Value),DRel w F a v->DRel w' F' a v|.b x,v,h=>by simpa[DRel]using h|.i k n,v,h=>by simpa[DRel]using h|.s x,v,h=>by simpa[DRel]using h|.l z es,v,h=>by simp only[DRel]at h⊢;obtain⟨a,cap,h1,h2,h3,h4⟩:=h;exact⟨a,cap,h1,h2,h3,λhe=>let⟨b,o,e1,e2,e3⟩:=h4 he;⟨b,o,e1,hF b e2,DERel.mono hx hF es b o (hx.same b e2) e3⟩⟩|.a cs,v,h=>by simp only[DRel]at h⊢;obtain⟨vs,h1,h2,h3⟩:=h;exact⟨vs,h1,DRels.mono hx hF cs vs h2,h3⟩|.f t x,v,h=>by simp only[DRel]at h⊢;obtain⟨y,h1,h2⟩:=h;exact⟨y,h1,DRel.mono hx hF x y h2⟩
theorem DRels.mono{w w':World}{F F':Nat->Prop}(hx:Ext0 F w w')(hF:∀b,F b->F' b):∀(as:List DV)(vs:List Value),DRels w F as vs->DRels w' F' as vs|[],vs,h=>by simpa[DRels]using h|a::as,vs,h=>by simp only[DRels]at h⊢;obtain⟨v,vs',h1,h2,h3⟩:=h;exact⟨v,vs',h1,DRel.mono hx hF a v h2,DRels.mono hx hF as vs' h3⟩
theorem DCRel.mono{w w':World}{F F':Nat->Prop}(hx:Ext0 F w w')(hF:∀b,F b->F' b):∀(as:List DV)(b o:Nat),w'.heap[b]?=w.heap[b]?->DCRel w F as b o->DCRel w' F' as b o|[],b,o,_,_=>by simp[DCRel]|a::as,b,o,hb,h=>by simp only[DCRel]at h⊢;obtain⟨⟨v,h1,h0,h2⟩,h3⟩:=h;exact⟨⟨v,(cell_same hb).trans h1,h0,DRel.mono hx hF a v h2⟩,DCRel.mono hx hF as b (o+1) hb h3⟩
theorem DERel.mono{w w':World}{F F':Nat->Prop}(hx:Ext0 F w w')(hF:∀b,F b->F' b):∀(es:List (List DV))(b o:Nat),w'.heap[b]?=w.heap[b]?->DERel w F es b o->DERel w' F' es b o|[],b,o,_,_=>by simp[DERel]|e::es,b,o,hb,h=>by simp only[DERel]at h⊢;exact⟨DCRel.mono hx hF e b o hb h.1,DERel.mono hx hF es b _ hb h.2⟩
end
mutual
theorem VRel.mono[Adr]{w w':World}{F F':Nat->Prop}(hx:Ext0 F w w')(hF:∀b,F b->F' b):∀{φ φ':Emb},φ.le φ'->∀(a:AV)(v:Value),VRel w F φ a v->VRel w' F' φ' a v
 |φ,φ',hle,a,v=>by
  cases a with
   |top=>intro _;simp[VRel]
   |anyb=>intro h;simpa[VRel]using h
   |bool b=>intro h;simpa[VRel]using h
   |int k n=>intro h;simpa[VRel]using h
   |str s=>intro h;simpa[VRel]using h
   |nilp=>intro h;simpa[VRel]using h
   |ref b g i j=>intro h;simp only[VRel]at h⊢;obtain⟨cb,sz,h1,h2⟩:=h;exact⟨cb,sz,hle.1 _ _ _ h1,h2⟩
   |pp cs=>intro h;simp only[VRel]at h⊢;obtain⟨b,o,h1,h2,h3⟩:=h;exact⟨b,o,h1,hF b h2,CRel.mono hx hF (Emb.le_refl _) cs b o (hx.same b h2) h3⟩
   |nils=>intro h;simpa[VRel]using h
   |sl b g sz off len=>
    intro h;simp only[VRel]at h⊢;rcases h with⟨h1,h2⟩|⟨cb,cap,h1,h2,h3,el,n,h4,h5⟩;.exact .inl ⟨hle.1 _ _ _ h1,h2⟩
    .exact .inr ⟨cb,cap,hle.1 _ _ _ h1,h2,h3,el,n,hx.shape _ _ h4,h5⟩
   |psl sz es=>intro h;simp only[VRel]at h⊢;obtain⟨a,cap,h1,h2,h3,h4⟩:=h;exact⟨a,cap,h1,h2,h3,λhe=>let⟨b,o,e1,e2,e3⟩:=h4 he;⟨b,o,e1,hF b e2,ERel.mono hx hF (Emb.le_refl _) es b o (hx.same b e2) e3⟩⟩
   |psx sz es=>intro h;simp only[VRel]at h⊢;obtain⟨a,h1,h3,h4⟩:=h;exact⟨a,h1,h3,λhe=>let⟨b,o,e1,e2,e3⟩:=h4 he;⟨b,o,e1,hF b e2,ERel.mono hx hF (Emb.le_refl _) es b o (hx.same b e2) e3⟩⟩
   |fn f first cap=>intro h;simp only[VRel]at h⊢;obtain⟨fs,cs,h1,h2,h3⟩:=h;exact⟨fs,cs,h1,VRels.mono hx hF hle first fs h2,VRels.mono hx hF hle cap cs h3⟩
   |yld l=>intro h;simp only[VRel]at h⊢;obtain⟨lc,h1,h2⟩:=h;exact⟨lc,hle.2 _ _ h1,h2⟩
   |mp l=>intro h;simp only[VRel]at h⊢;obtain⟨lc,h1,h2⟩:=h;exact⟨lc,hle.2 _ _ h1,h2⟩
   |itr l=>intro h;simp only[VRel]at h⊢;obtain⟨lc,h1,h2⟩:=h;exact⟨lc,hle.2 _ _ h1,h2⟩
   |nilf=>intro h;simpa[VRel]using h
   |nili=>intro h;simpa[VRel]using h
   |emp=>intro h;simpa[VRel]using h
   |nilm=>intro h;simpa[VRel]using h
   |strb n s=>intro h;simpa[VRel]using h
   |inty k=>intro h;simpa[VRel]using h
   |dl n xs=>intro h;simp only[VRel]at h⊢;exact DRel.mono hx hF _ _ h
   |slk b g sz off len lo ex=>intro h;simp only[VRel]at h⊢;obtain⟨cb,cap,h1,h2,h3,h6,h7,el,n,h4,h5⟩:=h;exact⟨cb,cap,hle.1 _ _ _ h1,h2,h3,h6,h7,el,n,hx.shape _ _ h4,h5⟩
   |gp k o cs=>intro h;simp only[VRel]at h⊢;exact⟨h.1,λhe=>let⟨e1,e2⟩:=h.2 he;⟨hF _ e1,CRel.mono hx hF (Emb.le_refl _) cs _ _ (hx.same _ e1) e2⟩⟩
   |iface t x=>intro h;simp only[VRel]at h⊢;obtain⟨y,h1,h2⟩:=h;exact⟨y,h1,VRel.mono hx hF hle x y h2⟩
   |agg cells=>intro h;simp only[VRel]at h⊢;obtain⟨cs,h1,h2,h3⟩:=h;exact⟨cs,h1,VRels.mono hx hF hle cells cs h2,h3⟩
   |tup vs=>intro h;simp only[VRel]at h⊢;obtain⟨cs,h1,h2⟩:=h;exact⟨cs,h1,VRels.mono hx hF hle vs cs h2⟩
theorem VRels.mono[Adr]{w w':World}{F F':Nat->Prop}(hx:Ext0 F w w')(hF:∀b,F b->F' b):∀{φ φ':Emb},φ.le φ'->∀(as:List AV)(vs:List Value),VRels w F φ as vs->VRels w' F' φ' as vs|φ,φ',hle,[],vs=>by intro h;simpa[VRels]using h|φ,φ',hle,a::as,vs=>by intro h;simp only[VRels]at h⊢;obtain⟨v,vs',h1,h2,h3⟩:=h;exact⟨v,vs',h1,VRel.mono hx hF hle a v h2,VRels.mono hx hF hle as vs' h3⟩
theorem CRel.mono[Adr]{w w':World}{F F':Nat->Prop}(hx:Ext0 F w w')(hF:∀b,F b->F' b):∀{φ φ':Emb},φ.le φ'->∀(as:List AV)(b o:Nat),w'.heap[b]?=w.heap[b]?->CRel w F φ as b o->CRel w' F' φ' as b o|φ,φ',hle,[],b,o=>by intro _ _;simp[CRel]|φ,φ',hle,a::as,b,o=>by intro hb h;simp only[CRel]at h⊢;obtain⟨⟨v,h1,h0,h2⟩,h3⟩:=h;exact⟨⟨v,(cell_same hb).trans h1,h0,VRel.mono hx hF hle a v h2⟩,CRel.mono hx hF hle as b (o+1) hb h3⟩
theorem ERel.mono[Adr]{w w':World}{F F':Nat->Prop}(hx:Ext0 F w w')(hF:∀b,F b->F' b):∀{φ φ':Emb},φ.le φ'->∀(es:List (List AV))(b o:Nat),w'.heap[b]?=w.heap[b]?->ERel w F φ es b o->ERel w' F' φ' es b o|φ,φ',hle,[],b,o=>by intro _ _;simp[ERel]|φ,φ',hle,e::es,b,o=>by intro hb h;simp only[ERel]at h⊢;exact⟨CRel.mono hx hF hle e b o hb h.1,ERel.mono hx hF hle es b _ hb h.2⟩
end
theorem GOk.mono[Adr]{w w':World}{F F':Nat->Prop}(h:GOk w F)(hx:Ext0 F w w')(hF:∀b,F b->F' b):GOk w' F':=λg=>VRel.mono hx hF (Emb.le_refl _) _ _ (h g)
theorem slk_sl[Adr]{w:World}{F:Nat->Prop}{φ:Emb}{b g sz off len lo:Nat}{ex:Bool}{v:Value}(h:VRel w F φ (.slk b g sz off len lo ex) v):VRel w F φ (.sl b g sz off len) v:=by simp only[VRel]at h⊢;obtain⟨cb,cap,h1,h2,h3,h6,-,h4⟩:=h;exact .inr ⟨cb,cap,h1,h2,Nat.le_trans h3 h6,h4⟩
theorem VRels_iff[Adr]{w:World}{F:Nat->Prop}{φ:Emb}:∀(as:List AV)(vs:List Value),VRels w F φ as vs↔as.length=vs.length/\ ∀(k:Nat)(a:AV)(v:Value),as[k]?=some a->vs[k]?=some v->VRel w F φ a v
 |[],vs=>by
  simp only[VRels];constructor;.rintro rfl;simp
  .rintro⟨h,_⟩;cases vs<;>simp_all
 |a::as,vs=>by
  simp only[VRels];constructor;.rintro⟨v,vs',rfl,h1,h2⟩;obtain⟨hl,hk⟩:=(VRels_iff as vs').1 h2;refine⟨by simp[hl],λk x y hx hy=>?_⟩;cases k with|zero=>simp at hx hy;subst hx;subst hy;exact h1|succ k=>exact hk k x y (by simpa using hx) (by simpa using hy)
  .rintro⟨hl,hk⟩;cases vs with|nil=>simp at hl|cons v vs'=>exact⟨v,vs',rfl,hk 0 a v rfl rfl,(VRels_iff as vs').2 ⟨by simpa using hl,λk x y hx hy=>hk (k+1) x y (by simpa using hx) (by simpa using hy)⟩⟩
theorem VRels.length[Adr]{w:World}{F:Nat->Prop}{φ:Emb}{as:List AV}{vs:List Value}(h:VRels w F φ as vs):as.length=vs.length:=((VRels_iff as vs).1 h).1
theorem VRels.get[Adr]{w:World}{F:Nat->Prop}{φ:Emb}{as:List AV}{vs:List Value}(h:VRels w F φ as vs){k:Nat}{a:AV}(ha:as[k]?=some a):∃v,vs[k]?=some v/\VRel w F φ a v:=by
 obtain⟨hl,hk⟩:=(VRels_iff as vs).1 h;have :k<vs.length:=by rw[<-hl];exact(List.getElem?_eq_some_iff.1 ha).1
 exact⟨vs[k],by simp[this],hk k a _ ha (by simp[this])⟩
theorem VRels.getv[Adr]{w:World}{F:Nat->Prop}{φ:Emb}{as:List AV}{vs:List Value}(h:VRels w F φ as vs){k:Nat}{v:Value}(hv:vs[k]?=some v):∃a,as[k]?=some a/\VRel w F φ a v:=by
 obtain⟨hl,hk⟩:=(VRels_iff as vs).1 h;have :k<as.length:=by rw[hl];exact(List.getElem?_eq_some_iff.1 hv).1
 exact⟨as[k],by simp[this],hk k _ v (by simp[this]) hv⟩
theorem VRels.take[Adr]{w:World}{F:Nat->Prop}{φ:Emb}{as:List AV}{vs:List Value}(h:VRels w F φ as vs)(n:Nat):VRels w F φ (as.take n) (vs.take n):=by
 obtain⟨hl,hk⟩:=(VRels_iff as vs).1 h;refine(VRels_iff _ _).2 ⟨by simp[hl],λk a v ha hv=>?_⟩;rw[List.getElem?_take]at ha hv;split at ha;.rename_i h1;rw[if_pos h1]at hv;exact hk k a v ha hv
 .cases ha
theorem VRels.drop[Adr]{w:World}{F:Nat->Prop}{φ:Emb}{as:List AV}{vs:List Value}(h:VRels w F φ as vs)(n:Nat):VRels w F φ (as.drop n) (vs.drop n):=by obtain⟨hl,hk⟩:=(VRels_iff as vs).1 h;refine(VRels_iff _ _).2 ⟨by simp[hl],λk a v ha hv=>?_⟩;rw[List.getElem?_drop]at ha hv;exact hk _ a v ha hv
theorem VRels.append[Adr]{w:World}{F:Nat->Prop}{φ:Emb}{as bs:List AV}{vs us:List Value}(h:VRels w F φ as vs)(k:VRels w F φ bs us):VRels w F φ (as++bs) (vs++us):=by
 obtain⟨hl,hk⟩:=(VRels_iff as vs).1 h;obtain⟨ml,mk⟩:=(VRels_iff bs us).1 k;refine(VRels_iff _ _).2 ⟨by simp[hl,ml],λj a v ha hv=>?_⟩;rw[List.getElem?_append]at ha hv;split at ha;.rename_i h1;rw[if_pos (by omega)]at hv;exact hk j a v ha hv
 .rename_i h1;rw[if_neg (by omega)]at hv;rw[hl]at ha;exact mk _ a v ha hv
def RowAt(w:World)(b o:Nat)(vs:List Value):Prop:=∀(k:Nat)(v:Value),vs[k]?=some v->w.cell? ⟨b,o+k,none⟩=some v
theorem CRel_iff[Adr]{w:World}{F:Nat->Prop}{φ:Emb}{b:Nat}:∀(as:List AV)(o:Nat),CRel w F φ as b o↔∃vs,VRels w F φ as vs/\RowAt w b o vs/\ ∀v∈vs,v.oneCell'=true
 |[],o=>by simp only[CRel,VRels,true_iff];exact⟨[],rfl,λk v h=>by simp at h,by simp⟩
 |a::as,o=>by
  simp only[CRel,VRels];rw[CRel_iff as (o+1)];constructor
  .rintro⟨⟨v,h1,h0,h2⟩,vs,h3,h4,h5⟩;refine⟨v::vs,⟨v,vs,rfl,h2,h3⟩,λk u hu=>?_,?_⟩;.cases k with|zero=>simp at hu;subst hu;exact h1|succ k=>have :=h4 k u (by simpa using hu);rwa[Nat.add_assoc,Nat.add_comm 1 k]at this
   .intro u hu;rcases List.mem_cons.1 hu with rfl|hu;.exact h0
    .exact h5 u hu
  .rintro⟨vs0,⟨v,vs,rfl,h2,h3⟩,h4,h5⟩;refine⟨⟨v,h4 0 v rfl,h5 v (by simp),h2⟩,vs,h3,λk u hu=>?_,λu hu=>h5 u (by simp[hu])⟩;have :=h4 (k+1) u (by simpa using hu);rwa[Nat.add_assoc,Nat.add_comm 1 k]
theorem CRel_append[Adr]{w:World}{F:Nat->Prop}{φ:Emb}{b:Nat}:∀(as bs:List AV)(o:Nat),CRel w F φ (as++bs) b o↔CRel w F φ as b o/\CRel w F φ bs b (o+as.length)|[],bs,o=>by simp[CRel]|a::as,bs,o=>by simp only[List.cons_append,CRel,CRel_append as bs (o+1),List.length_cons];rw[show o+1+as.length=o+(as.length+1)by omega,and_assoc]
theorem ERel_flat[Adr]{w:World}{F:Nat->Prop}{φ:Emb}{b:Nat}:∀(es:List (List AV))(o:Nat),ERel w F φ es b o↔CRel w F φ es.flatten b o|[],o=>by simp[ERel,CRel]|e::es,o=>by simp only[ERel,List.flatten_cons,CRel_append,ERel_flat es]
theorem flatten_len(sz:Nat):∀(es:List (List AV)),(∀e∈es,e.length=sz)->es.flatten.length=es.length*sz|[],_=>by simp|e::es,h=>by rw[List.flatten_cons,List.length_append,flatten_len sz es (λx hx=>h x (by simp[hx])),h e (by simp),List.length_cons,Nat.add_mul];omega
theorem ERel_get[Adr]{w:World}{F:Nat->Prop}{φ:Emb}{b sz:Nat}:∀(es:List (List AV))(o i:Nat)(e:List AV),(∀e∈es,e.length=sz)->ERel w F φ es b o->es[i]?=some e->CRel w F φ e b (o+i*sz)|[],o,i,e=>by intro _ _ h;simp at h|x::es,o,i,e=>by intro hl h hi;simp only[ERel]at h;cases i with|zero=>simp at hi;subst hi;simpa using h.1|succ i=>have :=ERel_get es (o+x.length) i e (λy hy=>hl y (by simp[hy])) h.2 (by simpa using hi);rw[hl x (by simp)]at this;rwa[Nat.succ_mul,Nat.add_comm (i*sz) sz,<-Nat.add_assoc]
theorem CRel_drop[Adr]{w:World}{F:Nat->Prop}{φ:Emb}{b:Nat}(as:List AV)(o n:Nat)(h:CRel w F φ as b o)(hn:n<=as.length):CRel w F φ (as.drop n) b (o+n):=by have :=(CRel_append (w:=w) (F:=F) (φ:=φ) (b:=b) (as.take n) (as.drop n) o).1 (by rw[List.take_append_drop];exact h);rw[List.length_take,Nat.min_eq_left hn]at this;exact this.2
theorem CRel_take[Adr]{w:World}{F:Nat->Prop}{φ:Emb}{b:Nat}(as:List AV)(o n:Nat)(h:CRel w F φ as b o):CRel w F φ (as.take n) b o:=((CRel_append (w:=w) (F:=F) (φ:=φ) (b:=b) (as.take n) (as.drop n) o).1 (by rw[List.take_append_drop];exact h)).1
theorem ERel_drop[Adr]{w:World}{F:Nat->Prop}{φ:Emb}{b sz:Nat}(es:List (List AV))(o n:Nat)(hl:∀e∈es,e.length=sz)(h:ERel w F φ es b o)(hn:n<=es.length):ERel w F φ (es.drop n) b (o+n*sz):=by
 rw[ERel_flat]at h⊢;have e:es.flatten=(es.take n).flatten++(es.drop n).flatten:=by rw[<-List.flatten_append,List.take_append_drop]
 rw[e,CRel_append]at h;have :=h.2;rwa[flatten_len sz _ (λx hx=>hl x (List.mem_of_mem_take hx)),List.length_take,Nat.min_eq_left hn]at this
theorem ERel_take[Adr]{w:World}{F:Nat->Prop}{φ:Emb}{b:Nat}(es:List (List AV))(o n:Nat)(h:ERel w F φ es b o):ERel w F φ (es.take n) b o:=by
 rw[ERel_flat]at h⊢;have e:es.flatten=(es.take n).flatten++(es.drop n).flatten:=by rw[<-List.flatten_append,List.take_append_drop]
 rw[e,CRel_append]at h;exact h.1
end Go.AM
end
section
set_option linter.unusedSimpArgs false
set_option linter.unusedVariables false
namespace Go.AM
open Go Go.RowKit
def fupd{α:Type}(η:Nat->α)(b:Nat)(x:α):Nat->α:=λc=>if c=b then x else η c
theorem fupd_same{α:Type}(η:Nat->α)(b:Nat)(x:α):fupd η b x b=x:=by simp[fupd]
theorem fupd_other{α:Type}(η:Nat->α)(b c:Nat)(x:α)(h:c≠b):fupd η b x c=η c:=by simp[fupd,h]
def Emb.add(φ:Emb)(b g:Nat)(x:Option Nat×Nat):Emb:={φ with blk:=λb' g'=>if b'=b/\g'=g then some x else φ.blk b' g'}
theorem Emb.add_same(φ:Emb)(b g:Nat)(x:Option Nat×Nat):(φ.add b g x).blk b g=some x:=by simp[Emb.add]
theorem Emb.le_add(φ:Emb)(b g:Nat)(x:Option Nat×Nat)(h:φ.blk b g=none):φ.le (φ.add b g x):=by
 refine⟨λb' g' y hy=>?_,λl y hy=>hy⟩;simp only[Emb.add];split;.rename_i e;rw[e.1,e.2,h]at hy;cases hy
 .exact hy
theorem Emb.sle_add[Adr](φ:Emb)(b g:Nat)(x:Option Nat×Nat)(h:φ.blk b g=none):φ.sle (φ.add b g x):=⟨φ.le_add b g x h,rfl⟩
theorem Emb.add_cases(φ:Emb)(b g:Nat)(x:Option Nat×Nat){b' g':Nat}{y:Option Nat×Nat}(h:(φ.add b g x).blk b' g'=some y):φ.blk b' g'=some y\/(b'=b/\g'=g/\y=x):=by
 simp only[Emb.add]at h;split at h;.rename_i e;exact .inr ⟨e.1,e.2,by simpa using h.symm⟩
 .exact .inl h
def ABlk.emb(blk:ABlk)(φ:Emb):Emb:=if blk.pure then Emb.zero else φ
theorem ABlk.emb_le[Adr](blk:ABlk)(φ:Emb):(blk.emb φ).le φ:=by unfold ABlk.emb;split<;>first|exact Emb.zero_le φ|exact Emb.le_refl φ
theorem ABlk.emb_mono[Adr](blk:ABlk){φ ψ:Emb}(h:φ.le ψ):(blk.emb φ).le (blk.emb ψ):=by unfold ABlk.emb;split<;>first|exact Emb.le_refl _|exact h
def ABlk.hd(blk:ABlk)(el:TypeId)(fz:Nat×Nat):Prop:=(blk.own=true->fz=(0,0))/\ ∀t,blk.ty=some t->el=t
def LRel[Adr](w0 w:World)(F:Nat->Prop)(φ:Emb)(blk:ABlk):Option Nat->Prop|none=>blk.es=[]|some cb=>w0.heap.size<=cb/\(blk.own=true->¬F cb)/\(∃c el fz,w.heap[cb]?=some (.cells c el fz)/\blk.hd el fz/\blk.es.length*blk.sz<=c.size)/\ERel w F (blk.emb φ) blk.es cb 0
def BRel[Adr](w0 w:World)(F:Nat->Prop)(φ:Emb)(b:Nat)(blk:ABlk):Prop:=∃pl,φ.blk b blk.g=some (pl,blk.sz)/\(∀e∈blk.es,e.length=blk.sz)/\LRel w0 w F φ blk pl
def isRec:Obj->Bool|.loop _=>true|.deferred _=>true|.map .. =>true|.stringIter .. =>true|.mapIter .. =>true|_=>false
structure HRel[Adr](w0 w:World)(F:Nat->Prop)(φ:Emb)(U:Nat->Prop)(η:Heap):Prop where
 below:Below w0.heap.size w0 w
 fb:∀b,F b->b<w.heap.size
 used:∀b g x,φ.blk b g=some x->U b
 inb:∀b g cb sz,φ.blk b g=some (some cb,sz)->cb<w.heap.size
 blk:∀b x,η b=some x->BRel w0 w F φ b x
 gen:∀b x,η b=some x->∀g,x.g<g->φ.blk b g=none
 inj:∀b b' x y cb sz sz',η b=some x->η b'=some y->φ.blk b x.g=some (some cb,sz)->φ.blk b' y.g=some (some cb,sz')->b=b'
 fwk:∀b o,F b->w.heap[b]?=some o->isRec o=false
theorem LRel.mono[Adr]{w0 w w':World}{F:Nat->Prop}{φ φ':Emb}{blk:ABlk}{pl:Option Nat}(h:LRel w0 w F φ blk pl)(hx:Ext0 F w w')(hle:φ.le φ')(hs:∀cb,pl=some cb->w'.heap[cb]?=w.heap[cb]?):LRel w0 w' F φ' blk pl:=by cases pl with|none=>exact h|some cb=>obtain⟨h1,h2,⟨c,el,fz,h3,h4⟩,h5⟩:=h;exact⟨h1,h2,⟨c,el,fz,(hs cb rfl).trans h3,h4⟩,ERel.mono hx (λ_ h=>h) (blk.emb_mono hle) _ _ _ (hs cb rfl) h5⟩
theorem HRel.upd[Adr]{w0 w w':World}{F:Nat->Prop}{φ φ':Emb}{U U':Nat->Prop}{η:Heap}(h:HRel w0 w F φ U η)(nm:Nat)(blk':ABlk)(cb0:Option Nat)(hb:Below w0.heap.size w0 w')(hx:Ext0 F w w')(hle:φ.le φ')(hsame:∀b,b<w.heap.size->some b≠cb0->w'.heap[b]?=w.heap[b]?)(hother:∀b x cb sz,b≠nm->η b=some x->φ.blk b x.g=some (some cb,sz)->some cb≠cb0)(hnew:∀b g x,φ'.blk b g=some x->φ.blk b g=some x\/(b=nm/\g=blk'.g/\ ∀c,x.1=some c->c<w'.heap.size))(hU:∀b,U b->U' b)(hUn:U' nm)(hblk:BRel w0 w' F φ' nm blk')(hg:∀g,blk'.g<g->φ'.blk nm g=none)(hinj:∀b x cb sz sz',b≠nm->η b=some x->φ.blk b x.g=some (some cb,sz)->φ'.blk nm blk'.g=some (some cb,sz')->False):HRel w0 w' F φ' U' (fupd η nm (some blk')):=by
 have back:∀b x y,b≠nm->η b=some x->φ'.blk b x.g=some y->φ.blk b x.g=some y:=by
  intro b x y hne _ hy;rcases hnew _ _ _ hy with h1|⟨h1,_⟩;.exact h1
  .exact absurd h1 hne
 refine⟨hb,λb hb'=>Nat.lt_of_lt_of_le (h.fb b hb') hx.size,λb g x hx'=>?_,λb g cb sz hx'=>?_,λb x hbx=>?_,λb x hbx g hg'=>?_,λb b' x y cb sz sz' hbx hby e1 e2=>?_,λb o hb' ho=>h.fwk b o hb' (by rw[hx.same b hb']at ho;exact ho)⟩
 .rcases hnew _ _ _ hx' with h1|⟨h1,_⟩;.exact hU b (h.used _ _ _ h1)
  .exact h1▸hUn
 .rcases hnew _ _ _ hx' with h1|⟨_,_,h1⟩;.exact Nat.lt_of_lt_of_le (h.inb _ _ _ _ h1) hx.size
  .exact h1 cb rfl
 .by_cases e:b=nm;.subst e;rw[fupd_same]at hbx;cases hbx;exact hblk
  .rw[fupd_other _ _ _ _ e]at hbx;obtain⟨pl,h1,h2,h3⟩:=h.blk b x hbx;refine⟨pl,hle.1 _ _ _ h1,h2,h3.mono hx hle λcb hcb=>?_⟩;subst hcb;exact hsame cb (h.inb _ _ _ _ h1) (hother b x cb _ e hbx h1)
 .by_cases e:b=nm;.subst e;rw[fupd_same]at hbx;cases hbx;exact hg g hg'
  .rw[fupd_other _ _ _ _ e]at hbx
   cases hc:φ'.blk b g with
    |none=>rfl
    |some y=>
     rcases hnew _ _ _ hc with h1|⟨h1,_⟩;.rw[h.gen b x hbx g hg']at h1;cases h1
     .exact absurd h1 e
 .by_cases e:b=nm
  .by_cases e':b'=nm;.rw[e,e']
   .subst e;rw[fupd_same]at hbx;cases hbx;rw[fupd_other _ _ _ _ e']at hby;exact(hinj b' y cb sz' sz e' hby (back _ _ _ e' hby e2) e1).elim
  .rw[fupd_other _ _ _ _ e]at hbx;by_cases e':b'=nm;.subst e';rw[fupd_same]at hby;cases hby;exact(hinj b x cb sz sz' e hbx (back _ _ _ e hbx e1) e2).elim
   .rw[fupd_other _ _ _ _ e']at hby;exact h.inj b b' x y cb sz sz' hbx hby (back _ _ _ e hbx e1) (back _ _ _ e' hby e2)
theorem HRel.weakenU[Adr]{w0 w:World}{F:Nat->Prop}{φ:Emb}{U U':Nat->Prop}{η:Heap}(h:HRel w0 w F φ U η)(hU:∀b,U b->U' b):HRel w0 w F φ U' η:=⟨h.below,h.fb,λb g x hx=>hU b (h.used b g x hx),h.inb,h.blk,h.gen,h.inj,h.fwk⟩
theorem HRel.drop[Adr]{w0 w:World}{F:Nat->Prop}{φ:Emb}{U:Nat->Prop}{η η':Heap}(h:HRel w0 w F φ U η)(hη:∀b x,η' b=some x->η b=some x):HRel w0 w F φ U η':=⟨h.below,h.fb,h.used,h.inb,λb x hx=>h.blk b x (hη b x hx),λb x hx=>h.gen b x (hη b x hx),λb b' x y cb sz sz' hx hy=>h.inj b b' x y cb sz sz' (hη b x hx) (hη b' y hy),h.fwk⟩
theorem heap_alloc_new(w:World)(o:Obj):(w.alloc o).heap[w.heap.size]?=some o:=by show(w.heap.push o)[w.heap.size]?=_;simp
theorem heap_alloc_old(w:World)(o:Obj)(k:Nat)(h:k<w.heap.size):(w.alloc o).heap[k]?=w.heap[k]?:=Below.heap_alloc w o k h
theorem shape_of_heap{w w':World}{b:Nat}(h:w'.heap[b]?=w.heap[b]?):w'.shape? b=w.shape? b:=by simp only[World.shape?,h]
theorem shape_lt{w:World}{b:Nat}{x:TypeId×Nat}(h:w.shape? b=some x):b<w.heap.size:=by
 by_cases hb:b<w.heap.size;.exact hb
 .simp[World.shape?,Array.getElem?_eq_none (Nat.le_of_not_lt hb)]at h
theorem ext_alloc[Adr]{w:World}{F:Nat->Prop}(hF:∀b,F b->b<w.heap.size)(o:Obj):Ext F w (w.alloc o):=⟨⟨by simp,λb hb=>heap_alloc_old w o b (hF b hb),λb x hx=>by rw[shape_of_heap (heap_alloc_old w o b (shape_lt hx))];exact hx⟩,λb p hp _=>by rw[heap_alloc_old w o b (Array.getElem?_eq_some_iff.1 hp).1];exact hp⟩
theorem row_alloc[Adr](w:World)(c:Array Value)(el:TypeId)(fz:Nat×Nat)(vs:List Value)(hv:∀(k:Nat)(v:Value),vs[k]?=some v->c[k]?=some v):RowAt (w.alloc (.cells c el fz)) w.heap.size 0 vs:=by intro k v hk;simp only[World.cell?,heap_alloc_new];simpa using hv k v hk
theorem HRel.allocM[Adr]{w0 w:World}{F:Nat->Prop}{φ:Emb}{U U':Nat->Prop}{η:Heap}(h:HRel w0 w F φ U η)(nm:Nat)(hn:¬U nm)(blk:ABlk)(c:Array Value)(el:TypeId)(fz:Nat×Nat)(vs:List Value)(hfz:blk.own=true->fz=(0,0))(hty:∀t,blk.ty=some t->el=t)(hg:blk.g=0)(hl:∀e∈blk.es,e.length=blk.sz)(hvs:VRels w F (blk.emb φ) blk.es.flatten vs)(h1:∀v∈vs,v.oneCell'=true)(hc:∀(k:Nat)(v:Value),vs[k]?=some v->c[k]?=some v)(hU:∀b,U b->U' b)(hUn:U' nm):HRel w0 (w.alloc (.cells c el fz)) F (φ.add nm 0 (some w.heap.size,blk.sz)) U' (fupd η nm (some blk))/\φ.sle (φ.add nm 0 (some w.heap.size,blk.sz))/\Ext F w (w.alloc (.cells c el fz))/\c.size=c.size:=by
 have hno:∀g,φ.blk nm g=none:=λg=>by cases e:φ.blk nm g with|none=>rfl|some x=>exact absurd (h.used _ _ _ e) hn
 have hle:φ.sle (φ.add nm 0 (some w.heap.size,blk.sz)):=φ.sle_add _ _ _ (hno 0);have hx:Ext F w (w.alloc (.cells c el fz)):=ext_alloc h.fb _;have hsz:=h.below.size;refine⟨h.upd nm blk none (h.below.alloc hsz _) hx hle (λb hb _=>heap_alloc_old _ _ _ hb) (λ_ _ _ _ _ _ _=>by simp) (λb g x hxx=>?_) hU hUn ?_ (λg hgg=>?_) (λb x cb sz sz' hne hb e1 e2=>?_),hle,hx,rfl⟩
 .rcases φ.add_cases _ _ _ hxx with h2|⟨h2,h3,h4⟩;.exact .inl h2
  .exact .inr ⟨h2,by rw[h3,hg],λc' hc'=>by rw[h4]at hc';cases hc';simp⟩
 .refine⟨some w.heap.size,by rw[hg];exact φ.add_same _ _ _,hl,hsz,λ_ hF=>absurd (h.fb _ hF) (Nat.lt_irrefl _),⟨c,el,_,heap_alloc_new _ _,⟨hfz,hty⟩,?_⟩,?_⟩
  .have :=hvs.length;rw[flatten_len _ _ hl]at this;rw[this];by_cases hz:vs.length=0;.omega
   .have :vs[vs.length-1]?=some vs[vs.length-1]:=List.getElem?_eq_getElem (by omega);have :=hc _ _ this;have :=(Array.getElem?_eq_some_iff.1 this).1;omega
  .rw[ERel_flat,CRel_iff];exact⟨vs,VRels.mono hx (λ_ h=>h) (blk.emb_mono hle) _ _ hvs,row_alloc w c el _ vs hc,h1⟩
 .rw[hg]at hgg;simp only[Emb.add];rw[if_neg (by omega)];exact hno g
 .rw[hg,φ.add_same]at e2;cases e2;exact absurd (h.inb _ _ _ _ e1) (Nat.lt_irrefl _)
theorem HRel.alloc[Adr]{w0 w:World}{F:Nat->Prop}{φ:Emb}{U U':Nat->Prop}{η:Heap}(h:HRel w0 w F φ U η)(nm:Nat)(hn:¬U nm)(blk:ABlk)(c:Array Value)(el:TypeId)(vs:List Value)(hg:blk.g=0)(hl:∀e∈blk.es,e.length=blk.sz)(hvs:VRels w F (blk.emb φ) blk.es.flatten vs)(h1:∀v∈vs,v.oneCell'=true)(hc:∀(k:Nat)(v:Value),vs[k]?=some v->c[k]?=some v)(hU:∀b,U b->U' b)(hUn:U' nm)(hty:∀t,blk.ty=some t->el=t:=by intro _ h;cases h):HRel w0 (w.alloc (.cells c el)) F (φ.add nm 0 (some w.heap.size,blk.sz)) U' (fupd η nm (some blk))/\φ.sle (φ.add nm 0 (some w.heap.size,blk.sz))/\Ext F w (w.alloc (.cells c el))/\c.size=c.size:=h.allocM nm hn blk c el (0,0) vs (λ_=>rfl) hty hg hl hvs h1 hc hU hUn
theorem ext_drew(F:Nat->Prop)(w:World):Ext F w w.drew:=⟨⟨Nat.le_refl _,λ_ _=>rfl,λ_ _ h=>h⟩,λ_ _ h _=>h⟩
theorem HRel.heap_same[Adr]{w0 w w':World}{F:Nat->Prop}{φ:Emb}{U:Nat->Prop}{η:Heap}(h:HRel w0 w F φ U η)(hh:w'.heap=w.heap)(hb:Below w0.heap.size w0 w'):HRel w0 w' F φ U η:=by have hx:Ext0 F w w':=⟨by rw[hh];exact Nat.le_refl _,λb _=>by rw[hh],λb x hx=>by rw[shape_of_heap (w:=w) (by rw[hh])];exact hx⟩;exact⟨hb,λb hb=>by rw[hh];exact h.fb b hb,h.used,λb g cb sz e=>by rw[hh];exact h.inb b g cb sz e,λb x hbx=>let⟨pl,h1,h2,h3⟩:=h.blk b x hbx;⟨pl,h1,h2,h3.mono hx (Emb.le_refl _) λcb _=>by rw[hh]⟩,h.gen,h.inj,λb o hb' ho=>h.fwk b o hb' (by rw[hh]at ho;exact ho)⟩
end Go.AM
end
