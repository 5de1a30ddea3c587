/- Texts of the proof, joined by program. -/
import Derived.Test.YtaeifdlkolfdjaaGreatDoorKAmB
section
set_option linter.unusedSimpArgs false
set_option linter.unusedVariables false
namespace Go.AM
open Go
def lstU(m:Nat):AV->Option (List (U m))|.dl m' ys=>if h:m'=m then some (h▸ys)else none|.nils=>some []|.emp=>some []|_=>none
def CT.av0:(c:CT)->c.T->AV|.b,x=>.bool x|.i k,n=>.int k n|.s,x=>.str x|.l m,ys=>.dl m ys|.w _,_=>.top
def CT.dec0:(c:CT)->AV->Option c.T
 |.b,v=>match v with|.bool x=>some x|_=>none
 |.i k,v=>match v with|.int k' n=>if k'=k then some n else none|_=>none
 |.s,v=>match v with|.str x=>some x|_=>none
 |.l m,v=>lstU m v
 |.w _,_=>none
def tupA0:(cs:List CT)->Tup cs->List AV|[],_=>[]|c::cs,t=>c.av0 t.1::tupA0 cs t.2
def tupO0:(cs:List CT)->List AV->Option (Tup cs)
 |[],[]=>some ()
 |c::cs,v::vs=>match c.dec0 v,tupO0 cs vs with|some x,some t=>some (x,t)|_,_=>none
 |_,_=>none
def akAV(t:Nat):(a:AK)->a.T->AV|.l n,ys=>.iface t (.dl n ys)|.g n,x=>.iface t (.agg (tupA0 (lay n) (ofU n x)))
def akDec:(a:AK)->AV->Option a.T|.l n,v=>lstU n v|.g n,v=>match v with|.agg cs=>(tupO0 (lay n) cs).map (toU n)|_=>none
def wAV:(l:List (Nat×AK))->SumA l->AV|[],x=>nomatch(show Empty from x)|[a],x=>akAV a.1 a.2 x|a::b::l,x=>match(show Sum a.2.T (SumA (b::l))from x)with|.inl y=>akAV a.1 a.2 y|.inr z=>wAV (b::l) z
def wDec(t:Nat)(v:AV):(l:List (Nat×AK))->Option (SumA l)
 |[]=>none
 |[a]=>match Nat.beq a.1 t with|true=>akDec a.2 v|false=>none
 |a::b::l=>match Nat.beq a.1 t with|true=>(akDec a.2 v).map λy=>(Sum.inl y:Sum a.2.T (SumA (b::l)))|false=>(wDec t v (b::l)).map λz=>(Sum.inr z:Sum a.2.T (SumA (b::l)))
def CT.av:(c:CT)->c.T->AV|.b,x=>.bool x|.i k,n=>.int k n|.s,x=>.str x|.l m,ys=>.dl m ys|.w m,x=>wAV (alts m) x
def tupA:(cs:List CT)->Tup cs->List AV|[],_=>[]|c::cs,t=>c.av t.1::tupA cs t.2
def encU(n:Nat)(x:U n):List AV:=tupA (lay n) (ofU n x)
def CT.dec:(c:CT)->AV->Option c.T
 |.b,v=>match v with|.bool x=>some x|_=>none
 |.i k,v=>match v with|.int k' n=>if k'=k then some n else none|_=>none
 |.s,v=>match v with|.str x=>some x|_=>none
 |.l m,v=>lstU m v
 |.w m,v=>match v with|.iface t u=>wDec t u (alts m)|_=>none
def tupO:(cs:List CT)->List AV->Option (Tup cs)
 |[],[]=>some ()
 |c::cs,v::vs=>match c.dec v,tupO cs vs with|some x,some t=>some (x,t)|_,_=>none
 |_,_=>none
def decU(n:Nat)(cs:List AV):Option (U n):=(tupO (lay n) cs).map (toU n)
theorem cell_d0[Adr]{w:World}{F:Nat->Prop}{φ:Emb}{v:Value}:∀(c:CT)(x:c.T),c.isW=false->(VRel w F φ (c.av0 x) v↔DRel w F (c.dv exU x) v)|.b,x,_=>by simp only[CT.av0,CT.dv,VRel,DRel]|.i k,x,_=>by simp only[CT.av0,CT.dv,VRel,DRel]|.s,x,_=>by simp only[CT.av0,CT.dv,VRel,DRel]|.l m,x,_=>by simp only[CT.av0,CT.dv,VRel]|.w m,x,h=>by cases h
theorem tup_ds[Adr]{w:World}{F:Nat->Prop}{φ:Emb}:∀(cs:List CT)(t:Tup cs)(vs:List Value),(∀c∈cs,c.isW=false)->(VRels w F φ (tupA0 cs t) vs↔DRels w F (tupD exU cs t) vs)|[],_,vs,_=>by simp only[tupA0,tupD,VRels,DRels]|c::cs,t,vs,h=>by simp only[tupA0,tupD,VRels,DRels,cell_d0 c t.1 (h c (by simp)),tup_ds cs t.2 _ λd hd=>h d (by simp[hd])]
theorem g_d[Adr]{w:World}{F:Nat->Prop}{φ:Emb}{v:Value}(t n:Nat)(x:U n)(h:∀c∈lay n,c.isW=false):VRel w F φ (.iface t (.agg (tupA0 (lay n) (ofU n x)))) v↔DRel w F (.f t (.a (exU n x))) v:=by rw[exU_eq];simp only[VRel,DRel,tup_ds _ _ _ h]
theorem ak_d[Adr]{w:World}{F:Nat->Prop}{φ:Emb}{v:Value}(t:Nat):∀(a:AK)(x:a.T),(∀n,a=.g n->∀c∈lay n,c.isW=false)->(VRel w F φ (akAV t a x) v↔DRel w F (a.dv exU t x) v)|.l n,x,_=>by simp only[akAV,AK.dv,VRel,DRel]|.g n,x,h=>g_d t n x (h n rfl)
theorem w_d[Adr]{w:World}{F:Nat->Prop}{φ:Emb}{v:Value}:∀(l:List (Nat×AK))(x:SumA l),(∀a∈l,∀n,a.2=.g n->∀c∈lay n,c.isW=false)->(VRel w F φ (wAV l x) v↔DRel w F (SumA.dv exU l x) v)|[],x,_=>nomatch(show Empty from x)|[a],x,h=>ak_d a.1 a.2 x (h a (by simp))|a::b::l,x,h=>by cases(show Sum a.2.T (SumA (b::l))from x)with|inl y=>exact ak_d a.1 a.2 y (h a (by simp))|inr z=>exact w_d (b::l) z (λc hc=>h c (by simp[List.mem_cons.1 hc]))
theorem cell_d[Adr]{w:World}{F:Nat->Prop}{φ:Emb}{v:Value}:∀(c:CT)(x:c.T),VRel w F φ (c.av x) v↔DRel w F (c.dv exU x) v|.b,x=>by simp only[CT.av,CT.dv,VRel,DRel]|.i k,x=>by simp only[CT.av,CT.dv,VRel,DRel]|.s,x=>by simp only[CT.av,CT.dv,VRel,DRel]|.l m,x=>by simp only[CT.av,CT.dv,VRel]|.w m,x=>w_d (alts m) x (alts_ok m)
theorem tup_d[Adr]{w:World}{F:Nat->Prop}{φ:Emb}{b:Nat}:∀(cs:List CT)(t:Tup cs)(o:Nat),CRel w F φ (tupA cs t) b o↔DCRel w F (tupD exU cs t) b o|[],_,o=>by simp only[tupA,tupD,CRel,DCRel]|c::cs,t,o=>by simp only[tupA,tupD,CRel,DCRel,tup_d cs t.2,cell_d]
theorem tupA_len:∀(cs:List CT)(t:Tup cs),(tupA cs t).length=cs.length|[],_=>rfl|c::cs,t=>by simp[tupA,tupA_len cs t.2]
theorem encU_len(n:Nat)(x:U n):(encU n x).length=szU n:=tupA_len _ _
theorem enc_e[Adr]{w:World}{F:Nat->Prop}{φ:Emb}{b n:Nat}:∀(xs:List (U n))(o:Nat),ERel w F φ (xs.map (encU n)) b o↔DERel w F (xs.map (exU n)) b o|[],o=>by simp only[List.map_nil,ERel,DERel]|x::xs,o=>by simp only[List.map_cons,ERel,DERel,enc_e xs,exU_len,encU_len];rw[exU_eq];unfold encU;rw[tup_d]
theorem dl_psl[Adr]{w:World}{F:Nat->Prop}{φ:Emb}{n:Nat}{xs:List (U n)}{v:Value}:VRel w F φ (.dl n xs) v↔VRel w F φ (.psl (szU n) (xs.map (encU n))) v:=by simp only[VRel,DRel,List.length_map,ne_eq,List.map_eq_nil_iff,List.mem_map,forall_exists_index,and_imp,forall_apply_eq_imp_iff₂,exU_len,encU_len,enc_e]
theorem tupA0_P:∀(cs:List CT)(t:Tup cs),AV.isP.isPs (tupA0 cs t)=true|[],_=>rfl|c::cs,t=>by simp only[tupA0,AV.isP.isPs,tupA0_P cs t.2,Bool.and_true];cases c<;>rfl
theorem ak_P(t:Nat):∀(a:AK)(x:a.T),(akAV t a x).isP=true|.l n,x=>rfl|.g n,x=>by simp only[akAV,AV.isP,tupA0_P]
theorem wAV_P:∀(l:List (Nat×AK))(x:SumA l),(wAV l x).isP=true|[],x=>nomatch(show Empty from x)|[a],x=>ak_P a.1 a.2 x|a::b::l,x=>by cases(show Sum a.2.T (SumA (b::l))from x)with|inl y=>exact ak_P a.1 a.2 y|inr z=>exact wAV_P (b::l) z
theorem tupA_P:∀(cs:List CT)(t:Tup cs),AV.isP.isPs (tupA cs t)=true|[],_=>rfl|c::cs,t=>by simp only[tupA,AV.isP.isPs,tupA_P cs t.2,Bool.and_true];cases c with|w m=>exact wAV_P (alts m) t.1|_=>rfl
theorem encU_P(n:Nat)(x:U n):AV.isP.isPs (encU n x)=true:=tupA_P _ _
theorem lstU_ok[Adr]{w:World}{F:Nat->Prop}{φ:Emb}{m:Nat}{a:AV}{ys:List (U m)}{v:Value}(h:lstU m a=some ys)(hv:VRel w F φ a v):VRel w F φ (.dl m ys) v:=by
 unfold lstU at h;split at h
 .split at h;.rename_i e;subst e;cases h;exact hv
  .cases h
 .cases h;simp only[VRel]at hv;subst hv;exact dl_psl.2 (by simp[VRel])
 .cases h;simp only[VRel]at hv;obtain⟨a,rfl⟩:=hv;exact dl_psl.2 (by simp[VRel])
 .cases h
theorem dec_cell0[Adr]{w:World}{F:Nat->Prop}{φ:Emb}{a:AV}{v:Value}:∀(c:CT)(x:c.T),c.dec0 a=some x->VRel w F φ a v->VRel w F φ (c.av0 x) v
 |.b,x,h,hv=>by
  simp only[CT.dec0]at h;split at h;.cases h;exact hv
  .cases h
 |.i k,x,h,hv=>by
  simp only[CT.dec0]at h;split at h
  .split at h;.rename_i e;subst e;cases h;exact hv
   .cases h
  .cases h
 |.s,x,h,hv=>by
  simp only[CT.dec0]at h;split at h;.cases h;exact hv
  .cases h
 |.l m,x,h,hv=>lstU_ok h hv
 |.w m,x,h,hv=>by cases h
theorem tupO0_ok[Adr]{w:World}{F:Nat->Prop}{φ:Emb}:∀(cs:List CT)(as:List AV)(t:Tup cs)(vs:List Value),tupO0 cs as=some t->VRels w F φ as vs->VRels w F φ (tupA0 cs t) vs
 |[],[],_,_,_,h=>h
 |c::cs,a::as,t,vs,h,hv=>by
  simp only[tupO0]at h;split at h;.rename_i x t' h1 h2;cases h;simp only[VRels,tupA0]at hv⊢;obtain⟨v,vs',rfl,h3,h4⟩:=hv;exact⟨v,vs',rfl,dec_cell0 c x h1 h3,tupO0_ok cs as t' vs' h2 h4⟩
  .cases h
 |[],_::_,_,_,h,_=>by cases h
 |_::_,[],_,_,h,_=>by cases h
theorem lDec_ok[Adr]{w:World}{F:Nat->Prop}{φ:Emb}{u:AV}{v:Value}(t n:Nat)(x:List (U n))(h:lstU n u=some x)(hv:VRel w F φ (.iface t u) v):VRel w F φ (.iface t (.dl n x)) v:=by simp only[VRel]at hv;obtain⟨y,rfl,hy⟩:=hv;have :=lstU_ok h hy;simp only[VRel]at this⊢;exact⟨y,rfl,this⟩
theorem gDec_ok[Adr]{w:World}{F:Nat->Prop}{φ:Emb}{v:Value}(t n:Nat)(x:U n)(cs:List AV)(h:(tupO0 (lay n) cs).map (toU n)=some x)(hv:VRel w F φ (.iface t (.agg cs)) v):VRel w F φ (.iface t (.agg (tupA0 (lay n) (ofU n x)))) v:=by obtain⟨t',h1,h2⟩:=Option.map_eq_some_iff.1 h;subst h2;rw[ofU_toU];generalize he:tupA0 (lay n) t'=es;simp only[VRel]at hv⊢;obtain⟨y,rfl,vs,rfl,h3,h4⟩:=hv;exact⟨_,rfl,vs,rfl,by rw[<-he];exact tupO0_ok _ _ _ _ h1 h3,h4⟩
theorem akDec_ok[Adr]{w:World}{F:Nat->Prop}{φ:Emb}{u:AV}{v:Value}(t:Nat):∀(a:AK)(x:a.T),akDec a u=some x->VRel w F φ (.iface t u) v->VRel w F φ (akAV t a x) v|.l n,x,h,hv=>lDec_ok t n x h hv|.g n,x,h,hv=>by cases u with|agg cs=>exact gDec_ok t n x cs h hv|_=>cases h
theorem wDec_ok[Adr]{w:World}{F:Nat->Prop}{φ:Emb}{t:Nat}{u:AV}{v:Value}(hv:VRel w F φ (.iface t u) v):∀(l:List (Nat×AK))(x:SumA l),wDec t u l=some x->VRel w F φ (wAV l x) v
 |[],x,h=>by cases h
 |[a],x,h=>by
  unfold wDec at h;split at h;.rename_i e;exact akDec_ok a.1 a.2 x h (Nat.eq_of_beq_eq_true e▸hv)
  .cases h
 |a::b::l,x,h=>by
  unfold wDec at h;split at h;.rename_i e;obtain⟨y,h1,h2⟩:=Option.map_eq_some_iff.1 h;rw[<-h2];exact akDec_ok a.1 a.2 y h1 (Nat.eq_of_beq_eq_true e▸hv)
  .obtain⟨z,h1,h2⟩:=Option.map_eq_some_iff.1 h;rw[<-h2];exact wDec_ok hv (b::l) z h1
theorem dec_cell[Adr]{w:World}{F:Nat->Prop}{φ:Emb}{a:AV}{v:Value}:∀(c:CT)(x:c.T),c.dec a=some x->VRel w F φ a v->VRel w F φ (c.av x) v|.b,x,h,hv=>dec_cell0 .b x h hv|.i k,x,h,hv=>dec_cell0 (.i k) x h hv|.s,x,h,hv=>dec_cell0 .s x h hv|.l m,x,h,hv=>lstU_ok h hv|.w m,x,h,hv=>by cases a with|iface t u=>exact wDec_ok hv _ x h|_=>cases h
theorem tupO_ok[Adr]{w:World}{F:Nat->Prop}{φ:Emb}:∀(cs:List CT)(as:List AV)(t:Tup cs)(vs:List Value),tupO cs as=some t->VRels w F φ as vs->VRels w F φ (tupA cs t) vs
 |[],[],_,_,_,h=>h
 |c::cs,a::as,t,vs,h,hv=>by
  simp only[tupO]at h;split at h;.rename_i x t' h1 h2;cases h;simp only[VRels,tupA]at hv⊢;obtain⟨v,vs',rfl,h3,h4⟩:=hv;exact⟨v,vs',rfl,dec_cell c x h1 h3,tupO_ok cs as t' vs' h2 h4⟩
  .cases h
 |[],_::_,_,_,h,_=>by cases h
 |_::_,[],_,_,h,_=>by cases h
theorem decU_ok[Adr]{w:World}{F:Nat->Prop}{φ:Emb}{n:Nat}{as:List AV}{x:U n}{vs:List Value}(h:decU n as=some x)(hv:VRels w F φ as vs):VRels w F φ (encU n x) vs:=by unfold decU at h;cases e:tupO (lay n) as with|none=>rw[e]at h;cases h|some t=>rw[e]at h;simp only[Option.map_some,Option.some.injEq]at h;subst h;unfold encU;rw[ofU_toU];exact tupO_ok _ _ _ _ e hv
inductive VT where|k(c:CT)|g(n:Nat)deriving DecidableEq
def VT.T:VT->Type|.k c=>c.T|.g n=>U n
def VT.av:(v:VT)->v.T->AV|.k c,x=>c.av x|.g n,x=>.agg (encU n x)
def VT.dec:(v:VT)->AV->Option v.T|.k c,a=>c.dec a|.g n,a=>match a with|.agg cs=>decU n cs|_=>none
def encM(k:CT)(v:VT)(l:List (k.T×v.T)):List (AV×AV):=l.map λp=>(k.av p.1,v.av p.2)
def decM(k:CT)(v:VT):List (AV×AV)->Option (List (k.T×v.T))|[]=>some []|p::m=>match k.dec p.1,v.dec p.2,decM k v m with|some a,some b,some l=>some ((a,b)::l)|_,_,_=>none
def CT.eqB:(c:CT)->c.T->c.T->Bool|.b,x,y=>@BEq.beq Bool _ x y|.i _,x,y=>@decide (@Eq Int x y) (Int.instDecidableEq x y)|.s,x,y=>@BEq.beq (List UInt8) _ x y|.l _,_,_=>false|.w _,_,_=>false
def mfind(k:CT){V:Type}:List (k.T×V)->k.T->Option V|[],_=>none|p::l,a=>match k.eqB a p.1 with|true=>some p.2|false=>mfind k l a
def mput(k:CT){V:Type}:List (k.T×V)->k.T->V->List (k.T×V)|[],a,b=>[(a,b)]|p::l,a,b=>match k.eqB a p.1 with|true=>(a,b)::l|false=>p::mput k l a b
theorem VT.av_P(v:VT)(x:v.T):(v.av x).isP=true:=by
 cases v with
  |k c=>cases c with|w m=>exact wAV_P (alts m) x|_=>rfl
  |g n=>exact encU_P n x
theorem CT.av_P(c:CT)(x:c.T):(c.av x).isP=true:=by cases c with|w m=>exact wAV_P (alts m) x|_=>rfl
theorem VT.dec_rel[Adr]{w:World}{F:Nat->Prop}{φ:Emb}{a:AV}{u:Value}(v:VT){x:v.T}(h:v.dec a=some x)(hv:VRel w F φ a u):VRel w F φ (v.av x) u:=by cases v with|k c=>exact dec_cell c x h hv|g n=>cases a with|agg cs=>simp only[VRel,VT.av]at hv⊢;obtain⟨vs,h1,h2,h3⟩:=hv;exact⟨vs,h1,decU_ok h h2,h3⟩|_=>cases h
end Go.AM
end
section
set_option linter.unusedSimpArgs false
set_option linter.unusedVariables false
namespace Go.AM
open Go Go.RowKit
theorem psx_rel[Adr]{w:World}{F:Nat->Prop}{φ:Emb}{z:Nat}{es:List (List AV)}{v:Value}(h:VRel w F φ (.psx z es) v):VRel w F φ (.psl z es) v:=by simp only[VRel]at h⊢;obtain⟨a,h1,h2,h3⟩:=h;exact⟨a,_,h1,Nat.le_refl _,h2,h3⟩
mutual
theorem isP_rel[Adr]{w:World}{F:Nat->Prop}{φ ψ:Emb}:∀(a:AV)(v:Value),a.isP=true->VRel w F φ a v->VRel w F ψ a v|a,v=>by cases a with|ref b g i j=>intro h;simp[AV.isP]at h|sl b g z o l=>intro h;simp[AV.isP]at h|yld l=>intro h;simp[AV.isP]at h|mp l=>intro h;simp[AV.isP]at h|itr l=>intro h;simp[AV.isP]at h|fn f x c=>intro h hr;simp only[AV.isP,Bool.and_eq_true]at h;simp only[VRel]at hr⊢;obtain⟨fs,cs,h1,h2,h3⟩:=hr;exact⟨fs,cs,h1,isPs_rel x fs h.1 h2,isPs_rel c cs h.2 h3⟩|iface t x=>intro h hr;simp only[AV.isP]at h;simp only[VRel]at hr⊢;obtain⟨y,h1,h2⟩:=hr;exact⟨y,h1,isP_rel x y h h2⟩|agg cs=>intro h hr;simp only[AV.isP]at h;simp only[VRel]at hr⊢;obtain⟨y,h1,h2,h3⟩:=hr;exact⟨y,h1,isPs_rel cs y h h2,h3⟩|tup cs=>intro h hr;simp only[AV.isP]at h;simp only[VRel]at hr⊢;obtain⟨y,h1,h2⟩:=hr;exact⟨y,h1,isPs_rel cs y h h2⟩|top=>intro _ _;simp[VRel]|anyb=>intro _ hr;simpa[VRel]using hr|bool b=>intro _ hr;simpa[VRel]using hr|int k n=>intro _ hr;simpa[VRel]using hr|str s=>intro _ hr;simpa[VRel]using hr|nilp=>intro _ hr;simpa[VRel]using hr|pp cs=>intro _ hr;simpa[VRel]using hr|nils=>intro _ hr;simpa[VRel]using hr|psl sz es=>intro _ hr;simpa[VRel]using hr|psx sz es=>intro _ hr;simpa[VRel]using hr|nilf=>intro _ hr;simpa[VRel]using hr|nili=>intro _ hr;simpa[VRel]using hr|emp=>intro _ hr;simpa[VRel]using hr|nilm=>intro _ hr;simpa[VRel]using hr|strb n s=>intro _ hr;simpa[VRel]using hr|inty k=>intro _ hr;simpa[VRel]using hr|dl n xs=>intro _ hr;simpa only[VRel]using hr|gp k o cs=>intro _ hr;simpa only[VRel]using hr|slk b g z o l c e=>intro h;simp[AV.isP]at h
theorem isPs_rel[Adr]{w:World}{F:Nat->Prop}{φ ψ:Emb}:∀(as:List AV)(vs:List Value),AV.isP.isPs as=true->VRels w F φ as vs->VRels w F ψ as vs|[],vs=>by intro _ h;simpa[VRels]using h|a::as,vs=>by intro h hr;simp only[AV.isP.isPs,Bool.and_eq_true]at h;simp only[VRels]at hr⊢;obtain⟨v,vs',h1,h2,h3⟩:=hr;exact⟨v,vs',h1,isP_rel a v h.1 h2,isPs_rel as vs' h.2 h3⟩
end
theorem cells_rel[Adr]{w:World}{F:Nat->Prop}{φ:Emb}{a:AV}{v:Value}{cs:List AV}(hc:a.cells=some cs)(h:VRel w F φ a v):VRels w F φ cs v.cells.toList/\(∀x∈v.cells.toList,x.oneCell'=true):=by
 cases a<;>simp only[AV.cells,Option.some.injEq,reduceCtorEq]at hc<;>subst hc<;>simp only[VRel]at h;all_goals first|(obtain⟨y,rfl,h1,h2⟩:=h;exact⟨h1,h2⟩)|skip
 all_goals
  have one:v.cells.toList=[v]/\v.oneCell'=true:=by first|(rcases h with⟨_,_,_,_,rfl⟩|⟨_,_,_,rfl,_⟩<;>simp[Value.cells,Value.oneCell']<;>done)|(obtain⟨_,_,_,rfl,_⟩:=h;simp[Value.cells,Value.oneCell'];done)|(subst h;simp[Value.cells,Value.oneCell'])|(obtain⟨x,rfl⟩:=h;simp[Value.cells,Value.oneCell'])|(obtain⟨x,y,_,rfl⟩:=h;simp[Value.cells,Value.oneCell'])|(obtain⟨x,y,rfl,_⟩:=h;simp[Value.cells,Value.oneCell'])|(obtain⟨x,_,rfl⟩:=h;simp[Value.cells,Value.oneCell'])|(obtain⟨x,rfl,_⟩:=h;simp[Value.cells,Value.oneCell'])
  refine⟨?_,by rw[one.1];intro x hx;simp at hx;subst hx;exact one.2⟩;rw[one.1];exact⟨v,[],rfl,by simp only[VRel];exact h,rfl⟩
theorem flatten_set(sz:Nat):∀(es:List (List AV))(i j n:Nat)(e cs:List AV),(∀e∈es,e.length=sz)->es[i]?=some e->j+n<=sz->cs.length=n->(es.set i (e.take j++cs++e.drop (j+n))).flatten=es.flatten.take (i*sz+j)++cs++es.flatten.drop (i*sz+j+n)
 |[],i,j,n,e,cs=>by intro _ h;simp at h
 |x::es,0,j,n,e,cs=>by intro hl h hj hc;simp at h;subst h;have hx:x.length=sz:=hl x (by simp);simp only[List.set_cons_zero,List.flatten_cons,Nat.zero_mul,Nat.zero_add];rw[List.take_append_of_le_length (by omega),List.drop_append_of_le_length (by omega)];simp
 |x::es,i+1,j,n,e,cs=>by
  intro hl h hj hc;have hx:x.length=sz:=hl x (by simp);have ih:=flatten_set sz es i j n e cs (λy hy=>hl y (by simp[hy])) (by simpa using h) hj hc;simp only[List.set_cons_succ,List.flatten_cons,ih];have e1:(i+1)*sz+j=x.length+(i*sz+j):=by rw[Nat.succ_mul,hx];omega
  rw[e1,Nat.add_assoc x.length];rw[List.take_length_add_append,List.drop_length_add_append];simp[List.append_assoc]
theorem mem_set_len{sz:Nat}{es:List (List AV)}{i:Nat}{e:List AV}(hl:∀x∈es,x.length=sz)(he:e.length=sz):∀x∈es.set i e,x.length=sz:=by
 intro x hx;rcases List.mem_or_eq_of_mem_set hx with h|h;.exact hl x h
 .rw[h];exact he
theorem ext_setRow[Adr]{w:World}{F:Nat->Prop}{cb:Nat}{c c':Array Value}{el:TypeId}(hc:w.heap[cb]?=some (.cells c el (0,0)))(hF:¬F cb)(hs:c'.size=c.size):Ext F w (w.setRow cb c'):=by
 refine⟨⟨by simp,λb hb=>setRow_other w cb b c' (λe=>hF (e▸hb)),λb x hx=>?_⟩,λb o ho hn=>?_⟩
 .by_cases e:b=cb;.subst e;simp only[World.shape?,setRow_heap w b c c' el _ hc];simp only[World.shape?,hc]at hx;rw[hs];exact hx
  .rw[shape_of_heap (setRow_other w cb b c' e)];exact hx
 .by_cases e:b=cb;.subst e;rw[hc]at ho;cases ho;exact absurd rfl (hn _ _ _)
  .rw[setRow_other w cb b c' e];exact ho
theorem HRel.rewrite[Adr]{w0 w:World}{F:Nat->Prop}{φ:Emb}{U:Nat->Prop}{η:Heap}(h:HRel w0 w F φ U η){nm:Nat}{blk blk':ABlk}{cb:Nat}{c c':Array Value}{el:TypeId}{us:List Value}(hb:η nm=some blk)(hp:φ.blk nm blk.g=some (some cb,blk.sz))(ho:blk.own=true)(hcb:w.heap[cb]?=some (.cells c el (0,0)))(hs:c'.size=c.size)(hsz:blk'.sz=blk.sz)(hgg:blk'.g=blk.g\/blk'.g=blk.g+1)(hl:∀e∈blk'.es,e.length=blk'.sz)(hus:VRels w F (blk'.emb φ) blk'.es.flatten us)(h1:∀v∈us,v.oneCell'=true)(hrow:∀(k:Nat)(v:Value),us[k]?=some v->c'[k]?=some v)(hty:∀t,blk'.ty=some t->blk.ty=some t:=by first|exact λ_ h=>h|(intro _ h;cases h)):∃φ',φ.sle φ'/\φ'.blk nm blk'.g=some (some cb,blk.sz)/\Ext F w (w.setRow cb c')/\HRel w0 (w.setRow cb c') F φ' U (fupd η nm (some blk')):=by
 obtain⟨pl,e1,e2,e3⟩:=h.blk nm blk hb;rw[hp]at e1;cases e1;obtain⟨f1,f2,⟨c2,el2,fz2,g1,⟨-,g2⟩,-⟩,-⟩:=e3;rw[hcb]at g1;cases g1;have hF:=f2 ho;have hx:Ext F w (w.setRow cb c'):=ext_setRow hcb hF hs
 have hfit:blk'.es.length*blk'.sz<=c'.size:=by
  have :=hus.length;rw[flatten_len _ _ hl]at this;rw[this];by_cases hz:us.length=0;.omega
  .have :us[us.length-1]?=some us[us.length-1]:=List.getElem?_eq_getElem (by omega);have :=hrow _ _ this;have :=(Array.getElem?_eq_some_iff.1 this).1;omega
 have hrw:RowAt (w.setRow cb c') cb 0 us:=by intro k v hk;rw[cell_setRow_same w cb _ c c' el _ hcb];simpa using hrow k v hk
 have key:∀φ',φ.le φ'->φ'.blk nm blk'.g=some (some cb,blk.sz)->(∀b g x,φ'.blk b g=some x->φ.blk b g=some x\/(b=nm/\g=blk'.g/\ ∀c,x.1=some c->c<w.heap.size))->(∀g,blk'.g<g->φ'.blk nm g=none)->HRel w0 (w.setRow cb c') F φ' U (fupd η nm (some blk')):=by
  intro φ' hle hn hnew hgen;refine h.upd nm blk' (some cb) (below_setRow h.below f1 c') hx hle (λb hb' hne=>setRow_other w cb b c' (λe=>hne (by rw[e]))) (λb x cb' sz hne hbx hbl e=>?_) (λb g x hxx=>?_) (λ_ hu=>hu) (h.used _ _ _ hp) ?_ hgen (λb x cb' sz sz' hne hbx g1 g2=>?_);.cases e;exact hne (h.inj b nm x blk cb _ _ hbx hb hbl hp)
  .rcases hnew b g x hxx with g1|⟨g1,g2,g3⟩;.exact .inl g1
   .exact .inr ⟨g1,g2,λc hc=>by rw[setRow_size];exact g3 c hc⟩
  .refine⟨some cb,by rw[hn,hsz],hl,f1,λ_=>hF,⟨c',el,_,setRow_heap w cb c c' el _ hcb,⟨λ_=>rfl,λt ht=>g2 t (hty t ht)⟩,hfit⟩,?_⟩;rw[ERel_flat,CRel_iff];exact⟨us,VRels.mono hx (λ_ h=>h) (blk'.emb_mono hle) _ _ hus,hrw,h1⟩
  .rw[hn]at g2;cases g2;exact hne (h.inj b nm x blk cb _ _ hbx hb g1 hp)
 rcases hgg with hg|hg;.refine⟨φ,Emb.sle_refl φ,by rw[hg];exact hp,hx,key φ (Emb.le_refl φ) (by rw[hg];exact hp) (λ_ _ _ h=>.inl h) (λg hg'=>h.gen nm blk hb g (by omega))⟩
 .have hno:φ.blk nm (blk.g+1)=none:=h.gen nm blk hb _ (by omega);refine⟨φ.add nm (blk.g+1) (some cb,blk.sz),φ.sle_add _ _ _ hno,by rw[hg];exact φ.add_same _ _ _,hx,key _ (φ.le_add _ _ _ hno) (by rw[hg];exact φ.add_same _ _ _) (λb g x hxx=>?_) (λg hg'=>?_)⟩
  .rcases φ.add_cases _ _ _ hxx with g1|⟨g1,g2,g3⟩;.exact .inl g1
   .exact .inr ⟨g1,by rw[g2,hg],λc hc=>by rw[g3]at hc;cases hc;exact h.inb _ _ _ _ hp⟩
  .simp only[Emb.add];rw[if_neg (by omega)];exact h.gen nm blk hb g (by omega)
theorem HRel.renew[Adr]{w0 w:World}{F:Nat->Prop}{φ:Emb}{U:Nat->Prop}{η:Heap}(h:HRel w0 w F φ U η){nm:Nat}{blk blk':ABlk}{c':Array Value}{el:TypeId}{us:List Value}(hb:η nm=some blk)(hgg:blk'.g=blk.g+1)(hl:∀e∈blk'.es,e.length=blk'.sz)(hus:VRels w F (blk'.emb φ) blk'.es.flatten us)(h1:∀v∈us,v.oneCell'=true)(hrow:∀(k:Nat)(v:Value),us[k]?=some v->c'[k]?=some v)(hty:∀t,blk'.ty=some t->el=t:=by intro _ h;cases h):let φ':=φ.add nm (blk.g+1) (some w.heap.size,blk'.sz);φ.sle φ'/\Ext F w (w.alloc (.cells c' el))/\HRel w0 (w.alloc (.cells c' el)) F φ' U (fupd η nm (some blk')):=by
 intro φ';have hno:φ.blk nm (blk.g+1)=none:=h.gen nm blk hb _ (by omega);have hle:φ.sle φ':=φ.sle_add _ _ _ hno;have hx:Ext F w (w.alloc (.cells c' el)):=ext_alloc h.fb _;have hsz:=h.below.size;obtain⟨pl,e1,e2,e3⟩:=h.blk nm blk hb
 have hfit:blk'.es.length*blk'.sz<=c'.size:=by
  have :=hus.length;rw[flatten_len _ _ hl]at this;rw[this];by_cases hz:us.length=0;.omega
  .have :us[us.length-1]?=some us[us.length-1]:=List.getElem?_eq_getElem (by omega);have :=hrow _ _ this;have :=(Array.getElem?_eq_some_iff.1 this).1;omega
 refine⟨hle,hx,h.upd nm blk' none (h.below.alloc hsz _) hx hle (λb hb _=>heap_alloc_old _ _ _ hb) (λ_ _ _ _ _ _ _=>by simp) (λb g x hxx=>?_) (λ_ hu=>hu) (h.used _ _ _ e1) ?_ (λg hg'=>?_) (λb x cb' sz sz' hne hbx g1 g2=>?_)⟩
 .rcases φ.add_cases _ _ _ hxx with g1|⟨g1,g2,g3⟩;.exact .inl g1
  .exact .inr ⟨g1,by rw[g2,hgg],λc hc=>by rw[g3]at hc;cases hc;simp⟩
 .refine⟨some w.heap.size,by rw[hgg];exact φ.add_same _ _ _,hl,hsz,λ_ hF=>absurd (h.fb _ hF) (Nat.lt_irrefl _),⟨c',el,_,heap_alloc_new _ _,⟨λ_=>rfl,hty⟩,hfit⟩,?_⟩;rw[ERel_flat,CRel_iff];exact⟨us,VRels.mono hx (λ_ h=>h) (blk'.emb_mono hle) _ _ hus,row_alloc w c' el _ us hrow,h1⟩
 .show(φ.add _ _ _).blk _ _=_;simp only[Emb.add];rw[if_neg (by omega)];exact h.gen nm blk hb g (by omega)
 .rw[hgg]at g2;change(φ.add nm (blk.g+1) (some w.heap.size,blk'.sz)).blk nm (blk.g+1)=_ at g2;rw[φ.add_same]at g2;cases g2;exact absurd (h.inb _ _ _ _ g1) (Nat.lt_irrefl _)
end Go.AM
end
