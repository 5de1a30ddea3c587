/- Texts of the proof, joined by program. -/
import Derived.Test.YtaeifdlkolfdjaaGreatDoorKAmL
import Derived.RangeFuncCalls
import Derived.TacticsIn
section
set_option linter.unusedSimpArgs false
set_option linter.unusedVariables false
namespace Go.AM
open Go Go.RowKit
mutual
theorem flatR_rel[Adr]{w:World}{F G:Nat->Prop}{φ:Emb}:∀(a:AV)(v:Value),a.flatR=true->VRel w F φ a v->VRel w G φ a v|a,v=>by cases a with|pp cs=>intro h;simp[AV.flatR]at h|yld l=>intro h;simp[AV.flatR]at h|mp l=>intro h;simp[AV.flatR]at h|itr l=>intro h;simp[AV.flatR]at h|psl sz es=>intro h;simp[AV.flatR]at h|psx sz es=>intro h;simp[AV.flatR]at h|fn f x c=>intro h hr;simp only[AV.flatR,Bool.and_eq_true]at h;simp only[VRel]at hr⊢;obtain⟨fs,cs,h1,h2,h3⟩:=hr;exact⟨fs,cs,h1,flatRs_rel x fs h.1 h2,flatRs_rel c cs h.2 h3⟩|iface t x=>intro h hr;simp only[AV.flatR]at h;simp only[VRel]at hr⊢;obtain⟨y,h1,h2⟩:=hr;exact⟨y,h1,flatR_rel x y h h2⟩|agg cs=>intro h hr;simp only[AV.flatR]at h;simp only[VRel]at hr⊢;obtain⟨y,h1,h2,h3⟩:=hr;exact⟨y,h1,flatRs_rel cs y h h2,h3⟩|tup cs=>intro h hr;simp only[AV.flatR]at h;simp only[VRel]at hr⊢;obtain⟨y,h1,h2⟩:=hr;exact⟨y,h1,flatRs_rel cs y h h2⟩|top=>intro _ _;simp[VRel]|anyb=>intro _ hr;simpa[VRel]using hr|bool b=>intro _ hr;simpa[VRel]using hr|int k n=>intro _ hr;simpa[VRel]using hr|str s=>intro _ hr;simpa[VRel]using hr|nilp=>intro _ hr;simpa[VRel]using hr|ref b g i j=>intro _ hr;simpa[VRel]using hr|sl b g z o l=>intro _ hr;simpa[VRel]using hr|nils=>intro _ hr;simpa[VRel]using hr|nilf=>intro _ hr;simpa[VRel]using hr|nili=>intro _ hr;simpa[VRel]using hr|emp=>intro _ hr;simpa[VRel]using hr|nilm=>intro _ hr;simpa[VRel]using hr|strb n s=>intro _ hr;simpa[VRel]using hr|inty k=>intro _ hr;simpa[VRel]using hr|dl n xs=>intro h;simp[AV.flatR]at h|slk b g z o l c e=>intro _ hr;simpa only[VRel]using hr|gp k o cs=>intro h hr;simp only[AV.flatR,List.isEmpty_iff]at h;subst h;simp only[VRel]at hr⊢;exact⟨hr.1,λe=>absurd rfl e⟩
theorem flatRs_rel[Adr]{w:World}{F G:Nat->Prop}{φ:Emb}:∀(as:List AV)(vs:List Value),AV.flatR.flatRs as=true->VRels w F φ as vs->VRels w G φ as vs|[],vs=>by intro _ h;simpa[VRels]using h|a::as,vs=>by intro h hr;simp only[AV.flatR.flatRs,Bool.and_eq_true]at h;simp only[VRels]at hr⊢;obtain⟨v,vs',h1,h2,h3⟩:=hr;exact⟨v,vs',h1,flatR_rel a v h.1 h2,flatRs_rel as vs' h.2 h3⟩
end
theorem flatC_rel[Adr]{w:World}{F G:Nat->Prop}{φ:Emb}{as:List AV}{b o:Nat}(h:AV.flatR.flatRs as=true)(hr:CRel w F φ as b o):CRel w G φ as b o:=by rw[CRel_iff]at hr⊢;obtain⟨vs,h1,h2,h3⟩:=hr;exact⟨vs,flatRs_rel as vs h h1,h2,h3⟩
theorem flatE_rel[Adr]{w:World}{F G:Nat->Prop}{φ:Emb}{b:Nat}:∀{es:List (List AV)}{o:Nat},es.all AV.flatR.flatRs=true->ERel w F φ es b o->ERel w G φ es b o|[],o,_,_=>by simp[ERel]|e::es,o,h,hr=>by simp only[List.all_cons,Bool.and_eq_true]at h;simp only[ERel]at hr⊢;exact⟨flatC_rel h.1 hr.1,flatE_rel h.2 hr.2⟩
def Shifts(n:Nat)(φ ψ:Emb):Prop:=∀b g x,φ.blk b g=some x->ψ.blk (n+b) g=some x
mutual
theorem shift_rel[Adr]{w:World}{F:Nat->Prop}{φ ψ:Emb}{n:Nat}(hs:Shifts n φ ψ):∀(a:AV)(v:Value),VRel w F φ a v->VRel w F ψ (a.shift n) v
 |a,v=>by
  cases a with
   |yld l=>intro _;simp[AV.shift,VRel]
   |mp l=>intro _;simp[AV.shift,VRel]
   |itr l=>intro _;simp[AV.shift,VRel]
   |fn f x c=>intro hr;simp only[AV.shift,VRel]at hr⊢;obtain⟨fs,cs,h1,h2,h3⟩:=hr;exact⟨fs,cs,h1,shifts_rel hs x fs h2,shifts_rel hs c cs h3⟩
   |iface t x=>intro hr;simp only[AV.shift,VRel]at hr⊢;obtain⟨y,h1,h2⟩:=hr;exact⟨y,h1,shift_rel hs x y h2⟩
   |agg cs=>intro hr;simp only[AV.shift,VRel]at hr⊢;obtain⟨y,h1,h2,h3⟩:=hr;exact⟨y,h1,shifts_rel hs cs y h2,h3⟩
   |tup cs=>intro hr;simp only[AV.shift,VRel]at hr⊢;obtain⟨y,h1,h2⟩:=hr;exact⟨y,h1,shifts_rel hs cs y h2⟩
   |ref b g i j=>intro hr;simp only[AV.shift,VRel]at hr⊢;obtain⟨cb,sz,h1,h2⟩:=hr;exact⟨cb,sz,hs _ _ _ h1,h2⟩
   |sl b g z o l=>
    intro hr;simp only[AV.shift,VRel]at hr⊢;rcases hr with⟨h1,h2⟩|⟨cb,cap,h1,h2⟩;.exact .inl ⟨hs _ _ _ h1,h2⟩
    .exact .inr ⟨cb,cap,hs _ _ _ h1,h2⟩
   |top=>intro _;simp[AV.shift,VRel]
   |anyb=>intro hr;simpa[AV.shift,VRel]using hr
   |bool b=>intro hr;simpa[AV.shift,VRel]using hr
   |int k n=>intro hr;simpa[AV.shift,VRel]using hr
   |str s=>intro hr;simpa[AV.shift,VRel]using hr
   |nilp=>intro hr;simpa[AV.shift,VRel]using hr
   |pp cs=>intro hr;simpa[AV.shift,VRel]using hr
   |psl sz es=>intro hr;simpa[AV.shift,VRel]using hr
   |psx sz es=>intro hr;simpa[AV.shift,VRel]using hr
   |nils=>intro hr;simpa[AV.shift,VRel]using hr
   |nilf=>intro hr;simpa[AV.shift,VRel]using hr
   |nili=>intro hr;simpa[AV.shift,VRel]using hr
   |emp=>intro hr;simpa[AV.shift,VRel]using hr
   |nilm=>intro hr;simpa[AV.shift,VRel]using hr
   |strb n s=>intro hr;simpa[AV.shift,VRel]using hr
   |inty k=>intro hr;simpa[AV.shift,VRel]using hr
   |dl n xs=>intro hr;simpa only[AV.shift,VRel]using hr
   |gp k o cs=>intro hr;simpa only[AV.shift,VRel]using hr
   |slk b g z o l c e=>intro hr;simp only[AV.shift,VRel]at hr⊢;obtain⟨cb,cap,h1,h2⟩:=hr;exact⟨cb,cap,hs _ _ _ h1,h2⟩
theorem shifts_rel[Adr]{w:World}{F:Nat->Prop}{φ ψ:Emb}{n:Nat}(hs:Shifts n φ ψ):∀(as:List AV)(vs:List Value),VRels w F φ as vs->VRels w F ψ (AV.shift.shifts n as) vs|[],vs=>by intro h;simpa[AV.shift.shifts,VRels]using h|a::as,vs=>by intro hr;simp only[AV.shift.shifts,VRels]at hr⊢;obtain⟨v,vs',h1,h2,h3⟩:=hr;exact⟨v,vs',h1,shift_rel hs a v h2,shifts_rel hs as vs' h3⟩
end
theorem shifts_length(n:Nat):∀(as:List AV),(AV.shift.shifts n as).length=as.length|[]=>rfl|a::as=>by simp[AV.shift.shifts,shifts_length n as]
theorem shiftE_rel[Adr]{w:World}{F:Nat->Prop}{φ ψ:Emb}{n b:Nat}(hs:Shifts n φ ψ):∀(es:List (List AV))(o:Nat),ERel w F φ es b o->ERel w F ψ (es.map (AV.shift.shifts n)) b o|[],o,_=>by simp[ERel]|e::es,o,h=>by simp only[List.map_cons,ERel,shifts_length]at h⊢;refine⟨?_,shiftE_rel hs es _ h.2⟩;have :=h.1;rw[CRel_iff]at this⊢;obtain⟨vs,h1,h2,h3⟩:=this;exact⟨vs,shifts_rel hs e vs h1,h2,h3⟩
section
variable{w0 w:World}{F:Nat->Prop}{φ:Emb}{U U':Nat->Prop}{η:Heap}
def Lent(F:Nat->Prop)(φ:Emb)(η:Heap)(rd:List Nat):Nat->Prop:=λb=>F b\/ ∃n,n∈rd/\ ∃blk,η n=some blk/\ ∃sz,φ.blk n blk.g=some (some b,sz)
theorem Lent.mono{rd rd':List Nat}(h:∀x,x∈rd->x∈rd'):∀b,Lent F φ η rd b->Lent F φ η rd' b:=by
 intro b hb;rcases hb with hb|⟨n,hn,r⟩;.exact .inl hb
 .exact .inr ⟨n,h n hn,r⟩
theorem mapE_ok[Adr]{f:List AV->Option (List AV×List Nat)}(hf:∀(vs vs':List AV)(rd:List Nat)(xs:List Value),f vs=some (vs',rd)->VRels w F φ vs xs->VRels w (Lent F φ η rd) Emb.zero vs' xs){b sz:Nat}:∀(es es':List (List AV))(rd:List Nat)(o:Nat),mapE f es=some (es',rd)->(∀e∈es,e.length=sz)->ERel w F φ es b o->ERel w (Lent F φ η rd) Emb.zero es' b o/\(∀e∈es',e.length=sz)/\es'.length=es.length
 |[],es',rd,o,hp,_,_=>by simp[mapE]at hp;obtain⟨rfl,rfl⟩:=hp;simp[ERel]
 |e::es,es',rd,o,hp,hl,hr=>by
  simp only[mapE]at hp;split at hp
  .rename_i e' r es'' r' h1 h2;cases hp;simp only[ERel]at hr⊢;obtain⟨i1,i2,i3⟩:=mapE_ok hf es es'' r' (o+e.length) h2 (λx hx=>hl x (by simp[hx])) hr.2;have hc:=hr.1;rw[CRel_iff]at hc;obtain⟨vs,c1,c2,c3⟩:=hc;have q:=hf _ _ _ _ h1 c1;have hlen:e'.length=e.length:=by have l1:=((VRels_iff _ _).1 q).1;have l2:=((VRels_iff _ _).1 c1).1;omega
   refine⟨⟨?_,?_⟩,?_,by simp[i3]⟩;.rw[CRel_iff];exact⟨vs,VRels.mono (Ext0.refl _ w) (Lent.mono (λ_ hm=>List.mem_append_left _ hm)) (Emb.le_refl _) _ _ q,c2,c3⟩
   .rw[hlen];exact ERel.mono (Ext0.refl _ w) (Lent.mono (λ_ hm=>List.mem_append_right _ hm)) (Emb.le_refl _) _ _ _ rfl i1
   .intro x hx;rcases List.mem_cons.1 hx with q|q;.rw[q,hlen];exact hl e (by simp)
    .exact i2 x q
  .cases hp
mutual
theorem pur_ok[Adr](h:HRel w0 w F φ U η):∀(d:Nat)(v v':AV)(rd:List Nat)(x:Value),pur η d v=some (v',rd)->VRel w F φ v x->VRel w (Lent F φ η rd) Emb.zero v' x
 |0,v,v',rd,x=>by intro hp;simp[pur]at hp
 |d+1,v,v',rd,x=>by
  intro hp hx;have hF:∀rd' b,F b->Lent F φ η rd' b:=λ_ b hb=>.inl hb;have same:∀(u:AV),u.isP=true->VRel w F φ u x->VRel w (Lent F φ η []) Emb.zero u x:=λu hu hr=>VRel.mono (Ext0.refl F w) (hF []) (Emb.le_refl _) _ _ (isP_rel u x hu hr);unfold pur at hp;split at hp
  .rename_i b g i j;split at hp
   .rename_i e blk he hb;split at hp;.cases hp
    .rename_i hj;obtain⟨blk',cb,k1,k2,k3,k4,k5,k6⟩:=h.elem he;rw[hb]at k1;cases k1;simp only[VRel]at hx;obtain⟨cb',sz',g1,rfl⟩:=hx;rw[k4]at g1;cases g1;have hlent:∀rd',b∈rd'->Lent F φ η rd' cb:=λrd' hm=>.inr ⟨b,hm,blk,hb,blk.sz,by rw[k2];exact k4⟩;have hc:=CRel_drop _ _ j k6 (by omega);split at hp;.rename_i hpu;cases hp;simp only[VRel];refine⟨cb,_,rfl,hlent _ (by simp),?_⟩;rw[ABlk.emb,if_pos hpu]at hc;exact CRel.mono (Ext0.refl F w) (hF _) (Emb.le_refl _) _ _ _ rfl hc
     .rename_i hpu;split at hp;.rename_i cs rd' hps;cases hp;simp only[VRel];refine⟨cb,_,rfl,hlent _ (by simp),?_⟩;rw[ABlk.emb,if_neg hpu,CRel_iff]at hc;obtain⟨vs,c1,c2,c3⟩:=hc;have :=purs_ok h d _ _ _ vs hps c1;rw[CRel_iff];exact⟨vs,VRels.mono (Ext0.refl _ w) (Lent.mono (λ_ hm=>List.mem_cons_of_mem _ hm)) (Emb.le_refl _) _ _ this,c2,c3⟩
      .cases hp
   .cases hp
  .rename_i b g z off len;split at hp
   .rename_i blk hb;split at hp
    .rename_i hcond;obtain⟨rfl,rfl,c2⟩:=hcond;have hlen:((blk.es.drop off).take len).length=len:=by simp;omega
     obtain⟨pl,p1,p2,p3⟩:=h.blk b blk hb;split at hp
     .rename_i c3;cases hp;simp only[VRel]at hx⊢;rcases hx with⟨_,_,rfl,a0,rfl⟩|⟨cb,cap,h1,rfl,h3,-⟩;.exact⟨a0,0,by simp,by simp,by simp,by simp⟩
      .rw[h1]at p1;cases p1;refine⟨_,cap,by rw[hlen],by rw[hlen];exact h3,λe he=>p2 e (List.mem_of_mem_drop (List.mem_of_mem_take he)),λ_=>⟨cb,off*blk.sz,rfl,.inr ⟨b,by simp,blk,hb,blk.sz,h1⟩,?_⟩⟩;obtain⟨-,-,-,p4⟩:=p3;rw[ABlk.emb,if_pos c3]at p4;have :=ERel_take _ _ len (ERel_drop blk.es 0 off p2 p4 (by omega));rw[Nat.zero_add]at this;exact ERel.mono (Ext0.refl F w) (hF _) (Emb.le_refl _) _ _ _ rfl this
     .rename_i c3;split at hp
      .rename_i es' rd' hm;cases hp;simp only[VRel]at hx⊢;have hsz:∀e∈(blk.es.drop off).take len,e.length=blk.sz:=λe he=>p2 e (List.mem_of_mem_drop (List.mem_of_mem_take he));rcases hx with⟨_,_,rfl,a0,rfl⟩|⟨cb,cap,h1,rfl,h3,-⟩;.simp only[List.take_zero,mapE,Option.some.injEq,Prod.mk.injEq]at hm;obtain⟨rfl,rfl⟩:=hm;exact⟨a0,0,by simp,by simp,by simp,by simp⟩
       .rw[h1]at p1;cases p1;obtain⟨-,-,-,p4⟩:=p3;rw[ABlk.emb,if_neg c3]at p4;have :=ERel_take _ _ len (ERel_drop blk.es 0 off p2 p4 (by omega));rw[Nat.zero_add]at this;obtain⟨m1,m2,m3⟩:=mapE_ok (λvs vs' rd xs=>purs_ok h d vs vs' rd xs) _ _ _ _ hm hsz this;refine⟨_,cap,by rw[m3,hlen],by rw[m3,hlen];exact h3,m2,λ_=>⟨cb,off*blk.sz,rfl,.inr ⟨b,by simp,blk,hb,blk.sz,h1⟩,?_⟩⟩;exact ERel.mono (Ext0.refl _ w) (Lent.mono (λ_ hm=>List.mem_cons_of_mem _ hm)) (Emb.le_refl _) _ _ _ rfl m1
      .cases hp
    .cases hp
   .cases hp
  .exact pur_ok h d _ _ _ _ hp (slk_sl hx)
  .rename_i f a c;split at hp;.rename_i a' r c' r' h1 h2;cases hp;simp only[VRel]at hx⊢;obtain⟨fs,cs,rfl,k1,k2⟩:=hx;exact⟨fs,cs,rfl,VRels.mono (Ext0.refl _ w) (Lent.mono (λ_ hm=>List.mem_append_left _ hm)) (Emb.le_refl _) _ _ (purs_ok h d _ _ _ _ h1 k1),VRels.mono (Ext0.refl _ w) (Lent.mono (λ_ hm=>List.mem_append_right _ hm)) (Emb.le_refl _) _ _ (purs_ok h d _ _ _ _ h2 k2)⟩
   .cases hp
  .rename_i t u;split at hp;.rename_i u' r h1;cases hp;simp only[VRel]at hx⊢;obtain⟨y,rfl,k1⟩:=hx;exact⟨y,rfl,pur_ok h d _ _ _ _ h1 k1⟩
   .cases hp
  .rename_i cs;split at hp;.rename_i u' r h1;cases hp;simp only[VRel]at hx⊢;obtain⟨y,rfl,k1,k2⟩:=hx;exact⟨y,rfl,purs_ok h d _ _ _ _ h1 k1,k2⟩
   .cases hp
  .rename_i cs;split at hp;.rename_i u' r h1;cases hp;simp only[VRel]at hx⊢;obtain⟨y,rfl,k1⟩:=hx;exact⟨y,rfl,purs_ok h d _ _ _ _ h1 k1⟩
   .cases hp
  .cases hp
  .cases hp
  .cases hp
  .cases hp;exact same _ rfl (psx_rel hx)
  .rename_i hn1 hn2 hn3 hn4 hn5 hn6 hn7 hn8 hn9 hn10 hn11;cases hp;refine same v ?_ hx;cases v<;>first|rfl|(exact absurd rfl (hn1 _ _ _ _))|(exact absurd rfl (hn2 _ _ _ _ _))|(exact absurd rfl (hn3 _ _ _ _ _ _ _))|(exact absurd rfl (hn4 _ _ _))|(exact absurd rfl (hn5 _ _))|(exact absurd rfl (hn6 _))|(exact absurd rfl (hn7 _))|(exact absurd rfl (hn8 _))|(exact absurd rfl (hn9 _))|(exact absurd rfl (hn10 _))|(exact absurd rfl (hn11 _ _))
theorem purs_ok[Adr](h:HRel w0 w F φ U η):∀(d:Nat)(vs vs':List AV)(rd:List Nat)(xs:List Value),pur.purs η d vs=some (vs',rd)->VRels w F φ vs xs->VRels w (Lent F φ η rd) Emb.zero vs' xs
 |0,vs,vs',rd,xs=>by intro hp;simp[pur.purs]at hp
 |d+1,[],vs',rd,xs=>by intro hp hx;simp[pur.purs]at hp;obtain⟨rfl,rfl⟩:=hp;simpa[VRels]using hx
 |d+1,v::vs,vs',rd,xs=>by
  intro hp hx;simp only[pur.purs]at hp;split at hp;.rename_i v' r vs'' r' h1 h2;cases hp;simp only[VRels]at hx⊢;obtain⟨y,ys,rfl,k1,k2⟩:=hx;exact⟨y,ys,rfl,VRel.mono (Ext0.refl _ w) (Lent.mono (λ_ hm=>List.mem_append_left _ hm)) (Emb.le_refl _) _ _ (pur_ok h d _ _ _ _ h1 k1),VRels.mono (Ext0.refl _ w) (Lent.mono (λ_ hm=>List.mem_append_right _ hm)) (Emb.le_refl _) _ _ (purs_ok h d _ _ _ _ h2 k2)⟩
  .cases hp
end
def Emb.join(φ:Emb)(nm k:Nat)(ψ:Emb):Emb:={φ with blk:=λb g=>if nm<=b/\b<nm+k then ψ.blk (b-nm) g else φ.blk b g}
theorem apWr_imports(nm:Nat):∀(bs:List ABlk)(m:Nat)(ζ:Heap)(b:Nat),apWr ζ (imports nm m bs) b=if nm+m<=b/\b<nm+m+bs.length then(bs[b-(nm+m)]?).map (ABlk.shift nm)else ζ b
 |[],m,ζ,b=>by simp only[imports,apWr,List.length_nil,Nat.add_zero];rw[if_neg (by omega)]
 |x::bs,m,ζ,b=>by
  simp only[imports,apWr,apWr_imports nm bs (m+1),List.length_cons];by_cases h1:nm+(m+1)<=b/\b<nm+(m+1)+bs.length;.rw[if_pos h1,if_pos (by omega),show b-(nm+m)=(b-(nm+(m+1)))+1 by omega];simp
  .rw[if_neg h1];by_cases h2:b=nm+m;.subst h2;simp[fupd]
   .rw[if_neg (by omega)];simp[fupd,h2]
theorem apWr_freeze(η:Heap):∀(rd:List Nat)(ζ:Heap)(b:Nat),(∀c,ζ c=η c\/ ∃x,η c=some x/\ζ c=some {x with own:=false})->apWr ζ (freezeAll η rd) b=ζ b\/ ∃x,η b=some x/\apWr ζ (freezeAll η rd) b=some {x with own:=false}
 |[],ζ,b,_=>.inl rfl
 |c::rd,ζ,b,h=>by
  simp only[freezeAll];split
  .rename_i x hx;simp only[apWr]
   have h':∀d,fupd ζ c (some {x with own:=false}) d=η d\/ ∃y,η d=some y/\fupd ζ c (some {x with own:=false}) d=some {y with own:=false}:=by
    intro d;by_cases e:d=c;.subst e;exact .inr ⟨x,hx,by simp[fupd]⟩
    .simp only[fupd,e,if_false];exact h d
   rcases apWr_freeze η rd _ b h' with g|g
   .rw[g];by_cases e:b=c;.subst e;exact .inr ⟨x,hx,by simp[fupd]⟩
    .simp only[fupd,e,if_false];exact .inl trivial
   .exact .inr g
  .exact apWr_freeze η rd ζ b h
theorem apWr_frozen(η:Heap):∀(rd:List Nat)(ζ:Heap)(b:Nat)(x:ABlk),b∈rd->η b=some x->(∀c y,η c=some y->ζ c=some y\/ζ c=some {y with own:=false})->apWr ζ (freezeAll η rd) b=some {x with own:=false}
 |[],ζ,b,x,hm,_,_=>by simp at hm
 |c::rd,ζ,b,x,hm,hx,h=>by
  simp only[freezeAll];by_cases hb:b∈rd
  .split
   .rename_i y hy;simp only[apWr];refine apWr_frozen η rd _ b x hb hx λd z hz=>?_;by_cases e:d=c;.subst e;rw[hy]at hz;cases hz;right;simp[fupd]
    .simp only[fupd,e,if_false];exact h d z hz
   .exact apWr_frozen η rd ζ b x hb hx h
  .have e:b=c:=by rcases List.mem_cons.1 hm with e|e;exact e;exact absurd e hb
   subst e;rw[hx];simp only[apWr];rcases apWr_freeze_notin η rd (fupd ζ b (some {x with own:=false})) b hb with g;rw[g];simp[fupd]where
 apWr_freeze_notin(η:Heap):∀(rd:List Nat)(ζ:Heap)(b:Nat),b∉rd->apWr ζ (freezeAll η rd) b=ζ b
  |[],ζ,b,_=>rfl
  |c::rd,ζ,b,h=>by
   simp only[List.mem_cons,not_or]at h;simp only[freezeAll];split;.simp only[apWr];rw[apWr_freeze_notin η rd _ b h.2];simp[fupd,h.1]
   .exact apWr_freeze_notin η rd ζ b h.2
theorem HRel.freeze[Adr](h:HRel w0 w F φ U η)(rd:List Nat):HRel w0 w (Lent F φ η rd) φ U (apWr η (freezeAll η rd)):=by
 have hcase:∀b y,apWr η (freezeAll η rd) b=some y->∃x,η b=some x/\(y=x/\(b∉rd)\/y={x with own:=false}):=by
  intro b y hy;by_cases hm:b∈rd
  .cases hx:η b with
    |none=>
     rcases apWr_freeze η rd η b (λc=>.inl rfl)with g|⟨x,g1,g2⟩;.rw[g,hx]at hy;cases hy
     .rw[hx]at g1;cases g1
    |some x=>have :=apWr_frozen η rd η b x hm hx (λc y hy=>.inl hy);rw[this]at hy;cases hy;exact⟨x,rfl,.inr rfl⟩
  .have :=apWr_frozen.apWr_freeze_notin η rd η b hm;rw[this]at hy;exact⟨y,hy,.inl ⟨rfl,hm⟩⟩
 have hsub:∀b,F b->Lent F φ η rd b:=λb hb=>.inl hb
 have rel:∀b y,apWr η (freezeAll η rd) b=some y->∃x,η b=some x/\y.g=x.g/\y.sz=x.sz/\y.es=x.es/\y.pure=x.pure/\(y.own=true->b∉rd/\x.own=true)/\y.ty=x.ty:=by
  intro b y hy;obtain⟨x,h1,h2|h2⟩:=hcase b y hy;.obtain⟨rfl,h3⟩:=h2;exact⟨y,h1,rfl,rfl,rfl,rfl,λe=>⟨h3,e⟩,rfl⟩
  .subst h2;exact⟨x,h1,rfl,rfl,rfl,rfl,(λe=>by simp at e),rfl⟩
 refine⟨h.below,λb hb=>?_,h.used,h.inb,λb y hy=>?_,λb y hy g hg=>?_,λb b' y y' cb sz sz' hy hy' e1 e2=>?_,λb o hb ho=>?_⟩;rotate_right
 .rcases hb with hb|⟨n,-,blk,hb,sz,e⟩;.exact h.fwk b o hb ho
  .obtain⟨pl,p1,-,p3⟩:=h.blk n blk hb;rw[e]at p1;cases p1;obtain⟨-,-,⟨c,el,fz,q,-⟩,-⟩:=p3;rw[q]at ho;cases ho;rfl
 .rcases hb with hb|⟨n,-,blk,-,sz,e⟩;.exact h.fb b hb
  .exact h.inb _ _ _ _ e
 .obtain⟨x,k1,k2,k3,k4,k5,k6,k7⟩:=rel b y hy;obtain⟨pl,p1,p2,p3⟩:=h.blk b x k1;refine⟨pl,by rw[k2,k3];exact p1,by rw[k4,k3];exact p2,?_⟩
  cases pl with
   |none=>simp only[LRel]at p3⊢;rw[k4];exact p3
   |some cb=>
    obtain⟨f1,f2,f3,f4⟩:=p3;refine⟨f1,λho hl=>?_,by rw[k4,k3];obtain⟨c,el,fz,q1,q2,q3⟩:=f3;exact⟨c,el,fz,q1,⟨λho=>q2.1 (k6 ho).2,λt ht=>q2.2 t (by rw[<-k7];exact ht)⟩,q3⟩,?_⟩
    .obtain⟨q1,q2⟩:=k6 ho;rcases hl with hl|⟨n,hn,blk,hb,sz,e⟩;.exact f2 q2 hl
     .have :=h.inj n b blk x cb _ _ hb k1 e p1;exact q1 (this▸hn)
    .have :y.emb φ=x.emb φ:=by simp[ABlk.emb,k5]
     rw[k4,this];exact ERel.mono (Ext0.refl F w) hsub (Emb.le_refl _) _ _ _ rfl f4
 .obtain⟨x,k1,k2,-⟩:=rel b y hy;exact h.gen b x k1 g (by rw[<-k2];exact hg)
 .obtain⟨x,k1,k2,-⟩:=rel b y hy;obtain⟨x',k1',k2',-⟩:=rel b' y' hy';rw[k2]at e1;rw[k2']at e2;exact h.inj b b' x x' cb sz sz' k1 k1' e1 e2
theorem Below.ext[Adr]{G:Nat->Prop}{w w':World}(h:Below w.heap.size w w')(hG:∀b,G b->b<w.heap.size):Ext G w w':=⟨⟨h.size,λb hb=>h.block b (hG b hb),λb x hx=>by rw[shape_of_heap (h.block b (shape_lt hx))];exact hx⟩,λb o ho _=>by rw[h.block b (Array.getElem?_eq_some_iff.1 ho).1];exact ho⟩
theorem HRel.join[Adr]{w':World}{G G':Nat->Prop}{ζ:Heap}{φc:Emb}{nm:Nat}{blks:List ABlk}(h:HRel w0 w G φ U ζ)(hc:HRel w w' G' φc (λb=>b<blks.length) (λb=>blks[b]?)){G'':Nat->Prop}(hGG:∀b,G b->G'' b)(hG'':∀b,G'' b->G' b)(hnew:∀b,G'' b->G b\/w.heap.size<=b)(hq:∀blk,blk∈blks->∀ψ b o,ERel w' G' ψ blk.es b o->ERel w' G'' ψ blk.es b o)(hfresh:∀m,m<blks.length->¬U (nm+m))(hU:∀b,U b->U' b)(hUn:∀m,m<blks.length->U' (nm+m)):HRel w0 w' G'' (φ.join nm blks.length φc) U' (apWr ζ (imports nm 0 blks))/\φ.sle (φ.join nm blks.length φc)/\Shifts nm φc (φ.join nm blks.length φc):=by
 have hno:∀b g,nm<=b/\b<nm+blks.length->φ.blk b g=none:=by intro b g hb;cases e:φ.blk b g with|none=>rfl|some x=>have :=h.used _ _ _ e;rw[show b=nm+(b-nm)by omega]at this;exact absurd this (hfresh _ (by omega))
 have hle:φ.sle (φ.join nm blks.length φc):=by
  refine⟨⟨λb g x hx=>?_,λ_ _ h=>h⟩,rfl⟩;simp only[Emb.join];split;.rename_i hb;rw[hno b g hb]at hx;cases hx
  .exact hx
 have hsh:Shifts nm φc (φ.join nm blks.length φc):=by intro b g x hx;have hb:=hc.used _ _ _ hx;simp only[Emb.join];rw[if_pos (by omega),Nat.add_sub_cancel_left];exact hx
 have hbel:=hc.below;have hx:Ext G w w':=Below.ext hbel h.fb;have hsz:=h.below.size
 have get:∀b y,apWr ζ (imports nm 0 blks) b=some y->(¬(nm<=b/\b<nm+blks.length)/\ζ b=some y)\/(nm<=b/\b<nm+blks.length/\ ∃x,blks[b-nm]?=some x/\y=x.shift nm):=by
  intro b y hy;rw[apWr_imports]at hy;simp only[Nat.add_zero]at hy;split at hy;.rename_i hb;simp only[Option.map_eq_some_iff]at hy;obtain⟨x,k1,rfl⟩:=hy;exact .inr ⟨hb.1,hb.2,x,k1,rfl⟩
  .rename_i hb;exact .inl ⟨hb,hy⟩
 have jold:∀b g,¬(nm<=b/\b<nm+blks.length)->(φ.join nm blks.length φc).blk b g=φ.blk b g:=λb g hb=>by simp only[Emb.join];rw[if_neg hb]
 have jnew:∀b g,(nm<=b/\b<nm+blks.length)->(φ.join nm blks.length φc).blk b g=φc.blk (b-nm) g:=λb g hb=>by simp only[Emb.join];rw[if_pos hb]
 have sg:∀x:ABlk,(x.shift nm).g=x.g/\(x.shift nm).sz=x.sz/\(x.shift nm).own=x.own/\(x.shift nm).pure=x.pure/\(x.shift nm).es.length=x.es.length/\(x.shift nm).ty=x.ty:=by intro x;unfold ABlk.shift;split<;>simp
 refine⟨⟨h.below.trans (hbel.mono hsz),λb hb=>?_,λb g x hxx=>?_,λb g cb sz hxx=>?_,λb y hy=>?_,λb y hy g hg=>?_,λb b' y y' cb sz sz' hy hy' e1 e2=>?_,λb o hb ho=>hc.fwk b o (hG'' b hb) ho⟩,hle,hsh⟩;.exact hc.fb b (hG'' b hb)
 .by_cases hb:nm<=b/\b<nm+blks.length;.rw[show b=nm+(b-nm)by omega];exact hUn _ (by omega)
  .rw[jold b g hb]at hxx;exact hU b (h.used _ _ _ hxx)
 .by_cases hb:nm<=b/\b<nm+blks.length;.rw[jnew b g hb]at hxx;exact hc.inb _ _ _ _ hxx
  .rw[jold b g hb]at hxx;exact Nat.lt_of_lt_of_le (h.inb _ _ _ _ hxx) hbel.size
 .rcases get b y hy with⟨hb,k⟩|⟨hb1,hb2,x,k,rfl⟩
  .obtain⟨pl,p1,p2,p3⟩:=h.blk b y k;refine⟨pl,by rw[jold b _ hb];exact p1,p2,?_⟩
   cases pl with
    |none=>exact p3
    |some cb=>
     have hcb:=h.inb _ _ _ _ p1;obtain⟨f1,f2,⟨c,el,fz,f3,f4⟩,f5⟩:=p3;refine⟨f1,λho hg=>?_,⟨c,el,fz,(hbel.block cb hcb).trans f3,f4⟩,ERel.mono hx hGG (y.emb_mono hle) _ _ _ (hbel.block cb hcb) f5⟩;rcases hnew cb hg with q|q;.exact f2 ho q
     .omega
  .obtain⟨pl,p1,p2,p3⟩:=hc.blk (b-nm) x k;obtain⟨s1,s2,s3,s4,s5,s6⟩:=sg x;refine⟨pl,by rw[jnew b _ ⟨hb1,hb2⟩,s1,s2];exact p1,?_,?_⟩
   .intro e he;rw[s2];unfold ABlk.shift at he;split at he;.exact p2 e he
    .simp only[List.mem_map]at he;obtain⟨e',he',rfl⟩:=he;rw[shifts_length];exact p2 e' he'
   .cases pl with
     |none=>simp only[LRel]at p3⊢;exact List.eq_nil_of_length_eq_zero (by rw[s5,p3];rfl)
     |some cb=>
      obtain⟨f1,f2,f3,f4⟩:=p3;refine⟨Nat.le_trans hsz f1,λho hg=>f2 (by rw[<-s3];exact ho) (hG'' cb hg),by rw[s5,s2];obtain⟨c,el,fz,q1,q2,q3⟩:=f3;exact⟨c,el,fz,q1,⟨λho=>q2.1 (by rw[<-s3];exact ho),λt ht=>q2.2 t (by rw[<-s6];exact ht)⟩,q3⟩,?_⟩;have f5:=hq x (List.mem_of_getElem? k) _ _ _ f4;unfold ABlk.shift ABlk.emb;by_cases hp:x.pure=true;.rw[if_pos hp,if_pos hp];rw[ABlk.emb,if_pos hp]at f5;exact f5
      .rw[if_neg hp];simp only[hp,Bool.false_eq_true,if_false];rw[ABlk.emb,if_neg hp]at f5;exact shiftE_rel hsh x.es 0 f5
 .rcases get b y hy with⟨hb,k⟩|⟨hb1,hb2,x,k,rfl⟩;.rw[jold b g hb];exact h.gen b y k g hg
  .rw[jnew b g ⟨hb1,hb2⟩];exact hc.gen _ x k g (by rw[(sg x).1]at hg;exact hg)
 .rcases get b y hy with⟨hb,k⟩|⟨hb1,hb2,x,k,rfl⟩
  .rw[jold b _ hb]at e1;rcases get b' y' hy' with⟨hb',k'⟩|⟨hb1',hb2',x',k',rfl⟩;.rw[jold b' _ hb']at e2;exact h.inj b b' y y' cb sz sz' k k' e1 e2
   .rw[jnew b' _ ⟨hb1',hb2'⟩]at e2;obtain⟨pl,p1,p2,p3⟩:=hc.blk (b'-nm) x' k';rw[(sg x').1,p1]at e2;cases e2;have :=h.inb _ _ _ _ e1;have :=p3.1;omega
  .rw[jnew b _ ⟨hb1,hb2⟩]at e1;rcases get b' y' hy' with⟨hb',k'⟩|⟨hb1',hb2',x',k',rfl⟩;.rw[jold b' _ hb']at e2;obtain⟨pl,p1,p2,p3⟩:=hc.blk (b-nm) x k;rw[(sg x).1,p1]at e1;cases e1;have :=h.inb _ _ _ _ e2;have :=p3.1;omega
   .rw[jnew b' _ ⟨hb1',hb2'⟩]at e2;rw[(sg x).1]at e1;rw[(sg x').1]at e2;have :=hc.inj (b-nm) (b'-nm) x x' cb sz sz' k k' e1 e2;omega
def Ent(P:Program)(f:FuncId):Prop:=∀(args:Array Value)(w:World),(callFunc f args).run P w=.ok (.enter f args) w
def FOk(F:Nat->Prop)(w:World):Prop:=∀b,F b->b<w.heap.size/\ ∀o,w.heap[b]?=some o->isRec o=false
def PCall[Adr](P:Program)(f:FuncId)(args:List AV)(r:AV)(blks:List ABlk):Prop:=Ent P f/\ ∀(w:World)(F:Nat->Prop)(vs:List Value),FOk F w->GOk w F->VRels w F Emb.zero args vs->Calls P f ⟨vs⟩ w λe w'=>∃v φ' F',e=.returned v/\(∀b,F b->F' b)/\(∀b,F' b->F b\/w.heap.size<=b)/\HRel w w' F' φ' (λb=>b<blks.length) (λb=>blks[b]?)/\VRel w' F' φ' r v
def Obl.holds[Adr](P:Program)(o:Obl):Prop:=PCall P o.f o.args o.r o.blks
theorem call_ok[Adr]{P:Program}(h:HRel w0 w F φ U η)(hgl:GOk w F){f:AV}{args:List AV}{ans:AV×List ABlk}{e:Eff}{ob:Obl}{nm:Nat}{vf:Value}{vargs:List Value}(hs:semCall η nm f args ans=some (e,ob))(hf:VRel w F φ f vf)(ha:VRels w F φ args vargs)(hpc:ob.holds P)(hfresh:∀m,m<8->¬U (nm+m))(hU:∀b,U b->U' b)(hUn:∀m,m<8->U' (nm+m)):∃fid fs cs,vf=.func (.func fid) ⟨fs⟩ ⟨cs⟩/\Ent P fid/\Calls P fid ⟨fs++vargs++cs⟩ w λen w'=>∃x φ' F',en=.returned x/\φ.sle φ'/\(∀b,F b->F' b)/\(∀b,F' b->F b\/w0.heap.size<=b)/\Ext F w w'/\HRel w0 w' F' φ' U' (apWr η e.wr)/\VRel w' F' φ' e.v x:=by
 unfold semCall at hs;split at hs
 .rename_i fid first cap;simp only[VRel]at hf;obtain⟨fs,cs,rfl,h1,h2⟩:=hf;split at hs
  .rename_i pargs rd hp;split at hs
   .rename_i h8;simp only[Option.some.injEq,Prod.mk.injEq]at hs;obtain⟨rfl,rfl⟩:=hs;obtain⟨hent,hcall⟩:=hpc;refine⟨fid,fs,cs,rfl,hent,?_⟩;have hargs:=purs_ok h 60 _ _ _ _ hp ((h1.append ha).append h2);have hfb:FOk (Lent F φ η rd) w:=λb hb=>⟨(h.freeze rd).fb b hb,λo ho=>(h.freeze rd).fwk b o hb ho⟩;refine(hcall w (Lent F φ η rd) _ hfb (hgl.mono (Ext0.refl F w) λb hb=>.inl hb) hargs).mono ?_;rintro en w' ⟨v,φc,F',rfl,k1,k2,k3,k4⟩;change HRel w w' F' φc (λb=>b<ans.2.length) (λb=>ans.2[b]?)at k3;have hbel:=k3.below
    have lentNew:∀b,Lent F φ η rd b->F b\/w0.heap.size<=b:=by
     intro b hb;rcases hb with hb|⟨n,-,blk,hb,sz,e⟩;.exact .inl hb
     .obtain⟨pl,p1,-,p3⟩:=h.blk n blk hb;rw[e]at p1;cases p1;exact .inr p3.1
    have hw:=h.below.size;by_cases hfl:(rd.isEmpty||(ans.1.flatR&&ans.2.all ABlk.flat))=true
    .by_cases hemp:rd=[]
     .subst hemp;have hL:∀b,Lent F φ η [] b->F b:=λb hb=>by rcases hb with hb|⟨n,hn,_⟩;exact hb;simp at hn
      obtain⟨j1,j2,j3⟩:=h.join (U':=U') (nm:=nm) k3 (G'':=F') (λb hb=>k1 b (.inl hb)) (λ_ h=>h) (λb hb=>by
       rcases k2 b hb with q|q;.exact .inl (hL b q)
       .exact .inr q) (λ_ _ _ _ _ h=>h) (λm hm=>hfresh m (by omega)) hU (λm hm=>hUn m (by omega));refine⟨v,_,F',rfl,j2,λb hb=>k1 b (.inl hb),λb hb=>?_,Below.ext hbel h.fb,by simpa using j1,shift_rel j3 _ _ k4⟩;rcases k2 b hb with q|q;.exact .inl (hL b q)
      .exact .inr (by omega)
     .have hflat:ans.1.flatR=true/\ans.2.all ABlk.flat=true:=by
       rw[Bool.or_eq_true,List.isEmpty_iff,Bool.and_eq_true]at hfl;rcases hfl with q|q;.exact absurd q hemp
       .exact q
      obtain⟨j1,j2,j3⟩:=h.join (U':=U') (nm:=nm) k3 (G'':=F) (λ_ h=>h) (λb hb=>k1 b (.inl hb)) (λb hb=>.inl hb) (λblk hb ψ b o he=>flatE_rel (by have :=List.all_eq_true.1 hflat.2 blk hb;exact this) he) (λm hm=>hfresh m (by omega)) hU (λm hm=>hUn m (by omega));refine⟨v,_,F,rfl,j2,λ_ h=>h,λb hb=>.inl hb,Below.ext hbel h.fb,by simp only[hfl,if_true,List.nil_append];exact j1,shift_rel j3 _ _ (flatR_rel _ _ hflat.1 k4)⟩
    .obtain⟨j1,j2,j3⟩:=(h.freeze rd).join (U':=U') (nm:=nm) k3 (G'':=F') k1 (λ_ h=>h) k2 (λ_ _ _ _ _ h=>h) (λm hm=>hfresh m (by omega)) hU (λm hm=>hUn m (by omega));refine⟨v,_,F',rfl,j2,λb hb=>k1 b (.inl hb),λb hb=>?_,Below.ext hbel h.fb,?_,shift_rel j3 _ _ k4⟩
     .rcases k2 b hb with q|q;.exact lentNew b q
      .exact .inr (by omega)
     .simp only[hfl,Bool.false_eq_true,if_false];have :∀(l1 l2:List (Nat×ABlk))(ζ:Heap),apWr ζ (l1++l2)=apWr (apWr ζ l1) l2:=by intro l1;induction l1 with|nil=>intro l2 ζ;rfl|cons p l1 ih=>intro l2 ζ;obtain⟨b,x⟩:=p;simp only[List.cons_append,apWr,ih]
      rw[this];exact j1
   .cases hs
  .cases hs
 .cases hs
end
end Go.AM
end
section
set_option linter.unusedSimpArgs false
set_option linter.unusedVariables false
namespace Go.AM
open Go Go.RowKit
variable{ε:Bool}
structure TRel[Adr](w:World)(F:Nat->Prop)(φ:Emb)(τ:Nat->AV)(nt:Nat)(tmps:Array Value):Prop where
 size:tmps.size=nt
 val:∀t,VRel w F φ (τ t) (tmps.getD t undef)
 glob:GOk w F
structure Grow(w0 w:World)(F:Nat->Prop)(φ:Emb)(w':World)(F':Nat->Prop)(φ':Emb):Prop where
 sle:φ.sle φ'
 sub:∀b,F b->F' b
 new:∀b,F' b->F b\/w0.heap.size<=b
 ext:Ext F w w'
theorem Grow.le{w0 w:World}{F:Nat->Prop}{φ:Emb}{w':World}{F':Nat->Prop}{φ':Emb}(g:Grow w0 w F φ w' F' φ'):φ.le φ':=g.sle.le
theorem Grow.refl[Adr](w0 w:World)(F:Nat->Prop)(φ:Emb):Grow w0 w F φ w F φ:=⟨Emb.sle_refl φ,λ_ h=>h,λ_ h=>.inl h,Ext.refl F w⟩
theorem Grow.trans[Adr]{w0 w w1 w2:World}{F F1 F2:Nat->Prop}{φ φ1 φ2:Emb}(h:Grow w0 w F φ w1 F1 φ1)(k:Grow w0 w1 F1 φ1 w2 F2 φ2):Grow w0 w F φ w2 F2 φ2:=⟨Emb.sle_trans h.sle k.sle,λb hb=>k.sub b (h.sub b hb),λb hb=>by
 rcases k.new b hb with q|q;.exact h.new b q
 .exact .inr q,h.ext.trans k.ext h.sub⟩
theorem TRel.mono[Adr]{w0 w w':World}{F F':Nat->Prop}{φ φ':Emb}{τ:Nat->AV}{nt:Nat}{tmps:Array Value}(h:TRel w F φ τ nt tmps)(g:Grow w0 w F φ w' F' φ'):TRel w' F' φ' τ nt tmps:=⟨h.size,λt=>VRel.mono g.ext g.sub g.le _ _ (h.val t),h.glob.mono g.ext g.sub⟩
theorem TRel.put[Adr]{w:World}{F:Nat->Prop}{φ:Emb}{τ:Nat->AV}{nt:Nat}{a:Act}(h:TRel w F φ τ nt a.tmps){d:Option Nat}{v:AV}{x:Value}(hd:∀t,d=some t->t<nt)(hv:VRel w F φ v x):TRel w F φ (putT τ d v) nt (a.put d x).tmps:=by
 unfold putT
 cases d with
  |none=>exact h
  |some t=>
   have ht:=hd t rfl;refine⟨by simp[Act.put,h.size],λs=>?_,h.glob⟩;simp only[Act.put,fupd];by_cases e:s=t
   .subst e;rw[if_pos rfl];have :(a.tmps.setIfInBounds s x).getD s undef=x:=by rw[Array.getD_eq_getD_getElem?];simp[h.size,ht]
    rw[this];exact hv
   .rw[if_neg e];have :(a.tmps.setIfInBounds t x).getD s undef=a.tmps.getD s undef:=by rw[Array.getD_eq_getD_getElem?,Array.getD_eq_getD_getElem?,Array.getElem?_setIfInBounds_ne (λh=>e h.symm)]
    rw[this];exact h.val s
theorem avZ_getD_rel[Adr](v:Value)(w:World)(F:Nat->Prop)(φ:Emb):VRel w F φ ((avZ v).getD .top) v:=by cases e:avZ v with|none=>simp[VRel]|some a=>exact(avZ_rel e w F φ).1
theorem avC_rel[Adr](v:Value)(w:World)(F:Nat->Prop)(φ:Emb):VRel w F φ (avC v) v:=by
 unfold avC;split;.simp[VRel]
 .exact avZ_getD_rel _ w F φ
theorem eval_rel[Adr]{w:World}{F:Nat->Prop}{φ:Emb}{τ:Nat->AV}{nt:Nat}{a:Act}(h:TRel w F φ τ nt a.tmps):∀x,VRel w F φ (evalO τ x) (a.eval x)|.tmp t=>h.val t|.const v=>avC_rel v w F φ|.global g=>VRel.mono (Ext0.refl F w) (λ_ h=>h) (Emb.zero_le φ) _ _ (h.glob g)|.func f=>by simp only[evalO,VRel,Act.eval];exact⟨[],[],rfl,by simp[VRels],by simp[VRels]⟩
def fen(r:Option Nat):Fence:={Fence.wide with round:=r}
theorem calls_fen{P:Program}{f:FuncId}{args:Array Value}{w:World}{R:Ending->World->Prop}(h:Calls P f args w R)(r:Option Nat)(n:Nat):CallsIn (fen r) n P f args w R:=by cases r with|none=>exact callsIn_wide.2 h|some l=>exact CallsIn.inRound l (callsIn_wide.2 h)
theorem opSem_noDefer{P:Program}{op:Op}{ρ:Operand->AV}{η:Heap}{nm:Nat}{e:Eff}(h:opSem P op ρ η nm=some e):∀c,op≠.defer c:=by intro c hc;subst hc;simp[opSem]at h
section
variable{P:Program}{w0 w:World}{F:Nat->Prop}{φ:Emb}{U U':Nat->Prop}{η:Heap}{τ:Nat->AV}{nt:Nat}{a:Act}{ds:List Deferred}
theorem opSem2_noDefer{P:Program}{op:Op}{ρ:Operand->AV}{η:Heap}{nm:Nat}{e:Eff}(h:opSem2 P op ρ η nm=some e):∀c,op≠.defer c:=by rintro c rfl;simp only[opSem2,reduceCtorEq]at h
theorem opSemE_noDefer[Adr]{P:Program}{ε:Bool}{op:Op}{ρ:Operand->AV}{η:Heap}{nm:Nat}{e:Eff}(h:opSemE ε P op ρ η nm=some e):∀c,op≠.defer c:=by
 cases ε with
  |false=>exact opSem_noDefer h
  |true=>
   simp only[opSemE]at h;split at h;.rename_i e' h2;exact opSem2_noDefer h2
   .split at h;.exact opSem_noDefer h
    .exact opSem_noDefer h
def Goes[Adr](w0 w:World)(F:Nat->Prop)(φ:Emb)(U':Nat->Prop)(η':Heap)(τ':Nat->AV)(nt:Nat)(ds:List Deferred)(K:Act->World->Prop):Prop:=∀a' w' φ' F',HRel w0 w' F' φ' U' η'->TRel w' F' φ' τ' nt a'.tmps->a'.defers=ds->Grow w0 w F φ w' F' φ'->K a' w'
theorem method_ok[Adr]{P:Program}{t:TypeId}{name:String}{f:FuncId}(h:aMethod P t name=some f)(n:Nat)(v:Value)(w:World):(Go.method (n+1) t v name).run P w=.ok (f,v) w:=by
 unfold aMethod at h;split at h
 .rename_i i u hi hu;split at h
  .rename_i m hm;split at h
   .rename_i hp;have hpath:m.path.toList=[]:=by simpa using hp
    unfold Go.method;simp only[Sem.run_bind,run_typeInfo_of hi,Result.andThen_ok,hm,hpath,Go.follow,Sem.run_pure];split at h;.rename_i g hg;cases h;simp only[hg,Go.receiverAt,Sem.run_bind,run_underlying hu,Result.andThen_ok,Go.Place.get,Sem.run_pure]
    .cases h
    .cases h
    .rename_i g hg hne1 hne2;cases h;simp only[hg,Sem.run_bind,Go.receiverAt,run_underlying hu,Result.andThen_ok];simp[Go.Place.get]
    .cases h
   .cases h
  .cases h
 .cases h
theorem runO_ok[Adr](h:HRel w0 w F φ U η)(ht:TRel w F φ τ nt a.tmps)(hd:a.defers=ds){o:Oper}{ans:Option (AV×List ABlk)}{nm:Nat}{gt:List Nat}{se:SE}(hs:runO ε P o ans nm gt τ η=some se)(hob:∀ob,se.ob=some ob->ob.holds P)(hdst:dstOk nt o=true)(hfresh:∀m,m<8->¬U (nm+m))(hU:∀b,U b->U' b)(hUn:∀m,m<8->U' (nm+m))(r:Option Nat)(n:Nat){K:Act->World->Prop}{Q:Exit->Act->World->Prop}(hK:Goes w0 w F φ U' (apH η se) (apT τ se) nt ds K):o.wpIn (fen r) n P a w K Q:=by
 refine⟨λ_ _=>trivial,?_⟩;have hdd:∀t,o.dst=some t->t<nt:=by intro t e;unfold dstOk at hdst;rw[e]at hdst;simpa using hdst
 unfold runO at hs;split at hs
 .rename_i f args hc;split at hs
  .rename_i an;split at hs
   .rename_i e ob hsc;cases hs;have hob':=hob ob rfl;unfold isCall at hc;split at hc
    .rename_i c hop;split at hc
     .rename_i f' hcal;simp only[Option.some.injEq,Prod.mk.injEq]at hc;obtain⟨rfl,rfl⟩:=hc;have hargs:=rels_map (eval_rel ht) c.args.toList;obtain⟨fid,fs,cs,hvf,hent,hcalls⟩:=call_ok h ht.glob hsc (eval_rel ht f') hargs hob' hfresh hU hUn;rw[show(fen r).round=r from rfl,Oper.semAt_eq r _ _ (by rw[hop];intro c;simp)];have hrun:(execOp a.eval o).run P w=.ok (.enter fid ⟨fs++c.args.toList.map a.eval++cs⟩) w:=by unfold execOp;simp only[hop,Sem.run_bind,resolve,hcal,hvf,Deferred.ofValue,Sem.run_pure,Result.andThen_ok,invoke];rw[hent];congr 2;apply Array.ext';simp
      rw[hrun,Oper.uponIn_enter];refine⟨λh=>by simp[fen,Fence.wide]at h,(calls_fen hcalls r _).mono ?_⟩;rintro en w' ⟨x,φ',F',rfl,k1,k2,k3,k4,k5,k6⟩;have g:Grow w0 w F φ w' F' φ':=⟨k1,k2,k3,k4⟩;refine hK _ w' φ' F' k5 ?_ ?_ g;.exact(ht.mono g).put hdd k6
      .cases o.dst<;>exact hd
     .cases hc
    .cases hc
   .cases hs
  .cases hs
 .rename_i hc;split at hs
  .rename_i f args hinv;split at hs
   .rename_i an;split at hs
    .rename_i e ob hsc;cases hs;have hob':=hob ob rfl;unfold isInv at hinv;split at hinv
     .rename_i c hop;split at hinv
      .rename_i rcv name hcal;split at hinv
       .rename_i fid x hrec;simp only[Option.some.injEq,Prod.mk.injEq]at hinv;obtain⟨rfl,rfl⟩:=hinv;unfold recvO at hrec;split at hrec
        .rename_i t x' hev;split at hrec
         .rename_i fm hm;simp only[Option.some.injEq,Prod.mk.injEq]at hrec;obtain⟨rfl,rfl⟩:=hrec;have hrv:=eval_rel ht rcv;rw[hev]at hrv;simp only[VRel]at hrv;obtain⟨y,hy,hxy⟩:=hrv;have hargs:VRels w F φ (x'::c.args.toList.map (evalO τ)) (y::c.args.toList.map a.eval):=by simp only[VRels];exact⟨y,_,rfl,hxy,rels_map (eval_rel ht) c.args.toList⟩
          have hf:VRel w F φ (.fn fm [] []) (.func (.func fm) ⟨[]⟩ ⟨[]⟩):=by simp only[VRel];exact⟨[],[],rfl,by simp[VRels],by simp[VRels]⟩
          obtain⟨fid,fs,cs,hvf,hent,hcalls⟩:=call_ok h ht.glob hsc hf hargs hob' hfresh hU hUn;simp only[Value.func.injEq,Fn.func.injEq,Array.mk.injEq]at hvf;obtain⟨rfl,rfl,rfl⟩:=hvf;rw[show(fen r).round=r from rfl,Oper.semAt_eq r _ _ (by rw[hop];intro c;simp)]
          have hrun:(execOp a.eval o).run P w=.ok (.enter fm ⟨[]++(y::c.args.toList.map a.eval)++[]⟩) w:=by
           unfold execOp;simp only[hop,Sem.run_bind,resolve,hcal,Sem.run_pure,Result.andThen_ok,invoke,hy];have e0:(#[Value.iface t y]++c.args.map a.eval)[0]?=some (.iface t y):=by rw[<-Array.getElem?_toList,Array.toList_append];rfl
           have e1:(#[Value.iface t y]++c.args.map a.eval).extract 1 (#[Value.iface t y]++c.args.map a.eval).size=c.args.map a.eval:=by apply Array.ext';simp[Array.toList_extract];exact List.take_of_length_le (by simp)
           simp only[e0,e1,callMethod,Sem.run_bind,Result.andThen_ok];have hn:∃k,P.types.size+Made.depth=k+1:=Nat.exists_eq_succ_of_ne_zero (by simp[Made.depth]);obtain⟨k,hk⟩:=hn;simp only[run_program,Result.andThen_ok,hk,method_ok hm k y w];rw[hent];congr 2;apply Array.ext';simp
          rw[hrun,Oper.uponIn_enter];refine⟨λh=>by simp[fen,Fence.wide]at h,(calls_fen hcalls r _).mono ?_⟩;rintro en w' ⟨x,φ',F',rfl,k1,k2,k3,k4,k5,k6⟩;have g:Grow w0 w F φ w' F' φ':=⟨k1,k2,k3,k4⟩;refine hK _ w' φ' F' k5 ?_ ?_ g;.exact(ht.mono g).put hdd k6
          .cases o.dst<;>exact hd
         .cases hrec
        .cases hrec
       .cases hinv
      .cases hinv
     .cases hinv
    .cases hs
   .cases hs
  rename_i hinv;split at hs
  .rename_i e hsem;cases hs;obtain⟨w',φ',x,hr,k1,k2,k3,k4⟩:=opSemE_ok h (eval_rel ht) (by have :=hfresh 0 (by omega);simpa using this) hU (by have :=hUn 0 (by omega);simpa using this) hsem;have g:Grow w0 w F φ w' F φ':=⟨k1,λ_ h=>h,λ_ h=>.inl h,k2⟩;rw[show(fen r).round=r from rfl,Oper.semAt_eq r _ _ (opSemE_noDefer hsem)]
   have fin:∀y,y=x->K (a.put o.dst y) w':=by
    rintro y rfl;refine hK _ w' φ' F k3 ?_ ?_ g;.exact(ht.mono g).put hdd k4
    .cases o.dst<;>exact hd
   rcases hr with hr|⟨hr,hx⟩;.rw[hr,Oper.uponIn_value];exact fin x rfl
   .rw[hr,Oper.uponIn_skip];exact fin undef hx.symm
  .cases hs
theorem undef_rel[Adr]:VRel w F φ (.tup []) undef:=by simp only[VRel];exact⟨[],rfl,by simp[VRels]⟩
theorem stepF_ok[Adr](h:HRel w0 w F φ U η)(ht:TRel w F φ τ nt a.tmps)(hd:a.defers=ds){ops:Array Oper}{i:Nat}{o:Oper}(hi:ops[i]?=some o){ans:Option (AV×List ABlk)}{nm:Nat}{se:SE}(hs:stepF ε P nt ops o ans nm τ η=some se)(hob:∀ob,se.ob=some ob->ob.holds P)(hfresh:∀m,m<8->¬U (nm+m))(hU:∀b,U b->U' b)(hUn:∀m,m<8->U' (nm+m))(r:Option Nat)(n:Nat){K:Act->World->Prop}{Q:Exit->Act->World->Prop}(hK:Goes w0 w F φ U' (apH η se) (apT τ se) nt ds K):wpOpIn (fen r) n P ops Q i K a w:=by
 unfold wpOpIn;simp only[hi];unfold stepF at hs;split at hs;rotate_left;.cases hs
 rename_i hdst;have hdd:∀t,o.dst=some t->t<nt:=by intro t e;unfold dstOk at hdst;rw[e]at hdst;simpa using hdst
 split at hs;.rename_i hg;rw[if_pos (by simp[Region.wanted,hg])];exact runO_ok h ht hd hs hob hdst hfresh hU hUn r n hK
 .rename_i j want hg;split at hs
  .rename_i d hj;split at hs
   .rename_i hdn;have hy:yielded ops a.tmps j=match a.tmps.getD d undef with|.bool b=>some b|_=>none:=by unfold yielded;rw[hj];simp only[Option.bind_some];rw[Array.getElem?_eq_getElem (by rw[ht.size];exact hdn),Array.getD_eq_getD_getElem?,Array.getElem?_eq_getElem (by rw[ht.size];exact hdn)];simp only[Option.getD_some];split<;>split<;>simp_all
    have skip:se=skipO o [d]->yielded ops a.tmps j≠some want->(if Region.wanted o (yielded ops a.tmps)=true then o.wpIn (fen r) n P a w K Q else(∀f,o.about P w a.eval=some f->(fen r).fn f)/\K (a.put o.dst undef) w):=by
     intro e hne;subst e;rw[if_neg (by simp[Region.wanted,hg];exact hne)];refine⟨λ_ _=>trivial,hK _ w φ F (h.weakenU hU) ?_ ?_ (Grow.refl _ _ _ _)⟩;.exact ht.put hdd undef_rel
     .cases o.dst<;>exact hd
    have hv:=ht.val d;split at hs
    .rename_i b hb;rw[hb]at hv;simp only[VRel]at hv;rw[hv]at hy;split at hs;.rename_i e;rw[if_pos (by simp[Region.wanted,hg,hy,e])];exact runO_ok h ht hd hs hob hdst hfresh hU hUn r n hK
     .rename_i e;exact skip (by cases hs;rfl) (by rw[hy];simp;exact e)
    .rename_i vs hb;rw[hb]at hv;simp only[VRel]at hv;obtain⟨cs,hv,-⟩:=hv;rw[hv]at hy;exact skip (by cases hs;rfl) (by rw[hy];simp)
    .cases hs
   .cases hs
  .cases hs
end
end Go.AM
end
