/- Texts of the proof, joined by program. -/
import Derived.Test.YtaeifdlkolfdjaaGreatDoorKAmZ
import Derived.ChangeArms
import Derived.Test.YtaeifdlkolfdjaaGreatDoorKBx
import Derived.Sort.Grow
section
set_option linter.unusedSimpArgs false
set_option linter.unusedVariables false
namespace Go.AM
open Go Go.RowKit
def oldF(W:World)(b:Nat):Prop:=b<W.heap.size/\ ∀o,W.heap[b]?=some o->isRec o=false
theorem oldF_ok(W:World):FOk (oldF W) W:=λ_ h=>h
def ShpL{α:Type}(R:α->List AV->Prop):List α->List AV->Prop|[],cs=>cs=[]|f::fl,cs=>∃a b,cs=a++b/\R f a/\ShpL R fl b
def Shp(P:Program):Nat->TypeId->List AV->Prop|0,_,_=>False|n+1,t,cs=>match P.underlying t with|some .bool=>∃b,cs=[.bool b]|some (.int k)=>∃i,cs=[.int k i]/\(Lit.int k i).wf=true|some .string=>∃s:List UInt8,cs=[.str s]/\s.length<=maxLen|some (.slice e)=>∃es,cs=[.psl (P.cellsOf e) es]/\es.length<=maxLen/\ ∀x∈es,Shp P n e x|some (.struct fs)=>ShpL (λf x=>Shp P n f.type x) fs.toList cs|some (.array k e)=>ShpL (λ(_:Nat) x=>Shp P n e x) (List.range k) cs|_=>False
def runsB(P:Program):List (Nat×TypeId)->Nat->Nat->Bool|[],o,e=>o==e|f::fl,o,e=>f.1==o&&runsB P fl (o+P.cellsOf f.2) e
def plainB(P:Program):Nat->TypeId->Bool|0,_=>false|n+1,t=>match P.underlying t with|some .bool=>true|some (.int _)=>true|some .string=>true|some (.slice e)=>decide (0<P.cellsOf e)&&plainB P n e|some (.struct fs)=>runsB P (fs.toList.map λf=>(f.offset,f.type)) 0 (P.cellsOf t)&&fs.toList.all λf=>plainB P n f.type|some (.array k e)=>runsB P ((List.range k).map λi=>(i*P.cellsOf e,e)) 0 (P.cellsOf t)&&plainB P n e|_=>false
theorem VRels.len[Adr]{w:World}{F:Nat->Prop}{φ:Emb}:∀{as:List AV}{vs:List Value},VRels w F φ as vs->as.length=vs.length|[],vs,h=>by simp only[VRels]at h;subst h;rfl|a::as,vs,h=>by simp only[VRels]at h;obtain⟨v,vs',rfl,-,h2⟩:=h;simp[VRels.len h2]
theorem crel_of[Adr]{w:World}{F:Nat->Prop}{b:Nat}:∀{as:List AV}{cs:List Value}{o:Nat},VRels w F Emb.zero as cs->(∀c∈cs,c.oneCell'=true)->(∀i c,cs[i]?=some c->w.cell? ⟨b,o+i,none⟩=some c)->CRel w F Emb.zero as b o|[],cs,o,h,h1,hc=>by simp[CRel]|a::as,cs,o,h,h1,hc=>by simp only[VRels]at h;obtain⟨v,vs',rfl,h2,h3⟩:=h;simp only[CRel];refine⟨⟨v,by simpa using hc 0 v rfl,h1 v (by simp),h2⟩,crel_of h3 (λc hc'=>h1 c (by simp[hc'])) λi c hi=>?_⟩;have :=hc (i+1) c (by simpa using hi);rwa[show o+(i+1)=o+1+i by omega]at this
theorem cells_get{w:World}{base:Nat}{a:Addr}{n:Nat}{cs:List Value}(h:w.cells? base a n=some cs):base<=a.block/\cs.length=n/\ ∀i c,cs[i]?=some c->w.cell? (a.add i)=some c:=by
 unfold World.cells? at h;split at h
 .rename_i hb;refine⟨hb,?_⟩;have key:∀(l:List Nat)(cs:List Value),l.mapM (λi=>w.cell? (a.add i))=some cs->cs.length=l.length/\ ∀(i:Nat)(c:Value),cs[i]?=some c->∃j:Nat,l[i]?=some j/\w.cell? (a.add j)=some c:=by intro l;induction l with|nil=>intro cs h;simp at h;subst h;simp|cons x l ih=>intro cs h;simp only[List.mapM_cons,Option.bind_eq_bind,Option.bind_eq_some_iff,Option.pure_def,Option.some.injEq]at h;obtain⟨c,hc,cs',hcs,rfl⟩:=h;obtain⟨h1,h2⟩:=ih cs' hcs;refine⟨by simp[h1],λi d hi=>?_⟩;cases i with|zero=>simp at hi;subst hi;exact⟨x,rfl,hc⟩|succ i=>simpa using h2 i d (by simpa using hi)
  obtain⟨h1,h2⟩:=key _ _ h;refine⟨by simpa using h1,λi c hi=>?_⟩;obtain⟨j,hj,hc⟩:=h2 i c hi;rw[List.getElem?_range (by have :=(List.getElem?_eq_some_iff.1 hi).1;simpa[h1]using this)]at hj;cases hj;exact hc
 .cases h
theorem cell_old{w:World}{a:Addr}{v:Value}(h:w.cell? a=some v):a.spot=none/\oldF w a.block:=by
 unfold World.cell? at h;split at h
 .rename_i c el fz hb;refine⟨?_,(Array.getElem?_eq_some_iff.1 hb).1,λo ho=>?_⟩;.cases hs:a.spot with|none=>rfl|some _=>simp[hs]at h
  .rw[hb]at ho;cases ho;rfl
 .cases h
theorem mapM_get{α β:Type}{f:α->Option β}:∀{l:List α}{r:List β},l.mapM f=some r->∀x∈l,∃y,f x=some y
 |[],_,_,x,hx=>by simp at hx
 |a::l,r,h,x,hx=>by
  simp only[List.mapM_cons,Option.bind_eq_bind,Option.bind_eq_some_iff,Option.pure_def,Option.some.injEq]at h;obtain⟨c,hc,cs',hcs,rfl⟩:=h;rcases List.mem_cons.1 hx with rfl|hx;.exact⟨c,hc⟩
  .exact mapM_get hcs x hx
theorem structL[Adr]{P:Program}{W:World}{F:Nat->Prop}{R:TypeId->List AV->Prop}{cs:List Value}:∀(fl:List Field)(o:Nat),runsB P (fl.map λf=>(f.offset,f.type)) o cs.length=true->(∀f∈fl,∃as,R f.type as/\VRels W F Emb.zero as ((cs.drop f.offset).take (P.cellsOf f.type))/\ ∀c∈(cs.drop f.offset).take (P.cellsOf f.type),c.oneCell'=true)->∃as,ShpL (λ(f:Field) x=>R f.type x) fl as/\VRels W F Emb.zero as (cs.drop o)/\ ∀c∈cs.drop o,c.oneCell'=true
 |[],o,hr,h=>by simp only[runsB,List.map_nil,beq_iff_eq]at hr;subst hr;exact⟨[],rfl,by simp[VRels],by simp⟩
 |f::fl,o,hr,h=>by
  simp only[runsB,List.map_cons,Bool.and_eq_true,beq_iff_eq]at hr;obtain⟨rfl,hr⟩:=hr;obtain⟨as,h1,h2,h3⟩:=structL fl _ hr λg hg=>h g (by simp[hg]);obtain⟨a,k1,k2,k3⟩:=h f (by simp);have e:cs.drop f.offset=(cs.drop f.offset).take (P.cellsOf f.type)++cs.drop (f.offset+P.cellsOf f.type):=by rw[<-List.drop_drop];exact(List.take_append_drop _ _).symm
  refine⟨a++as,⟨a,as,rfl,k1,h1⟩,?_,?_⟩;.rw[e];exact k2.append h2
  .rw[e];intro c hc;rcases List.mem_append.1 hc with hc|hc;.exact k3 c hc
   .exact h3 c hc
theorem arrL[Adr]{P:Program}{W:World}{F:Nat->Prop}{R:TypeId->List AV->Prop}{cs:List Value}:∀(e:TypeId)(fl:List Nat)(o:Nat),runsB P (fl.map λi=>(i*P.cellsOf e,e)) o cs.length=true->(∀f∈fl,∃as,R e as/\VRels W F Emb.zero as ((cs.drop (f*P.cellsOf e)).take (P.cellsOf e))/\ ∀c∈(cs.drop (f*P.cellsOf e)).take (P.cellsOf e),c.oneCell'=true)->∃as,ShpL (λ(_:Nat) x=>R e x) fl as/\VRels W F Emb.zero as (cs.drop o)/\ ∀c∈cs.drop o,c.oneCell'=true
 |e,[],o,hr,h=>by simp only[runsB,List.map_nil,beq_iff_eq]at hr;subst hr;exact⟨[],rfl,by simp[VRels],by simp⟩
 |e,f::fl,o,hr,h=>by
  simp only[runsB,List.map_cons,Bool.and_eq_true,beq_iff_eq]at hr;obtain⟨rfl,hr⟩:=hr;obtain⟨as,h1,h2,h3⟩:=arrL e fl _ hr λg hg=>h g (by simp[hg]);obtain⟨a,k1,k2,k3⟩:=h f (by simp);have eq:cs.drop (f*P.cellsOf e)=(cs.drop (f*P.cellsOf e)).take (P.cellsOf e)++cs.drop ((f*P.cellsOf e)+P.cellsOf e):=by rw[<-List.drop_drop];exact(List.take_append_drop _ _).symm
  refine⟨a++as,⟨a,as,rfl,k1,h1⟩,?_,?_⟩;.rw[eq];exact k2.append h2
  .rw[eq];intro c hc;rcases List.mem_append.1 hc with hc|hc;.exact k3 c hc
   .exact h3 c hc
theorem dec_ok[Adr]{H:Type}{enc:TypeId×Value->H}{P:Program}{W:World}{base:Nat}{sp:Nat->Bool}{held:Bool}:∀(n:Nat)(t:TypeId)(cs:List Value)(x:DataW H×List MemPlace)(fuel:Nat),plainB P n t=true->DataW.trod enc P W base sp held fuel t cs=some x->∃as,Shp P n t as/\VRels W (oldF W) Emb.zero as cs/\ ∀c∈cs,c.oneCell'=true
 |0,t,cs,x,fuel,hp,h=>by simp[plainB]at hp
 |n+1,t,cs,x,0,hp,h=>by simp[DataW.trod]at h
 |n+1,t,cs,x,fuel+1,hp,h=>by
  unfold plainB at hp;unfold Shp;split at hp
  .rename_i hu;have :∃b,cs=[.bool b]:=by unfold DataW.trod at h;rw[hu]at h;split at h<;>simp_all
   obtain⟨b,rfl⟩:=this;exact⟨_,⟨b,rfl⟩,by simp[VRels,VRel],by simp[Value.oneCell']⟩
  .rename_i k hu;have :∃i,cs=[.int k i]/\(Lit.int k i).wf=true:=by unfold DataW.trod at h;rw[hu]at h;split at h<;>simp_all
   obtain⟨i,rfl,hw⟩:=this;exact⟨_,⟨i,rfl,hw⟩,by simp[VRels,VRel],by simp[Value.oneCell']⟩
  .rename_i hu;have :∃s:ByteArray,cs=[.string s]/\s.size<=maxLen:=by unfold DataW.trod at h;rw[hu]at h;split at h<;>simp_all
   obtain⟨s,rfl,hw⟩:=this;refine⟨_,⟨s.data.toList,rfl,by simpa using hw⟩,by simp[VRels,VRel],by simp[Value.oneCell']⟩
  .rename_i e hu;simp only[Bool.and_eq_true,decide_eq_true_eq]at hp;rcases DataW.trod_slice hu h with⟨rfl,hx⟩|⟨a,len,cap,elems,rest,m,_,rfl,hx,hba,hl,hcap,hlen,hel,_⟩;.exact⟨_,⟨[],rfl,by simp[maxLen],by simp⟩,by simp[VRels,VRel],by simp[Value.oneCell']⟩
   .have each:∀i,i<len->∃as cs',Shp P n e as/\VRels W (oldF W) Emb.zero as cs'/\(∀c∈cs',c.oneCell'=true)/\cs'.length=P.cellsOf e/\ ∀(j:Nat)(c:Value),cs'[j]?=some c->W.cell? ((a.add (i*P.cellsOf e)).add j)=some c:=by intro i hi;have h1:=hel i hi;rw[List.getElem?_eq_getElem (by omega)]at h1;obtain⟨cs',k1,k2⟩:=Option.bind_eq_some_iff.1 h1;obtain⟨as,j1,j2,j3⟩:=dec_ok n e cs' _ _ hp.2 k2;obtain⟨_,l2,l3⟩:=cells_get k1;exact⟨as,cs',j1,j2,j3,l2,l3⟩
    have head:0<len->a.spot=none/\oldF W a.block:=by
     intro h0;obtain⟨as,cs',-,-,-,l2,l3⟩:=each 0 h0;have h2:0<cs'.length:=by omega
     have :=l3 0 cs'[0] (List.getElem?_eq_getElem h2);exact cell_old (a:=a) (by simpa[Addr.add]using this)
    have build:∀m,m<=len->∃es:List (List AV),es.length=m/\(∀x∈es,Shp P n e x/\x.length=P.cellsOf e)/\ERel W (oldF W) Emb.zero es a.block (a.off+(len-m)*P.cellsOf e):=by
     intro m
     induction m with
      |zero=>intro _;exact⟨[],rfl,by simp,by simp[ERel]⟩
      |succ m ih=>
       intro hm;obtain⟨es,e1,e2,e3⟩:=ih (by omega);obtain⟨as,cs',j1,j2,j3,l2,l3⟩:=each (len-(m+1)) (by omega);obtain⟨s1,s2⟩:=head (by omega);have hlen':as.length=P.cellsOf e:=by rw[j2.len,l2]
       refine⟨as::es,by simp[e1],?_,?_⟩
       .intro x hx;rcases List.mem_cons.1 hx with rfl|hx;.exact⟨j1,hlen'⟩
        .exact e2 x hx
       .simp only[ERel];refine⟨crel_of j2 j3 λi c hi=>?_,?_⟩;.have :=l3 i c hi;rw[<-this];congr 1;unfold Addr.add;obtain⟨ab,ao,as'⟩:=a;simp only at s1;subst s1;by_cases q1:(len-(m+1))*P.cellsOf e=0<;>by_cases q2:i=0<;>simp[q1,q2,Nat.add_assoc]
        .rw[hlen',Nat.add_assoc,<-Nat.succ_mul,show(len-(m+1)).succ=len-m by omega];exact e3
    obtain⟨es,e1,e2,e3⟩:=build len (Nat.le_refl _);refine⟨_,⟨es,rfl,by omega,λx hx=>(e2 x hx).1⟩,?_,by simp[Value.oneCell']⟩;simp only[VRels,VRel];refine⟨_,[],rfl,⟨some a,cap,by rw[e1],by omega,λx hx=>(e2 x hx).2,λhne=>?_⟩,rfl⟩;have h0:0<len:=by rw[<-e1];exact List.length_pos_iff.2 hne
    obtain⟨s1,s2⟩:=head h0;refine⟨a.block,a.off,?_,s2,by simpa using e3⟩;obtain⟨ab,ao,as'⟩:=a;simp only at s1;subst s1;rfl
  .rename_i fs hu;simp only[Bool.and_eq_true,List.all_eq_true]at hp;unfold DataW.trod at h;rw[hu]at h;have h':cs.length=P.cellsOf t/\ ∃xs,fs.toList.mapM (λf=>DataW.trod enc P W base sp held fuel f.type ((cs.drop f.offset).take (P.cellsOf f.type)))=some xs:=by split at h<;>simp_all;obtain⟨h1,xs,h2,_⟩:=h;exact⟨xs,h2⟩
   obtain⟨h1,xs,h2⟩:=h';obtain⟨as,k1,k2,k3⟩:=structL (R:=Shp P n) (W:=W) (F:=oldF W) fs.toList 0 (by rw[h1];exact hp.1) λf hf=>by obtain⟨y,hy⟩:=mapM_get h2 f hf;exact dec_ok n f.type _ _ _ (hp.2 f hf) hy
   exact⟨as,k1,by simpa using k2,by simpa using k3⟩
  .rename_i k e hu;simp only[Bool.and_eq_true]at hp;unfold DataW.trod at h;rw[hu]at h;have h':cs.length=P.cellsOf t/\ ∃xs,(List.range k).mapM (λi=>DataW.trod enc P W base sp held fuel e ((cs.drop (i*P.cellsOf e)).take (P.cellsOf e)))=some xs:=by split at h<;>simp_all;obtain⟨h1,xs,h2,_⟩:=h;exact⟨xs,h2⟩
   obtain⟨h1,xs,h2⟩:=h';obtain⟨as,k1,k2,k3⟩:=arrL (R:=Shp P n) (W:=W) (F:=oldF W) e (List.range k) 0 (by rw[h1];exact hp.1) λf hf=>by obtain⟨y,hy⟩:=mapM_get h2 f hf;exact dec_ok n e _ _ _ hp.2 hy
   exact⟨as,k1,by simpa using k2,by simpa using k3⟩
  .cases hp
theorem shp_slice{P:Program}{n:Nat}{t e:TypeId}{x:List AV}(hu:P.underlying t=some (.slice e))(h:Shp P (n+1) t x):∃es,x=[.psl (P.cellsOf e) es]/\es.length<=maxLen/\ ∀y∈es,Shp P n e y:=by unfold Shp at h;rw[hu]at h;exact h
theorem shp_struct{P:Program}{n:Nat}{t:TypeId}{fs:Array Field}{x:List AV}(hu:P.underlying t=some (.struct fs))(h:Shp P (n+1) t x):ShpL (λ(f:Field) x=>Shp P n f.type x) fs.toList x:=by unfold Shp at h;rw[hu]at h;exact h
theorem shp_int{P:Program}{n:Nat}{t:TypeId}{k:IntKind}{x:List AV}(hu:P.underlying t=some (.int k))(h:Shp P (n+1) t x):∃i,x=[.int k i]/\(Lit.int k i).wf=true:=by unfold Shp at h;rw[hu]at h;exact h
theorem shp_bool{P:Program}{n:Nat}{t:TypeId}{x:List AV}(hu:P.underlying t=some .bool)(h:Shp P (n+1) t x):∃b,x=[.bool b]:=by unfold Shp at h;rw[hu]at h;exact h
theorem shp_string{P:Program}{n:Nat}{t:TypeId}{x:List AV}(hu:P.underlying t=some .string)(h:Shp P (n+1) t x):∃s:List UInt8,x=[.str s]/\s.length<=maxLen:=by unfold Shp at h;rw[hu]at h;exact h
end Go.AM
end
section
set_option linter.unusedSimpArgs false
set_option linter.unusedVariables false
namespace Go.AM
open Go Go.RowKit
def undatL{H:Type}(P:Program)(n:Nat)(f:TypeId->DataW H->Option (List AV)):List (Nat×TypeId)->Nat->List (DataW H)->Option (List AV)|[],o,[]=>if o=n then some []else none|(off,t)::fs,o,d::ds=>if off=o then match f t d with|some as=>if as.length=P.cellsOf t then match undatL P n f fs (o+as.length) ds with|some bs=>some (as++bs)|none=>none else none|none=>none else none|_,_,_=>none
def undat{H:Type}(P:Program):Nat->TypeId->DataW H->Option (List AV)|0,_,_=>none|n+1,t,d=>match P.underlying t,d with|some .bool,.lit (.bool b)=>some [.bool b]|some (.int _),.lit (.int k n)=>some [.int k n]|some .string,.lit (.string s)=>some [.str s]|some (.struct fs),.agg ds=>undatL P (P.cellsOf t) (undat P n) (fs.toList.map λf=>(f.offset,f.type)) 0 ds|some (.array m e),.agg ds=>undatL P (P.cellsOf t) (undat P n) ((List.range m).map λi=>(i*P.cellsOf e,e)) 0 ds|_,_=>none
theorem undatL_ok[Adr]{H:Type}{P:Program}{W:World}{F:Nat->Prop}{tr:TypeId->List Value->Option (DataW H×List MemPlace)}{f:TypeId->DataW H->Option (List AV)}{cs:List Value}(hf:∀t vs x as,tr t vs=some x->f t x.1=some as->VRels W F Emb.zero as vs/\ ∀c∈vs,c.oneCell'=true):∀(fl:List (Nat×TypeId))(o:Nat)(xs:List (DataW H×List MemPlace))(as:List AV),fl.mapM (λp=>tr p.2 ((cs.drop p.1).take (P.cellsOf p.2)))=some xs->undatL P cs.length f fl o (xs.map (·.1))=some as->VRels W F Emb.zero as (cs.drop o)/\ ∀c∈cs.drop o,c.oneCell'=true
 |[],o,xs,as,h,hu=>by
  simp at h;subst h;simp only[List.map_nil,undatL]at hu;split at hu;.rename_i e;subst e;cases hu;simp[VRels]
  .cases hu
 |(off,t)::fl,o,xs,as,h,hu=>by
  simp only[List.mapM_cons,Option.bind_eq_bind,Option.bind_eq_some_iff,Option.pure_def,Option.some.injEq]at h;obtain⟨x,hx,xs',hxs,rfl⟩:=h;simp only[List.map_cons,undatL]at hu;split at hu;rotate_left;.cases hu
  rename_i e;subst e;split at hu;rotate_left;.cases hu
  rename_i as1 h1;split at hu;rotate_left;.cases hu
  rename_i hl;split at hu;rotate_left;.cases hu
  rename_i bs hb;cases hu;obtain⟨k1,k2⟩:=hf t _ x as1 hx h1;obtain⟨m1,m2⟩:=undatL_ok hf fl _ xs' bs hxs hb;rw[hl]at m1 m2;have e:cs.drop off=(cs.drop off).take (P.cellsOf t)++cs.drop (off+P.cellsOf t):=by rw[<-List.drop_drop];exact(List.take_append_drop _ _).symm
  rw[e];refine⟨k1.append m1,λc hc=>?_⟩;rcases List.mem_append.1 hc with hc|hc;.exact k2 c hc
  .exact m2 c hc
theorem mapM_map{α β γ:Type}(g:α->β)(f:β->Option γ):∀(l:List α),(l.map g).mapM f=l.mapM λx=>f (g x)|[]=>rfl|x::l=>by simp only[List.map_cons,List.mapM_cons,mapM_map g f l]
theorem undat_ok[Adr]{H:Type}{enc:TypeId×Value->H}{P:Program}{W:World}{F:Nat->Prop}{base:Nat}{sp:Nat->Bool}{held:Bool}:∀(n:Nat)(t:TypeId)(cs:List Value)(x:DataW H×List MemPlace)(fuel:Nat)(as:List AV),DataW.trod enc P W base sp held fuel t cs=some x->undat P n t x.1=some as->VRels W F Emb.zero as cs/\ ∀c∈cs,c.oneCell'=true
 |0,t,cs,x,fuel,as,h,hu=>by simp[undat]at hu
 |n+1,t,cs,x,0,as,h,hu=>by simp[DataW.trod]at h
 |n+1,t,cs,(d,ps),fuel+1,as,h,hu=>by
  unfold undat at hu;split at hu;.rename_i b ht hd;simp only at hd;subst hd;cases hu;unfold DataW.trod at h;rw[ht]at h;split at h<;>simp_all[VRels,VRel,Value.oneCell']
  .rename_i k0 k n' ht hd;simp only at hd;subst hd;cases hu;unfold DataW.trod at h;rw[ht]at h;split at h<;>simp_all[VRels,VRel,Value.oneCell']
  .rename_i s ht hd;simp only at hd;subst hd;cases hu;unfold DataW.trod at h;rw[ht]at h;split at h<;>simp_all[VRels,VRel,Value.oneCell'];obtain⟨_,h2,_⟩:=h;subst h2;simp
  .rename_i fs ds ht hd;simp only at hd;subst hd;unfold DataW.trod at h;rw[ht]at h;have h':cs.length=P.cellsOf t/\ ∃xs,fs.toList.mapM (λf=>DataW.trod enc P W base sp held fuel f.type ((cs.drop f.offset).take (P.cellsOf f.type)))=some xs/\xs.map (·.1)=ds:=by split at h<;>simp_all;obtain⟨h1,xs,h2,h3,_⟩:=h;exact⟨xs,h2,h3⟩
   obtain⟨h1,xs,h2,h3⟩:=h';rw[<-h1,<-h3]at hu;have :=undatL_ok (tr:=DataW.trod enc P W base sp held fuel) (W:=W) (F:=F) (cs:=cs) (λt vs x as k1 k2=>undat_ok n t vs x fuel as k1 k2) _ 0 xs as (by rw[mapM_map];exact h2) hu;simpa using this
  .rename_i m e ds ht hd;simp only at hd;subst hd;unfold DataW.trod at h;rw[ht]at h;have h':cs.length=P.cellsOf t/\ ∃xs,(List.range m).mapM (λi=>DataW.trod enc P W base sp held fuel e ((cs.drop (i*P.cellsOf e)).take (P.cellsOf e)))=some xs/\xs.map (·.1)=ds:=by split at h<;>simp_all;obtain⟨h1,xs,h2,h3,_⟩:=h;exact⟨xs,h2,h3⟩
   obtain⟨h1,xs,h2,h3⟩:=h';rw[<-h1,<-h3]at hu;have :=undatL_ok (tr:=DataW.trod enc P W base sp held fuel) (W:=W) (F:=F) (cs:=cs) (λt vs x as k1 k2=>undat_ok n t vs x fuel as k1 k2) _ 0 xs as (by rw[mapM_map];exact h2) hu;simpa using this
  .cases hu
theorem laid_cells[Adr]{P:Program}{W:World}{F:Nat->Prop}{g:Nat}{n:String}{cs:Array Value}{as:List AV}(hg:P.globalNamed n=some g)(hv:W.var? P n=some cs)(h:VRels W F Emb.zero as cs.toList)(h1:∀c∈cs.toList,c.oneCell'=true):CRel W F Emb.zero as g 0:=by rw[CRel_iff];refine⟨cs.toList,h,λk v hk=>?_,h1⟩;have :=World.var?_cell hg hv k;rw[Nat.zero_add,this];simpa using hk
end Go.AM
end
section
set_option linter.unusedSimpArgs false
set_option linter.unusedVariables false
namespace Go.AM
open Go Go.RowKit
def EsU[Adr](m:Nat):List (List AV)->List (U m)->Prop|[],[]=>True|e::es,x::xs=>ALes e (encU m x)/\EsU m es xs|_,_=>False
theorem list_ofU[Adr]{m:Nat}{W:U m->Prop}:∀{es:List (List AV)},(∀x∈es,∃a:U m,ALes x (encU m a)/\W a)->∃l:List (U m),EsU m es l/\(∀a∈l,W a)|[],_=>⟨[],trivial,by simp⟩|x::es,h=>by obtain⟨a,e,ha⟩:=h x (by simp);obtain⟨l,e',hl⟩:=list_ofU (es:=es) λy hy=>h y (by simp[hy]);exact⟨a::l,⟨e,e'⟩,λb hb=>by rcases List.mem_cons.1 hb with rfl|hb;exact ha;exact hl b hb⟩
theorem EsU.length[Adr]{m:Nat}:∀{es:List (List AV)}{l:List (U m)},EsU m es l->l.length=es.length|[],[],_=>rfl|_::_,_::_,h=>by simp[EsU.length h.2]|[],_::_,h=>h.elim|_::_,[],h=>h.elim
theorem les_len[Adr]:∀{as bs:List AV},ALes as bs->as.length=bs.length|[],[],_=>rfl|_::_,_::_,h=>by simp[les_len h.2]|[],_::_,h=>h.elim|_::_,[],h=>h.elim
theorem EsU.rel[Adr]{w:World}{F:Nat->Prop}{φ:Emb}{m:Nat}:∀{es:List (List AV)}{l:List (U m)}{b o:Nat},EsU m es l->ERel w F φ es b o->ERel w F φ (l.map (encU m)) b o|[],[],_,_,_,h=>h|e::es,x::l,b,o,he,h=>by simp only[List.map_cons,ERel]at h⊢;exact⟨les_crel he.1 b o h.1,by rw[<-les_len he.1];exact EsU.rel he.2 h.2⟩|[],_::_,_,_,h,_=>h.elim|_::_,[],_,_,h,_=>h.elim
theorem psl_dl[Adr]{z m:Nat}{es:List (List AV)}{l:List (U m)}(hz:z=szU m)(h:EsU m es l):ALes [.psl z es] [.dl m l]:=by
 refine⟨λw F φ v hv=>?_,trivial⟩;rw[dl_psl];simp only[VRel]at hv⊢;obtain⟨a,cap,h1,h2,h3,h4⟩:=hv;rw[List.length_map,h.length];refine⟨a,cap,h1,h2,λe he=>?_,λhne=>?_⟩;.obtain⟨y,-,rfl⟩:=List.mem_map.1 he;exact encU_len m y
 .have hne':es≠[]:=λe=>by subst e;cases l with|nil=>exact hne rfl|cons _ _=>exact h.elim
  obtain⟨b,o,e1,e2,e3⟩:=h4 hne';exact⟨b,o,e1,e2,h.rel e3⟩
end Go.AM
end
section
set_option linter.unusedSimpArgs false
set_option linter.unusedVariables false
namespace Go.AM
open Go Go.RowKit
structure Put(w w':World)(cb:Nat)(vs:List Value):Prop where
 os:w'.os=w.os
 tape:w'.tape=w.tape
 output:w'.output=w.output
 size:w.heap.size<=w'.heap.size
 other:∀k,k<w.heap.size->k≠cb->w'.heap[k]?=w.heap[k]?
 row:∀c el fz,w.heap[cb]?=some (.cells c el fz)->∃c',w'.heap[cb]?=some (.cells c' el fz)/\c'.size=c.size/\ ∀(k:Nat)(v:Value),vs[k]?=some v->k<c.size->c'[k]?=some v
theorem put_of{α:Type}[Inhabited α](enc:α->Value)(w:World)(cb m:Nat)(d:Array α)(os:Array Obj)(hcb:cb<w.heap.size):Put w (Sort.grow (Sort.putRow enc (Sort.ahead w m) cb 0 d) os) cb (d.toList.map enc):=by
 refine⟨rfl,rfl,rfl,by simp[Sort.grow,Sort.putRow,Sort.mapBlock,Sort.ahead],λk hk hne=>?_,λc el fz hc=>?_⟩;.rw[Sort.heap_grow_old _ _ (by simpa[Sort.putRow,Sort.mapBlock,Sort.ahead]using hk)];simp only[Sort.putRow,Sort.mapBlock,Sort.ahead,Array.getElem?_modify];rw[if_neg (λe=>hne e.symm)]
 .refine⟨Sort.putCells enc 0 d c,?_,by simp[Sort.putCells],λk v hv hk=>?_⟩;.rw[Sort.heap_grow_old _ _ (by simpa[Sort.putRow,Sort.mapBlock,Sort.ahead]using hcb)];simp only[Sort.putRow,Sort.mapBlock,Sort.ahead,Array.getElem?_modify,if_true];rw[hc];rfl
  .simp only[Sort.putCells,Array.getElem?_mapIdx,Nat.zero_le,true_and,Nat.sub_zero,Nat.zero_add];rw[Array.getElem?_eq_getElem hk];simp only[List.getElem?_map,Option.map_eq_some_iff]at hv;obtain⟨x,hx,rfl⟩:=hv;have hx':d[k]?=some x:=by simpa using hx
   obtain⟨hl,e⟩:=Array.getElem?_eq_some_iff.1 hx';simp only[Option.map_some,if_pos hl,getElem!_pos d k hl,e]
theorem own_at[Adr]{w0 w:World}{F:Nat->Prop}{φ:Emb}{s:Cs}(hm:Mem w0 w F φ s.st){n b g z off len:Nat}{q:Got (List (U n))}(h:ownSl s n (.sl b g z off len)=some q)(he:∀p∈q.eq,p.1=p.2):off=0/\z=szU n/\len=q.x.length/\ ∃y pl,vw s.hp b=some y/\y.g=g/\y.own=true/\φ.blk b g=some (pl,szU n)/\LRel w0 w F φ (CB.t g true n q.x).a pl:=by
 have hh:HRel w0 w F φ (λb=>b<s.st.nx) (vw s.hp):=by rw[<-alg_hpL];exact hm.heap
 have h0:=h;simp only[ownSl]at h;split at h
 .rename_i g2 own k xs hb;split at h;rotate_left;.cases h
  rename_i e;subst e;split at h;rotate_left;.cases h
  rename_i hc;cases h;simp only[Bool.and_eq_true]at hc;obtain⟨c1,c2,c3,c4⟩:=hc;have c1:=Nat.eq_of_beq_eq_true c1;have c3:=Nat.eq_of_beq_eq_true c3;have c4:=Nat.eq_of_beq_eq_true c4;subst c2 c1;have el:len=xs.length:=he (len,xs.length) (by simp);have hv:vw s.hp b=some (CB.t g true k xs).a:=by unfold vw;rw[hb]
  obtain⟨pl,p1,p2,p3⟩:=hh.blk b _ hv;exact⟨c4,c3,el,_,pl,hv,rfl,rfl,p1,p3⟩
 .rename_i x hb;split at h;rotate_left;.cases h
  rename_i hc;split at h;rotate_left;.cases h
  rename_i xs hd;cases h;simp only[Bool.and_eq_true]at hc;obtain⟨c1,c2,c3,c5,c4⟩:=hc;have c1:=Nat.eq_of_beq_eq_true c1;have c3:=Nat.eq_of_beq_eq_true c3;have c4:=Nat.eq_of_beq_eq_true c4;have c5:=Nat.eq_of_beq_eq_true c5;subst c1;have el:len=x.es.length:=he (len,x.es.length) (by simp);have hv:vw s.hp b=some x:=by unfold vw;rw[hb];rfl
  obtain⟨pl,p1,p2,p3⟩:=hh.blk b _ hv;have hz:x.sz=szU n:=c5.trans c3;refine⟨c4,c3,by rw[decAll_len hd];exact el,x,pl,hv,rfl,c2,by rw[<-hz];exact p1,?_⟩
  cases pl with
   |none=>
    simp only[LRel]at p3⊢;have :xs.length=0:=by rw[decAll_len hd,p3];rfl
    simp only[CB.a,List.eq_nil_of_length_eq_zero this,List.map_nil]
   |some cb=>simp only[LRel]at p3⊢;obtain⟨f1,f2,⟨c,el2,fz,q1,q2,q3⟩,f4⟩:=p3;refine⟨f1,λ_=>f2 c2,⟨c,el2,fz,q1,⟨λ_=>q2.1 c2,λt ht=>by cases ht⟩,?_⟩,decAll_rel hd (λe he=>by rw[p2 e he,hz]) f4⟩;simp only[CB.a,List.length_map];rw[decAll_len hd,<-hz];exact q3
 .cases h
theorem mem_put[Adr]{w0 w w':World}{F:Nat->Prop}{φ:Emb}{s:Cs}(hm:Mem w0 w F φ s.st){n b g:Nat}{xs ys:List (U n)}{y:ABlk}{pl:Option Nat}(hv:vw s.hp b=some y)(hg:y.g=g)(ho:y.own=true)(hp:φ.blk b g=some (pl,szU n))(hl:LRel w0 w F φ (CB.t g true n xs).a pl)(hlen:ys.length=xs.length)(hw:match pl with|none=>w'=w|some cb=>∃vs:List Value,Put w w' cb vs/\VRels w' F Emb.zero (ys.map (encU n)).flatten vs/\ ∀v∈vs,v.oneCell'=true):Mem w0 w' F φ ({s with hp:=s.hp.put b (.t g true n ys)}:Cs).st/\Grow w0 w F φ w' F φ:=by
 have hh:HRel w0 w F φ (λb=>b<s.st.nx) (vw s.hp):=by rw[<-alg_hpL];exact hm.heap
 subst hg;have old:φ.blk b y.g=some (pl,szU n):=hp;have bn:b<s.st.nx:=hh.used b _ _ hp
 have key:Below w0.heap.size w0 w'/\Ext F w w'/\(∀k,k<w.heap.size->some k≠pl->w'.heap[k]?=w.heap[k]?)/\LRel w0 w' F φ (CB.t y.g true n ys).a pl:=by
  cases pl with
   |none=>have e:w'=w:=hw;rw[e];refine⟨hh.below,Ext.refl F w,λ_ _ _=>rfl,?_⟩;simp only[LRel,CB.a,List.map_eq_nil_iff]at hl⊢;subst hl;exact List.eq_nil_of_length_eq_zero hlen
   |some cb=>
    obtain⟨vs,hput,hvs,h1⟩:=hw;simp only[LRel]at hl;obtain⟨f1,f2,⟨c,el,fz,q1,q2,q3⟩,f4⟩:=hl;obtain⟨c',r1,r2,r3⟩:=hput.row c el fz q1;have hcb:cb<w.heap.size:=(Array.getElem?_eq_some_iff.1 q1).1;have same:∀k,k<w.heap.size->some k≠some cb->w'.heap[k]?=w.heap[k]?:=λk hk hne=>hput.other k hk (λe=>hne (by rw[e]))
    have hext:Ext F w w':=by
     refine⟨⟨hput.size,λk hk=>hput.other k (hh.fb k hk) (λe=>f2 rfl (e▸hk)),λk x hx=>?_⟩,λk o hk ho=>?_⟩
     .by_cases e:k=cb;.subst e;simp only[World.shape?,q1,r1]at hx⊢;rw[r2];exact hx
      .rw[shape_of_heap (hput.other k (shape_lt hx) e)];exact hx
     .have hk':=(Array.getElem?_eq_some_iff.1 hk).1;rw[hput.other k hk' (λe=>?_)];.exact hk
      .subst e;rw[q1]at hk;cases hk;exact ho _ _ _ rfl
    refine⟨⟨hput.os.trans hh.below.os,hput.tape.trans hh.below.tape,hput.output.trans hh.below.output,Nat.le_trans hh.below.size hput.size,λk hk=>?_⟩,hext,same,?_⟩;.rw[hput.other k (Nat.lt_of_lt_of_le hk hh.below.size) (by omega)];exact hh.below.block k hk
    .simp only[LRel];refine⟨f1,f2,⟨c',el,fz,r1,⟨λ_=>q2.1 rfl,λt ht=>by cases ht⟩,?_⟩,?_⟩;.rw[r2];simp only[CB.a,List.length_map]at q3⊢;rw[hlen];exact q3
     .simp only[CB.a,ABlk.emb,if_true];rw[ERel_flat,CRel_iff];refine⟨vs,hvs,λk v hk=>?_,h1⟩
      have hk2:k<c.size:=by
       have e1:vs.length=(ys.map (encU n)).flatten.length:=(hvs.length).symm▸rfl;have e2:(ys.map (encU n)).flatten.length=ys.length*szU n:=by rw[flatten_len (szU n) _ (λe he=>by simp only[List.mem_map]at he;obtain⟨u,-,rfl⟩:=he;exact encU_len n u),List.length_map]
       have e3:k<vs.length:=(List.getElem?_eq_some_iff.1 hk).1;simp only[CB.a,List.length_map]at q3;rw[<-hlen,<-e2]at q3;omega
      have :=r3 k v hk hk2;simp only[World.cell?,r1,Nat.zero_add];exact this
 obtain⟨hb,hext,hsame,hlr⟩:=key;have hg:Grow w0 w F φ w' F φ:=⟨Emb.sle_refl φ,λ_ h=>h,λ_ h=>.inl h,hext⟩;refine⟨hm.step hg ?_ rfl (Nat.le_refl _),hg⟩;have e1:alg ({s with hp:=s.hp.put b (.t y.g true n ys)}:Cs).st.hp=fupd (vw s.hp) b (some (CB.t y.g true n ys).a):=by show alg (hpL (s.hp.put b (.t y.g true n ys)))=_;rw[alg_hpL,vw_put]
 rw[e1];refine hh.upd b (CB.t y.g true n ys).a pl hb hext.toExt0 (Emb.le_refl φ) hsame (λb' x cb sz hne hx hφ e=>?_) (λb' g' x hx=>.inl hx) (λ_ h=>h) bn ⟨pl,hp,λe he=>?_,hlr⟩ (λg' hg'=>hh.gen b y hv g' hg') (λb' x cb sz sz' hne hx e2 e3=>?_);.subst e;exact hne (hh.inj b' b x y cb sz (szU n) hx hv hφ hp)
 .simp only[CB.a,List.mem_map]at he;obtain⟨u,-,rfl⟩:=he;exact encU_len n u
 .exact hne (hh.inj b' b x y cb sz sz' hx hv e2 e3)
end Go.AM
end
