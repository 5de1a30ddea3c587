/- Texts of the proof, joined by program. -/
import Derived.Test.YtaeifdlkolfdjaaGreatDoorKAmJ
import Derived.Test.YtaeifdlkolfdjaaGreatDoorKAmKa
import Derived.Laws.IdiomStrings
import Derived.Laws.BytesString
import Derived.Lib.AppendStr
import Derived.Lib.UnsafeStr
import Derived.Lib.Builder
import Derived.LaidEql
import Derived.Laws.Slices
section
set_option linter.unusedSimpArgs false
set_option linter.unusedVariables false
namespace Go.AM
open Go Go.RowKit
section
variable{P:Program}{w0 w:World}{F:Nat->Prop}{φ:Emb}{U U':Nat->Prop}{η:Heap}
def Leaves[Adr](w0 w:World)(F:Nat->Prop)(φ:Emb)(U':Nat->Prop)(η':Heap)(v:AV)(r:Result Next):Prop:=∃w' φ' x,(r=.ok (.value x) w'\/(r=.ok .skip w'/\x=undef))/\φ.sle φ'/\Ext F w w'/\HRel w0 w' F φ' U' η'/\VRel w' F φ' v x
theorem Leaves.same[Adr](h:HRel w0 w F φ U η)(hU:∀b,U b->U' b){v:AV}{x:Value}{s:Sem Value}(hr:s.run P w=.ok x w)(hv:VRel w F φ v x):Leaves w0 w F φ U' η v ((do
 pure (.value (<-s)):Sem Next).run P w):=⟨w,φ,x,.inl (by simp[hr]),Emb.sle_refl φ,Ext.refl F w,h.weakenU hU,hv⟩
theorem Leaves.of[Adr]{v:AV}{s:Sem Value}{η':Heap}(h:∃w' φ' x,s.run P w=.ok x w'/\φ.sle φ'/\Ext F w w'/\HRel w0 w' F φ' U' η'/\VRel w' F φ' v x):Leaves w0 w F φ U' η' v ((do
 pure (.value (<-s)):Sem Next).run P w):=by obtain⟨w',φ',x,h1,h2,h3,h4,h5⟩:=h;exact⟨w',φ',x,.inl (by simp[h1]),h2,h3,h4,h5⟩
theorem map_rel[Adr]{ρ:Operand->Value}{ρa:Operand->AV}(hρ:∀x,VRel w F φ (ρa x) (ρ x))(parts:Array (Nat×Operand)):∀(k:Nat)(p:Nat×AV)(q:Nat×Value),(parts.toList.map λp=>(p.1,ρa p.2))[k]?=some p->(parts.map λ(i,x)=>(i,ρ x))[k]?=some q->p.1=q.1/\VRel w F φ p.2 q.2:=by intro k p q hp hq;simp only[List.getElem?_map,Option.map_eq_some_iff,Array.getElem?_map,Array.getElem?_toList]at hp hq;obtain⟨a,ha,rfl⟩:=hp;obtain⟨b,hb,rfl⟩:=hq;rw[ha]at hb;cases hb;exact⟨rfl,hρ _⟩
theorem rels_map[Adr]{ρ:Operand->Value}{ρa:Operand->AV}(hρ:∀x,VRel w F φ (ρa x) (ρ x)):∀(l:List Operand),VRels w F φ (l.map ρa) (l.map ρ)|[]=>by simp[VRels]|x::l=>by simp only[List.map_cons,VRels];exact⟨_,_,rfl,hρ x,rels_map hρ l⟩
theorem orel_map[Adr]{ρ:Operand->Value}{ρa:Operand->AV}(hρ:∀x,VRel w F φ (ρa x) (ρ x))(o:Option Operand):ORel w F φ (o.map ρa) (o.map ρ):=by cases o with|none=>rfl|some x=>exact⟨_,rfl,hρ x⟩
theorem opSem_ok[Adr](h:HRel w0 w F φ U η){ρ:Operand->Value}{ρa:Operand->AV}(hρ:∀x,VRel w F φ (ρa x) (ρ x)){nm:Nat}(hnm:¬U nm)(hU:∀b,U b->U' b)(hUn:U' nm){o:Oper}{e:Eff}(he:opSem P o.op ρa η nm=some e):Leaves w0 w F φ U' (apWr η e.wr) e.v ((execOp ρ o).run P w):=by
 obtain⟨dst,op,ty,pos,after,guard⟩:=o;simp only at he;unfold execOp;simp only;cases op<;>simp only[opSem,reduceCtorEq]at he;case move x=>cases he;exact⟨w,φ,ρ x,.inl rfl,Emb.sle_refl φ,Ext.refl F w,h.weakenU hU,hρ x⟩
 case assign x=>cases he;exact⟨w,φ,ρ x,.inl rfl,Emb.sle_refl φ,Ext.refl F w,h.weakenU hU,hρ x⟩
 case pick c a b=>
  split at he
  .rename_i t hc;cases he;have :=hρ c;rw[hc]at this;simp only[VRel]at this;refine⟨w,φ,if t then ρ a else ρ b,.inl (by simp[this,asBool]),Emb.sle_refl φ,Ext.refl F w,h.weakenU hU,?_⟩;cases t;.exact hρ b
   .exact hρ a
  .cases he
 case alloc t=>
  split at he
  .rename_i n z hn hz;split at he;.rename_i hl;cases he;exact Leaves.of (alloc_ok h hz hl hnm hU hUn)
   .cases he
  .cases he
 case box t x=>
  split at he;.rename_i cs hc;cases he;exact Leaves.of (box_ok h hc (hρ x) hnm hU hUn)
  .cases he
 case build t parts=>simp only[Option.map_eq_some_iff]at he;obtain⟨v,hv,rfl⟩:=he;obtain⟨y,r1,r2⟩:=build_ok (P:=P) (w:=w) (F:=F) (φ:=φ) (cparts:=parts.map λ(i,x)=>(i,ρ x)) hv (by simp) (map_rel hρ parts);exact Leaves.same h hU r1 r2
 case buildSlice t len parts=>simp only[Option.map_eq_some_iff]at he;obtain⟨⟨v,nm',blk⟩,hv,rfl⟩:=he;obtain⟨rfl,hr⟩:=buildSlice_ok (P:=P) (cparts:=parts.map λ(i,x)=>(i,ρ x)) h hv (by simp) (map_rel hρ parts) hnm hU hUn;exact Leaves.of hr
 case load t a=>simp only[Option.map_eq_some_iff]at he;obtain⟨⟨v,rd⟩,hv,rfl⟩:=he;obtain⟨y,r1,r2⟩:=load_ok (P:=P) h hv (hρ a);exact Leaves.same h hU r1 r2
 case store t a x=>simp only[Option.map_eq_some_iff]at he;obtain⟨⟨b,blk⟩,hv,rfl⟩:=he;obtain⟨w',φ',r1,r2,r3,r4⟩:=store_ok (P:=P) h hv (hρ a) (hρ x);refine⟨w',φ',undef,.inr ⟨by simp[r1],rfl⟩,r2,r3,r4.weakenU hU,?_⟩;simp only[VRel];exact⟨[],rfl,by simp[VRels]⟩
 case nilCheck x=>
  have hx:=hρ x;split at he;.rename_i b g i j e;cases he;rw[e]at hx;have hx':=hx;simp only[VRel]at hx';obtain⟨cb,sz,-,hv⟩:=hx';refine⟨w,φ,ρ x,.inl ?_,Emb.sle_refl φ,Ext.refl F w,h.weakenU hU,hx⟩;simp[hv]
  .rename_i cs e;cases he;rw[e]at hx;have hx':=hx;simp only[VRel]at hx';obtain⟨b,o,hv,-⟩:=hx';refine⟨w,φ,ρ x,.inl ?_,Emb.sle_refl φ,Ext.refl F w,h.weakenU hU,hx⟩;simp[hv]
  .rename_i f a c e;cases he;rw[e]at hx;have hx':=hx;simp only[VRel]at hx';obtain⟨fs,cs,hv,-⟩:=hx';refine⟨w,φ,ρ x,.inl ?_,Emb.sle_refl φ,Ext.refl F w,h.weakenU hU,hx⟩;simp[hv]
  .cases he
 case binOp op t x y yt=>simp only[Option.map_eq_some_iff]at he;obtain⟨v,hv,rfl⟩:=he;obtain⟨z,r1,r2⟩:=bin_ok (P:=P) (ox:=x) (oy:=y) hv (hρ x) (hρ y);exact Leaves.same h hU r1 r2
 case makeInterface t x=>
  split at he
  .rename_i hc;cases he;obtain⟨u,hu,hn⟩:=tConc_un hc;refine Leaves.same h hU (x:=.iface t (ρ x)) ?_ ?_;.unfold Instr.makeInterface;simp only[Sem.run_bind,run_underlying hu,Result.andThen_ok];cases u<;>simp_all
   .simp only[VRel];exact⟨ρ x,rfl,hρ x⟩
  .cases he
 case typeAssert x xt t ok=>
  split at he
  .rename_i hc;obtain⟨u,hu,hn⟩:=tConc_un hc;have hx:=hρ x
   have zero:∀{e:Eff},(tZeroV P t).map (λz=>(⟨.tup [z,.bool false],[],[]⟩:Eff))=some e->∀(y:Value),(y=.nilIface\/ ∃u v,y=.iface u v/\u≠t)->ρ x=y->Leaves w0 w F φ U' (apWr η e.wr) e.v ((do
    pure (.value (<-Instr.typeAssert (ρ x) xt t true)):Sem Next).run P w):=by
    intro e he y hy hxy;simp only[Option.map_eq_some_iff]at he;obtain⟨z,hz,rfl⟩:=he;obtain⟨v,r1,r2⟩:=run_zeroV_of hz w;refine Leaves.same h hU (x:=.tuple #[v,.bool false]) ?_ ?_
    .rw[hxy];unfold Instr.typeAssert;simp only[Sem.run_bind,run_underlying hu,Result.andThen_ok];rcases hy with rfl|⟨u',v',rfl,hne⟩;.cases u<;>simp_all
     .cases u<;>simp_all
    .simp only[VRel];exact⟨[v,.bool false],rfl,by simp only[VRels];exact⟨v,_,rfl,r2 w F φ,.bool false,_,rfl,by simp only[VRel],rfl⟩⟩
   split at he
   .rename_i u' v e;rw[e]at hx;simp only[VRel]at hx;obtain⟨y,hy,hv⟩:=hx;split at he
    .rename_i heq;subst heq;cases he;refine Leaves.same h hU (x:=.tuple #[y,.bool true]) ?_ ?_;.rw[hy];unfold Instr.typeAssert;simp only[Sem.run_bind,run_underlying hu,Result.andThen_ok];cases u<;>simp_all
     .simp only[VRel];exact⟨[y,.bool true],rfl,by simp only[VRels];exact⟨y,_,rfl,hv,.bool true,_,rfl,by simp only[VRel],rfl⟩⟩
    .rename_i hne;exact zero he _ (.inr ⟨u',y,rfl,hne⟩) hy
   .rename_i e;rw[e]at hx;simp only[VRel]at hx;exact zero he _ (.inl rfl) hx
   .rename_i u' v e;rw[e]at hx;simp only[VRel]at hx;obtain⟨y,hy,hv⟩:=hx;split at he;.rename_i heq;subst heq;cases he;refine Leaves.same h hU (x:=y) ?_ hv;rw[hy];unfold Instr.typeAssert;simp only[Sem.run_bind,run_underlying hu,Result.andThen_ok];cases u<;>simp_all
    .cases he
   .cases he
  .cases he
 case unOp op t x=>simp only[Option.map_eq_some_iff]at he;obtain⟨v,hv,rfl⟩:=he;obtain⟨z,r1,r2⟩:=un_ok (P:=P) (w:=w) hv (hρ x);exact Leaves.same h hU r1 r2
 case convert s d x=>simp only[Option.map_eq_some_iff]at he;obtain⟨v,hv,rfl⟩:=he;obtain⟨z,r1,r2⟩:=conv_ok (P:=P) (w:=w) hv (hρ x);exact Leaves.same h hU r1 r2
 case makeFunc f first cap=>cases f<;>simp only[reduceCtorEq]at he;rename_i f';cases he;refine Leaves.same h hU (x:=.func (.func f') (first.map ρ) (cap.map ρ)) rfl ?_;simp only[VRel];exact⟨first.toList.map ρ,cap.toList.map ρ,by congr 1<;>(apply Array.ext';simp),rels_map hρ _,rels_map hρ _⟩
 case makeSlice t l c=>simp only[Option.map_eq_some_iff]at he;obtain⟨⟨v,nm',blk⟩,hv,rfl⟩:=he;obtain⟨rfl,hr⟩:=makeSlice_ok (P:=P) h hv (hρ l) (hρ c) hnm hU hUn;exact Leaves.of hr
 case slice t x lo hi mx=>simp only[Option.map_eq_some_iff]at he;obtain⟨v,hv,rfl⟩:=he;obtain⟨z,r1,r2⟩:=slice_ok (P:=P) hv (hρ x) (orel_map hρ lo) (orel_map hρ hi) (orel_map hρ mx);exact Leaves.same h hU r1 r2
 case fieldAddr t x f=>simp only[Option.map_eq_some_iff]at he;obtain⟨v,hv,rfl⟩:=he;obtain⟨z,r1,r2⟩:=fieldAddr_ok (P:=P) hv (hρ x);exact Leaves.same h hU r1 r2
 case field t x f=>
  split at he;.rename_i off ty' cs hf hx;simp only[Option.map_eq_some_iff]at he;obtain⟨v,hv,rfl⟩:=he;have hh:=hρ x;rw[hx]at hh;obtain⟨z,r1,r2⟩:=field_ok (P:=P) (v:=v) hf (λvs hvs h1=>run_part_of (P:=P) hv hvs h1) hh;exact Leaves.same h hU r1 r2
  .cases he
 case indexAddr t x i=>simp only[Option.map_eq_some_iff]at he;obtain⟨v,hv,rfl⟩:=he;obtain⟨z,r1,r2⟩:=indexAddr_ok (P:=P) hv (hρ x) (hρ i);exact Leaves.same h hU r1 r2
 case index t x i=>
  split at he
  .rename_i s k n hu hx hi;split at he
   .rename_i hn;simp only[Option.map_eq_some_iff]at he;obtain⟨c,hc,rfl⟩:=he;have h1:=hρ x;have h2:=hρ i;rw[hx]at h1;rw[hi]at h2;simp only[VRel]at h1 h2;refine Leaves.same h hU (x:=.int .u8 c.toNat) ?_ (by simp[VRel])
    have hget:(⟨s.toArray⟩:ByteArray)[n.toNat]?=some c:=by
     have hlt:=(List.getElem?_eq_some_iff.1 hc);obtain⟨l1,l2⟩:=hlt;have :n.toNat<(⟨s.toArray⟩:ByteArray).size:=by rw[size_mk];exact l1
     rw[getElem?_pos (⟨s.toArray⟩:ByteArray) n.toNat this];exact congrArg some l2
    simp[Instr.index,h1,h2,asIntOf,run_underlying hu,hn,hget]
   .cases he
  .cases he
 case extract x i=>
  split at he;.rename_i vs hx;simp only[Option.map_eq_some_iff]at he;obtain⟨v,hv,rfl⟩:=he;have h1:=hρ x;rw[hx]at h1;simp only[VRel]at h1;obtain⟨cs,h1,h2⟩:=h1;obtain⟨y,hy,hr⟩:=h2.get hv;exact Leaves.same h hU (x:=y) (by simp[Instr.extract,h1,hy]) hr
  .cases he
 case call c=>
  obtain⟨callee,args,argTypes⟩:=c;cases callee<;>simp only[reduceCtorEq]at he;rename_i b;unfold semBuiltin at he;have hT:∀{l:List TypeId},argTypes.toList=l->argTypes=⟨l⟩:=λh=>by rw[<-h]
  have hA:∀{l:List AV},args.toList.map ρa=l->∃vs,args.map ρ=⟨vs⟩/\VRels w F φ l vs:=λh=>⟨args.toList.map ρ,by apply Array.ext';simp,by rw[<-h];exact rels_map hρ _⟩;split at he;.rename_i t x e1 e2;simp only[Option.map_eq_some_iff]at he;obtain⟨v,hv,rfl⟩:=he;obtain⟨vs,h1,h2⟩:=hA e2;simp only[VRels]at h2;obtain⟨y,_,rfl,hy,rfl⟩:=h2;obtain⟨z,r1,r2⟩:=len_ok (P:=P) (ty:=ty) hv hy;rw[hT e1];refine⟨w,φ,z,.inl ?_,Emb.sle_refl φ,Ext.refl F w,h.weakenU hU,r2⟩;simp[resolve,invoke,builtin,h1,r1]
  .rename_i t t' s x e1 e2;simp only[Option.map_eq_some_iff]at he;obtain⟨⟨v,⟨nm',blk⟩,rd⟩,hv,rfl⟩:=he;obtain⟨vs,h1,h2⟩:=hA e2;simp only[VRels]at h2;obtain⟨y,_,rfl,hy,y',_,rfl,hy',rfl⟩:=h2;obtain⟨w',φ',z,r1,r2,r3,r4,r5⟩:=append_ok (P:=P) (ty:=ty) h hv hy hy' hnm hU hUn;rw[hT e1];refine⟨w',φ',z,.inl ?_,r2,r3,r4,r5⟩;simp[resolve,invoke,builtin,h1,r1]
  .rename_i ts x y e2;simp only[Option.map_eq_some_iff]at he;obtain⟨v,hv,rfl⟩:=he;obtain⟨vs,h1,h2⟩:=hA e2;simp only[VRels]at h2;obtain⟨p,_,rfl,hp,q,_,rfl,hq,rfl⟩:=h2;unfold aMin at hv;split at hv
   .rename_i k a k' b;split at hv;.rename_i ek;subst ek;cases hv;simp only[VRel]at hp hq;subst hp;subst hq;refine⟨w,φ,.int k (if b<a then b else a),.inl ?_,Emb.sle_refl φ,Ext.refl F w,h.weakenU hU,by simp[VRel]⟩;simp[resolve,invoke,builtin,h1,Builtin.min_,Builtin.min2]
    .cases hv
   .cases hv
  .rename_i ts x y e2;simp only[Option.map_eq_some_iff]at he;obtain⟨v,hv,rfl⟩:=he;obtain⟨vs,h1,h2⟩:=hA e2;simp only[VRels]at h2;obtain⟨p,_,rfl,hp,q,_,rfl,hq,rfl⟩:=h2;unfold aMax at hv;split at hv
   .rename_i k a k' b;split at hv;.rename_i ek;subst ek;cases hv;simp only[VRel]at hp hq;subst hp;subst hq;refine⟨w,φ,.int k (if b>a then b else a),.inl ?_,Emb.sle_refl φ,Ext.refl F w,h.weakenU hU,by simp[VRel]⟩;simp[resolve,invoke,builtin,h1,Builtin.max_,Builtin.max2]
    .cases hv
   .cases hv
  .cases he
end
end Go.AM
end
section
set_option linter.unusedSimpArgs false
set_option linter.unusedVariables false
namespace Go.AM
open Go Go.RowKit
section
variable{P:Program}{w0 w:World}{F:Nat->Prop}{φ:Emb}{U U':Nat->Prop}{η:Heap}
theorem asK_rel[Adr]{x:AV}{k:KS}{v:Value}(hk:asK x=some k)(h:VRel w F φ x v):∃cb cap,φ.blk k.b k.g=some (some cb,k.z)/\v=.slice (some ⟨cb,k.off*k.z,none⟩) k.len cap/\k.len<=k.lo/\k.lo<=cap/\(k.ex=true->cap=k.lo)/\roomAt w cb k.z k.off cap:=by
 unfold asK at hk;split at hk;.cases hk;simpa only[VRel]using h
 .split at hk;.cases hk
  .rename_i hl;cases hk;simp only[VRel]at h;rcases h with⟨_,_,h3,_⟩|⟨cb,cap,h1,h2,h3,h4⟩;.exact absurd h3 hl
   .exact⟨cb,cap,h1,h2,Nat.le_refl _,h3,(λe=>by cases e),h4⟩
 .cases hk
theorem wk_rel[Adr]{x:AV}{v:Value}(h:VRel w F φ x v):VRel w F φ (wk x) v:=by
 unfold wk;split;.exact slk_sl h
 .exact psx_rel h
 .exact h
theorem kbounds[Adr]{lo hi:Option AV}{clo chi:Option Value}{len cap l h:Nat}(hlo:ORel w F φ lo clo)(hhi:ORel w F φ hi chi)(hl:sliceBd lo 0=some l)(hh:sliceBd hi len=some h)(h1:l<=h)(h2:h<=cap):(Instr.sliceBounds true len cap clo chi none).run P w=.ok (l,h,cap) w:=by
 cases hi with
  |none=>simp only[ORel]at hhi;subst hhi;simp only[sliceBd,Option.some.injEq]at hh;cases lo with|none=>simp only[ORel]at hlo;subst hlo;simp only[sliceBd,Option.some.injEq]at hl;simp[Instr.sliceBounds,hh,hl]|some x=>obtain⟨v,rfl,hv⟩:=hlo;simp[Instr.sliceBounds,bound_ok hl hv h1,hh]
  |some y=>obtain⟨u,rfl,hu⟩:=hhi;cases lo with|none=>simp only[ORel]at hlo;subst hlo;simp only[sliceBd,Option.some.injEq]at hl;simp[Instr.sliceBounds,bound_ok hh hu h2,hl]|some x=>obtain⟨v,rfl,hv⟩:=hlo;simp[Instr.sliceBounds,bound_ok hh hu h2,bound_ok hl hv h1]
theorem kbounds3[Adr]{lo hi mx:Option AV}{clo chi cmx:Option Value}{len cap l h m:Nat}(hlo:ORel w F φ lo clo)(hhi:ORel w F φ hi chi)(hmx:ORel w F φ mx cmx)(hl:sliceBd lo 0=some l)(hh:sliceBd hi len=some h)(hm:sliceBd mx 0=some m)(hs:hi.isSome=true)(hs2:mx.isSome=true)(h1:l<=h)(h2:h<=m)(h3:m<=cap):(Instr.sliceBounds true len cap clo chi cmx).run P w=.ok (l,h,m) w:=by cases hi with|none=>cases hs|some y=>cases mx with|none=>cases hs2|some z=>obtain⟨u,rfl,hu⟩:=hhi;obtain⟨q,rfl,hq⟩:=hmx;cases lo with|none=>simp only[ORel]at hlo;subst hlo;simp only[sliceBd,Option.some.injEq]at hl;simp[Instr.sliceBounds,bound_ok hm hq h3,bound_ok hh hu h2,hl]|some x=>obtain⟨v,rfl,hv⟩:=hlo;simp[Instr.sliceBounds,bound_ok hm hq h3,bound_ok hh hu h2,bound_ok hl hv h1]
theorem room_shift{cb z off cap l m:Nat}(h:roomAt w cb z off cap)(hl:l<=m)(hm:m<=cap):roomAt w cb z (off+l) (m-l):=by obtain⟨el,n,h1,h2⟩:=h;refine⟨el,n,h1,Nat.le_trans (Nat.mul_le_mul_right _ ?_) h2⟩;omega
theorem kSlice_ok[Adr]{t:TypeId}{x v:AV}{y:Value}{lo hi mx:Option AV}{clo chi cmx:Option Value}(hs:kSlice P t x lo hi mx=some v)(hx:VRel w F φ x y)(hlo:ORel w F φ lo clo)(hhi:ORel w F φ hi chi)(hmx:ORel w F φ mx cmx):∃z,(Instr.sliceAt t y clo chi cmx).run P w=.ok z w/\VRel w F φ v z:=by
 unfold kSlice at hs;split at hs;rotate_left;.cases hs
 rename_i e k he hk;split at hs;rotate_left;.cases hs
 rename_i sz l h hsz hl hh;split at hs;rotate_left;.cases hs
 rename_i hc;obtain⟨rfl,h1,h2⟩:=hc;have hu:=tSlice_un he;obtain⟨cb,cap,k1,rfl,k3,k4,k5,k6⟩:=asK_rel hk hx;rw[run_sliceAt_slice hu];split at hs
 .simp only[ORel]at hmx;subst hmx;have hb:=kbounds (P:=P) (w:=w) (cap:=cap) hlo hhi hl hh h1 (by omega);split at hs
  .rename_i hl0;cases hs;refine⟨.slice (some ⟨cb,k.off*k.z+l*k.z,none⟩) (h-l) (cap-l),?_,?_⟩
   .by_cases e0:cap=l
    .have :l=0:=by omega
     subst this;subst e0;simp[Instr.slice,run_underlying hu,hb,run_sizeOf_of hsz]
    .simp[Instr.slice,run_underlying hu,hb,run_sizeOf_of hsz,e0,addr_add]
   .simp only[VRel];exact⟨cb,cap-l,k1,by rw[Nat.add_mul],by omega,by omega,λe=>by have :=k5 e;omega,room_shift k6 (by omega) (Nat.le_refl _)⟩
  .rename_i hl0;cases hs;refine⟨.slice (if cap=l then some ⟨cb,k.off*k.z,none⟩else(some ⟨cb,k.off*k.z,none⟩:Option Addr).map (·.add (l*k.z))) (h-l) (cap-l),?_,?_⟩;.simp[Instr.slice,run_underlying hu,hb,run_sizeOf_of hsz]
   .simp only[VRel];exact⟨_,_,by rw[show h-l=0 by omega];rfl,by simp,by simp,λe=>absurd rfl e⟩
 .rename_i k0 m;split at hs;rotate_left;.cases hs
  rename_i hc;obtain⟨c1,c2,c3,c4⟩:=hc;have hb:=kbounds3 (P:=P) (w:=w) (cap:=cap) (m:=m.toNat) hlo hhi hmx hl hh (by simp[sliceBd,c1]) c2 rfl h1 c3 (by omega);split at hs
  .rename_i hl0;cases hs;refine⟨.slice (some ⟨cb,k.off*k.z+l*k.z,none⟩) (h-l) (m.toNat-l),?_,?_⟩
   .by_cases e0:m.toNat=l
    .have :l=0:=by omega
     subst this;simp[Instr.slice,run_underlying hu,hb,run_sizeOf_of hsz,e0]
    .simp[Instr.slice,run_underlying hu,hb,run_sizeOf_of hsz,e0,addr_add]
   .simp only[VRel];exact⟨cb,m.toNat-l,k1,by rw[Nat.add_mul],by omega,Nat.le_refl _,λ_=>rfl,room_shift k6 (by omega) (by omega)⟩
  .rename_i hl0;cases hs;refine⟨.slice (if m.toNat=l then some ⟨cb,k.off*k.z,none⟩else(some ⟨cb,k.off*k.z,none⟩:Option Addr).map (·.add (l*k.z))) (h-l) (m.toNat-l),?_,?_⟩;.simp[Instr.slice,run_underlying hu,hb,run_sizeOf_of hsz]
   .simp only[VRel];exact⟨_,_,by rw[show h-l=0 by omega];rfl,by simp,by simp,λe=>absurd rfl e⟩
 .cases hs
theorem kIndexAddr_ok[Adr]{t:TypeId}{a ix v:AV}{x y:Value}(hi:kIndexAddr P t a ix=some v)(hx:VRel w F φ a x)(hy:VRel w F φ ix y):∃z,(Instr.indexAt t x y).run P w=.ok z w/\VRel w F φ v z:=by
 unfold kIndexAddr at hi;split at hi
 .rename_i e b g z off len lo ex k n he;simp only[VRel]at hy;subst hy;split at hi;rotate_left;.cases hi
  rename_i sz hs;split at hi;rotate_left;.cases hi
  rename_i hb;cases hi;obtain⟨rfl,hb⟩:=hb;simp only[VRel]at hx;obtain⟨cb,cap,h1,rfl,h3,h4,-⟩:=hx;refine⟨.pointer (some ⟨cb,off*z+n.toNat*z,none⟩),?_,?_⟩;.simp[Instr.indexAt,asIntOf,run_underlying (tSlice_un he),hb,run_sizeOf_of hs,addr_add]
  .simp only[VRel];exact⟨cb,z,h1,by rw[Nat.add_mul];rfl⟩
 .rename_i k o cs k' n he;simp only[VRel]at hy;subst hy;split at hi;rotate_left;.cases hi
  rename_i len e ha;split at hi;rotate_left;.cases hi
  rename_i sz hs;split at hi;rotate_left;.cases hi
  rename_i hb;cases hi;simp only[VRel]at hx;obtain⟨rfl,h2⟩:=hx;refine⟨.pointer (some ⟨Adr.ad k,Adr.of k+(o+n.toNat*sz),none⟩),?_,?_⟩;.simp[Instr.indexAt,asIntOf,run_underlying (tArr_un ha),Instr.sureAddr,hb.1,hb.2.1,run_sizeOf_of hs,addr_add,Nat.add_assoc]
  .simp only[VRel];refine⟨trivial,λhne=>?_⟩;have hcs:cs≠[]:=λe=>by rw[e]at hne;simp at hne
   exact⟨(h2 hcs).1,by rw[<-Nat.add_assoc];exact CRel_drop _ _ _ (h2 hcs).2 hb.2.2⟩
 .cases hi
theorem kFieldAddr_ok[Adr]{t:TypeId}{a v:AV}{x:Value}{f:Nat}(h:kFieldAddr P t a f=some v)(hx:VRel w F φ a x):∃z,(Instr.fieldAt t x f).run P w=.ok z w/\VRel w F φ v z:=by
 unfold kFieldAddr at h;split at h;rotate_left;.cases h
 rename_i off ty k o cs hf;split at h;rotate_left;.cases h
 rename_i hle;cases h;simp only[VRel]at hx;obtain⟨rfl,h2⟩:=hx;obtain⟨fs,fd,n,hu,hfd,rfl,rfl,hn⟩:=tField_spec hf;refine⟨.pointer (some ⟨Adr.ad k,Adr.of k+(o+fd.offset),none⟩),?_,?_⟩;.simp[Instr.fieldAt,run_underlying hu,hfd,Instr.sureAddr,fieldPlace,run_sizeOf_of hn,addr_add,Nat.add_assoc]
 .simp only[VRel];refine⟨trivial,λhne=>?_⟩;have hcs:cs≠[]:=λe=>by rw[e]at hne;simp at hne
  exact⟨(h2 hcs).1,by rw[<-Nat.add_assoc];exact CRel_drop _ _ _ (h2 hcs).2 hle⟩
theorem kLoad_ok[Adr]{t:TypeId}{a v:AV}{x:Value}(hl:kLoad P t a=some v)(hx:VRel w F φ a x):∃y,(Instr.loadAt t x).run P w=.ok y w/\VRel w F φ v y:=by
 unfold kLoad at hl;split at hl;rotate_left;.cases hl
 rename_i ag n k o cs hag hn;split at hl;rotate_left;.cases hl
 rename_i hc;simp only[VRel]at hx;obtain⟨rfl,h2⟩:=hx;have hcs:cs≠[]:=λe=>by rw[e]at hc;simp at hc;omega
 have hcr:=CRel_take _ _ n (CRel.mono (Ext0.refl F w) (λ_ h=>h) (Emb.zero_le φ) _ _ _ rfl (h2 hcs).2);obtain⟨y,r1,r2⟩:=run_loadVar_of (P:=P) hag hn hcr (by simp;omega) hl;exact⟨y,by simpa[Instr.loadAt,Instr.sureAddr]using r1,r2⟩
theorem splice_flatten[Adr]{sz:Nat}{es xs:List (List AV)}{i:Nat}(hl:∀e∈es,e.length=sz)(hx:∀e∈xs,e.length=sz)(hi:i+xs.length<=es.length):(splice es i xs).flatten=es.flatten.take (i*sz)++xs.flatten++es.flatten.drop (i*sz+xs.flatten.length):=by
 have h1:es.flatten.take (i*sz)=(es.take i).flatten:=by
  conv=>lhs;rw[<-List.take_append_drop i es,List.flatten_append]
  rw[List.take_append_of_le_length,List.take_of_length_le];.rw[flatten_len sz _ λx hx=>hl x (List.mem_of_mem_take hx)];simp;exact Nat.mul_le_mul_right _ (by omega)
  .rw[flatten_len sz _ λx hx=>hl x (List.mem_of_mem_take hx)];simp;exact Nat.mul_le_mul_right _ (by omega)
 have h2:es.flatten.drop (i*sz+xs.flatten.length)=(es.drop (i+xs.length)).flatten:=by
  rw[flatten_len sz xs hx,<-Nat.add_mul];have hl2:((es.take (i+xs.length)).flatten).length=(i+xs.length)*sz:=by rw[flatten_len sz _ λx hx=>hl x (List.mem_of_mem_take hx)];simp[Nat.min_eq_left hi]
  conv=>lhs;rw[<-List.take_append_drop (i+xs.length) es,List.flatten_append]
  rw[List.drop_append_of_le_length (by omega),List.drop_of_length_le (by omega),List.nil_append]
 rw[h1,h2];simp[splice]
theorem row_write[Adr](h:HRel w0 w F φ U η){b i:Nat}{blk:ABlk}{cb:Nat}{xs:List (List AV)}{vs:List Value}(hb:η b=some blk)(hp:φ.blk b blk.g=some (some cb,blk.sz))(ho:blk.own=true)(hx:VRels w F φ xs.flatten vs)(h1:∀v∈vs,v.oneCell'=true)(hl:∀e∈xs,e.length=blk.sz)(hi:i+xs.length<=blk.es.length)(pu:Bool)(hpu:pu=true->xs.all AV.isP.isPs=true):∃w' φ',(storeCells ⟨cb,i*blk.sz,none⟩ vs).run P w=.ok () w'/\φ.sle φ'/\Ext F w w'/\HRel w0 w' F φ' U (fupd η b (some {blk with es:=splice blk.es i xs,pure:=blk.pure&&pu})):=by
 obtain⟨pl,p1,p2,p3⟩:=h.blk b blk hb;rw[hp]at p1;cases p1;obtain⟨f1,f2,⟨c,el,fz,f3,⟨hfz,-⟩,f4⟩,f5⟩:=p3;obtain rfl:=hfz ho;rw[ERel_flat,CRel_iff]at f5;obtain⟨us,u1,u2,u3⟩:=f5;have hul:=u1.length;rw[flatten_len _ _ p2]at hul;have hvl:=hx.length;rw[flatten_len _ _ hl]at hvl;have hbd:i*blk.sz+vs.length<=us.length:=by rw[<-hul,<-hvl,<-Nat.add_mul];exact Nat.mul_le_mul_right _ hi
 have hst:=run_storeCells_at (P:=P) cb (i*blk.sz) el vs 0 c w f3 (by omega) h1;simp only[Nat.add_zero]at hst;have hfl:=splice_flatten p2 hl hi;rw[flatten_len _ _ hl,hvl]at hfl
 have hemb:VRels w F (({blk with es:=splice blk.es i xs,pure:=blk.pure&&pu}:ABlk).emb φ) (splice blk.es i xs).flatten (us.take (i*blk.sz)++vs++us.drop (i*blk.sz+vs.length)):=by
  rw[hfl];unfold ABlk.emb at u1⊢;by_cases hq:blk.pure=true
  .rw[if_pos hq]at u1;by_cases hr:pu=true;.simp only[hq,hr,Bool.and_true,if_true];exact((u1.take _).append (isPs_rel _ _ (isPs_flatten xs (hpu hr)) hx)).append (u1.drop _)
   .simp only[hq,hr,Bool.and_false,Bool.false_eq_true,if_false];have u1':=VRels.mono (Ext0.refl F w) (λ_ h=>h) (Emb.zero_le φ) _ _ u1;exact((u1'.take _).append hx).append (u1'.drop _)
  .rw[if_neg hq]at u1;simp only[hq,Bool.false_and,Bool.false_eq_true,if_false];exact((u1.take _).append hx).append (u1.drop _)
 have hrow:=list_row_set c.toList (i*blk.sz) vs.length us vs rfl hbd (λk v hk=>by have :=u2 k v hk;simp only[World.cell?,f3,Nat.zero_add]at this;simpa using this)
 obtain⟨φ',r1,r2,r3,r4⟩:=h.rewrite (blk':={blk with es:=splice blk.es i xs,pure:=blk.pure&&pu}) (c':=(c.toList.take (i*blk.sz)++vs++c.toList.drop (i*blk.sz+vs.length)).toArray) hb hp ho f3 (by simp only[List.size_toArray,List.length_append,List.length_take,List.length_drop,Array.length_toList];omega) rfl (.inl rfl) (λz hz=>by
  simp only[splice,List.mem_append]at hz;rcases hz with(hz|hz)|hz;.exact p2 z (List.mem_of_mem_take hz)
  .exact hl z hz
  .exact p2 z (List.mem_of_mem_drop hz)) hemb (by
  intro z hz;rcases List.mem_append.1 hz with hz|hz
  .rcases List.mem_append.1 hz with hz|hz;.exact u3 z (List.mem_of_mem_take hz)
   .exact h1 z hz
  .exact u3 z (List.mem_of_mem_drop hz)) (λk v hk=>by simpa using hrow k v hk);exact⟨_,φ',hst,r1,r3,r4⟩
theorem kMake_ok[Adr](h:HRel w0 w F φ U η){t:TypeId}{nm nm':Nat}{l c v:AV}{x y:Value}{blk:ABlk}(hb:kMake P t l c nm=some (v,(nm',blk)))(hx:VRel w F φ l x)(hy:VRel w F φ c y)(hnm:¬U nm)(hU:∀b,U b->U' b)(hUn:U' nm):nm'=nm/\ ∃w' φ' z,(Instr.makeSlice t x y).run P w=.ok z w'/\φ.sle φ'/\Ext F w w'/\HRel w0 w' F φ' U' (fupd η nm (some blk))/\VRel w' F φ' v z:=by
 unfold kMake at hb;split at hb;rotate_left;.cases hb
 rename_i e k1 l k2 c he;split at hb;rotate_left;.cases hb
 rename_i sz bs z hs hbs hz;split at hb;rotate_left;.cases hb
 rename_i hcond;obtain⟨c1,c2,c3,c4,c5,c6⟩:=hcond;simp only[Option.some.injEq,Prod.mk.injEq]at hb;obtain⟨rfl,rfl,rfl⟩:=hb;refine⟨rfl,?_⟩;simp only[VRel]at hx hy;subst hx;subst hy;rw[i64max]at c3;obtain⟨zv,r1,r2,r3,r4⟩:=run_zero_of (P:=P) hz w;have hzl:=(r4 w F φ).length;simp only[Array.length_toList]at hzl;obtain⟨it,hit,hitb⟩:=tBytes_info hbs;have hrep:=repl_rel (w:=w) (F:=F) (φ:=φ) (by omega) (r4 w F φ) (c.toNat*sz) c.toNat (by rw[c5]);have honec:∀x∈((Array.range (c.toNat*sz)).map (zv.cells[·%zv.cells.size]!)).toList,x.oneCell'=true:=by intro x hx;simp only[Array.toList_map,Array.toList_range,List.mem_map,List.mem_range]at hx;obtain⟨k,hk,rfl⟩:=hx;have :k%zv.cells.size<zv.cells.size:=Nat.mod_lt _ (by omega);rw[getElem!_pos zv.cells _ this];exact r3 _ (by simp)
 have hflat:AV.isP.isPs (List.replicate c.toNat z).flatten=true:=isPs_flatten _ (by rw[List.all_eq_true];intro x hx;rw[List.eq_of_mem_replicate hx];exact r2);obtain⟨a1,a2,a3,-⟩:=h.alloc (c:=(Array.range (c.toNat*sz)).map (zv.cells[·%zv.cells.size]!)) (el:=e) (vs:=((Array.range (c.toNat*sz)).map (zv.cells[·%zv.cells.size]!)).toList) nm hnm {g:=0,own:=true,pure:=true,sz:=sz,es:=List.replicate c.toNat z} rfl (λx hx=>by rw[List.eq_of_mem_replicate hx];exact c5) (emb_rel hrep (λ_=>hflat)) honec (λk v hk=>by rw[<-Array.getElem?_toList];exact hk) hU hUn;refine⟨_,_,.slice (some ⟨w.heap.size,0,none⟩) l.toNat c.toNat,?_,a2,a3,a1,?_⟩
 .have e1:IntKind.i64.wrap l=l:=wrap64_id (by omega) (by omega);have e2:IntKind.i64.wrap c=c:=wrap64_id (by omega) (by omega);simp only[Instr.makeSlice,Sem.run_bind,run_underlying (tSlice_un he),Result.andThen_ok,asInt,asIntOf,Sem.run_pure,run_typeInfo_of hit,e1,e2];have t1:(decide (c<0)||decide ((it.bytes:Int)*c>2^48))=false:=by rw[hitb];simp only[Bool.or_eq_false_iff,decide_eq_false_iff_not];omega
  rw[if_neg (by rw[t1];simp;omega)];simp only[Sem.run_bind,run_askRoom,Result.andThen_ok,run_sizeOf_of hs];by_cases hzz:c.toNat*sz=0
  .have e0:∀f:Nat->Value,(Array.range 0).map f=#[]:=λf=>by simp
   simp[hzz,e0,newRow]
  .simp[hzz,r1,newRow]
 .simp only[VRel];exact⟨w.heap.size,c.toNat,φ.add_same _ _ _,by simp,by omega,Nat.le_refl _,λ_=>rfl,e,c.toNat*sz,by simp only[World.shape?,heap_alloc_new];simp,by simp⟩
theorem kAppend_ok[Adr](h:HRel w0 w F φ U η){t t' ty:TypeId}{s x v:AV}{ys yx:Value}{nm nm':Nat}{blk':ABlk}{rd:List Nat}(ha:kAppend P t t' s x η nm=some (v,(nm',blk'),rd))(hs:VRel w F φ s ys)(hx:VRel w F φ x yx)(hnm:¬U nm)(hU:∀b,U b->U' b)(hUn:U' nm):∃w' φ' z,(Builtin.append_ #[t,t'] ty #[ys,yx]).run P w=.ok z w'/\φ.sle φ'/\Ext F w w'/\HRel w0 w' F φ' U' (fupd η nm' (some blk'))/\VRel w' F φ' v z:=by
 unfold kAppend at ha;split at ha;rotate_left;.cases ha
 rename_i b g z off len lo ex;split at ha;rotate_left;.cases ha
 rename_i e e' he he';split at ha;rotate_left;.cases ha
 rename_i sz bs sz' zs hsz hbs hsz' hz;split at ha;rotate_left;.cases ha
 rename_i hcond;obtain⟨rfl,hpos,hbpos,hzl,rfl⟩:=hcond;split at ha;rotate_left;.cases ha
 rename_i xs rd' blk hel hb;split at ha;rotate_left;.cases ha
 rename_i hcond;obtain⟨rfl,c1⟩:=hcond;have u1:=tSlice_un he;have u2:=tSlice_un he';obtain⟨ax,cx,us,rfl,x1,x2,x3,x4⟩:=elems_ok (P:=P) h hel (wk_rel hx);have hul:=x2.length;rw[flatten_len _ _ x4]at hul;simp only[VRel]at hs;obtain⟨cb,cap,h1,rfl,h3,h4,h5,h6⟩:=hs;split at ha
 .rename_i hroom;split at ha;rotate_left;.cases ha
  rename_i hc;simp only[Option.some.injEq,Prod.mk.injEq]at ha;obtain⟨rfl,⟨rfl,rfl⟩,-⟩:=ha;have hrun:=run_append_room (P:=P) (w:=w) (ty:=ty) (base:=some ⟨cb,off*z,none⟩) (sLen:=len) (sCap:=cap) u1 u2 hsz (by omega) x1;obtain⟨w',φ',r1,r2,r3,r4⟩:=row_write (P:=P) (i:=off+len) h hb (by rw[c1];exact h1) hc.1 x2 x3 (by rw[c1];exact x4) hc.2 (xs.all AV.isP.isPs) (λe=>e);rw[c1,Nat.add_mul]at r1;simp only[addr_add]at hrun;rw[r1]at hrun;refine⟨w',φ',_,hrun,r2,r3,r4.weakenU hU,?_⟩;simp only[VRel];obtain⟨el,n,q1,q2⟩:=h6;exact⟨cb,cap,r2.le.1 _ _ _ h1,rfl,hroom,h4,h5,el,n,r3.shape _ _ q1,q2⟩
 .rename_i hroom;split at ha;rotate_left;.cases ha
  rename_i hc;obtain⟨hex,hfit,hbig⟩:=hc;simp only[Option.some.injEq,Prod.mk.injEq]at ha;obtain⟨rfl,⟨rfl,rfl⟩,-⟩:=ha;have hcap:=h5 hex;have hxe:Ext F w w.drew:=ext_drew F w;have hD:HRel w0 w.drew F φ U η:=h.heap_same rfl h.below.drew;have hxD:VRel w.drew F φ x (.slice ax xs.length cx):=VRel.mono hxe (λ_ h=>h) (Emb.le_refl φ) _ _ hx;obtain⟨ax',cx',us',y1,y2,y3,y4,-⟩:=elems_ok (P:=P) hD hel (wk_rel hxD);cases y1;have hulD:=y3.length;rw[flatten_len _ _ x4]at hulD;have hold:aElems η z (.sl b blk.g z off len)=some ((blk.es.drop off).take len,[b]):=by simp only[aElems,hb];rw[if_pos ⟨trivial,trivial,c1,hfit⟩]
  have hlen:((blk.es.drop off).take len).length=len:=by simp;omega
  have hsD:VRel w.drew F φ (.sl b blk.g z off len) (.slice (some ⟨cb,off*z,none⟩) len cap):=by simp only[VRel];obtain⟨el,n,q1,q2⟩:=h6;exact .inr ⟨cb,cap,h1,rfl,by omega,el,n,q1,q2⟩
  obtain⟨a2,c2,os,o0,o1,o2,o3,o4⟩:=elems_ok (P:=P) hD hold hsD;rw[hlen]at o0 o1;have hol:=o2.length;rw[flatten_len _ _ o4,hlen]at hol;obtain⟨zv,z1,z2,z3,z4⟩:=run_zero_of (P:=P) hz w
  have hzr:∀w,(zeroValue e).run P w=.ok zv w:=λw'=>by
   obtain⟨zv',q1,_⟩:=run_zero_of (P:=P) hz w';have :zv'=zv:=by simp only[zeroValue,Sem.run_bind]at q1 z1;cases hi:P.info? e with|none=>simp[typeInfo,hi]at q1|some i=>simp only[run_typeInfo_of hi,Result.andThen_ok]at q1 z1;cases hzz:i.zero with|none=>simp[hzz]at q1|some u=>simp[hzz]at q1 z1;rw[<-q1,<-z1]
   rw[<-this];exact q1
  obtain⟨newCap,rest,n1,n2,n3⟩:=run_append_grow (P:=P) (w:=w) (ty:=ty) (base:=some ⟨cb,off*z,none⟩) (sLen:=len) (sCap:=cap) (os:=os) u1 u2 hsz hbs hbpos hzr (by omega) hbig (by rw[<-o1]) y2;have hpur:∀{as:List AV}{vs:List Value},VRels w.drew F φ as vs->VRels w.drew F φ as vs:=λh=>h;have o2':VRels w.drew F φ ((blk.es.drop off).take len++xs).flatten (os++us'):=by rw[List.flatten_append];exact o2.append y3
  obtain⟨pl,p1,p2,p3⟩:=h.blk b blk hb;have hps:blk.pure=true->AV.isP.isPs ((blk.es.drop off).take len).flatten=true->True:=λ_ _=>trivial
  obtain⟨a1,a2',a3,-⟩:=hD.alloc (U':=U') (c:=(⟨os⟩++⟨us'⟩++rest:Array Value)) (el:=e) (vs:=os++us') nm hnm {g:=0,own:=true,pure:=((blk.es.drop off).take len++xs).all AV.isP.isPs,sz:=z,es:=(blk.es.drop off).take len++xs} rfl (λq hq=>by
   rcases List.mem_append.1 hq with hq|hq;.exact o4 q hq
   .exact x4 q hq) (emb_rel o2' (λq=>isPs_flatten _ q)) (λv hv=>by
   rcases List.mem_append.1 hv with hv|hv;.exact o3 v hv
   .exact y4 v hv) (λk v hk=>by have :=(List.getElem?_eq_some_iff.1 hk).1;rw[Array.getElem?_append_left (by simpa using this)];simpa using hk) hU hUn;refine⟨_,_,_,n3,a2',hxe.trans a3 (λ_ h=>h),a1,?_⟩;simp only[VRel];refine .inr ⟨w.heap.size,newCap,φ.add_same _ _ _,by simp,n1,e,_,by simp only[World.shape?];rw[show w.heap.size=w.drew.heap.size from rfl,heap_alloc_new],?_⟩;have hzs:=(z4 w F φ).length;simp only[Array.length_toList]at hzs;rw[<-hzs,hzl]at n2;simp only[Array.size_append,n2,List.size_toArray,<-hulD,<-hol];rw[<-Nat.add_mul,<-Nat.add_mul];simp only[Nat.zero_add];exact Nat.mul_le_mul_right _ (by omega)
theorem kSliceX_ok[Adr]{t:TypeId}{x v:AV}{y:Value}{lo hi mx:Option AV}{clo chi cmx:Option Value}(hs:kSliceX P t x lo hi mx=some v)(hx:VRel w F φ x y)(hlo:ORel w F φ lo clo)(hhi:ORel w F φ hi chi)(hmx:ORel w F φ mx cmx):∃z,(Instr.sliceAt t y clo chi cmx).run P w=.ok z w/\VRel w F φ v z:=by
 unfold kSliceX at hs;split at hs;rotate_left;.cases hs
 rename_i e sz es k0 m he;split at hs;rotate_left;.cases hs
 rename_i sz' l h hsz hl hh;split at hs;rotate_left;.cases hs
 rename_i hc;obtain⟨rfl,h1,h2,h3,h4,h5,h6⟩:=hc;cases hs;have hu:=tSlice_un he;rw[run_sliceAt_slice hu];simp only[VRel]at hx;obtain⟨a,cap,rfl,q2,q3,q4⟩:=hx;have hb:=kbounds3 (P:=P) (w:=w) (cap:=cap) (m:=m.toNat) hlo hhi hmx hl hh (by simp[sliceBd];omega) h2 rfl h1 (by omega) (by omega);have hlen:((es.drop l).take (h-l)).length=h-l:=by simp;omega
 refine⟨.slice (if m.toNat=l then a else a.map (·.add (l*sz'))) (h-l) (m.toNat-l),?_,?_⟩;.simp[Instr.slice,run_underlying hu,hb,run_sizeOf_of hsz]
 .simp only[VRel];refine⟨_,by rw[hlen];congr 1;omega,λx hx=>q3 x (List.mem_of_mem_drop (List.mem_of_mem_take hx)),λhne=>?_⟩
  have hlt:l<h:=by
   rcases Nat.lt_or_ge l h with q|q;.exact q
   .exact absurd (List.eq_nil_of_length_eq_zero (by rw[hlen];omega)) hne
  obtain⟨b,o,rfl,h7,h8⟩:=q4 (by intro e;rw[e]at h4;simp at h4;omega);refine⟨b,o+l*sz',?_,h7,ERel_take _ _ _ (ERel_drop es o l q3 h8 (by omega))⟩;rw[if_neg (by omega)];simp[addr_add]
theorem wkx_rel[Adr]{x:AV}{v:Value}(h:VRel w F φ x v):VRel w F φ (wkx x) v:=by cases x with|psx z es=>exact psx_rel h|dl n xs=>exact dl_psl.1 h|_=>exact h
theorem kAppX_ok[Adr](h:HRel w0 w F φ U η){t t' ty:TypeId}{s x v:AV}{ys yx:Value}{nm nm':Nat}{blk':ABlk}{rd:List Nat}(ha:kAppX P t t' s x η nm=some (v,(nm',blk'),rd))(hs:VRel w F φ s ys)(hx:VRel w F φ x yx)(hnm:¬U nm)(hU:∀b,U b->U' b)(hUn:U' nm):∃w' φ' z,(Builtin.append_ #[t,t'] ty #[ys,yx]).run P w=.ok z w'/\φ.sle φ'/\Ext F w w'/\HRel w0 w' F φ' U' (fupd η nm' (some blk'))/\VRel w' F φ' v z:=by
 unfold kAppX at ha;split at ha;rotate_left;.cases ha
 rename_i z es e e' he he';split at ha;rotate_left;.cases ha
 rename_i sz bs sz' zs hsz hbs hsz' hz;split at ha;rotate_left;.cases ha
 rename_i hcond;obtain⟨rfl,hpos,hbpos,hzl,rfl⟩:=hcond;split at ha;rotate_left;.cases ha
 rename_i xs rd' hel;split at ha;rotate_left;.cases ha
 rename_i hc;obtain⟨hxl,hbig⟩:=hc;simp only[Option.some.injEq,Prod.mk.injEq]at ha;obtain⟨rfl,⟨rfl,rfl⟩,-⟩:=ha;have u1:=tSlice_un he;have u2:=tSlice_un he';have hxe:Ext F w w.drew:=ext_drew F w;have hD:HRel w0 w.drew F φ U η:=h.heap_same rfl h.below.drew;have hxD:VRel w.drew F φ x yx:=VRel.mono hxe (λ_ h=>h) (Emb.le_refl φ) _ _ hx;have hsD:VRel w.drew F φ (.psx z es) ys:=VRel.mono hxe (λ_ h=>h) (Emb.le_refl φ) _ _ hs;obtain⟨ax',cx',us',rfl,y2,y3,y4,x4⟩:=elems_ok (P:=P) hD hel (wk_rel (wkx_rel hxD));have hulD:=y3.length;rw[flatten_len _ _ x4]at hulD;obtain⟨a2,c2,os,o0,o1,o2,o3,o4⟩:=elems_ok (P:=P) hD (sz:=z) (x:=.psl z es) (xs:=es) (rd:=[]) (by simp[aElems]) (psx_rel hsD);simp only[VRel]at hsD;obtain⟨a3,e3,-⟩:=hsD;rw[e3]at o0;simp only[Value.slice.injEq]at o0;obtain⟨rfl,-,rfl⟩:=o0;subst e3;have hol:=o2.length;rw[flatten_len _ _ o4]at hol;obtain⟨zv,z1,z2,z3,z4⟩:=run_zero_of (P:=P) hz w
 have hzr:∀w,(zeroValue e).run P w=.ok zv w:=λw'=>by
  obtain⟨zv',q1,_⟩:=run_zero_of (P:=P) hz w';have :zv'=zv:=by simp only[zeroValue,Sem.run_bind]at q1 z1;cases hi:P.info? e with|none=>simp[typeInfo,hi]at q1|some i=>simp only[run_typeInfo_of hi,Result.andThen_ok]at q1 z1;cases hzz:i.zero with|none=>simp[hzz]at q1|some u=>simp[hzz]at q1 z1;rw[<-q1,<-z1]
  rw[<-this];exact q1
 obtain⟨newCap,rest,n1,n2,n3⟩:=run_append_grow (P:=P) (w:=w) (ty:=ty) (base:=a3) (sLen:=es.length) (sCap:=es.length) (os:=os) u1 u2 hsz hbs hbpos hzr (by omega) hbig o1 y2;have o2':VRels w.drew F φ (es++xs).flatten (os++us'):=by rw[List.flatten_append];exact o2.append y3
 obtain⟨a1,a2',a3',-⟩:=hD.alloc (U':=U') (c:=(⟨os⟩++⟨us'⟩++rest:Array Value)) (el:=e) (vs:=os++us') nm hnm {g:=0,own:=true,pure:=(es++xs).all AV.isP.isPs,sz:=z,es:=es++xs} rfl (λq hq=>by
  rcases List.mem_append.1 hq with hq|hq;.exact o4 q hq
  .exact x4 q hq) (emb_rel o2' (λq=>isPs_flatten _ q)) (λv hv=>by
  rcases List.mem_append.1 hv with hv|hv;.exact o3 v hv
  .exact y4 v hv) (λk v hk=>by have :=(List.getElem?_eq_some_iff.1 hk).1;rw[Array.getElem?_append_left (by simpa using this)];simpa using hk) hU hUn;refine⟨_,_,_,n3,a2',hxe.trans a3' (λ_ h=>h),a1,?_⟩;simp only[VRel];refine .inr ⟨w.heap.size,newCap,φ.add_same _ _ _,by simp,n1,e,_,by simp only[World.shape?];rw[show w.heap.size=w.drew.heap.size from rfl,heap_alloc_new],?_⟩;have hzs:=(z4 w F φ).length;simp only[Array.length_toList]at hzs;rw[<-hzs,hzl]at n2;simp only[Array.size_append,n2,List.size_toArray,<-hulD,<-hol];rw[<-Nat.add_mul,<-Nat.add_mul];simp only[Nat.zero_add];exact Nat.mul_le_mul_right _ (by omega)
theorem kZeros_ok[Adr](h:HRel w0 w F φ U η){t t' ty:TypeId}{k:IntKind}{n:Int}{v:AV}{ys yx:Value}{nm nm':Nat}{blk':ABlk}(ha:kZeros P t t' k n nm=some (v,(nm',blk')))(hs:VRel w F φ .nils ys)(hx:VRel w F φ (.int k n) yx)(hnm:¬U nm)(hU:∀b,U b->U' b)(hUn:U' nm):∃w' φ' z,(Builtin.append_ #[t,t'] ty #[ys,yx]).run P w=.ok z w'/\φ.sle φ'/\Ext F w w'/\HRel w0 w' F φ' U' (fupd η nm' (some blk'))/\VRel w' F φ' v z:=by
 unfold kZeros at ha;split at ha;rotate_left;.cases ha
 rename_i e ik he he';split at ha;rotate_left;.cases ha
 rename_i sz bs z hs1 hbs hz;split at ha;rotate_left;.cases ha
 rename_i hcond;obtain⟨c1,c2,c3,c4,c5,c6⟩:=hcond;simp only[Option.some.injEq,Prod.mk.injEq]at ha;obtain⟨rfl,rfl,rfl⟩:=ha;simp only[VRel]at hs hx;subst hs;subst hx;obtain⟨N,rfl⟩:∃N:Nat,n=N:=⟨n.toNat,by omega⟩;simp only[Int.toNat_natCast]at*;have hN:0<N:=by omega
 obtain⟨zv,r1,r2,r3,r4⟩:=run_zero_of (P:=P) hz w
 have hzr:∀w,(zeroValue e).run P w=.ok zv w:=λw'=>by
  obtain⟨zv',q1,_⟩:=run_zero_of (P:=P) hz w';have :zv'=zv:=by simp only[zeroValue,Sem.run_bind]at q1 r1;cases hi:P.info? e with|none=>simp[typeInfo,hi]at q1|some i=>simp only[run_typeInfo_of hi,Result.andThen_ok]at q1 r1;cases hzz:i.zero with|none=>simp[hzz]at q1|some u=>simp[hzz]at q1 r1;rw[<-q1,<-r1]
  rw[<-this];exact q1
 have hzl:=(r4 w F φ).length;simp only[Array.length_toList]at hzl;obtain⟨it,hit,hitb⟩:=tBytes_info hbs;have hxe:Ext F w w.drew:=ext_drew F w;have hD:HRel w0 w.drew F φ U η:=h.heap_same rfl h.below.drew;have hzc:∀m:Nat,Builtin.zeroCells zv.cells m=(Array.range (m*sz)).map (zv.cells[·%zv.cells.size]!):=λm=>by unfold Builtin.zeroCells;rw[<-hzl,c5]
 have hrep:=repl_rel (w:=w.drew) (F:=F) (φ:=φ) (by omega) (r4 w.drew F φ) (N*sz) N (by rw[c5]);have honec:∀x∈((Array.range (N*sz)).map (zv.cells[·%zv.cells.size]!)).toList,x.oneCell'=true:=by intro x hx;simp only[Array.toList_map,Array.toList_range,List.mem_map,List.mem_range]at hx;obtain⟨k,hk,rfl⟩:=hx;have :k%zv.cells.size<zv.cells.size:=Nat.mod_lt _ (by omega);rw[getElem!_pos zv.cells _ this];exact r3 _ (by simp)
 have hflat:AV.isP.isPs (List.replicate N z).flatten=true:=isPs_flatten _ (by rw[List.all_eq_true];intro x hx;rw[List.eq_of_mem_replicate hx];exact r2);have hb0:it.bytes≠0:=by omega
 have hbig:2*(N*bs)<=2^48:=by
  have :(2:Int)*((N:Int)*(bs:Int))=((2*(N*bs):Nat):Int):=by push_cast;rfl
  rw[this]at c4;omega
 have hnc:¬Builtin.nextslicecap N 0*it.bytes>2^48:=by have h3:=nextcap_le (need:=N) (cap:=0) (by omega);have h4:Builtin.nextslicecap N 0*it.bytes<=2*N*it.bytes:=Nat.mul_le_mul_right _ h3;rw[Nat.mul_assoc,hitb]at h4;rw[hitb];omega
 have hmk:¬((N:Int)*(it.bytes:Int)>2^48):=by
  rw[hitb];have :(N:Int)*(bs:Int)=((N*bs:Nat):Int):=by push_cast;rfl
  rw[this];omega
 have e1:IntKind.i64.wrap (N:Int)=N:=wrap64_id (by omega) (by omega);have hmax:¬((N:Int)>IntKind.i64.max):=by rw[i64max];omega
 have hN0:¬(N*sz=0):=by have :=Nat.mul_pos hN c6;omega
 have hrun:∃newCap,N<=newCap/\(Builtin.append_ #[t,t'] ty #[.slice none 0 0,.int .i64 N]).run P w=.ok (.slice (some ⟨w.heap.size,0,none⟩) N newCap) (w.drew.alloc (.cells (Builtin.zeroCells zv.cells N++Builtin.zeroCells zv.cells (newCap-N)) e)):=by refine⟨N+w.tape w.drawn (.appendCap N 0 e)%(2^63-N),by omega,?_⟩;simp only[Builtin.append_,List.getElem?_toArray,List.getElem?_cons_zero,List.getElem?_cons_succ,Sem.run_bind,run_underlying (tSlice_un he),run_underlying he',Result.andThen_ok,run_sizeOf_of hs1,Sem.run_pure,asInt,asIntOf,e1,run_typeInfo_of hit,hmk,if_false,if_true,Int.toNat_natCast,Nat.zero_add,hnc];rw[if_neg (by omega)];simp only[Sem.run_bind,run_typeInfo_of hit,Result.andThen_ok,hmk,if_false,Sem.run_pure];rw[if_neg (by omega)];simp only[Sem.run_bind,run_typeInfo_of hit,Result.andThen_ok,hmax,false_and,if_false,hnc];simp only[Sem.run_bind,run_choose,Question.forced,Bool.false_eq_true,if_false,Result.andThen_ok,Question.cut,run_askRoom,Builtin.firstCells,hN0,hzr,Bool.not_true,Sem.run_pure,newRow,run_newObj,run_typeInfo_of hit,Bool.not_false,if_true];simp[newRow];rfl
 obtain⟨newCap,n1,n2⟩:=hrun;obtain⟨a1,a2,a3,-⟩:=hD.alloc (U':=U') (c:=Builtin.zeroCells zv.cells N++Builtin.zeroCells zv.cells (newCap-N)) (el:=e) (vs:=((Array.range (N*sz)).map (zv.cells[·%zv.cells.size]!)).toList) nm hnm {g:=0,own:=true,pure:=true,sz:=sz,es:=List.replicate N z} rfl (λx hx=>by rw[List.eq_of_mem_replicate hx];exact c5) (emb_rel hrep (λ_=>hflat)) honec (λk v hk=>by have hlt:=(List.getElem?_eq_some_iff.1 hk).1;rw[hzc N,Array.getElem?_append_left (by simpa using hlt),<-Array.getElem?_toList];exact hk) hU hUn;refine⟨_,_,_,n2,a2,hxe.trans a3 (λ_ h=>h),a1,?_⟩;simp only[VRel];refine .inr ⟨w.heap.size,newCap,φ.add_same _ _ _,by simp,n1,e,_,by simp only[World.shape?];rw[show w.heap.size=w.drew.heap.size from rfl,heap_alloc_new],?_⟩;simp only[Array.size_append,hzc,Array.size_map,Array.size_range,Nat.zero_add];rw[<-Nat.add_mul];exact Nat.mul_le_mul_right _ (by omega)
theorem kIndex_ok[Adr]{t:TypeId}{a ix v:AV}{x y:Value}(hi:kIndex P t a ix=some v)(hx:VRel w F φ a x)(hy:VRel w F φ ix y):∃z,(Instr.index t x y).run P w=.ok z w/\VRel w F φ v z:=by
 unfold kIndex at hi;split at hi;rotate_left;.cases hi
 rename_i n e cs k i ha;split at hi;rotate_left;.cases hi
 rename_i sz hs;split at hi;rotate_left;.cases hi
 rename_i hc;simp only[VRel]at hx hy;subst hy;obtain⟨vs,rfl,h1,h2⟩:=hx;obtain⟨z,r1,r2⟩:=run_part_of (P:=P) hi h1 h2;exact⟨z,by simp[Instr.index,asIntOf,run_underlying (tArr_un ha),hc,run_sizeOf_of hs,r1],r2⟩
theorem kBuild_ok[Adr]{t:TypeId}{parts:List (Nat×AV)}{cparts:Array (Nat×Value)}{v:AV}(h:kBuild P t parts=some v)(hl:parts.length=cparts.size)(hp:∀(k:Nat)(p:Nat×AV)(q:Nat×Value),parts[k]?=some p->cparts[k]?=some q->p.1=q.1/\VRel w F φ p.2 q.2):∃y,(Instr.build t cparts).run P w=.ok y w/\VRel w F φ v y:=by
 unfold kBuild at h;split at h;rotate_left;.cases h
 rename_i n e z ha hz;split at h;rotate_left;.cases h
 rename_i sz hs;simp only[Option.map_eq_some_iff]at h;obtain⟨cs',hf,rfl⟩:=h;obtain⟨zv,z1,z2,z3,z4⟩:=run_zero_of (P:=P) hz w;obtain⟨cells',f1,f2,f3⟩:=fill_rel (w:=w) (F:=F) (φ:=φ) parts cparts.toList z cs' zv.cells hf (by simpa using hl) (λk p q hp' hq'=>hp k p q hp' (by simpa using hq')) (z4 w F φ) z3;refine⟨.agg cells',?_,by simp only[VRel];exact⟨cells'.toList,by simp,f2,f3⟩⟩;simp[Instr.build,z1,run_underlying (tArr_un ha),run_sizeOf_of hs,f1]
theorem foldMin_ok[Adr]:∀(l:List AV)(a v:AV)(x:Value)(vs:List Value),foldO aMin a l=some v->VRel w F φ a x->VRels w F φ l vs->∃z,(vs.foldlM Builtin.min2 x).run P w=.ok z w/\VRel w F φ v z
 |[],a,v,x,vs,h,ha,hl=>by simp only[foldO,Option.some.injEq]at h;subst h;simp only[VRels]at hl;subst hl;exact⟨x,by simp,ha⟩
 |b::l,a,v,x,vs,h,ha,hl=>by
  simp only[VRels]at hl;obtain⟨y,ys,rfl,h1,h2⟩:=hl;simp only[foldO]at h;split at h
  .rename_i c hc;unfold aMin at hc;split at hc
   .rename_i k p k' q;split at hc;.rename_i e;subst e;cases hc;simp only[VRel]at ha h1;subst ha;subst h1;obtain⟨z,r1,r2⟩:=foldMin_ok l _ v (.int k (if q<p then q else p)) ys h (by simp only[VRel]) h2;exact⟨z,by simpa[List.foldlM_cons,Builtin.min2]using r1,r2⟩
    .cases hc
   .cases hc
  .cases h
theorem foldMax_ok[Adr]:∀(l:List AV)(a v:AV)(x:Value)(vs:List Value),foldO aMax a l=some v->VRel w F φ a x->VRels w F φ l vs->∃z,(vs.foldlM Builtin.max2 x).run P w=.ok z w/\VRel w F φ v z
 |[],a,v,x,vs,h,ha,hl=>by simp only[foldO,Option.some.injEq]at h;subst h;simp only[VRels]at hl;subst hl;exact⟨x,by simp,ha⟩
 |b::l,a,v,x,vs,h,ha,hl=>by
  simp only[VRels]at hl;obtain⟨y,ys,rfl,h1,h2⟩:=hl;simp only[foldO]at h;split at h
  .rename_i c hc;unfold aMax at hc;split at hc
   .rename_i k p k' q;split at hc;.rename_i e;subst e;cases hc;simp only[VRel]at ha h1;subst ha;subst h1;obtain⟨z,r1,r2⟩:=foldMax_ok l _ v (.int k (if q>p then q else p)) ys h (by simp only[VRel]) h2;exact⟨z,by simpa[List.foldlM_cons,Builtin.max2]using r1,r2⟩
    .cases hc
   .cases hc
  .cases h
theorem kIfEq_ok[Adr]{t:TypeId}{ms:Array (String×TypeId)}{a b:AV}{q:Bool}{x y:Value}(h:kIfEq P a b=some q)(hu:P.underlying t=some (.interface ms))(hx:VRel w F φ a x)(hy:VRel w F φ b y):(Op.equalIn 10000 t x y).run P w=.ok q w:=by
 unfold kIfEq at h;rw[show(9999:Nat)=9998+1 from rfl]at h;rw[show(10000:Nat)=9998+1+1 from rfl];generalize(9998:Nat)=d at h⊢;unfold Op.equalIn;split at h;.cases h;simp only[VRel]at hx hy;subst hx;subst hy;simp[run_underlying hu]
 .cases h;simp only[VRel]at hx hy;subst hx;obtain⟨y,rfl,-⟩:=hy;simp[run_underlying hu]
 .cases h;simp only[VRel]at hx hy;subst hy;obtain⟨y,rfl,-⟩:=hx;simp[run_underlying hu]
 .rename_i tx u ty u';simp only[VRel]at hx hy;obtain⟨p,rfl,hp⟩:=hx;obtain⟨r,rfl,hr⟩:=hy;split at h
  .rename_i e;subst e;split at h
   .rename_i k o cs k' o' cs' hc;split at h
    .rename_i e hue;split at h
     .rename_i m hsz;split at h;.rename_i hk;cases h;obtain⟨rfl,rfl⟩:=hk;simp only[VRel]at hp hr;obtain⟨rfl,-⟩:=hp;obtain⟨rfl,-⟩:=hr;simp only[Option.map_eq_some_iff]at hc;obtain⟨i,hi,hc⟩:=hc;unfold Op.equalIn;simp[run_underlying hu,run_typeInfo_of hi,hc,run_underlying hue,run_sizeOf_of hsz,sameAddr]
      .cases h
     .cases h
    .cases h
   .rename_i hc _;simp only[Option.map_eq_some_iff]at hc;obtain⟨i,hi,hc⟩:=hc;have :=eq_ok (P:=P) (d+1) _ _ _ _ _ _ h hp hr;simp[run_underlying hu,run_typeInfo_of hi,hc,this]
   .cases h
  .rename_i hne;cases h;simp[run_underlying hu,hne]
 .cases h
theorem flat_take{sz:Nat}:∀(n:Nat)(es:List (List AV)),(∀e∈es,e.length=sz)->(es.take n).flatten=es.flatten.take (n*sz)|0,es,_=>by simp|n+1,[],_=>by simp|n+1,e::es,h=>by have he:=h e (by simp);rw[List.take_succ_cons,List.flatten_cons,flat_take n es (λx hx=>h x (by simp[hx])),List.flatten_cons,List.take_append,he];rw[List.take_of_length_le (l:=e) (by rw[he,Nat.add_mul];omega)];congr 2;rw[Nat.add_mul];omega
theorem kCopy_ok[Adr](h:HRel w0 w F φ U η){t t' ty:TypeId}{d x v:AV}{yd yx:Value}{b:Nat}{blk':ABlk}{rd:List Nat}(ha:kCopy P t t' d x η=some (v,(b,blk'),rd))(hd:VRel w F φ d yd)(hx:VRel w F φ x yx):∃w' φ' z,(Builtin.copy_ #[t,t'] ty #[yd,yx]).run P w=.ok z w'/\φ.sle φ'/\Ext F w w'/\HRel w0 w' F φ' U (fupd η b (some blk'))/\VRel w' F φ' v z:=by
 unfold kCopy at ha;split at ha;rotate_left;.cases ha
 rename_i k e e' hk he he';split at ha;rotate_left;.cases ha
 rename_i sz hs;split at ha;rotate_left;.cases ha
 rename_i xs rd' blk hel hb;split at ha;rotate_left;.cases ha
 rename_i hc;obtain⟨c1,c2,c3,c4,c5,c6⟩:=hc;simp only[Option.some.injEq,Prod.mk.injEq]at ha;obtain⟨rfl,⟨rfl,rfl⟩,-⟩:=ha;obtain⟨ax,cx,us,rfl,x1,x2,x3,x4⟩:=elems_take (P:=P) h hel (wk_rel hx);obtain⟨cb,cap,q1,rfl,-⟩:=asK_rel hk hd;have hmin:min xs.length k.len<=xs.length:=Nat.min_le_left _ _;have hx1:=x1 _ hmin;have htk:VRels w F φ (xs.take (min xs.length k.len)).flatten (us.take (min xs.length k.len*sz)):=by have e0:(xs.take (min xs.length k.len)).flatten=xs.flatten.take (min xs.length k.len*sz):=flat_take _ _ x4;rw[e0];exact x2.take _
 obtain⟨w',φ',r1,r2,r3,r4⟩:=row_write (P:=P) (i:=k.off) h hb (by rw[c3,c4,<-c1];exact q1) c5 htk (λv hv=>x3 v (List.mem_of_mem_take hv)) (λe he=>by rw[c4];exact x4 e (List.mem_of_mem_take he)) (by rw[List.length_take];omega) (xs.all AV.isP.isPs) (λhp=>by rw[List.all_eq_true]at hp⊢;exact λq hq=>hp q (List.mem_of_mem_take hq));refine⟨w',φ',.int .i64 (min xs.length k.len:Nat),?_,r2,r3,r4,by simp only[VRel]⟩;rw[c4,<-c1]at r1;have hmn:Nat.min xs.length k.len=min xs.length k.len:=rfl;rw[<-c1]at hx1;simp[Builtin.copy_,run_underlying (tSlice_un he),Builtin.lenOf,run_sizeOf_of (c1▸hs),hmn,hx1,r1,goInt]
theorem kClear_ok[Adr](h:HRel w0 w F φ U η){t ty:TypeId}{d v:AV}{yd:Value}{b:Nat}{blk':ABlk}{rd:List Nat}(ha:kClear P t d η=some (v,(b,blk'),rd))(hd:VRel w F φ d yd):∃w' φ' z,(Builtin.clear_ #[t] ty #[yd]).run P w=.ok z w'/\φ.sle φ'/\Ext F w w'/\HRel w0 w' F φ' U (fupd η b (some blk'))/\VRel w' F φ' v z:=by
 unfold kClear at ha;split at ha;rotate_left;.cases ha
 rename_i k e hk he;split at ha;rotate_left;.cases ha
 rename_i sz z blk hs hz hb;split at ha;rotate_left;.cases ha
 rename_i hc;obtain⟨c0,c5,c1,c2,c3,c4,c6,c7⟩:=hc;simp only[Option.some.injEq,Prod.mk.injEq]at ha;obtain⟨rfl,⟨rfl,rfl⟩,-⟩:=ha;obtain⟨cb,cap,q1,rfl,-⟩:=asK_rel hk hd;obtain⟨zv,r1,r2,r3,r4⟩:=run_zero_of (P:=P) hz w;have hzl:=(r4 w F φ).length;simp only[Array.length_toList]at hzl;have hzc:Builtin.zeroCells zv.cells k.len=(Array.range (k.len*sz)).map (zv.cells[·%zv.cells.size]!):=by unfold Builtin.zeroCells;rw[<-hzl,c5]
 have hrep:=repl_rel (w:=w) (F:=F) (φ:=φ) (by omega) (r4 w F φ) (k.len*sz) k.len (by rw[c5]);have honec:∀x∈(Builtin.zeroCells zv.cells k.len).toList,x.oneCell'=true:=by intro x hx;rw[hzc]at hx;simp only[Array.toList_map,Array.toList_range,List.mem_map,List.mem_range]at hx;obtain⟨k,hk,rfl⟩:=hx;have :k%zv.cells.size<zv.cells.size:=Nat.mod_lt _ (by omega);rw[getElem!_pos zv.cells _ this];exact r3 _ (by simp)
 obtain⟨w',φ',w1,w2,w3,w4⟩:=row_write (P:=P) (i:=k.off) (xs:=List.replicate k.len z) (vs:=(Builtin.zeroCells zv.cells k.len).toList) h hb (by rw[c3,c4,<-c1];exact q1) c6 (by rw[hzc];exact hrep) honec (λe he=>by rw[List.eq_of_mem_replicate he,c4];exact c5) (by rw[List.length_replicate];omega) true (λ_=>by rw[List.all_eq_true];intro x hx;rw[List.eq_of_mem_replicate hx];exact r2);refine⟨w',φ',.tuple #[],?_,w2,w3,w4,by simp only[VRel];exact⟨[],rfl,by simp only[VRels]⟩⟩;rw[c4,<-c1]at w1;obtain⟨n,hn⟩:∃n,k.len=n+1:=⟨k.len-1,by omega⟩;rw[hn]at w1⊢;simp[Builtin.clear_,run_underlying (tSlice_un he),r1,w1]
theorem lenZ_run[Adr]{P:Program}{w:World}{F:Nat->Prop}{φ:Emb}{t e ty:TypeId}{d:AV}{yd:Value}(he:tSlice P t=some e)(hz:lenZ d=true)(hd:VRel w F φ d yd):(Builtin.clear_ #[t] ty #[yd]).run P w=.ok (.tuple #[]) w:=by
 have hu:=tSlice_un he;have key:∀(a:Option Addr)(c:Nat),(Builtin.clear_ #[t] ty #[.slice a 0 c]).run P w=.ok (.tuple #[]) w:=λa c=>by cases a<;>simp[Builtin.clear_,run_underlying hu]
 unfold lenZ at hz;split at hz;.have :=Nat.eq_of_beq_eq_true hz;subst this;simp only[VRel]at hd;obtain⟨_,_,-,rfl,-⟩:=hd;exact key _ _
 .have :=Nat.eq_of_beq_eq_true hz;subst this;simp only[VRel]at hd;rcases hd with⟨-,-,-,_,rfl⟩|⟨_,_,-,rfl,-⟩<;>exact key _ _
 .simp only[VRel]at hd;subst hd;exact key _ _
 .simp only[VRel]at hd;obtain⟨_,rfl⟩:=hd;exact key _ _
 .rename_i es;cases es with|nil=>simp only[VRel]at hd;obtain⟨_,_,rfl,-⟩:=hd;exact key _ _|cons e es=>simp at hz
 .cases hz
theorem isNilp_rel[Adr]{w:World}{F:Nat->Prop}{φ:Emb}{x:AV}{v:Value}{p:Bool}(h:isNilp x=some p)(hx:VRel w F φ x v):∃o:Option Addr,v=.pointer o/\o.isNone=p:=by
 unfold isNilp at h;split at h;.cases h;simp only[VRel]at hx;exact⟨_,hx,rfl⟩
 .cases h;simp only[VRel]at hx;obtain⟨_,_,-,rfl⟩:=hx;exact⟨_,rfl,rfl⟩
 .cases h;simp only[VRel]at hx;obtain⟨_,_,rfl,-⟩:=hx;exact⟨_,rfl,rfl⟩
 .cases h;simp only[VRel]at hx;obtain⟨rfl,-⟩:=hx;exact⟨_,rfl,rfl⟩
 .cases h
theorem kPtrEq_run[Adr]{P:Program}{w:World}{F:Nat->Prop}{φ:Emb}{t e:TypeId}{x y:AV}{vx vy:Value}{q:Bool}(hu:P.underlying t=some (.pointer e))(h:kPtrEq x y=some q)(hx:VRel w F φ x vx)(hy:VRel w F φ y vy):∃a b:Option Addr,vx=.pointer a/\vy=.pointer b/\(Op.equal t vx vy).run P w=.ok q w:=by
 unfold kPtrEq at h;split at h;rotate_left;.cases h
 rename_i p1 p2 h1 h2;split at h;rotate_left;.cases h
 rename_i hpq;cases h;obtain⟨a,rfl,ha⟩:=isNilp_rel h1 hx;obtain⟨b,rfl,hb⟩:=isNilp_rel h2 hy;refine⟨a,b,rfl,rfl,?_⟩;unfold Op.equal Op.maxDepth;rw[show(10000:Nat)=9999+1 from rfl];generalize(9999:Nat)=d;unfold Op.equalIn;subst ha;subst hb;cases a<;>cases b<;>simp_all[run_underlying hu]
theorem kPtrE_run[Adr]{P:Program}{w:World}{F:Nat->Prop}{φ:Emb}{t e:TypeId}{x y:AV}{vx vy:Value}{q:Bool}(hu:P.underlying t=some (.pointer e))(h:kPtrE P e x y=some q)(hx:VRel w F φ x vx)(hy:VRel w F φ y vy):∃a b:Option Addr,vx=.pointer a/\vy=.pointer b/\(Op.equal t vx vy).run P w=.ok q w:=by
 unfold kPtrE at h;split at h;.rename_i q' hq;cases h;exact kPtrEq_run hu hq hx hy
 .split at h;rotate_left;.cases h
  rename_i n hn;unfold refEq at h;split at h;rotate_left;.cases h
  split at h;rotate_left;.cases h
  rename_i hc;cases h;obtain⟨rfl,rfl,rfl,rfl⟩:=hc;simp only[VRel]at hx hy;obtain⟨cb,sz,h1,rfl⟩:=hx;obtain⟨cb',sz',h2,rfl⟩:=hy;rw[h1]at h2;cases h2;refine⟨_,_,rfl,rfl,?_⟩;obtain⟨j,hj,-⟩:=Option.map_eq_some_iff.1 hn;have hh:∀(d:Nat)(a:Addr),(Op.equalIn (d+1) t (.pointer (some a)) (.pointer (some a))).run P w=.ok true w:=λd a=>by simp[Op.equalIn,run_underlying hu,sizeOf,typeInfo,hj,run_sameAddr_same]
  unfold Op.equal Op.maxDepth;rw[show(10000:Nat)=9999+1 from rfl];exact hh 9999 _
theorem isNilm_rel[Adr]{w:World}{F:Nat->Prop}{φ:Emb}{x:AV}{v:Value}{p:Bool}(h:isNilm x=some p)(hx:VRel w F φ x v):∃o,v=.map o/\o.isNone=p:=by
 unfold isNilm at h;split at h;.cases h;simp only[VRel]at hx;exact⟨_,hx,rfl⟩
 .cases h;simp only[VRel]at hx;obtain⟨_,_,rfl⟩:=hx;exact⟨_,rfl,rfl⟩
 .cases h
theorem kMapEq_run[Adr]{P:Program}{w:World}{F:Nat->Prop}{φ:Emb}{t e e':TypeId}{x y:AV}{vx vy:Value}{q:Bool}(hu:P.underlying t=some (.map e e'))(h:kMapEq x y=some q)(hx:VRel w F φ x vx)(hy:VRel w F φ y vy):∃a b,vx=.map a/\vy=.map b/\(Op.equal t vx vy).run P w=.ok q w:=by
 unfold kMapEq at h;split at h;rotate_left;.cases h
 rename_i p1 p2 h1 h2;split at h;rotate_left;.cases h
 rename_i hpq;cases h;obtain⟨a,rfl,ha⟩:=isNilm_rel h1 hx;obtain⟨b,rfl,hb⟩:=isNilm_rel h2 hy;refine⟨a,b,rfl,rfl,?_⟩;unfold Op.equal Op.maxDepth;rw[show(10000:Nat)=9999+1 from rfl];generalize(9999:Nat)=d;unfold Op.equalIn;subst ha;subst hb;cases a<;>cases b<;>simp_all[run_underlying hu]
theorem kBin_ok[Adr]{op:BinOp}{t:TypeId}{ox oy:Operand}{x y v:AV}{vx vy:Value}(h:kBin P op t ox oy x y=some v)(hx:VRel w F φ x vx)(hy:VRel w F φ y vy):∃z,(do
 eqGuard op t ox oy vx vy
 binOp op t vx vy:Sem Value).run P w=.ok z w/\VRel w F φ v z:=by
 have ifc:∀{ms:Array (String×TypeId)}{q:Bool},P.underlying t=some (.interface ms)->¬(isNili x&&isNili y&&!isConst ox&&!isConst oy)=true->kIfEq P x y=some q->(eqGuard op t ox oy vx vy).run P w=.ok () w/\(Op.equal t vx vy).run P w=.ok q w/\((vx=.nilIface\/ ∃a b,vx=.iface a b)/\(vy=.nilIface\/ ∃a b,vy=.iface a b)):=by
  intro ms q hu hn hq
  have hsh:∀{u:AV}{z:Value},(u=.nili\/ ∃a b,u=.iface a b)->VRel w F φ u z->(z=.nilIface/\u=.nili)\/ ∃a b,z=.iface a b:=by
   rintro u z (rfl|⟨a,b,rfl⟩) hz;.simp only[VRel]at hz;exact .inl ⟨hz,rfl⟩
   .simp only[VRel]at hz;obtain⟨p,rfl,-⟩:=hz;exact .inr ⟨_,_,rfl⟩
  have hxy:(x=.nili\/ ∃a b,x=.iface a b)/\(y=.nili\/ ∃a b,y=.iface a b):=by
   unfold kIfEq at hq;split at hq;.exact⟨.inl rfl,.inl rfl⟩
   .exact⟨.inl rfl,.inr ⟨_,_,rfl⟩⟩
   .exact⟨.inr ⟨_,_,rfl⟩,.inl rfl⟩
   .exact⟨.inr ⟨_,_,rfl⟩,.inr ⟨_,_,rfl⟩⟩
   .cases hq
  refine⟨?_,kIfEq_ok hq hu hx hy,?_⟩
  .rcases hsh hxy.1 hx with⟨rfl,rfl⟩|⟨a,b,rfl⟩
   .rcases hsh hxy.2 hy with⟨rfl,rfl⟩|⟨a',b',rfl⟩;.simp only[isNili,Bool.true_and,Bool.and_eq_true,Bool.not_eq_true',not_and,Bool.not_eq_false]at hn;cases ox<;>cases oy<;>simp_all[eqGuard,isConst]<;>cases op<;>simp[eqGuard]
    .cases op<;>simp[eqGuard]
   .rcases hsh hxy.2 hy with⟨rfl,rfl⟩|⟨a',b',rfl⟩;.cases op<;>simp[eqGuard]
    .cases op<;>simp[eqGuard]
  .refine⟨?_,?_⟩
   .rcases hsh hxy.1 hx with⟨rfl,-⟩|⟨a,b,rfl⟩;.exact .inl rfl
    .exact .inr ⟨_,_,rfl⟩
   .rcases hsh hxy.2 hy with⟨rfl,-⟩|⟨a,b,rfl⟩;.exact .inl rfl
    .exact .inr ⟨_,_,rfl⟩
 unfold kBin at h;split at h
 .rename_i ms hu;split at h;.cases h
  .rename_i hn;simp only[Option.map_eq_some_iff]at h;obtain⟨q,hq,rfl⟩:=h;obtain⟨g1,g2,g3,g4⟩:=ifc hu hn hq;refine⟨.bool q,?_,by simp only[VRel]⟩;simp only[Sem.run_bind,g1,Result.andThen_ok];rcases g3 with rfl|⟨a,b,rfl⟩<;>rcases g4 with rfl|⟨a',b',rfl⟩<;>simp[binOp,g2]
 .rename_i ms hu;split at h;.cases h
  .rename_i hn;simp only[Option.map_eq_some_iff]at h;obtain⟨q,hq,rfl⟩:=h;obtain⟨g1,g2,g3,g4⟩:=ifc hu hn hq;refine⟨.bool !q,?_,by simp only[VRel]⟩;simp only[Sem.run_bind,g1,Result.andThen_ok];rcases g3 with rfl|⟨a,b,rfl⟩<;>rcases g4 with rfl|⟨a',b',rfl⟩<;>simp[binOp,g2]
 .rename_i e hu;split at h;.cases h;simp only[VRel]at hx hy;obtain⟨cb,cap,-,rfl,-⟩:=hx;subst hy;refine⟨.bool false,?_,by simp only[VRel]⟩;simp[eqGuard,binOp,Op.equal,Op.maxDepth,run_equalIn_nil 9999 t e _ _ _ hu]
  .cases h
 .rename_i e hu;split at h;.cases h;simp only[VRel]at hx hy;obtain⟨cb,cap,-,rfl,-⟩:=hx;subst hy;refine⟨.bool true,?_,by simp only[VRel]⟩;simp[eqGuard,binOp,Op.equal,Op.maxDepth,run_equalIn_nil 9999 t e _ _ _ hu]
  .cases h
 .rename_i e hu;simp only[Option.map_eq_some_iff]at h;obtain⟨q,hq,rfl⟩:=h;obtain⟨a,b,rfl,rfl,hr⟩:=kPtrE_run hu hq hx hy;exact⟨.bool q,by simp[eqGuard,binOp,hr],by simp only[VRel]⟩
 .rename_i e hu;simp only[Option.map_eq_some_iff]at h;obtain⟨q,hq,rfl⟩:=h;obtain⟨a,b,rfl,rfl,hr⟩:=kPtrE_run hu hq hx hy;exact⟨.bool !q,by simp[eqGuard,binOp,hr],by simp only[VRel]⟩
 .rename_i e e' hu;simp only[Option.map_eq_some_iff]at h;obtain⟨q,hq,rfl⟩:=h;obtain⟨a,b,rfl,rfl,hr⟩:=kMapEq_run hu hq hx hy;exact⟨.bool q,by simp[eqGuard,binOp,hr],by simp only[VRel]⟩
 .rename_i e e' hu;simp only[Option.map_eq_some_iff]at h;obtain⟨q,hq,rfl⟩:=h;obtain⟨a,b,rfl,rfl,hr⟩:=kMapEq_run hu hq hx hy;exact⟨.bool !q,by simp[eqGuard,binOp,hr],by simp only[VRel]⟩
 .rename_i a b c hu;have key:∀(z:Value)(q:Bool),(z=.nilFunc/\q=true\/(∃f a c,z=.func f a c)/\q=false)->(Op.equal t z .nilFunc).run P w=.ok q w:=by intro z q hz;unfold Op.equal Op.maxDepth;rw[show(10000:Nat)=9999+1 from rfl];generalize(9999:Nat)=d;unfold Op.equalIn;rcases hz with⟨rfl,rfl⟩|⟨⟨f,a,c,rfl⟩,rfl⟩<;>simp[run_underlying hu]
  split at h;.cases h;simp only[VRel]at hx hy;subst hx;subst hy;exact⟨.bool true,by simp[eqGuard,binOp,key _ true (.inl ⟨rfl,rfl⟩)],by simp only[VRel]⟩
  .cases h;simp only[VRel]at hx hy;obtain⟨fs,cs,rfl,-⟩:=hx;subst hy;exact⟨.bool false,by simp[eqGuard,binOp,key _ false (.inr ⟨⟨_,_,_,rfl⟩,rfl⟩)],by simp only[VRel]⟩
  .cases h
 .rename_i a b c hu;have key:∀(z:Value)(q:Bool),(z=.nilFunc/\q=true\/(∃f a c,z=.func f a c)/\q=false)->(Op.equal t z .nilFunc).run P w=.ok q w:=by intro z q hz;unfold Op.equal Op.maxDepth;rw[show(10000:Nat)=9999+1 from rfl];generalize(9999:Nat)=d;unfold Op.equalIn;rcases hz with⟨rfl,rfl⟩|⟨⟨f,a,c,rfl⟩,rfl⟩<;>simp[run_underlying hu]
  split at h;.cases h;simp only[VRel]at hx hy;subst hx;subst hy;exact⟨.bool false,by simp[eqGuard,binOp,key _ true (.inl ⟨rfl,rfl⟩)],by simp only[VRel]⟩
  .cases h;simp only[VRel]at hx hy;obtain⟨fs,cs,rfl,-⟩:=hx;subst hy;exact⟨.bool true,by simp[eqGuard,binOp,key _ false (.inr ⟨⟨_,_,_,rfl⟩,rfl⟩)],by simp only[VRel]⟩
  .cases h
 .split at h
  .rename_i k a k' b;split at h;.rename_i hb;cases h;simp only[VRel]at hx hy;subst hx;subst hy;exact⟨_,by simp[eqGuard,binOp,Op.shift,Int.not_lt.2 hb];rfl,by simp only[VRel]⟩
   .cases h
  .cases h
 .cases h
theorem bytes_rel[Adr](l:List UInt8):VRels w F φ (l.map λc=>([.int .u8 c.toNat]:List AV)).flatten (l.map λc=>.int .u8 c.toNat):=by induction l with|nil=>simp[VRels]|cons c l ih=>simp only[List.map_cons,List.flatten_cons,List.cons_append,List.nil_append,VRels];exact⟨_,_,rfl,by simp only[VRel],ih⟩
theorem kConv_ok[Adr](h:HRel w0 w F φ U η){s d:TypeId}{nm nm':Nat}{x v:AV}{y:Value}{blk:ABlk}(hb:kConv P s d x nm=some (v,(nm',blk)))(hx:VRel w F φ x y)(hnm:¬U nm)(hU:∀b,U b->U' b)(hUn:U' nm):nm'=nm/\ ∃w' φ' z,(convert s d y).run P w=.ok z w'/\φ.sle φ'/\Ext F w w'/\HRel w0 w' F φ' U' (fupd η nm (some blk))/\VRel w' F φ' v z:=by
 unfold kConv at hb;split at hb;rotate_left;.cases hb
 rename_i e l hs hd;split at hb;rotate_left;.cases hb
 rename_i he;simp only[Option.some.injEq,Prod.mk.injEq]at hb;obtain⟨rfl,rfl,rfl⟩:=hb;refine⟨rfl,?_⟩;simp only[VRel]at hx;subst hx;have hxe:Ext F w w.drew:=ext_drew F w;have hD:HRel w0 w.drew F φ U η:=h.heap_same rfl h.below.drew;have hrun:=run_bytes_of_string (P:=P) w s d e ⟨l.toArray⟩ hs (tSlice_un hd) he;have hsz:(⟨l.toArray⟩:ByteArray).size=l.length:=by simp[ByteArray.size]
 rw[hsz]at hrun;have hcells:(⟨l.toArray⟩:ByteArray).data.map (λb=>Value.int .u8 b.toNat)=(l.map λc=>Value.int .u8 c.toNat).toArray:=by simp
 obtain⟨a1,a2,a3,-⟩:=hD.allocM (U':=U') nm hnm {g:=0,own:=false,pure:=true,sz:=1,es:=l.map λc=>[.int .u8 c.toNat]} (bytesRow ⟨l.toArray⟩ (grownCap w l.length 0 e)) e ((bytesRow ⟨l.toArray⟩ (grownCap w l.length 0 e)).size,(bytesRow ⟨l.toArray⟩ (grownCap w l.length 0 e)).size+1) (l.map λc=>.int .u8 c.toNat) (λq=>by cases q) (λ_ q=>by cases q) rfl (λx hx=>by obtain⟨c,-,rfl⟩:=List.mem_map.1 hx;rfl) (by simp only[ABlk.emb,if_true];exact bytes_rel l) (λv hv=>by obtain⟨c,-,rfl⟩:=List.mem_map.1 hv;rfl) (λk v hk=>by have hlt:=(List.getElem?_eq_some_iff.1 hk).1;unfold bytesRow;rw[hcells,Array.getElem?_append_left (by simpa using hlt)];simpa using hk) hU hUn;refine⟨_,_,_,hrun,a2,hxe.trans a3 (λ_ h=>h),a1,?_⟩;simp only[VRel];have hle:l.length<=grownCap w l.length 0 e:=grownCap_ge w l.length 0 e;refine .inr ⟨w.heap.size,_,φ.add_same _ _ _,by simp,hle,e,_,by simp only[World.shape?];rw[show w.heap.size=w.drew.heap.size from rfl,heap_alloc_new],?_⟩;simp only[bytesRow,Array.size_append,Array.size_map,Array.size_replicate];simp only[List.size_toArray];omega
theorem avBytes_ok[Adr]:∀(es:List (List AV))(l:List UInt8)(us:List Value),avBytes es=some l->VRels w F φ es.flatten us->∃ns:List Int,us=ns.map (Value.int .u8)/\l=ns.map λn=>UInt8.ofNat n.toNat
 |[],l,us,h,hr=>by simp only[avBytes,Option.some.injEq]at h;subst h;simp only[List.flatten_nil,VRels]at hr;subst hr;exact⟨[],rfl,rfl⟩
 |e::es,l,us,h,hr=>by
  unfold avBytes at h;split at h;.cases ‹_=[]›
  .rename_i n l' heq;cases heq;split at h;.rename_i r hr';cases h;simp only[List.flatten_cons,List.cons_append,List.nil_append,VRels,VRel]at hr;obtain⟨v,vs,rfl,rfl,hr⟩:=hr;obtain⟨ns,rfl,rfl⟩:=avBytes_ok es r vs hr' hr;exact⟨n::ns,rfl,rfl⟩
   .cases h
  .cases h
theorem kConvS_ok[Adr](h:HRel w0 w F φ U η){s d:TypeId}{x v:AV}{y:Value}{rd:List Nat}(hb:kConvS P s d x η=some (v,rd))(hx:VRel w F φ x y):∃z,(convert s d y).run P w=.ok z w/\VRel w F φ v z:=by
 unfold kConvS at hb;split at hb;rotate_left;.cases hb
 rename_i e hs hd;split at hb;rotate_left;.cases hb
 rename_i he;split at hb;rotate_left;.cases hb
 rename_i es rd' hel;split at hb;rotate_left;.cases hb
 rename_i l hl;simp only[Option.some.injEq,Prod.mk.injEq]at hb;obtain⟨rfl,rfl⟩:=hb;obtain⟨a,cap,us,rfl,x1,x2,x3,x4⟩:=elems_ok (P:=P) h hel (wk_rel (wkx_rel hx));obtain⟨ns,rfl,rfl⟩:=avBytes_ok es l us hl x2;have hlen:=x2.length;rw[flatten_len _ _ x4]at hlen;simp only[Nat.mul_one,List.length_map]at hlen;rw[run_convert_bytes_string w s d e a es.length cap (tSlice_un hs) he hd]
 cases a with
  |none=>
   have :ns=[]:=by cases ns with|nil=>rfl|cons n ns=>simp[Builtin.firstCells]at x1
   subst this;exact⟨.string .empty,rfl,by simp only[VRel];rfl⟩
  |some a=>
   refine⟨_,run_bytesToString w a es.length cap ns (by simpa[Builtin.firstCells]using x1),?_⟩;simp only[VRel,Value.string.injEq];have key:∀(ns:List Int)(r:ByteArray),ns.foldl (λr n=>r.push (UInt8.ofNat n.toNat)) r=⟨r.data++(ns.map λn=>UInt8.ofNat n.toNat).toArray⟩:=by intro ns;induction ns with|nil=>intro r;simp|cons n ns ih=>intro r;simp only[List.foldl_cons,List.map_cons];rw[ih];simp[ByteArray.push]
   rw[key];have he0:ByteArray.empty.data=#[]:=rfl;rw[he0];simp
theorem kAlloc_ok[Adr](h:HRel w0 w F φ U η){t:TypeId}{nm nm':Nat}{v:AV}{blk:ABlk}(hb:kAlloc P t nm=some (v,(nm',blk)))(hnm:¬U nm)(hU:∀b,U b->U' b)(hUn:U' nm):nm'=nm/\ ∃w' φ' x,(Instr.alloc t true (.tuple #[])).run P w=.ok x w'/\φ.sle φ'/\Ext F w w'/\HRel w0 w' F φ' U' (fupd η nm (some blk))/\VRel w' F φ' v x:=by
 unfold kAlloc at hb;split at hb;rotate_left
 .split at hb;rotate_left;.cases hb
  split at hb;rotate_left;.cases hb
  rename_i z he hz;split at hb;rotate_left;.cases hb
  rename_i hp;simp only[Option.some.injEq,Prod.mk.injEq]at hb;obtain⟨rfl,rfl,rfl⟩:=hb;refine⟨rfl,?_⟩;obtain⟨zv,r1,r2,r3,r4⟩:=run_zero_of (P:=P) hz w;have hfl:∀z:List AV,(z.map λc=>[c]).flatten=z:=λz=>by induction z with|nil=>rfl|cons a z ih=>simp[ih]
  obtain⟨a1,a2,a3,-⟩:=h.alloc (c:=zv.cells) (el:=t) (vs:=zv.cells.toList) nm hnm {g:=0,own:=true,pure:=true,sz:=1,es:=z.map λc=>[c]} rfl (λx hx=>by obtain⟨c,-,rfl⟩:=List.mem_map.1 hx;rfl) (emb_rel (by simpa[hfl]using r4 w F _) (λ_=>by simpa[hfl]using hp)) r3 (λk v hk=>by simpa using hk) hU hUn;refine⟨_,_,.pointer (some ⟨w.heap.size,0,none⟩),?_,a2,a3,a1,?_⟩;.simp[Instr.alloc,r1,run_newVar_of]
  .simp only[VRel];exact⟨_,_,φ.add_same _ _ _,by simp⟩
 split at hb;rotate_left;.cases hb
 rename_i n z hs hz;split at hb;rotate_left;.cases hb
 rename_i hl;simp only[Option.some.injEq,Prod.mk.injEq]at hb;obtain⟨rfl,rfl,rfl⟩:=hb;refine⟨rfl,?_⟩;obtain⟨zv,r1,r2,r3,r4⟩:=run_zero_of (P:=P) hz w;obtain⟨a1,a2,a3,-⟩:=h.alloc (c:=zv.cells) (el:=t) (vs:=zv.cells.toList) nm hnm {g:=0,own:=true,pure:=AV.isP.isPs z,sz:=n,es:=[z],ty:=some t} rfl (by simp[hl]) (emb_rel (by simpa using r4 w F _) (by simp)) r3 (λk v hk=>by simpa using hk) hU hUn (λ_ e=>by cases e;rfl);refine⟨_,_,.pointer (some ⟨w.heap.size,0,none⟩),?_,a2,a3,a1,?_⟩;.simp[Instr.alloc,r1,run_newVar_of]
 .simp only[VRel];exact⟨_,_,φ.add_same _ _ _,by simp⟩
theorem ref_place[Adr](h:HRel w0 w F φ U η){b g i j:Nat}{v:Value}{blk:ABlk}(hx:VRel w F φ (.ref b g i j) v)(hb:η b=some blk)(hg:blk.g=g)(hi:i<blk.es.length)(hj:j<blk.sz):∃cb c el fz,φ.blk b g=some (some cb,blk.sz)/\v=.pointer (some ⟨cb,i*blk.sz+j,none⟩)/\w.heap[cb]?=some (.cells c el fz)/\blk.hd el fz/\blk.es.length*blk.sz<=c.size/\i*blk.sz+j<c.size:=by simp only[VRel]at hx;obtain⟨cb,sz,h1,rfl⟩:=hx;obtain⟨pl,p1,p2,p3⟩:=h.blk b blk hb;rw[hg,h1]at p1;cases p1;obtain⟨f1,f2,⟨c,el,fz,f3,f4,f5⟩,f6⟩:=p3;refine⟨cb,c,el,fz,h1,rfl,f3,f4,f5,?_⟩;have :(i+1)*blk.sz<=blk.es.length*blk.sz:=Nat.mul_le_mul_right _ hi;rw[Nat.succ_mul]at this;omega
theorem liesAt_one{u:TypeId}{count:Nat}(hc:P.cellsOf u≠0)(hn:1<=count):liesAt P P.depth u count 0 u 1=true:=by have hd:P.depth=(2*(P.types.size+Made.depth)+1)+1:=rfl;rw[hd];simp only[liesAt,Bool.or_eq_true];left;rw[hd];simp[rowAt,hc,hn,sameLayout]
theorem kConvP_ok[Adr](h:HRel w0 w F φ U η){s d:TypeId}{x v:AV}{y:Value}{rd:List Nat}(hb:kConvP P s d x η=some (v,rd))(hx:VRel w F φ x y):∃z,(convert s d y).run P w=.ok z w/\VRel w F φ v z:=by
 unfold kConvP at hb;split at hb;rotate_left;.cases hb
 rename_i b g i j;split at hb;rotate_left;.cases hb
 rename_i blk hbl;split at hb
 .rename_i t hs hd;split at hb;rotate_left;.cases hb
  rename_i n hn;split at hb;rotate_left;.cases hb
  rename_i hc;simp only[Option.some.injEq,Prod.mk.injEq]at hb;obtain⟨rfl,-⟩:=hb;obtain⟨cb,c,el,fz,e1,rfl,e2,e3,e4,e5⟩:=ref_place h hx hbl hc.1 hc.2.1 hc.2.2;obtain⟨it,hit,hits⟩:=Option.map_eq_some_iff.1 hn;refine⟨_,Lib.run_to_unsafe w ⟨cb,i*blk.sz+j,none⟩ hs hd hit (by omega) (e:=el) (cells:=c.size) (by simp only[World.shape?,e2]) e5,hx⟩
 .rename_i u hs hd;split at hb;rotate_left;.cases hb
  rename_i n hn;split at hb;rotate_left;.cases hb
  rename_i hc;obtain⟨rfl,rfl,c1,c2,c3,c4,c5⟩:=hc;simp only[Option.some.injEq,Prod.mk.injEq]at hb;obtain⟨rfl,-⟩:=hb;obtain⟨cb,c,el,fz,e1,rfl,e2,e3,e4,e5⟩:=ref_place h hx hbl c1 c3 c4;obtain⟨it,hit,hits⟩:=Option.map_eq_some_iff.1 hn;obtain rfl:=e3.2 u c2;refine⟨_,Lib.run_from_unsafe w ⟨cb,0*blk.sz+0,none⟩ hs hd hit (e:=el) (cells:=c.size) (by simp only[World.shape?,e2]) ?_,hx⟩;simp only[Nat.zero_mul,Nat.add_zero];refine liesAt_one (by omega) ?_;rw[c5];rw[Nat.le_div_iff_mul_le c4];have :1*blk.sz<=blk.es.length*blk.sz:=Nat.mul_le_mul_right _ c3;omega
 .cases hb
theorem kSlData_ok[Adr]{ts:Array TypeId}{ty:TypeId}{x v:AV}{y:Value}(hb:kSlData x=some v)(hx:VRel w F φ x y):∃z,(Builtin.unsafeSliceData_ ts ty #[y]).run P w=.ok z w/\VRel w F φ v z:=by
 unfold kSlData at hb;split at hb;.cases hb;simp only[VRel]at hx;subst hx;exact⟨_,Lib.run_unsafeSliceData_nil w ts ty 0 0,by simp only[VRel]⟩
 .split at hb;rotate_left;.cases hb
  rename_i hl;cases hb;simp only[VRel]at hx;rcases hx with⟨-,-,h0,-⟩|⟨cb,cap,h1,rfl,h3,-⟩;.omega
  .exact⟨_,Lib.run_unsafeSliceData_row w ts ty _ _ _ (by omega),by simp only[VRel];exact⟨cb,_,h1,by simp⟩⟩
 .split at hb;rotate_left;.cases hb
  rename_i hl;cases hb;simp only[VRel]at hx;obtain⟨cb,cap,h1,rfl,h3,h4,-⟩:=hx;exact⟨_,Lib.run_unsafeSliceData_row w ts ty _ _ _ (by omega),by simp only[VRel];exact⟨cb,_,h1,by simp⟩⟩
 .cases hb
theorem avB8_ok[Adr]:∀(es:List (List AV))(l:List UInt8)(us:List Value),avB8 es=some l->VRels w F φ es.flatten us->us=l.map λc=>.int .u8 c.toNat
 |[],l,us,h,hr=>by simp only[avB8,Option.some.injEq]at h;subst h;simpa only[List.flatten_nil,VRels,List.map_nil]using hr
 |e::es,l,us,h,hr=>by
  unfold avB8 at h;split at h;.cases ‹_=[]›
  .rename_i n l' heq;cases heq;split at h;rotate_left;.cases h
   rename_i hn;split at h;rotate_left;.cases h
   rename_i r hr';cases h;simp only[List.flatten_cons,List.cons_append,List.nil_append,VRels,VRel]at hr;obtain⟨v,vs,rfl,rfl,hr⟩:=hr;rw[avB8_ok es r vs hr' hr];simp only[Bool.and_eq_true,decide_eq_true_eq]at hn;simp only[List.map_cons,List.cons.injEq,Value.int.injEq,true_and,and_true];have :n.toNat<256:=by omega
   simp[Nat.mod_eq_of_lt this];omega
  .cases h
theorem freeze_heap(w:World)(a:Addr)(n:Nat)(k:Nat)(hk:k≠a.block):(w.freeze a n).heap[k]?=w.heap[k]?:=by
 unfold World.freeze;split;.rfl
 .simp only[Array.getElem?_modify];rw[if_neg (λe=>hk e.symm)]
theorem freeze_at{w:World}{a:Addr}{n:Nat}{c:Array Value}{el:TypeId}{fz:Nat×Nat}(h:w.heap[a.block]?=some (.cells c el fz)):∃fz',(w.freeze a n).heap[a.block]?=some (.cells c el fz'):=by
 unfold World.freeze;split;.exact⟨_,h⟩
 .simp only[Array.getElem?_modify,if_true,h,Option.map_some];exact⟨_,rfl⟩
theorem kUStr_ok[Adr](h:HRel w0 w F φ U η){t it ty:TypeId}{x n v:AV}{y z:Value}{wr:List (Nat×ABlk)}{rd:List Nat}(hb:kUStr P t x n η=some (v,wr,rd))(hx:VRel w F φ x y)(hn:VRel w F φ n z):∃w' r,(Builtin.unsafeString_ #[t,it] ty #[y,z]).run P w=.ok r w'/\Ext F w w'/\HRel w0 w' F φ U (apWr η wr)/\VRel w' F φ v r:=by
 unfold kUStr at hb;split at hb
 .rename_i b g m;split at hb;rotate_left;.cases hb
  rename_i blk e hbl hp;split at hb;rotate_left;.cases hb
  rename_i hc;obtain⟨c1,c2,c3,c4,c5,c6,c7,c8⟩:=hc;split at hb;rotate_left;.cases hb
  rename_i l hl;simp only[Option.some.injEq,Prod.mk.injEq]at hb;obtain⟨rfl,rfl,-⟩:=hb;simp only[VRel]at hn;subst hn;simp only[VRel]at hx;obtain⟨cb,sz,g1,rfl⟩:=hx;obtain⟨pl,p1,p2,p3⟩:=h.blk b blk hbl;rw[c1,g1]at p1;cases p1;obtain⟨f1,f2,⟨c,el,fz,f3,f4,f5⟩,f6⟩:=p3;obtain rfl:=f4.2 e c3;rw[ERel_flat,CRel_iff]at f6;obtain⟨us,u1,u2,u3⟩:=f6;have hul:=u1.length;rw[flatten_len _ _ p2,c4]at hul
  have htk:VRels w F (blk.emb φ) (blk.es.take m.toNat).flatten (us.take m.toNat):=by
   have h1:blk.es.flatten.take (m.toNat*1)=(blk.es.take m.toNat).flatten:=by
    have hsp:blk.es.flatten=(blk.es.take m.toNat).flatten++(blk.es.drop m.toNat).flatten:=by rw[<-List.flatten_append,List.take_append_drop]
    rw[hsp];have hlen:((blk.es.take m.toNat).flatten).length=m.toNat*1:=by rw[flatten_len 1 _ λx hx=>by rw[p2 x (List.mem_of_mem_take hx),c4]];rw[List.length_take,Nat.min_eq_left c8]
    rw[<-hlen,List.take_left'];rfl
   rw[<-h1,Nat.mul_one];exact u1.take _
  have hus:=avB8_ok _ l _ hl htk;have hll:l.length=m.toNat:=by have :=congrArg List.length hus;simp only[List.length_take,List.length_map]at this;omega
  have hm:m=(l.length:Int):=by omega
  have hlc:l.length<=c.size:=by rw[c4,Nat.mul_one]at f5;omega
  have hrun:=Lib.run_unsafeString_row (P:=P) w t it ty el hp c5 cb c.size (by simp only[World.shape?,f3]) l (by intro q;rw[q]at hll;simp at hll;omega) hlc (by omega) (λj q hj=>by
   have h1:(l.map λc=>Value.int .u8 c.toNat)[j]?=some (.int .u8 q.toNat):=by simp[hj]
   rw[<-hus]at h1;have :=u2 j _ (get_of_take h1);rw[addr_add];simpa using this);rw[hm];simp only[Nat.zero_mul,Nat.add_zero];obtain⟨fz',hfz'⟩:=freeze_at (a:=⟨cb,0,none⟩) (n:=l.length) f3;have hoth:∀k,k≠cb->(w.freeze ⟨cb,0,none⟩ l.length).heap[k]?=w.heap[k]?:=λk hk=>freeze_heap w _ _ k hk;have hFc:=f2 c2
  have hx0:Ext F w (w.freeze ⟨cb,0,none⟩ l.length):=by
   refine⟨⟨?_,λk hk=>hoth k (λe=>hFc (e▸hk)),λk q hq=>?_⟩,λk o ho hno=>?_⟩
   .unfold World.freeze;split;.exact Nat.le_refl _
    .simp
   .by_cases e:k=cb;.subst e;simp only[World.shape?,f3]at hq;simp only[World.shape?,hfz'];exact hq
    .rw[shape_of_heap (hoth k e)];exact hq
   .by_cases e:k=cb;.subst e;rw[f3]at ho;cases ho;exact absurd rfl (hno _ _ _)
    .rw[hoth k e];exact ho
  refine⟨_,_,hrun,hx0,?_,by simp only[VRel]⟩;simp only[apWr];refine h.upd b {blk with own:=false} (some cb) (Lib.below_freeze h.below (p:=⟨cb,0,none⟩) f1 _) hx0 (Emb.le_refl φ) (λk _ hne=>hoth k (λe=>hne (by rw[e]))) (λk x cb' sz hne hbx hbl2 e2=>?_) (λ_ _ _ hxx=>.inl hxx) (λ_ hu=>hu) (h.used _ _ _ g1) ?_ (λg' hg'=>h.gen b blk hbl g' hg') (λk x cb' sz sz' hne hbx q1 q2=>?_);.cases e2;exact hne (h.inj k b x blk cb _ _ hbx hbl hbl2 (by rw[c1];exact g1))
  .refine⟨some cb,by rw[c1];exact g1,p2,f1,(λq=>by cases q),⟨c,el,fz',hfz',⟨(λq=>by cases q),f4.2⟩,f5⟩,?_⟩;rw[ERel_flat,CRel_iff];refine⟨us,VRels.mono hx0 (λ_ h=>h) (Emb.le_refl _) _ _ u1,λk q hk=>?_,u3⟩;have :=u2 k q hk;simp only[World.cell?,f3]at this;simp only[World.cell?,hfz'];exact this
  .have q2':φ.blk b blk.g=some (some cb',sz'):=q2;exact hne (h.inj k b x blk cb' _ _ hbx hbl q1 q2')
 .simp only[Option.some.injEq,Prod.mk.injEq]at hb;obtain⟨rfl,rfl,-⟩:=hb;simp only[VRel]at hx hn;subst hx;subst hn;exact⟨w,_,Lib.run_unsafeString_none w t it ty none,Ext.refl F w,h,by simp only[VRel];rfl⟩
 .cases hb
theorem strCells_list(l:List UInt8):Lib.strCells ⟨l.toArray⟩=l.map λc=>Value.int .u8 c.toNat:=by simp[Lib.strCells]
theorem kAppStr_ok[Adr](h:HRel w0 w F φ U η){t t' ty:TypeId}{nm nm':Nat}{s v:AV}{l:List UInt8}{y:Value}{blk':ABlk}{rd:List Nat}(hb:kAppStr P t t' s l η nm=some (v,(nm',blk'),rd))(hs:VRel w F φ s y)(hnm:¬U nm)(hU:∀b,U b->U' b)(hUn:U' nm):∃w' φ' z,(Builtin.append_ #[t,t'] ty #[y,.string ⟨l.toArray⟩]).run P w=.ok z w'/\φ.sle φ'/\Ext F w w'/\HRel w0 w' F φ' U' (fupd η nm' (some blk'))/\VRel w' F φ' v z:=by
 unfold kAppStr at hb;split at hb;rotate_left;.cases hb
 rename_i e ht hu;split at hb;rotate_left;.cases hb
 rename_i i hi;split at hb;rotate_left;.cases hb
 rename_i hz;split at hb;rotate_left;.cases hb
 rename_i hc;obtain⟨i1,i2,i3⟩:=hc;have ht':=tSlice_un ht;have hsz:(⟨l.toArray⟩:ByteArray).size=l.length:=by simp[ByteArray.size]
 have hxe:Ext F w w.drew:=ext_drew F w;have hD:HRel w0 w.drew F φ U η:=h.heap_same rfl h.below.drew;have hcells:(⟨l.toArray⟩:ByteArray).data.map (λb=>Value.int .u8 b.toNat)=(l.map λc=>Value.int .u8 c.toNat).toArray:=by simp
 have hone:∀v∈(l.map λc=>Value.int .u8 c.toNat),v.oneCell'=true:=λv hv=>by obtain⟨c,-,rfl⟩:=List.mem_map.1 hv;rfl
 have hl1:∀x∈(l.map λc=>([.int .u8 c.toNat]:List AV)),x.length=1:=λx hx=>by obtain⟨c,-,rfl⟩:=List.mem_map.1 hx;rfl
 split at hb
 .split at hb;rotate_left;.cases hb
  rename_i hbig;simp only[Option.some.injEq,Prod.mk.injEq]at hb;obtain⟨rfl,⟨rfl,rfl⟩,-⟩:=hb;simp only[VRel]at hs;subst hs;have hrun:=run_append_nil_string (P:=P) w t t' ty e i (.int .u8 0) ht' hu hi hz ⟨l.toArray⟩ (by rw[hsz];exact i3) (by rw[hsz];omega) (by rw[hsz,i2];omega);rw[hsz,hcells]at hrun;obtain⟨a1,a2,a3,-⟩:=hD.alloc (U':=U') (c:=(l.map λc=>Value.int .u8 c.toNat).toArray++Builtin.zeroCells (Value.int .u8 0).cells (grownCap w l.length 0 e-l.length)) (el:=e) (vs:=l.map λc=>.int .u8 c.toNat) nm hnm {g:=0,own:=true,pure:=true,sz:=1,es:=l.map λc=>[.int .u8 c.toNat],ty:=some e} rfl hl1 (by simp only[ABlk.emb,if_true];exact bytes_rel l) hone (λk v hk=>by have hlt:=(List.getElem?_eq_some_iff.1 hk).1;rw[Array.getElem?_append_left (by simpa using hlt)];simpa using hk) hU hUn (λ_ q=>by cases q;rfl);refine⟨_,_,_,hrun,a2,hxe.trans a3 (λ_ h=>h),a1,?_⟩;simp only[VRel];have hle:l.length<=grownCap w l.length 0 e:=grownCap_ge w l.length 0 e;refine .inr ⟨w.heap.size,_,φ.add_same _ _ _,by simp,hle,e,_,by simp only[World.shape?];rw[show w.heap.size=w.drew.heap.size from rfl,heap_alloc_new],?_⟩;have hz1:(Value.int IntKind.u8 0).cells.size=1:=rfl;simp only[Array.size_append,List.size_toArray,List.length_map,Builtin.zeroCells,Array.size_map,Array.size_range,hz1];omega
 .rename_i b g z off len;split at hb;rotate_left;.cases hb
  rename_i blk hbl;split at hb;rotate_left;.cases hb
  rename_i hc;obtain⟨rfl,c1,c2,rfl,c3,c4,c5,c6,c7⟩:=hc;simp only[Option.some.injEq,Prod.mk.injEq]at hb;obtain⟨rfl,⟨rfl,rfl⟩,-⟩:=hb;simp only[VRel]at hs;rcases hs with⟨-,-,h0,-⟩|⟨cb,cap,h1,rfl,h3,el0,n0,h4,h5⟩;.omega
  obtain⟨pl,p1,p2,p3⟩:=h.blk b blk hbl;have hp:φ.blk b blk.g=some (some cb,blk.sz):=by rw[c1,c2];exact h1
  rw[hp]at p1;simp only[Option.some.injEq,Prod.mk.injEq,and_true]at p1;subst p1;obtain⟨f1,f2,⟨c,el,fz,f3,⟨hfz,hty⟩,f4⟩,f5⟩:=p3;obtain rfl:=hfz c5;obtain rfl:=hty e c6;have hn0:n0=c.size:=by simp only[World.shape?,f3,Option.some.injEq,Prod.mk.injEq]at h4;exact h4.2.symm
  subst hn0;rw[ERel_flat,CRel_iff]at f5;obtain⟨os,o1,o2,o3⟩:=f5;have hol:=o1.length;rw[flatten_len _ _ p2,c2,Nat.mul_one]at hol;have hoc:∀(k:Nat)(v:Value),os[k]?=some v->c[k]?=some v:=λk v hk=>by have :=o2 k v hk;simp only[World.cell?,f3,Nat.zero_add]at this;simpa using this
  have hall:∀x∈blk.es++(l.map λc=>([.int .u8 c.toNat]:List AV)),x.length=blk.sz:=λx hx=>by
   rcases List.mem_append.1 hx with hx|hx;.exact p2 x hx
   .rw[c2];exact hl1 x hx
  have hemb:∀{w2:World},VRels w2 F (blk.emb φ) blk.es.flatten os->VRels w2 F (({blk with g:=blk.g+1,es:=blk.es++(l.map λc=>[.int .u8 c.toNat]),pure:=blk.pure&&true}:ABlk).emb φ) (blk.es++(l.map λc=>([.int .u8 c.toNat]:List AV))).flatten (os++l.map λc=>.int .u8 c.toNat):=by
   intro w2 q;rw[List.flatten_append];have :(({blk with g:=blk.g+1,es:=blk.es++(l.map λc=>[.int .u8 c.toNat]),pure:=blk.pure&&true}:ABlk).emb φ)=blk.emb φ:=by simp[ABlk.emb]
   rw[this];exact q.append (bytes_rel l)
  simp only[Nat.zero_mul,Nat.mul_one]at h5⊢;have hcap:cap<=c.size:=by simpa using h5
  subst c1;by_cases hroom:len+l.length<=cap
  .have hrun:=Lib.run_append_room_string (P:=P) w t t' ty el i ht' hu hi i1 cb len cap c f3 ⟨l.toArray⟩ (by rw[hsz];exact hroom) (by rw[hsz];omega);rw[hsz,strCells_list]at hrun;have hrow:=list_app_row (p:=len) (c:=c) (os:=os) (us:=l.map λc=>Value.int .u8 c.toNat) (by omega) (by simp;omega) hoc;simp only[List.length_map]at hrow
   obtain⟨φ',r1,r2,r3,r4⟩:=h.rewrite (blk':={blk with g:=blk.g+1,es:=blk.es++(l.map λc=>[.int .u8 c.toNat]),pure:=blk.pure&&true}) (c':=(c.toList.take len++(l.map λc=>Value.int .u8 c.toNat)++c.toList.drop (len+l.length)).toArray) (us:=os++l.map λc=>.int .u8 c.toNat) hbl hp c5 f3 (by simp only[List.size_toArray,List.length_append,List.length_take,List.length_drop,Array.length_toList,List.length_map];omega) rfl (.inr rfl) hall (hemb o1) (by
    intro v hv;rcases List.mem_append.1 hv with hv|hv;.exact o3 v hv
    .exact hone v hv) hrow;refine⟨_,φ',_,hrun,r1,r3,r4.weakenU hU,?_⟩;simp only[VRel];have r2':φ'.blk b (blk.g+1)=some (some cb,blk.sz):=r2;rw[c2]at r2';exact .inr ⟨cb,cap,r2',by simp,hroom,el0,c.size,r3.shape _ _ h4,by simpa using hcap⟩
  .have hrun:=Lib.run_append_grow_string (P:=P) w t t' ty el i (.int .u8 0) ht' hu hi hz ⟨cb,0,none⟩ len cap os (by rw[i1];omega) (λj v hj=>by have :=o2 j v hj;rw[addr_add];simpa using this) ⟨l.toArray⟩ (by rw[hsz];omega) (by rw[hsz];omega) (by rw[hsz,i2];have :=nextcap_le (need:=len+l.length) (cap:=cap) (by omega);omega);rw[hsz,strCells_list]at hrun;have hDo:VRels w.drew F (blk.emb φ) blk.es.flatten os:=VRels.mono hxe (λ_ h=>h) (Emb.le_refl _) _ _ o1
   obtain⟨a1,a2,a3⟩:=hD.renew (blk':={blk with g:=blk.g+1,es:=blk.es++(l.map λc=>[.int .u8 c.toNat]),pure:=blk.pure&&true}) (c':=os.toArray++(l.map λc=>Value.int .u8 c.toNat).toArray++Builtin.zeroCells (Value.int .u8 0).cells (grownCap w (len+l.length) cap el-(len+l.length))) (el:=el) (us:=os++l.map λc=>.int .u8 c.toNat) hbl rfl hall (hemb hDo) (by
    intro v hv;rcases List.mem_append.1 hv with hv|hv;.exact o3 v hv
    .exact hone v hv) (λk v hk=>by have :=(List.getElem?_eq_some_iff.1 hk).1;rw[Array.getElem?_append_left (by simpa using this)];simpa using hk) (λq hq=>by have :blk.ty=some q:=hq;rw[c6]at this;cases this;rfl);have hle:len+l.length<=grownCap w (len+l.length) cap el:=grownCap_ge w _ cap el;refine⟨_,_,_,hrun,a1,hxe.trans a2 (λ_ h=>h),a3.weakenU hU,?_⟩;simp only[VRel];have r2':(φ.add b (blk.g+1) (some w.heap.size,blk.sz)).blk b (blk.g+1)=some (some w.heap.size,blk.sz):=φ.add_same _ _ _;refine .inr ⟨w.heap.size,_,r2'.trans (by rw[c2]),by simp,hle,el,_,by simp only[World.shape?];rw[show w.heap.size=w.drew.heap.size from rfl,heap_alloc_new],?_⟩;have hz1:(Value.int IntKind.u8 0).cells.size=1:=rfl;simp only[Array.size_append,List.size_toArray,List.length_map,Builtin.zeroCells,Array.size_map,Array.size_range,hz1];omega
 .cases hb
theorem kArrSl_ok[Adr](h:HRel w0 w F φ U η){t:TypeId}{x v:AV}{lo hi mx:Option AV}{y:Value}{l' h' m':Option Value}{rd:List Nat}(hb:kArrSl P t x lo hi mx η=some (v,rd))(hx:VRel w F φ x y)(h1:ORel w F φ lo l')(h2:ORel w F φ hi h')(h3:ORel w F φ mx m'):∃z,(Instr.sliceAt t y l' h' m').run P w=.ok z w/\VRel w F φ v z:=by
 unfold kArrSl at hb;split at hb;rotate_left;.cases hb
 rename_i n e b g ht;split at hb;rotate_left;.cases hb
 rename_i blk hbl hsz;split at hb;rotate_left;.cases hb
 rename_i l hh;split at hb;rotate_left;.cases hb
 rename_i hc;obtain⟨c1,c2,c3,c4,c5,c6⟩:=hc;simp only[Option.some.injEq,Prod.mk.injEq]at hb;obtain⟨rfl,-⟩:=hb
 have hu:P.underlying t=some (.array n e):=by
  unfold tArr at ht;split at ht;.rename_i h2;cases ht;exact h2
  .cases ht
 simp only[ORel,VRel]at h1 h2 h3;obtain⟨_,rfl,rfl⟩:=h1;obtain⟨_,rfl,rfl⟩:=h2;subst h3;simp only[VRel]at hx;obtain⟨cb,sz,g1,rfl⟩:=hx;obtain⟨pl,p1,p2,p3⟩:=h.blk b blk hbl;rw[c1,g1]at p1;simp only[Option.some.injEq,Prod.mk.injEq]at p1;obtain⟨rfl,rfl⟩:=p1;obtain⟨f1,f2,⟨c,el,fz,f3,f4,f5⟩,f6⟩:=p3;have hel:P.elem t=e:=by simp[Program.elem,hu]
 have hal:P.arrayLen t=n:=by simp[Program.arrayLen,hu]
 have hsz':(sizeOf (P.elem t)).run P w=.ok 1 w:=by rw[hel];exact run_sizeOf_of hsz w
 have hrun:=run_sliceAt_array_lh (P:=P) w t ⟨cb,0,none⟩ (by rw[hel,hal];exact hu) .i64 .i64 l hh c4 (by omega) (by rw[hal];exact c6);rw[hsz',hal]at hrun;simp only[Result.andThen_ok,slicedAt]at hrun;rw[if_neg (by omega)]at hrun;simp only[addr_add,Nat.zero_add,Nat.mul_one]at hrun;simp only[Nat.zero_mul,Nat.add_zero];refine⟨_,hrun,?_⟩;simp only[VRel];refine .inr ⟨cb,n-l.toNat,by rw[<-c2];exact g1,by simp,by omega,el,c.size,by simp only[World.shape?,f3],?_⟩;rw[c2,Nat.mul_one]at f5;omega
end
end Go.AM
end
section
set_option linter.unusedSimpArgs false
set_option linter.unusedVariables false
namespace Go.AM
open Go Go.RowKit
section
variable{P:Program}{w0 w:World}{F:Nat->Prop}{φ:Emb}{U U':Nat->Prop}{η:Heap}
theorem opSem2_ok[Adr](h:HRel w0 w F φ U η){ρ:Operand->Value}{ρa:Operand->AV}(hρ:∀x,VRel w F φ (ρa x) (ρ x)){nm:Nat}(hnm:¬U nm)(hU:∀b,U b->U' b)(hUn:U' nm){o:Oper}{e:Eff}(he:opSem2 P o.op ρa η nm=some e):Leaves w0 w F φ U' (apWr η e.wr) e.v ((execOp ρ o).run P w):=by
 obtain⟨dst,op,ty,pos,after,guard⟩:=o;simp only at he;unfold execOp;simp only;cases op<;>simp only[opSem2,reduceCtorEq]at he;case binOp op t x y yt=>simp only[Option.map_eq_some_iff]at he;obtain⟨v,hv,rfl⟩:=he;obtain⟨z,r1,r2⟩:=kBin_ok (P:=P) (w:=w) hv (hρ x) (hρ y);exact Leaves.same h hU r1 r2
 case load t a=>simp only[Option.map_eq_some_iff]at he;obtain⟨v,hv,rfl⟩:=he;obtain⟨y,r1,r2⟩:=kLoad_ok (P:=P) hv (hρ a);exact Leaves.same h hU r1 r2
 case fieldAddr t x f=>simp only[Option.map_eq_some_iff]at he;obtain⟨v,hv,rfl⟩:=he;obtain⟨z,r1,r2⟩:=kFieldAddr_ok (P:=P) hv (hρ x);exact Leaves.same h hU r1 r2
 case indexAddr t x i=>simp only[Option.map_eq_some_iff]at he;obtain⟨v,hv,rfl⟩:=he;obtain⟨z,r1,r2⟩:=kIndexAddr_ok (P:=P) hv (hρ x) (hρ i);exact Leaves.same h hU r1 r2
 case slice t x lo hi mx=>
  split at he;.rename_i v hv;cases he;obtain⟨z,r1,r2⟩:=kSlice_ok (P:=P) hv (hρ x) (orel_map hρ lo) (orel_map hρ hi) (orel_map hρ mx);exact Leaves.same h hU r1 r2
  .split at he;.rename_i v hv;cases he;obtain⟨z,r1,r2⟩:=kSliceX_ok (P:=P) hv (wkx_rel (hρ x)) (orel_map hρ lo) (orel_map hρ hi) (orel_map hρ mx);exact Leaves.same h hU r1 r2
   .simp only[Option.map_eq_some_iff]at he;obtain⟨⟨v,rd⟩,hv,rfl⟩:=he;obtain⟨z,r1,r2⟩:=kArrSl_ok (P:=P) h hv (hρ x) (orel_map hρ lo) (orel_map hρ hi) (orel_map hρ mx);exact Leaves.same h hU r1 r2
 case makeSlice t l c=>simp only[Option.map_eq_some_iff]at he;obtain⟨⟨v,nm',blk⟩,hv,rfl⟩:=he;obtain⟨rfl,hr⟩:=kMake_ok (P:=P) h hv (hρ l) (hρ c) hnm hU hUn;exact Leaves.of hr
 case convert s d x=>
  split at he;.rename_i r hv;obtain⟨v,nm',blk⟩:=r;cases he;obtain⟨rfl,hr⟩:=kConv_ok (P:=P) h hv (hρ x) hnm hU hUn;exact Leaves.of hr
  .split at he;.rename_i r hv;obtain⟨v,rd⟩:=r;cases he;obtain⟨z,r1,r2⟩:=kConvS_ok (P:=P) h hv (hρ x);exact Leaves.same h hU r1 r2
   simp only[Option.map_eq_some_iff]at he;obtain⟨⟨v,rd⟩,hv,rfl⟩:=he;obtain⟨z,r1,r2⟩:=kConvP_ok (P:=P) h hv (hρ x);exact Leaves.same h hU r1 r2
 case alloc t=>simp only[Option.map_eq_some_iff]at he;obtain⟨⟨v,nm',blk⟩,hv,rfl⟩:=he;obtain⟨rfl,hr⟩:=kAlloc_ok (P:=P) h hv hnm hU hUn;exact Leaves.of hr
 case build t parts=>simp only[Option.map_eq_some_iff]at he;obtain⟨v,hv,rfl⟩:=he;obtain⟨y,r1,r2⟩:=kBuild_ok (P:=P) (w:=w) (F:=F) (φ:=φ) (cparts:=parts.map λ(i,x)=>(i,ρ x)) hv (by simp) (map_rel hρ parts);exact Leaves.same h hU r1 r2
 case index t x i=>simp only[Option.map_eq_some_iff]at he;obtain⟨v,hv,rfl⟩:=he;obtain⟨z,r1,r2⟩:=kIndex_ok (P:=P) hv (hρ x) (hρ i);exact Leaves.same h hU r1 r2
 case call c=>
  obtain⟨callee,args,argTypes⟩:=c;cases callee<;>simp only[reduceCtorEq]at he;rename_i b;have hT:∀{l:List TypeId},argTypes.toList=l->argTypes=⟨l⟩:=λh=>by rw[<-h]
  have hA:∀{l:List AV},args.toList.map ρa=l->∃vs,args.map ρ=⟨vs⟩/\VRels w F φ l vs:=λh=>⟨args.toList.map ρ,by apply Array.ext';simp,by rw[<-h];exact rels_map hρ _⟩;cases b<;>simp only[semB2,reduceCtorEq]at he
  case len=>
   split at he;.rename_i t b g z off len lo ex e1 e2;simp only[Option.map_eq_some_iff]at he;obtain⟨el,hel,rfl⟩:=he;obtain⟨vs,h1,h2⟩:=hA e2;simp only[VRels,VRel]at h2;obtain⟨y,_,rfl,⟨cb,cap,-,rfl,-⟩,rfl⟩:=h2;rw[hT e1];refine⟨w,φ,.int .i64 len,.inl ?_,Emb.sle_refl φ,Ext.refl F w,h.weakenU hU,by simp only[VRel]⟩;simp[resolve,invoke,builtin,h1,Builtin.len_,run_underlying (tSlice_un hel),goInt]
   .rename_i t n s e1 e2;split at he;rotate_left;.cases he
    rename_i hu;cases he;obtain⟨vs,h1,h2⟩:=hA e2;simp only[VRels,VRel]at h2;obtain⟨y,_,rfl,⟨rfl,-⟩,rfl⟩:=h2;rw[hT e1];refine⟨w,φ,.int .i64 (⟨s.toArray⟩:ByteArray).size,.inl ?_,Emb.sle_refl φ,Ext.refl F w,h.weakenU hU,by simp only[VRel];exact⟨_,rfl⟩⟩;simp[resolve,invoke,builtin,h1,Builtin.len_,run_underlying hu,goInt]
   .cases he
  case cap=>
   split at he;.rename_i t b g z off len lo e1 e2;simp only[Option.map_eq_some_iff]at he;obtain⟨el,hel,rfl⟩:=he;obtain⟨vs,h1,h2⟩:=hA e2;simp only[VRels,VRel]at h2;obtain⟨y,_,rfl,⟨cb,cap,-,rfl,-,-,hx,-⟩,rfl⟩:=h2;rw[hx trivial]at h1;rw[hT e1];refine⟨w,φ,.int .i64 lo,.inl ?_,Emb.sle_refl φ,Ext.refl F w,h.weakenU hU,by simp only[VRel]⟩;simp[resolve,invoke,builtin,h1,Builtin.cap_,run_underlying (tSlice_un hel),goInt]
   .rename_i t e1 e2;simp only[Option.map_eq_some_iff]at he;obtain⟨el,hel,rfl⟩:=he;obtain⟨vs,h1,h2⟩:=hA e2;simp only[VRels,VRel]at h2;obtain⟨y,_,rfl,rfl,rfl⟩:=h2;rw[hT e1];refine⟨w,φ,.int .i64 0,.inl ?_,Emb.sle_refl φ,Ext.refl F w,h.weakenU hU,by simp only[VRel]⟩;simp[resolve,invoke,builtin,h1,Builtin.cap_,run_underlying (tSlice_un hel),goInt]
   .cases he
  case append=>
   split at he
   .rename_i t t' s x e1 e2;obtain⟨vs,h1,h2⟩:=hA e2;simp only[VRels]at h2;obtain⟨y,_,rfl,hy,y',_,rfl,hy',rfl⟩:=h2;split at he;.simp only[Option.map_eq_some_iff]at he;obtain⟨⟨v,⟨nm',blk⟩,rd⟩,hv,rfl⟩:=he;obtain⟨w',φ',z,r1,r2,r3,r4,r5⟩:=kAppend_ok (P:=P) (ty:=ty) h hv hy hy' hnm hU hUn;rw[hT e1];refine⟨w',φ',z,.inl ?_,r2,r3,r4,r5⟩;simp[resolve,invoke,builtin,h1,r1]
    .simp only[Option.map_eq_some_iff]at he;obtain⟨⟨v,⟨nm',blk⟩,rd⟩,hv,rfl⟩:=he;obtain⟨w',φ',z,r1,r2,r3,r4,r5⟩:=kAppX_ok (P:=P) (ty:=ty) h hv hy hy' hnm hU hUn;rw[hT e1];refine⟨w',φ',z,.inl ?_,r2,r3,r4,r5⟩;simp[resolve,invoke,builtin,h1,r1]
    .split at he;.simp only[Option.map_eq_some_iff]at he;obtain⟨⟨v,⟨nm',blk⟩,rd⟩,hv,rfl⟩:=he;simp only[VRel]at hy';subst hy';obtain⟨w',φ',z,r1,r2,r3,r4,r5⟩:=kAppStr_ok (P:=P) (ty:=ty) h hv hy hnm hU hUn;rw[hT e1];refine⟨w',φ',z,.inl ?_,r2,r3,r4,r5⟩;simp[resolve,invoke,builtin,h1,r1]
     .simp only[Option.map_eq_some_iff]at he;obtain⟨⟨v,⟨nm',blk⟩,rd⟩,hv,rfl⟩:=he;obtain⟨w',φ',z,r1,r2,r3,r4,r5⟩:=append_ok (P:=P) (ty:=ty) h hv hy (wk_rel hy') hnm hU hUn;rw[hT e1];refine⟨w',φ',z,.inl ?_,r2,r3,r4,r5⟩;simp[resolve,invoke,builtin,h1,r1]
     .split at he;.simp only[Option.map_eq_some_iff]at he;obtain⟨⟨v,nm',blk⟩,hv,rfl⟩:=he;obtain⟨w',φ',z,r1,r2,r3,r4,r5⟩:=kZeros_ok (P:=P) (ty:=ty) h hv hy hy' hnm hU hUn;rw[hT e1];refine⟨w',φ',z,.inl ?_,r2,r3,r4,r5⟩;simp[resolve,invoke,builtin,h1,r1]
      .cases he
     .cases he
   .cases he
  case unsafeSliceData=>
   split at he;.rename_i x e2;simp only[Option.map_eq_some_iff]at he;obtain⟨v,hv,rfl⟩:=he;obtain⟨vs,h1,h2⟩:=hA e2;simp only[VRels]at h2;obtain⟨y,_,rfl,hy,rfl⟩:=h2;obtain⟨z,r1,r2⟩:=kSlData_ok (P:=P) (w:=w) (ts:=argTypes) (ty:=ty) hv hy;refine⟨w,φ,z,.inl ?_,Emb.sle_refl φ,Ext.refl F w,h.weakenU hU,r2⟩;simp[resolve,invoke,builtin,h1,r1]
   .cases he
  case unsafeString=>
   split at he;.rename_i t it x n e1 e2;simp only[Option.map_eq_some_iff]at he;obtain⟨⟨v,wr,rd⟩,hv,rfl⟩:=he;obtain⟨vs,h1,h2⟩:=hA e2;simp only[VRels]at h2;obtain⟨y,_,rfl,hy,y',_,rfl,hy',rfl⟩:=h2;obtain⟨w',z,r1,r2,r3,r4⟩:=kUStr_ok (P:=P) (it:=it) (ty:=ty) h hv hy hy';rw[hT e1];refine⟨w',φ,z,.inl ?_,Emb.sle_refl φ,r2,r3.weakenU hU,r4⟩;simp[resolve,invoke,builtin,h1,r1]
   .cases he
  case copy=>
   split at he;.rename_i t t' d x e1 e2;obtain⟨vs,h1,h2⟩:=hA e2;simp only[VRels]at h2;obtain⟨y,_,rfl,hy,y',_,rfl,hy',rfl⟩:=h2;simp only[Option.map_eq_some_iff]at he;obtain⟨⟨v,⟨nm',blk⟩,rd⟩,hv,rfl⟩:=he;obtain⟨w',φ',z,r1,r2,r3,r4,r5⟩:=kCopy_ok (P:=P) (ty:=ty) h hv hy hy';rw[hT e1];refine⟨w',φ',z,.inl ?_,r2,r3,r4.weakenU hU,r5⟩;simp[resolve,invoke,builtin,h1,r1]
   .cases he
  case clear=>
   split at he
   .rename_i t d e1 e2;obtain⟨vs,h1,h2⟩:=hA e2;simp only[VRels]at h2;obtain⟨y,_,rfl,hy,rfl⟩:=h2;rw[hT e1];split at he;.rename_i hz;simp only[Option.map_eq_some_iff]at he;obtain⟨e0,hel,rfl⟩:=he;refine⟨w,φ,.tuple #[],.inl ?_,Emb.sle_refl φ,Ext.refl F w,h.weakenU hU,by simp only[VRel];exact⟨[],rfl,by simp only[VRels]⟩⟩;simp[resolve,invoke,builtin,h1,lenZ_run (P:=P) (ty:=ty) hel hz hy]
    .simp only[Option.map_eq_some_iff]at he;obtain⟨⟨v,⟨nm',blk⟩,rd⟩,hv,rfl⟩:=he;obtain⟨w',φ',z,r1,r2,r3,r4,r5⟩:=kClear_ok (P:=P) (ty:=ty) h hv hy;refine⟨w',φ',z,.inl ?_,r2,r3,r4.weakenU hU,r5⟩;simp[resolve,invoke,builtin,h1,r1]
   .cases he
  case min=>
   split at he;.rename_i a b c l e2;obtain⟨vs,h1,h2⟩:=hA e2;simp only[VRels]at h2;obtain⟨x,_,rfl,hx,y,_,rfl,hy,z,us,rfl,hz,hl⟩:=h2;simp only[Option.map_eq_some_iff]at he;obtain⟨v,hv,rfl⟩:=he;obtain⟨q,r1,r2⟩:=foldMin_ok (P:=P) (w:=w) _ _ _ _ (y::z::us) hv hx (by simp only[VRels];exact⟨y,_,rfl,hy,z,us,rfl,hz,hl⟩);refine⟨w,φ,q,.inl ?_,Emb.sle_refl φ,Ext.refl F w,h.weakenU hU,r2⟩;simp[resolve,invoke,builtin,h1,Builtin.min_,-List.foldlM_cons,r1]
   .cases he
  case max=>
   split at he;.rename_i a b c l e2;obtain⟨vs,h1,h2⟩:=hA e2;simp only[VRels]at h2;obtain⟨x,_,rfl,hx,y,_,rfl,hy,z,us,rfl,hz,hl⟩:=h2;simp only[Option.map_eq_some_iff]at he;obtain⟨v,hv,rfl⟩:=he;obtain⟨q,r1,r2⟩:=foldMax_ok (P:=P) (w:=w) _ _ _ _ (y::z::us) hv hx (by simp only[VRels];exact⟨y,_,rfl,hy,z,us,rfl,hz,hl⟩);refine⟨w,φ,q,.inl ?_,Emb.sle_refl φ,Ext.refl F w,h.weakenU hU,r2⟩;simp[resolve,invoke,builtin,h1,Builtin.max_,-List.foldlM_cons,r1]
   .cases he
theorem opSemE_ok[Adr]{ε:Bool}(h:HRel w0 w F φ U η){ρ:Operand->Value}{ρa:Operand->AV}(hρ:∀x,VRel w F φ (ρa x) (ρ x)){nm:Nat}(hnm:¬U nm)(hU:∀b,U b->U' b)(hUn:U' nm){o:Oper}{e:Eff}(he:opSemE ε P o.op ρa η nm=some e):Leaves w0 w F φ U' (apWr η e.wr) e.v ((execOp ρ o).run P w):=by
 cases ε with
  |false=>exact opSem_ok h hρ hnm hU hUn he
  |true=>
   simp only[opSemE]at he;split at he;.rename_i e' h2;cases he;exact opSem2_ok h hρ hnm hU hUn h2
   .split at he;.exact opSem_ok h (λx=>wkx_rel (hρ x)) hnm hU hUn he
    .exact opSem_ok h hρ hnm hU hUn he
end
end Go.AM
end
