/- Texts of the proof, joined by program. -/
import Derived.Test.YtaeifdlkolfdjaaGreatDoorKAmO
set_option linter.unusedSimpArgs false
set_option linter.unusedVariables false
namespace Go.AM
open Go Go.RowKit
variable{ε:Bool}
theorem evalO_local[Adr]{τ τ':Nat->AV}:∀(xs:List Operand),(∀t,t∈opTmps xs->τ' t=τ t)->∀x,x∈xs->evalO τ' x=evalO τ x
 |[],_,x,hx=>by simp at hx
 |y::ys,h,x,hx=>by
  rcases List.mem_cons.1 hx with e|e;.subst e;cases x with|tmp t=>exact h t (by simp[opTmps])|const v=>rfl|global g=>rfl|func f=>rfl
  .refine evalO_local ys (λt ht=>h t ?_) x e;cases y<;>simp only[opTmps]<;>first|exact ht|exact List.mem_cons_of_mem _ ht
theorem rdElem_local{η η':Heap}{b g i:Nat}(h:η' b=η b):rdElem η' b g i=rdElem η b g i:=by unfold rdElem;rw[h]
theorem aLoad_local[Adr]{P:Program}{t:TypeId}{a v:AV}{rd:List Nat}{η η':Heap}(h:aLoad P t a η=some (v,rd))(hb:∀b,b∈rd->η' b=η b):aLoad P t a η'=some (v,rd):=by
 have key:∀b g i j,a=.ref b g i j->rd=[b]->rdElem η' b g i=rdElem η b g i:=λb g i j _ e=>rdElem_local (hb b (by rw[e];simp));unfold aLoad at h⊢;split at h
 .rename_i ag n h1 h2;try simp only[h1,h2]
  split at h
  .rename_i b g i j
   have hrd:rd=[b]:=by
    split at h
    .split at h;.simp only[Option.map_eq_some_iff,Prod.mk.injEq]at h;obtain⟨_,_,_,e⟩:=h;exact e.symm
     .cases h
    .cases h
   try simp only
   rw[key b g i j rfl hrd];exact h
  .exact h
  .cases h
 .cases h
theorem aStore_local{P:Program}{t:TypeId}{a v:AV}{r:Nat×ABlk}{η η':Heap}(h:aStore P t a v η=some r)(hb:η' r.1=η r.1):aStore P t a v η'=some r:=by
 unfold aStore at h⊢;split at h
 .rename_i n b g i j cs h1 h2
  have hr:r.1=b:=by
   split at h
   .split at h
    .split at h
     .split at h;.simp only[Option.some.injEq]at h;rw[<-h]
      .cases h
     .cases h
    .cases h
   .cases h
  rw[hr]at hb;try simp only[hb]
  exact h
 .cases h
theorem aElems_local{sz:Nat}{x:AV}{r:List (List AV)×List Nat}{η η':Heap}(h:aElems η sz x=some r)(hb:∀b,b∈r.2->η' b=η b):aElems η' sz x=some r:=by
 unfold aElems at h⊢;split at h;.exact h
 .exact h
 .exact h
 .rename_i b g z off len
  have hr:r.2=[b]:=by
   split at h
   .split at h;.simp only[Option.some.injEq]at h;rw[<-h]
    .cases h
   .cases h
  have :=hb b (by rw[hr];simp);try simp only[this]
  exact h
 .cases h
theorem aAppend_local[Adr]{P:Program}{t t':TypeId}{s x:AV}{nm:Nat}{r:AV×(Nat×ABlk)×List Nat}{η η':Heap}(h:aAppend P t t' s x η nm=some r)(hb:∀b,b∈r.2.2->η' b=η b):aAppend P t t' s x η' nm=some r:=by
 unfold aAppend at h⊢;split at h;rotate_left;.cases h
 rename_i e e' h1 h2;try simp only[h1,h2]
 split at h;rotate_left;.cases h
 rename_i sz bs sz' z h3 h4 h5 h6;try simp only[h3,h4,h5,h6]
 split at h;rotate_left;.cases h
 rename_i hc;rw[if_pos hc];split at h;rotate_left;.cases h
 rename_i xs rd hel
 have hin:∀b,b∈rd->b∈r.2.2:=by
  intro b hbm;split at h
  .split at h;.simp only[Option.some.injEq]at h;rw[<-h];exact hbm
   .cases h
  .split at h;.simp only[Option.some.injEq]at h;rw[<-h];exact hbm
   .cases h
  .split at h
   .split at h;.simp only[Option.some.injEq]at h;rw[<-h];exact List.mem_cons_of_mem _ hbm
    .cases h
   .cases h
  .cases h
 rw[aElems_local hel (λb hbm=>hb b (hin b hbm))];try simp only
 split at h;.exact h
 .exact h
 .rename_i b g z' off len
  have hr:b∈r.2.2:=by
   split at h
   .split at h;.simp only[Option.some.injEq]at h;rw[<-h];simp
    .cases h
   .cases h
  try simp only[hb b hr]
  exact h
 .cases h
theorem mapE_local{f f':List AV->Option (List AV×List Nat)}{η η':Heap}(hf:∀(vs vs':List AV)(rd:List Nat),f vs=some (vs',rd)->(∀b,b∈rd->η' b=η b)->f' vs=some (vs',rd)):∀(es es':List (List AV))(rd:List Nat),mapE f es=some (es',rd)->(∀b,b∈rd->η' b=η b)->mapE f' es=some (es',rd)
 |[],es',rd,h,_=>by simpa only[mapE]using h
 |e::es,es',rd,h,hb=>by
  simp only[mapE]at h⊢;split at h;.rename_i e' r es'' r' h1 h2;cases h;rw[hf _ _ _ h1 (λc hc=>hb c (List.mem_append_left _ hc)),mapE_local hf es _ _ h2 (λc hc=>hb c (List.mem_append_right _ hc))]
  .cases h
mutual
theorem pur_local{η η':Heap}:∀(d:Nat)(v v':AV)(rd:List Nat),pur η d v=some (v',rd)->(∀b,b∈rd->η' b=η b)->pur η' d v=some (v',rd)
 |0,v,v',rd=>by intro h;simp[pur]at h
 |d+1,v,v',rd=>by
  intro h hb
  cases v with
   |ref b g i j=>
    simp only[pur]at h⊢
    have hr:b∈rd:=by
     split at h
     .split at h;.cases h
      .split at h;.cases h;simp
       .split at h;.cases h;simp
        .cases h
     .cases h
    rw[rdElem_local (hb b hr),hb b hr];split at h
    .rename_i e blk h1 h2;try simp only
     split at h;.cases h
     .rename_i hj;rw[if_neg hj];split at h;.rename_i hp;rw[if_pos hp];exact h
      .rename_i hp;rw[if_neg hp];split at h;.rename_i cs rd' hps;cases h;rw[purs_local d _ _ _ hps (λc hc=>hb c (List.mem_cons_of_mem _ hc))]
       .cases h
    .cases h
   |sl b g z off len=>
    simp only[pur]at h⊢
    have hr:b∈rd:=by
     split at h
     .split at h
      .split at h;.cases h;simp
       .split at h;.cases h;simp
        .cases h
      .cases h
     .cases h
    rw[hb b hr];split at h
    .rename_i blk hblk;try simp only
     split at h
     .rename_i hc;rw[if_pos hc];split at h;.rename_i hp;rw[if_pos hp];exact h
      .rename_i hp;rw[if_neg hp];split at h;.rename_i es rd' hps;cases h;rw[mapE_local (λvs vs' rd h hb=>purs_local d vs vs' rd h hb) _ _ _ hps (λc hc=>hb c (List.mem_cons_of_mem _ hc))]
       .cases h
     .cases h
    .cases h
   |fn f a c=>
    simp only[pur]at h⊢;split at h;.rename_i a' r c' r' h1 h2;cases h;rw[purs_local d _ _ _ h1 (λc hc=>hb c (List.mem_append_left _ hc)),purs_local d _ _ _ h2 (λc hc=>hb c (List.mem_append_right _ hc))]
    .cases h
   |iface t u=>
    simp only[pur]at h⊢;split at h;.rename_i u' r h1;cases h;rw[pur_local d _ _ _ h1 hb]
    .cases h
   |agg cs=>
    simp only[pur]at h⊢;split at h;.rename_i u' r h1;cases h;rw[purs_local d _ _ _ h1 hb]
    .cases h
   |tup cs=>
    simp only[pur]at h⊢;split at h;.rename_i u' r h1;cases h;rw[purs_local d _ _ _ h1 hb]
    .cases h
   |yld l=>simp only[pur]at h;cases h
   |mp l=>simp only[pur]at h;cases h
   |itr l=>simp only[pur]at h;cases h
   |top=>simpa only[pur]using h
   |anyb=>simpa only[pur]using h
   |bool b=>simpa only[pur]using h
   |int k n=>simpa only[pur]using h
   |str s=>simpa only[pur]using h
   |nilp=>simpa only[pur]using h
   |pp cs=>simpa only[pur]using h
   |nils=>simpa only[pur]using h
   |psl sz es=>simpa only[pur]using h
   |psx sz es=>simpa only[pur]using h
   |nilf=>simpa only[pur]using h
   |nili=>simpa only[pur]using h
   |emp=>simpa only[pur]using h
   |nilm=>simpa only[pur]using h
   |strb n s=>simpa only[pur]using h
   |inty k=>simpa only[pur]using h
   |dl n xs=>simpa only[pur]using h
   |gp k o cs=>simpa only[pur]using h
   |slk b g z o l c e=>simp only[pur]at h⊢;exact pur_local d _ _ _ h hb
theorem purs_local{η η':Heap}:∀(d:Nat)(vs vs':List AV)(rd:List Nat),pur.purs η d vs=some (vs',rd)->(∀b,b∈rd->η' b=η b)->pur.purs η' d vs=some (vs',rd)
 |0,vs,vs',rd=>by intro h;simp[pur.purs]at h
 |d+1,[],vs',rd=>by intro h _;simpa only[pur.purs]using h
 |d+1,v::vs,vs',rd=>by
  intro h hb;simp only[pur.purs]at h⊢;split at h;.rename_i v' r vs'' r' h1 h2;cases h;rw[pur_local d _ _ _ h1 (λc hc=>hb c (List.mem_append_left _ hc)),purs_local d _ _ _ h2 (λc hc=>hb c (List.mem_append_right _ hc))]
  .cases h
end
theorem freezeAll_local{η η':Heap}:∀(rd:List Nat),(∀b,b∈rd->η' b=η b)->freezeAll η' rd=freezeAll η rd|[],_=>rfl|b::bs,h=>by simp only[freezeAll];rw[h b (by simp),freezeAll_local bs (λc hc=>h c (by simp[hc]))]
theorem semCall_local[Adr]{η η':Heap}{nm:Nat}{f:AV}{args:List AV}{ans:AV×List ABlk}{e:Eff}{ob:Obl}(h:semCall η nm f args ans=some (e,ob))(hb:∀b,b∈e.rd->η' b=η b):semCall η' nm f args ans=some (e,ob):=by
 unfold semCall at h⊢;split at h
 .rename_i fid first cap;try simp only
  split at h
  .rename_i pargs rd hp;split at h
   .rename_i h8;simp only[Option.some.injEq,Prod.mk.injEq]at h;obtain⟨rfl,rfl⟩:=h;rw[purs_local 60 _ _ _ hp hb];try simp only[h8,if_true]
    rw[freezeAll_local rd hb]
   .cases h
  .cases h
 .cases h
theorem opSem_local[Adr]{P:Program}{op:Op}{ρ ρ':Operand->AV}{η η':Heap}{nm:Nat}{e:Eff}(h:opSem P op ρ η nm=some e)(hρ:∀x,x∈op.operands.toList->ρ' x=ρ x)(hb:∀b,b∈e.rd->η' b=η b):opSem P op ρ' η' nm=some e:=by
 have hmap:∀l:List Operand,(∀x,x∈l->x∈op.operands.toList)->l.map ρ'=l.map ρ:=λl hl=>List.map_congr_left λx hx=>hρ x (hl x hx);have hmap2:∀l:List (Nat×Operand),(∀x,x∈l->x.2∈op.operands.toList)->(l.map λp=>(p.1,ρ' p.2))=l.map λp=>(p.1,ρ p.2):=λl hl=>List.map_congr_left λx hx=>by rw[hρ x.2 (hl x hx)]
 have hopt:∀o:Option Operand,(∀x,o=some x->x∈op.operands.toList)->o.map ρ'=o.map ρ:=λo ho=>by cases o with|none=>rfl|some x=>simp[hρ x (ho x rfl)]
 cases op<;>simp only[opSem,reduceCtorEq]at h⊢;case move x=>rw[hρ x (by simp[Op.operands])];exact h
 case assign x=>rw[hρ x (by simp[Op.operands])];exact h
 case pick c a b=>rw[hρ c (by simp[Op.operands]),hρ a (by simp[Op.operands]),hρ b (by simp[Op.operands])];exact h
 case alloc t=>exact h
 case box t x=>rw[hρ x (by simp[Op.operands])];exact h
 case build t parts=>rw[hmap2 _ (λx hx=>by simp only[Op.operands,List.mem_map];exact⟨x,hx,rfl⟩)];exact h
 case buildSlice t len parts=>rw[hmap2 _ (λx hx=>by simp only[Op.operands,List.mem_map];exact⟨x,hx,rfl⟩)];exact h
 case load t a=>rw[hρ a (by simp[Op.operands])];simp only[Option.map_eq_some_iff]at h⊢;obtain⟨⟨v,rd⟩,h1,rfl⟩:=h;exact⟨(v,rd),aLoad_local h1 hb,rfl⟩
 case store t a x=>rw[hρ a (by simp[Op.operands]),hρ x (by simp[Op.operands])];simp only[Option.map_eq_some_iff]at h⊢;obtain⟨r,h1,rfl⟩:=h;exact⟨r,aStore_local h1 (hb _ (by simp)),rfl⟩
 case nilCheck x=>rw[hρ x (by simp[Op.operands])];exact h
 case binOp op t x y yt=>rw[hρ x (by simp[Op.operands]),hρ y (by simp[Op.operands])];exact h
 case unOp op t x=>rw[hρ x (by simp[Op.operands])];exact h
 case makeInterface t x=>rw[hρ x (by simp[Op.operands])];exact h
 case typeAssert x xt t ok=>rw[hρ x (by simp[Op.operands])];exact h
 case convert s d x=>rw[hρ x (by simp[Op.operands])];exact h
 case makeFunc f first cap=>rw[hmap first.toList (λx hx=>by simp only[Op.operands,Array.toList_append];exact List.mem_append_left _ hx),hmap cap.toList (λx hx=>by simp only[Op.operands,Array.toList_append];exact List.mem_append_right _ hx)];exact h
 case makeSlice t l c=>rw[hρ l (by simp[Op.operands]),hρ c (by simp[Op.operands])];exact h
 case slice t x lo hi mx=>rw[hρ x (by simp[Op.operands]),hopt lo (λx e=>by subst e;simp[Op.operands]),hopt hi (λx e=>by subst e;simp[Op.operands]),hopt mx (λx e=>by subst e;simp[Op.operands])];exact h
 case fieldAddr t x f=>rw[hρ x (by simp[Op.operands])];exact h
 case field t x f=>rw[hρ x (by simp[Op.operands])];exact h
 case indexAddr t x i=>rw[hρ x (by simp[Op.operands]),hρ i (by simp[Op.operands])];exact h
 case index t x i=>rw[hρ x (by simp[Op.operands]),hρ i (by simp[Op.operands])];exact h
 case extract x i=>rw[hρ x (by simp[Op.operands])];exact h
 case call c=>
  obtain⟨callee,args,argTypes⟩:=c;cases callee<;>simp only[reduceCtorEq]at h⊢;rename_i b;rw[hmap args.toList (λx hx=>by simp only[Op.operands,Call.operands,Array.toList_append];exact List.mem_append_right _ hx)];unfold semBuiltin at h⊢;split at h;.exact h
  .rename_i t t' s x e1 e2;simp only[Option.map_eq_some_iff]at h⊢;obtain⟨r,h1,rfl⟩:=h;exact⟨r,aAppend_local h1 hb,rfl⟩
  .exact h
  .exact h
  .cases h
theorem kAppend_local[Adr]{P:Program}{t t':TypeId}{s x:AV}{nm:Nat}{r:AV×(Nat×ABlk)×List Nat}{η η':Heap}(h:kAppend P t t' s x η nm=some r)(hb:∀b,b∈r.2.2->η' b=η b):kAppend P t t' s x η' nm=some r:=by
 unfold kAppend at h⊢;split at h;rotate_left;.cases h
 rename_i b g z off len lo ex;split at h;rotate_left;.cases h
 rename_i e e' he he';split at h;rotate_left;.cases h
 rename_i sz bs sz' zs h1 h2 h3 h4;split at h;rotate_left;.cases h
 rename_i hc;try rw[if_pos hc]
 split at h;rotate_left;.cases h
 rename_i xs rd blk hel hbk;split at h;rotate_left;.cases h
 rename_i hg
 have key:b∈r.2.2/\ ∀c,c∈rd->c∈r.2.2:=by
  split at h
  .split at h;.cases h;simp;intro c hc;exact .inr hc
   .cases h
  .split at h;.cases h;simp;intro c hc;exact .inr hc
   .cases h
 rw[aElems_local hel λc hc=>hb c (key.2 c hc),hb b key.1,hbk];simp only[];rw[if_pos hg];exact h
theorem kAppX_local[Adr]{P:Program}{t t':TypeId}{s x:AV}{nm:Nat}{r:AV×(Nat×ABlk)×List Nat}{η η':Heap}(h:kAppX P t t' s x η nm=some r)(hb:∀b,b∈r.2.2->η' b=η b):kAppX P t t' s x η' nm=some r:=by
 unfold kAppX at h⊢;split at h;rotate_left;.cases h
 split at h;rotate_left;.cases h
 split at h;rotate_left;.cases h
 rename_i hc;try rw[if_pos hc]
 split at h;rotate_left;.cases h
 rename_i xs rd hel;split at h;rotate_left;.cases h
 rename_i hg;cases h;rw[aElems_local hel λc hc=>hb c hc];simp only[];rw[if_pos hg]
theorem kCopy_local[Adr]{P:Program}{t t':TypeId}{d x:AV}{r:AV×(Nat×ABlk)×List Nat}{η η':Heap}(h:kCopy P t t' d x η=some r)(hb:∀b,b∈r.2.2->η' b=η b):kCopy P t t' d x η'=some r:=by
 unfold kCopy at h⊢;split at h;rotate_left;.cases h
 rename_i k e e' hk he he';split at h;rotate_left;.cases h
 rename_i sz h1;split at h;rotate_left;.cases h
 rename_i xs rd blk hel hbk;split at h;rotate_left;.cases h
 rename_i hc;cases h;rw[aElems_local hel λc hc=>hb c (by simp;exact .inr hc),hb k.b (by simp),hbk];simp only[hc,and_self,if_true]
theorem kClear_local[Adr]{P:Program}{t:TypeId}{d:AV}{r:AV×(Nat×ABlk)×List Nat}{η η':Heap}(h:kClear P t d η=some r)(hb:∀b,b∈r.2.2->η' b=η b):kClear P t d η'=some r:=by
 unfold kClear at h⊢;split at h;rotate_left;.cases h
 rename_i k e hk he;split at h;rotate_left;.cases h
 rename_i sz z blk h1 h2 hbk;split at h;rotate_left;.cases h
 rename_i hc;cases h;simp only[hk,he,h1,h2,hb k.b (by simp),hbk];rw[if_pos hc]
theorem kConvS_local[Adr]{P:Program}{s d:TypeId}{x:AV}{r:AV×List Nat}{η η':Heap}(h:kConvS P s d x η=some r)(hb:∀b,b∈r.2->η' b=η b):kConvS P s d x η'=some r:=by
 unfold kConvS at h⊢;split at h;rotate_left;.cases h
 rename_i e hs hd;split at h;rotate_left;.cases h
 rename_i he;split at h;rotate_left;.cases h
 rename_i es rd hel;split at h;rotate_left;.cases h
 rename_i l hl;cases h;simp only[hs,hd,he,aElems_local hel λc hc=>hb c hc,hl]
theorem kConvS_none{P:Program}{s d:TypeId}{x y v:AV}{η:Heap}(h:aConv P s d y=some v):kConvS P s d x η=none:=by
 unfold aConv at h;unfold kConvS;split
 .rename_i e hs hd
  have hu:P.underlying s=some (.slice e):=by
   unfold tSlice at hs;split at hs;.rename_i h2;cases hs;exact h2
   .cases hs
  rw[hu,hd]at h;simp at h
 .rfl
theorem kConvP_local[Adr]{P:Program}{s d:TypeId}{x:AV}{r:AV×List Nat}{η η':Heap}(h:kConvP P s d x η=some r)(hb:∀b,b∈r.2->η' b=η b):kConvP P s d x η'=some r:=by
 unfold kConvP at h⊢;split at h;rotate_left;.cases h
 rename_i b g i j;split at h;rotate_left;.cases h
 rename_i blk hbl;have hm:b∈r.2:=by revert h;(repeat' split)<;>intro h<;>first|(cases h;exact List.mem_singleton.2 rfl)|cases h
 simp only[hb b hm,hbl];exact h
theorem kConvP_none{P:Program}{s d:TypeId}{x y v:AV}{η:Heap}(h:aConv P s d y=some v):kConvP P s d x η=none:=by
 unfold aConv at h;unfold kConvP;split;rotate_left;.rfl
 split;rotate_left;.rfl
 split;.rename_i hs hd;rw[hs,hd]at h;simp at h
 .rename_i hs hd;rw[hs,hd]at h;simp at h
 .rfl
theorem kConvS_kConvP{P:Program}{s d:TypeId}{x:AV}{r r':AV×List Nat}{η η':Heap}(h:kConvS P s d x η=some r)(k:kConvP P s d x η'=some r'):False:=by
 unfold kConvS at h;unfold kConvP at k;split at h;rotate_left;.cases h
 rename_i e hs hd;rw[hd]at k;revert k;(repeat' split)<;>intro k<;>simp_all
theorem kUStr_local[Adr]{P:Program}{t:TypeId}{x n:AV}{r:AV×List (Nat×ABlk)×List Nat}{η η':Heap}(h:kUStr P t x n η=some r)(hb:∀b,b∈r.2.2->η' b=η b):kUStr P t x n η'=some r:=by
 unfold kUStr at h⊢;split at h
 .rename_i b g m;split at h;rotate_left;.cases h
  rename_i blk e hbl hp;have hm:b∈r.2.2:=by revert h;(repeat' split)<;>intro h<;>first|(cases h;exact List.mem_singleton.2 rfl)|cases h
  simp only[hb b hm,hbl,hp];exact h
 .exact h
 .cases h
theorem kAppStr_local[Adr]{P:Program}{t t':TypeId}{s:AV}{l:List UInt8}{nm:Nat}{r:AV×(Nat×ABlk)×List Nat}{η η':Heap}(h:kAppStr P t t' s l η nm=some r)(hb:∀b,b∈r.2.2->η' b=η b):kAppStr P t t' s l η' nm=some r:=by
 unfold kAppStr at h⊢;split at h;rotate_left;.cases h
 split at h;rotate_left;.cases h
 split at h;rotate_left;.cases h
 rename_i hz;split at h;rotate_left;.cases h
 rename_i hc;simp only[hz,if_pos hc];split at h;.exact h
 .rename_i b g z off len;split at h;rotate_left;.cases h
  rename_i blk hbl;have hm:b∈r.2.2:=by revert h;split<;>intro h<;>first|(cases h;exact List.mem_singleton.2 rfl)|cases h
  simp only[hb b hm,hbl];exact h
 .cases h
theorem kArrSl_local[Adr]{P:Program}{t:TypeId}{x:AV}{lo hi mx:Option AV}{r:AV×List Nat}{η η':Heap}(h:kArrSl P t x lo hi mx η=some r)(hb:∀b,b∈r.2->η' b=η b):kArrSl P t x lo hi mx η'=some r:=by
 unfold kArrSl at h⊢;split at h;rotate_left;.cases h
 rename_i n e b g ht;split at h;rotate_left;.cases h
 rename_i blk hbl hsz;have hm:b∈r.2:=by revert h;(repeat' split)<;>intro h<;>first|(cases h;exact List.mem_singleton.2 rfl)|cases h
 simp only[hb b hm,hbl,hsz];exact h
theorem kArrSl_none{P:Program}{t:TypeId}{x y v:AV}{lo hi mx lo' hi' mx':Option AV}{η:Heap}(h:aSlice P t y lo hi mx=some v):kArrSl P t x lo' hi' mx' η=none:=by
 unfold aSlice at h;unfold kArrSl;split;rotate_left;.rfl
 rename_i n e b g ht
 have hu:P.underlying t=some (.array n e):=by
  unfold tArr at ht;split at ht;.rename_i h2;cases ht;exact h2
  .cases ht
 rw[hu]at h;simp at h
theorem opSem2_local[Adr]{P:Program}{op:Op}{ρ ρ':Operand->AV}{η η':Heap}{nm:Nat}{e:Eff}(h:opSem2 P op ρ η nm=some e)(hρ:∀x,x∈op.operands.toList->ρ' x=ρ x)(hb:∀b,b∈e.rd->η' b=η b):opSem2 P op ρ' η' nm=some e:=by
 have hmap:∀l:List Operand,(∀x,x∈l->x∈op.operands.toList)->l.map ρ'=l.map ρ:=λl hl=>List.map_congr_left λx hx=>hρ x (hl x hx);have hmap2:∀l:List (Nat×Operand),(∀x,x∈l->x.2∈op.operands.toList)->(l.map λp=>(p.1,ρ' p.2))=l.map λp=>(p.1,ρ p.2):=λl hl=>List.map_congr_left λx hx=>by rw[hρ x.2 (hl x hx)]
 have hopt:∀o:Option Operand,(∀x,o=some x->x∈op.operands.toList)->o.map ρ'=o.map ρ:=λo ho=>by cases o with|none=>rfl|some x=>simp[hρ x (ho x rfl)]
 cases op<;>simp only[opSem2,reduceCtorEq]at h⊢;case binOp op t x y yt=>rw[hρ x (by simp[Op.operands]),hρ y (by simp[Op.operands])];exact h
 case load t a=>rw[hρ a (by simp[Op.operands])];exact h
 case fieldAddr t x f=>rw[hρ x (by simp[Op.operands])];exact h
 case indexAddr t x i=>rw[hρ x (by simp[Op.operands]),hρ i (by simp[Op.operands])];exact h
 case slice t x lo hi mx=>rw[hρ x (by simp[Op.operands]),hopt lo (λx e=>by subst e;simp[Op.operands]),hopt hi (λx e=>by subst e;simp[Op.operands]),hopt mx (λx e=>by subst e;simp[Op.operands])];cases h1:kSlice P t (ρ x) (lo.map ρ) (hi.map ρ) (mx.map ρ)with|some v=>rw[h1]at h;exact h|none=>rw[h1]at h;cases h2:kSliceX P t (wkx (ρ x)) (lo.map ρ) (hi.map ρ) (mx.map ρ)with|some v=>rw[h2]at h;exact h|none=>rw[h2]at h;simp only[Option.map_eq_some_iff]at h⊢;obtain⟨r,h3,rfl⟩:=h;exact⟨r,kArrSl_local h3 hb,rfl⟩
 case makeSlice t l c=>rw[hρ l (by simp[Op.operands]),hρ c (by simp[Op.operands])];exact h
 case convert s d x=>
  rw[hρ x (by simp[Op.operands])]
  cases hr:kConv P s d (ρ x) nm with
   |some r=>rw[hr]at h;exact h
   |none=>
    rw[hr]at h
    cases hq:kConvS P s d (ρ x) η with
     |some r=>rw[hq]at h;cases h;rw[kConvS_local hq hb]
     |none=>
      rw[hq]at h;simp only[Option.map_eq_some_iff]at h;obtain⟨r,h1,rfl⟩:=h;have h2:=kConvP_local h1 hb;have h3:kConvS P s d (ρ x) η'=none:=by cases h4:kConvS P s d (ρ x) η' with|none=>rfl|some r'=>exact(kConvS_kConvP h4 h2).elim
      rw[h3];simp only[h2,Option.map_some]
 case alloc t=>exact h
 case build t parts=>rw[hmap2 _ (λx hx=>by simp only[Op.operands,List.mem_map];exact⟨x,hx,rfl⟩)];exact h
 case index t x i=>rw[hρ x (by simp[Op.operands]),hρ i (by simp[Op.operands])];exact h
 case call c=>
  obtain⟨callee,args,argTypes⟩:=c;cases callee<;>simp only[reduceCtorEq]at h⊢;rename_i b;rw[hmap args.toList (λx hx=>by simp only[Op.operands,Call.operands,Array.toList_append];exact List.mem_append_right _ hx)];cases b<;>simp only[semB2,reduceCtorEq]at h⊢;case len=>exact h
  case cap=>exact h
  case append=>
   split at h
   .split at h;.simp only[Option.map_eq_some_iff]at h⊢;obtain⟨r,h1,rfl⟩:=h;exact⟨r,kAppend_local h1 hb,rfl⟩
    .simp only[Option.map_eq_some_iff]at h⊢;obtain⟨r,h1,rfl⟩:=h;exact⟨r,kAppX_local h1 hb,rfl⟩
    .split at h;.simp only[Option.map_eq_some_iff]at h⊢;obtain⟨r,h1,rfl⟩:=h;exact⟨r,kAppStr_local h1 hb,rfl⟩
     .simp only[Option.map_eq_some_iff]at h⊢;obtain⟨r,h1,rfl⟩:=h;exact⟨r,aAppend_local h1 hb,rfl⟩
     .exact h
     .cases h
   .cases h
  case copy=>
   split at h;.simp only[Option.map_eq_some_iff]at h⊢;obtain⟨r,h1,rfl⟩:=h;exact⟨r,kCopy_local h1 hb,rfl⟩
   .cases h
  case unsafeSliceData=>exact h
  case unsafeString=>
   split at h;.simp only[Option.map_eq_some_iff]at h⊢;obtain⟨r,h1,rfl⟩:=h;exact⟨r,kUStr_local h1 hb,rfl⟩
   .cases h
  case clear=>
   split at h
   .split at h;.rename_i hz;rw[if_pos hz];exact h
    .rename_i hz;rw[if_neg hz];simp only[Option.map_eq_some_iff]at h⊢;obtain⟨r,h1,rfl⟩:=h;exact⟨r,kClear_local h1 hb,rfl⟩
   .cases h
  case min=>exact h
  case max=>exact h
theorem opSem2_none{P:Program}{op:Op}{ρ ρ':Operand->AV}{η η':Heap}{nm:Nat}{e:Eff}{f:AV->AV}(hf1:∀b g z o l c e,f (.slk b g z o l c e)=.slk b g z o l c e)(hf2:∀z es,f (.psx z es)=.psx z es\/f (.psx z es)=.psl z es)(hf3:∀l,f (.str l)=.str l)(h:opSem2 P op ρ η nm=none)(h1:opSem P op (λx=>f (ρ x)) η nm=some e)(hρ:∀x,x∈op.operands.toList->ρ' x=ρ x):opSem2 P op ρ' η' nm=none:=by
 have hmap:∀l:List Operand,(∀x,x∈l->x∈op.operands.toList)->l.map ρ'=l.map ρ:=λl hl=>List.map_congr_left λx hx=>hρ x (hl x hx);have hmap2:∀l:List (Nat×Operand),(∀x,x∈l->x.2∈op.operands.toList)->(l.map λp=>(p.1,ρ' p.2))=l.map λp=>(p.1,ρ p.2):=λl hl=>List.map_congr_left λx hx=>by rw[hρ x.2 (hl x hx)]
 have hopt:∀o:Option Operand,(∀x,o=some x->x∈op.operands.toList)->o.map ρ'=o.map ρ:=λo ho=>by cases o with|none=>rfl|some x=>simp[hρ x (ho x rfl)]
 cases op<;>simp only[opSem2]at h⊢;case binOp op t x y yt=>rw[hρ x (by simp[Op.operands]),hρ y (by simp[Op.operands])];exact h
 case load t a=>rw[hρ a (by simp[Op.operands])];exact h
 case fieldAddr t x f=>rw[hρ x (by simp[Op.operands])];exact h
 case indexAddr t x i=>rw[hρ x (by simp[Op.operands]),hρ i (by simp[Op.operands])];exact h
 case slice t x lo hi mx=>rw[hρ x (by simp[Op.operands]),hopt lo (λx e=>by subst e;simp[Op.operands]),hopt hi (λx e=>by subst e;simp[Op.operands]),hopt mx (λx e=>by subst e;simp[Op.operands])];simp only[opSem,Option.map_eq_some_iff]at h1;obtain⟨v,h1,rfl⟩:=h1;cases h2:kSlice P t (ρ x) (lo.map ρ) (hi.map ρ) (mx.map ρ)with|some v=>rw[h2]at h;cases h|none=>rw[h2]at h;cases h3:kSliceX P t (wkx (ρ x)) (lo.map ρ) (hi.map ρ) (mx.map ρ)with|some v=>rw[h3]at h;cases h|none=>rw[kArrSl_none h1];rfl
 case makeSlice t l c=>rw[hρ l (by simp[Op.operands]),hρ c (by simp[Op.operands])];exact h
 case convert s d x=>rw[hρ x (by simp[Op.operands])];cases hr:kConv P s d (ρ x) nm with|some r=>rw[hr]at h;cases h|none=>simp only[opSem,Option.map_eq_some_iff]at h1;obtain⟨v,h1,rfl⟩:=h1;rw[kConvS_none h1,kConvP_none h1];rfl
 case alloc t=>exact h
 case build t parts=>rw[hmap2 _ (λx hx=>by simp only[Op.operands,List.mem_map];exact⟨x,hx,rfl⟩)];exact h
 case index t x i=>rw[hρ x (by simp[Op.operands]),hρ i (by simp[Op.operands])];exact h
 case call c=>
  obtain⟨callee,args,argTypes⟩:=c;cases callee<;>simp only[]at h⊢;rename_i b;rw[hmap args.toList (λx hx=>by simp only[Op.operands,Call.operands,Array.toList_append];exact List.mem_append_right _ hx)];simp only[opSem]at h1;cases b<;>simp only[semB2]at h⊢;case len=>exact h
  case cap=>exact h
  case clear=>simp only[semBuiltin,reduceCtorEq]at h1
  case append=>
   simp only[semBuiltin]at h1;split at h
   .rename_i t t' s x e1 e2;rw[show args.toList.map (λx=>f (ρ x))=(args.toList.map ρ).map f by simp,e1,e2]at h1;simp only[List.map_cons,List.map_nil,Option.map_eq_some_iff]at h1;obtain⟨r,h1,-⟩:=h1;unfold aAppend at h1;split at h
    .exfalso;split at h1
     .split at h1
      .split at h1
       .split at h1;.rw[hf1]at h1;simp only[reduceCtorEq]at h1
        .cases h1
       .cases h1
      .cases h1
     .cases h1
    .rename_i z0 es0;exfalso;split at h1
     .split at h1
      .split at h1
       .split at h1;.rcases hf2 z0 es0 with e|e<;>rw[e]at h1<;>simp only[reduceCtorEq]at h1
        .cases h1
       .cases h1
      .cases h1
     .cases h1
    .split at h
     .exfalso;rw[hf3]at h1;simp only[aElems]at h1;split at h1
      .split at h1
       .split at h1;.cases h1
        .cases h1
       .cases h1
      .cases h1
     .exfalso;rw[hf1]at h1;simp only[aElems]at h1;split at h1
      .split at h1
       .split at h1;.cases h1
        .cases h1
       .cases h1
      .cases h1
     .exact h
     .rfl
   .rfl
  case copy=>simp[semBuiltin]at h1
  case unsafeSliceData=>simp[semBuiltin]at h1
  case unsafeString=>simp[semBuiltin]at h1
  case min=>exact h
  case max=>exact h
theorem opSemE_local[Adr]{P:Program}{ε:Bool}{op:Op}{ρ ρ':Operand->AV}{η η':Heap}{nm:Nat}{e:Eff}(h:opSemE ε P op ρ η nm=some e)(hρ:∀x,x∈op.operands.toList->ρ' x=ρ x)(hb:∀b,b∈e.rd->η' b=η b):opSemE ε P op ρ' η' nm=some e:=by
 cases ε with
  |false=>exact opSem_local h hρ hb
  |true=>
   simp only[opSemE]at h⊢;split at h;.rename_i e' h2;cases h;rw[opSem2_local h2 hρ hb]
   .rename_i h2
    have hx:hasX op ρ'=hasX op ρ:=by
     cases op<;>simp only[hasX];case indexAddr t x i=>rw[hρ x (by simp[Op.operands])]
     case slice t x lo hi mx=>rw[hρ x (by simp[Op.operands])]
     case binOp o t x y yt=>rw[hρ x (by simp[Op.operands]),hρ y (by simp[Op.operands])]
     case call c=>
      obtain⟨callee,args,argTypes⟩:=c;cases callee<;>simp only[];rw[Bool.eq_iff_iff,List.any_eq_true,List.any_eq_true];have hm:∀x,x∈args.toList->ρ' x=ρ x:=λx hx=>hρ x (by simp only[Op.operands,Call.operands,Array.toList_append];exact List.mem_append_right _ hx);constructor;.rintro⟨x,h1,h2⟩;exact⟨x,h1,by rw[<-hm x h1];exact h2⟩
      .rintro⟨x,h1,h2⟩;exact⟨x,h1,by rw[hm x h1];exact h2⟩
    rw[hx];split at h;.rename_i hX;rw[opSem2_none (f:=wkx) (λ_ _ _ _ _ _ _=>rfl) (λ_ _=>.inr rfl) (λ_=>rfl) h2 h hρ];exact opSem_local h (λx hx=>by rw[hρ x hx]) hb
    .rename_i hX;rw[opSem2_none (f:=id) (λ_ _ _ _ _ _ _=>rfl) (λ_ _=>.inl rfl) (λ_=>rfl) h2 h hρ];exact opSem_local h hρ hb
theorem isInv_local[Adr]{P:Program}{op:Op}{τ τ':Nat->AV}(h:∀x,x∈op.operands.toList->evalO τ' x=evalO τ x):isInv P op τ'=isInv P op τ:=by
 unfold isInv;cases op<;>try rfl
 rename_i c;obtain⟨callee,args,ats⟩:=c;cases callee<;>try rfl
 rename_i r name;simp only;have hr:evalO τ' r=evalO τ r:=h r (by simp[Op.operands,Call.operands]);have ha:args.toList.map (evalO τ')=args.toList.map (evalO τ):=List.map_congr_left λx hx=>h x (by simp only[Op.operands,Call.operands,Array.toList_append];exact List.mem_append_right _ hx);rw[hr,ha]
theorem stepF_local[Adr]{P:Program}{nt:Nat}{ops:Array Oper}{o:Oper}{ans:Option (AV×List ABlk)}{nm:Nat}{τ τ':Nat->AV}{η η':Heap}{se:SE}(h:stepF ε P nt ops o ans nm τ η=some se)(ht:∀t,t∈se.rt->τ' t=τ t)(hb:∀b,b∈se.rb->η' b=η b):stepF ε P nt ops o ans nm τ' η'=some se:=by
 have run:∀gt,runO ε P o ans nm gt τ η=some se->runO ε P o ans nm gt τ' η'=some se:=by
  intro gt h;unfold runO at h⊢;split at h
  .rename_i f args hc;split at h
   .rename_i an;split at h;.rename_i e ob hsc;cases h;have ev:=evalO_local (τ:=τ) (τ':=τ') (f::args) (λt hm=>ht t (List.mem_append_right _ hm));have e1:evalO τ' f=evalO τ f:=ev f (by simp);have e2:args.map (evalO τ')=args.map (evalO τ):=List.map_congr_left λx hx=>ev x (by simp[hx]);simp only[e1,e2,semCall_local hsc hb]
    .cases h
   .cases h
  .split at h
   .rename_i f args hinv;split at h
    .rename_i an;split at h;.rename_i e ob hsc;cases h;have ev:=evalO_local (τ:=τ) (τ':=τ') o.op.operands.toList (λt hm=>ht t (List.mem_append_right _ hm));rw[isInv_local ev,hinv];simp only[semCall_local hsc hb]
     .cases h
    .cases h
   rename_i hinv;split at h;.rename_i e hs;cases h;have ev:=evalO_local (τ:=τ) (τ':=τ') o.op.operands.toList (λt hm=>ht t (List.mem_append_right _ hm));rw[isInv_local ev,hinv];have :=opSemE_local (η':=η') hs (ρ':=evalO τ') (evalO_local _ (λt hm=>ht t (List.mem_append_right _ hm))) hb;simp only[this]
   .cases h
 have gin:∀gt,runO ε P o ans nm gt τ η=some se->∀d,d∈gt->d∈se.rt:=by
  intro gt h d hd;unfold runO at h;split at h
  .split at h
   .split at h;.cases h;exact List.mem_append_left _ hd
    .cases h
   .cases h
  .split at h
   .split at h
    .split at h;.cases h;exact List.mem_append_left _ hd
     .cases h
    .cases h
   .split at h;.cases h;exact List.mem_append_left _ hd
    .cases h
 unfold stepF at h⊢;split at h
 .rename_i hd;rw[if_pos hd];split at h
  .rename_i hg;try simp only[hg]
   exact run [] h
  .rename_i j want hg;try simp only[hg]
   split at h
   .rename_i d hj;try simp only[hj]
    split at h
    .rename_i hdn;try simp only[hdn,if_true]
     have hdr:τ' d=τ d:=by
      split at h
      .split at h;.exact ht d (gin _ h d (by simp))
       .cases h;exact ht d (by simp[skipO])
      .cases h;exact ht d (by simp[skipO])
      .cases h
     rw[hdr];split at h
     .split at h;.rename_i e;rw[if_pos e];exact run _ h
      .rename_i e;rw[if_neg e];exact h
     .exact h
     .cases h
    .cases h
   .cases h
 .cases h
section
variable{P:Program}{w0 w:World}{F:Nat->Prop}{φ:Emb}{η:Heap}{τ:Nat->AV}{nt:Nat}{ds:List Deferred}
variable{a:Act}{ops:Array Oper}{ans:Nat->Option (AV×List ABlk)}{nx:Nat}{ses:List SE}
theorem nodup_len:∀(n:Nat)(D:List Nat),D.Nodup->(∀i∈D,i<n)->D.length<=n
 |0,D,_,hl=>by cases D with|nil=>simp|cons x D=>have :=hl x (by simp);omega
 |n+1,D,hn,hl=>by
  have h1:=nodup_len n (D.erase n) (hn.erase n) (λi hi=>by
   have hm:=List.mem_of_mem_erase hi;have hne:i≠n:=by intro e;subst e;exact(List.Nodup.not_mem_erase hn) hi
   have :=hl i hm;omega);have :=List.length_erase (a:=n) (l:=D);split at this<;>omega
theorem least_missing(D:List Nat)(n:Nat)(hlen:D.length<n):∃i,i<n/\i∉D/\ ∀j,j<i->j∈D:=by
 have ex:∀m,(∀j,j<m->j∈D)\/ ∃i,i<m/\i∉D/\ ∀j,j<i->j∈D:=by
  intro m
  induction m with
   |zero=>left;intro j hj;omega
   |succ m ih=>
    rcases ih with q|⟨i,h1,h2,h3⟩
    .by_cases hm:m∈D
     .left;intro j hj;rcases Nat.lt_or_ge j m with r|r;.exact q j r
      .have :j=m:=by omega
       exact this▸hm
     .right;exact⟨m,by omega,hm,q⟩
    .right;exact⟨i,by omega,h2,h3⟩
 rcases ex n with q|q;.exfalso;have h1:(List.range n).length<=D.length:=(List.nodup_range (n:=n)).length_le_of_subset (λx hx=>q x (List.mem_range.1 hx));simp at h1;omega
 .exact q
theorem full_of_nodup[Adr](D:List Nat)(n:Nat)(hn:D.Nodup)(hl:∀i∈D,i<n)(hlen:D.length=n):∀i,i<n->i∈D:=by
 intro i hi;by_cases hm:i∈D;.exact hm
 .exfalso
  have :=nodup_len n (i::D) (List.nodup_cons.2 ⟨hm,hn⟩) (λj hj=>by
   rcases List.mem_cons.1 hj with e|e;.omega
   .exact hl j e);simp at this;omega
theorem backs_get:∀(os:List Oper)(i k:Nat)(o:Oper),backs i os=true->os[k]?=some o->∀e,e∈o.after.toList->Region.binds .any e=true->e.on<i+k|[],i,k,o,_,hk=>by simp at hk|p::os,i,k,o,h,hk=>by simp only[backs,Bool.and_eq_true]at h;cases k with|zero=>simp at hk;subst hk;intro e he hb;have :=List.all_eq_true.1 h.1 e he;simpa[hb]using this|succ k=>intro e he hb;have :=backs_get os (i+1) k o h.2 (by simpa using hk) e he hb;omega
theorem mask_done[Adr]{D:List Nat}{listed:Array Bool}(hback:backs 0 ops.toList=true)(hD:∀i,i∈D->i<ops.size/\ ∀k,((masks ops.toList []).getD i 0).testBit k=true->k∈D)(hlist:∀i,listed.getD i false=true->i∈D){i:Nat}{o:Oper}(hi:ops[i]?=some o)(hpre:∀e∈o.after,Region.binds .any e=true->listed.getD e.on false=true):∀k,((masks ops.toList []).getD i 0).testBit k=true->k∈D:=by
 intro k hk;have hi':ops.toList[i]?=some o:=by rw[Array.getElem?_toList];exact hi
 have :=masks_get ops.toList [] i o hi';simp only[List.length_nil,Nat.zero_add]at this;rw[this]at hk;obtain⟨e,he,hb,hh⟩:=maskOf_bit hk;have hon:=hlist e.on (hpre e (by simpa using he) hb);rcases hh with q|q;.rw[q];exact hon
 .have hlt:=backs_get ops.toList 0 i o hback hi' e he hb;simp only[List.getD_eq_getElem?_getD]at q;rw[List.getElem?_take,if_pos (by omega)]at q;exact(hD e.on hon).2 k (by simpa[List.getD_eq_getElem?_getD]using q)
end
end Go.AM
