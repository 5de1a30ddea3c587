/- Texts of the proof, joined by program. -/
import Derived.Test.YtaeifdlkolfdjaaGreatDoorKAmG
section
set_option linter.unusedSimpArgs false
set_option linter.unusedVariables false
namespace Go.AM
open Go Go.RowKit
section
variable{P:Program}{w0 w:World}{F:Nat->Prop}{φ:Emb}{U U':Nat->Prop}{η:Heap}
def ORel[Adr](w:World)(F:Nat->Prop)(φ:Emb):Option AV->Option Value->Prop|none,y=>y=none|some a,y=>∃v,y=some v/\VRel w F φ a v
theorem bound_ok[Adr]{x:AV}{v:Value}{n y:Nat}{d:Nat}{code:BoundsCode}(h:sliceBd (some x) d=some n)(hx:VRel w F φ x v)(hn:n<=y):(Instr.sliceBound v y code).run P w=.ok n w:=by
 unfold sliceBd at h;split at h;.rename_i e;cases e
 .rename_i k i e;cases e;split at h
  .rename_i hi;cases h;simp only[VRel]at hx;subst hx;have :i<=(y:Int):=by omega
   simp[Instr.sliceBound,asIntOf,hi,this]
  .cases h
 .cases h
theorem bounds_ok[Adr]{lo hi mx:Option AV}{clo chi cmx:Option Value}{len cap l h m:Nat}(hlo:ORel w F φ lo clo)(hhi:ORel w F φ hi chi)(hmx:ORel w F φ mx cmx)(hl:sliceBd lo 0=some l)(hh:sliceBd hi len=some h)(hm:sliceBd mx len=some m)(hc:mx.isSome=true->hi.isSome=true)(h1:l<=h)(h2:h<=m)(h3:m<=len)(h4:len<=cap):∃m',(Instr.sliceBounds true len cap clo chi cmx).run P w=.ok (l,h,m') w/\h<=m'/\m'<=cap:=by
 cases mx with
  |none=>
   simp only[ORel]at hmx;subst hmx;refine⟨cap,?_,by simp[sliceBd]at hm;omega,Nat.le_refl _⟩;simp only[sliceBd,Option.some.injEq]at hm
   cases hi with
    |none=>simp only[ORel]at hhi;subst hhi;simp only[sliceBd,Option.some.injEq]at hh;cases lo with|none=>simp only[ORel]at hlo;subst hlo;simp only[sliceBd,Option.some.injEq]at hl;simp[Instr.sliceBounds,hh,hl]|some x=>obtain⟨v,rfl,hv⟩:=hlo;simp[Instr.sliceBounds,bound_ok hl hv h1,hh]
    |some y=>obtain⟨u,rfl,hu⟩:=hhi;cases lo with|none=>simp only[ORel]at hlo;subst hlo;simp only[sliceBd,Option.some.injEq]at hl;simp[Instr.sliceBounds,bound_ok hh hu (show h<=cap by omega),hl]|some x=>obtain⟨v,rfl,hv⟩:=hlo;simp[Instr.sliceBounds,bound_ok hh hu (show h<=cap by omega),bound_ok hl hv h1]
  |some z=>obtain⟨q,rfl,hq⟩:=hmx;refine⟨m,?_,h2,by omega⟩;cases hi with|none=>simp at hc|some y=>obtain⟨u,rfl,hu⟩:=hhi;cases lo with|none=>simp only[ORel]at hlo;subst hlo;simp only[sliceBd,Option.some.injEq]at hl;simp[Instr.sliceBounds,bound_ok hm hq (show m<=cap by omega),bound_ok hh hu h2,hl]|some x=>obtain⟨v,rfl,hv⟩:=hlo;simp[Instr.sliceBounds,bound_ok hm hq (show m<=cap by omega),bound_ok hh hu h2,bound_ok hl hv h1]
theorem bounds_ok2[Adr]{lo hi mx:Option AV}{clo chi cmx:Option Value}{len cap l h m:Nat}(hlo:ORel w F φ lo clo)(hhi:ORel w F φ hi chi)(hmx:ORel w F φ mx cmx)(hl:sliceBd lo 0=some l)(hh:sliceBd hi len=some h)(hm:sliceBd mx len=some m)(hc:mx.isSome=true->hi.isSome=true)(h1:l<=h)(h2:h<=m)(h3:m<=len)(h4:len<=cap):∃m',(Instr.sliceBounds true len cap clo chi cmx).run P w=.ok (l,h,m') w/\(mx.isSome=true->m'=m):=by
 cases mx with
  |none=>
   simp only[ORel]at hmx;subst hmx;refine⟨cap,?_,λh=>by simp at h⟩;simp only[sliceBd,Option.some.injEq]at hm
   cases hi with
    |none=>simp only[ORel]at hhi;subst hhi;simp only[sliceBd,Option.some.injEq]at hh;cases lo with|none=>simp only[ORel]at hlo;subst hlo;simp only[sliceBd,Option.some.injEq]at hl;simp[Instr.sliceBounds,hh,hl]|some x=>obtain⟨v,rfl,hv⟩:=hlo;simp[Instr.sliceBounds,bound_ok hl hv h1,hh]
    |some y=>obtain⟨u,rfl,hu⟩:=hhi;cases lo with|none=>simp only[ORel]at hlo;subst hlo;simp only[sliceBd,Option.some.injEq]at hl;simp[Instr.sliceBounds,bound_ok hh hu (show h<=cap by omega),hl]|some x=>obtain⟨v,rfl,hv⟩:=hlo;simp[Instr.sliceBounds,bound_ok hh hu (show h<=cap by omega),bound_ok hl hv h1]
  |some z=>obtain⟨q,rfl,hq⟩:=hmx;refine⟨m,?_,λ_=>rfl⟩;cases hi with|none=>simp at hc|some y=>obtain⟨u,rfl,hu⟩:=hhi;cases lo with|none=>simp only[ORel]at hlo;subst hlo;simp only[sliceBd,Option.some.injEq]at hl;simp[Instr.sliceBounds,bound_ok hm hq (show m<=cap by omega),bound_ok hh hu h2,hl]|some x=>obtain⟨v,rfl,hv⟩:=hlo;simp[Instr.sliceBounds,bound_ok hm hq (show m<=cap by omega),bound_ok hh hu h2,bound_ok hl hv h1]
theorem run_sliceAt_slice{t e:TypeId}(hu:P.underlying t=some (.slice e))(x:Value)(a b c:Option Value):(Instr.sliceAt t x a b c).run P w=(Instr.slice t x a b c).run P w:=by unfold Instr.sliceAt;simp[run_underlying hu]
theorem run_sliceAt_string{t:TypeId}(hu:P.underlying t=some .string)(x:Value)(a b c:Option Value):(Instr.sliceAt t x a b c).run P w=(Instr.slice t x a b c).run P w:=by unfold Instr.sliceAt;simp[run_underlying hu]
theorem slice_ok[Adr]{t:TypeId}{x v:AV}{y:Value}{lo hi mx:Option AV}{clo chi cmx:Option Value}(hs:aSlice P t x lo hi mx=some v)(hx:VRel w F φ x y)(hlo:ORel w F φ lo clo)(hhi:ORel w F φ hi chi)(hmx:ORel w F φ mx cmx):∃z,(Instr.sliceAt t y clo chi cmx).run P w=.ok z w/\VRel w F φ v z:=by
 unfold aSlice at hs;split at hs
 .rename_i s hu;split at hs;.cases hs
  .rename_i hmn
   cases mx with
    |some z=>simp at hmn
    |none=>
     simp only[ORel]at hmx;subst hmx;split at hs
     .rename_i l h hl hh;split at hs
      .rename_i hcond;cases hs;simp only[VRel]at hx;subst hx;rw[run_sliceAt_string hu];refine⟨.string ⟨((s.drop l).take (h-l)).toArray⟩,?_,by simp only[VRel]⟩;have hsz:(⟨s.toArray⟩:ByteArray).size=s.length:=by simp[ByteArray.size]
       have hext:(⟨s.toArray⟩:ByteArray).extract l h=⟨((s.drop l).take (h-l)).toArray⟩:=by apply ByteArray.ext;simp[ByteArray.data_extract]
       have hb:(Instr.sliceBounds false s.length s.length clo chi none).run P w=.ok (l,h,s.length) w:=by
        cases hi with
         |none=>simp only[ORel]at hhi;subst hhi;simp only[sliceBd,Option.some.injEq]at hh;cases lo with|none=>simp only[ORel]at hlo;subst hlo;simp only[sliceBd,Option.some.injEq]at hl;simp[Instr.sliceBounds,hh,hl]|some x=>obtain⟨v,rfl,hv⟩:=hlo;simp[Instr.sliceBounds,bound_ok hl hv hcond.1,hh]
         |some y=>obtain⟨u,rfl,hu'⟩:=hhi;cases lo with|none=>simp only[ORel]at hlo;subst hlo;simp only[sliceBd,Option.some.injEq]at hl;simp[Instr.sliceBounds,bound_ok hh hu' hcond.2,hl]|some x=>obtain⟨v,rfl,hv⟩:=hlo;simp[Instr.sliceBounds,bound_ok hh hu' hcond.2,bound_ok hl hv hcond.1]
       simp[Instr.slice,run_underlying hu,hsz,hb,hext]
      .cases hs
     .cases hs
 .rename_i e b g z off len hu;split at hs
  .rename_i sz l h m hsz hl hh hm;split at hs
   .rename_i hcond;obtain⟨rfl,c1,c2,c3,c4⟩:=hcond;rw[run_sliceAt_slice hu];simp only[VRel]at hx;rcases hx with⟨h1,h2,h3,a0,rfl⟩|⟨cb,cap,h1,rfl,h3,el,n,h4,h5⟩
    .subst h2;subst h3;obtain⟨m',r1,r2,r3⟩:=bounds_ok (P:=P) (cap:=0) hlo hhi hmx hl hh hm c1 c2 c3 c4 (Nat.le_refl _);have e1:m'=0:=by omega
     have e2:h=0:=by omega
     have e3:l=0:=by omega
     subst e1;subst e2;subst e3;refine⟨.slice a0 0 0,?_,?_⟩;.simp[Instr.slice,run_underlying hu,r1,run_sizeOf_of hsz]
     .rw[if_pos (by simp)]at hs;cases hs;simp only[VRel];exact .inl ⟨h1,by simp⟩
    .obtain⟨m',r1,r2,r3⟩:=bounds_ok (P:=P) (cap:=cap) hlo hhi hmx hl hh hm c1 c2 c3 c4 h3;refine⟨.slice (if m'=l then some ⟨cb,off*z,none⟩else(some (⟨cb,off*z,none⟩:Addr)).map (·.add (l*z))) (h-l) (m'-l),?_,?_⟩;.simp[Instr.slice,run_underlying hu,r1,run_sizeOf_of hsz]
     .split at hs
      .rename_i hlh;cases hs;simp only[VRel];refine .inr ⟨cb,m'-l,h1,?_,by omega,el,n,h4,?_⟩
       .by_cases e:m'=l
        .have :l=0:=by omega
         subst this;rw[if_pos e];simp
        .rw[if_neg e];simp[addr_add,Nat.add_mul]
       .have :off+l+(m'-l)=off+m':=by omega
        rw[this];exact Nat.le_trans (Nat.mul_le_mul_right _ (by omega)) h5
      .rename_i hlh;cases hs;simp only[VRel];exact⟨_,m'-l,by congr 1;simp;omega,by simp,by simp,by simp⟩
   .cases hs
  .cases hs
 .rename_i e sz es hu;split at hs
  .rename_i sz' l h m hsz hl hh hm;split at hs;.rename_i hcond;obtain⟨c0,c1,rfl,rfl,rfl⟩:=hcond;cases hs;rw[run_sliceAt_slice hu];simp only[VRel]at hx;obtain⟨a,cap,rfl,h2,h3,h4⟩:=hx;obtain⟨m',r1,r3⟩:=bounds_ok2 (P:=P) (cap:=cap) hlo hhi hmx hl hh hm (λ_=>c1) (Nat.le_refl _) (Nat.le_refl _) (Nat.zero_le _) h2;have hm':m'=0:=r3 c0;subst hm';refine⟨.slice a 0 0,?_,by simp[VRel]⟩;simp[Instr.slice,run_underlying hu,r1,run_sizeOf_of hsz]
   split at hs
   .rename_i hcond;obtain⟨rfl,c1,c2,c3,c4⟩:=hcond;cases hs;rw[run_sliceAt_slice hu];simp only[VRel]at hx;obtain⟨a,cap,rfl,h2,h3,h4⟩:=hx;obtain⟨m',r1,r2,r3⟩:=bounds_ok (P:=P) (cap:=cap) hlo hhi hmx hl hh hm c1 c2 c3 c4 h2;have hlen:((es.drop l).take (h-l)).length=h-l:=by simp;omega
    refine⟨.slice (if m'=l then a else a.map (·.add (l*sz'))) (h-l) (m'-l),?_,?_⟩;.simp[Instr.slice,run_underlying hu,r1,run_sizeOf_of hsz]
    .simp only[VRel];refine⟨_,m'-l,by rw[hlen],by rw[hlen];omega,λx hx=>h3 x (List.mem_of_mem_drop (List.mem_of_mem_take hx)),λhne=>?_⟩
     have hlt:l<h:=by
      rcases Nat.lt_or_ge l h with q|q;.exact q
      .exact absurd (List.eq_nil_of_length_eq_zero (by rw[hlen];omega)) hne
     obtain⟨b,o,rfl,h5,h6⟩:=h4 (by intro e;rw[e]at c4;simp at c4;omega);refine⟨b,o+l*sz',?_,h5,ERel_take _ _ _ (ERel_drop es o l h3 h6 (by omega))⟩;rw[if_neg (by omega)];simp[addr_add]
   .cases hs
  .cases hs
 .rename_i e hu;split at hs
  .rename_i sz l h m hsz hl hh hm;split at hs
   .rename_i hcond;obtain⟨c1,c2,c3,c4⟩:=hcond;cases hs;rw[run_sliceAt_slice hu];simp only[VRel]at hx;subst hx;obtain⟨m',r1,r2,r3⟩:=bounds_ok (P:=P) (cap:=0) hlo hhi hmx hl hh hm c1 c2 c3 c4 (Nat.le_refl _);have e1:m'=0:=by omega
    have e2:h=0:=by omega
    have e3:l=0:=by omega
    subst e1;subst e2;subst e3;refine⟨.slice none 0 0,?_,by simp only[VRel]⟩;simp[Instr.slice,run_underlying hu,r1,run_sizeOf_of hsz]
   .cases hs
  .cases hs
 .cases hs
theorem get_of_take{α:Type}{l:List α}{n j:Nat}{x:α}(h:(l.take n)[j]?=some x):l[j]?=some x:=by
 rw[List.getElem?_take]at h;split at h;.exact h
 .cases h
theorem elems_take[Adr](h:HRel w0 w F φ U η){sz:Nat}{x:AV}{y:Value}{xs:List (List AV)}{rd:List Nat}(he:aElems η sz x=some (xs,rd))(hx:VRel w F φ x y):∃a cap us,y=.slice a xs.length cap/\(∀m,m<=xs.length->(Builtin.firstCells sz m y).run P w=.ok ⟨us.take (m*sz)⟩ w)/\VRels w F φ xs.flatten us/\(∀v∈us,v.oneCell'=true)/\(∀e∈xs,e.length=sz):=by
 unfold aElems at he;split at he;.cases he;simp only[VRel]at hx;subst hx;exact⟨none,0,[],rfl,λm hm=>by simp[Builtin.firstCells],by simp[VRels],by simp,by simp⟩
 .cases he;simp only[VRel]at hx;obtain⟨a,rfl⟩:=hx
  exact⟨a,0,[],rfl,λm hm=>by
   have :m=0:=by simpa using hm
   subst this;cases a<;>simp[Builtin.firstCells,loadCells,loadCellsFrom],by simp[VRels],by simp,by simp⟩
 .rename_i sz' es;split at he
  .rename_i hcond;cases he;simp only[VRel]at hx;obtain⟨a,cap,rfl,h2,h3,h4⟩:=hx;by_cases hne:xs=[]
   .subst hne;refine⟨a,cap,[],rfl,λm hm=>?_,by simp[VRels],by simp,by simp⟩;have :m=0:=by simpa using hm
    subst this;cases a<;>simp[Builtin.firstCells,loadCells,loadCellsFrom]
   .obtain⟨b,o,rfl,h5,h6⟩:=h4 hne;have hsz:sz'=sz:=by rcases hcond with e|e;exact e;exact absurd e hne
    subst hsz;rw[ERel_flat,CRel_iff]at h6;obtain⟨us,u1,u2,u3⟩:=h6;refine⟨_,cap,us,rfl,λm hm=>?_,VRels.mono (Ext0.refl F w) (λ_ h=>h) (Emb.zero_le φ) _ _ u1,u3,h3⟩;have hul:=u1.length;rw[flatten_len _ _ h3]at hul;have hml:m*sz'<=xs.length*sz':=Nat.mul_le_mul_right _ hm;have :=run_loadCells_list (P:=P) w ⟨b,o,none⟩ (us.take (m*sz')) (λj u hj=>by rw[addr_add];exact u2 j u (get_of_take hj));rw[List.length_take,Nat.min_eq_left (by omega)]at this;simp only[Builtin.firstCells,this]
  .cases he
 .rename_i b g z off len;split at he
  .rename_i blk hb;split at he
   .rename_i hcond;obtain⟨rfl,rfl,c2,c3⟩:=hcond;simp only[Option.some.injEq,Prod.mk.injEq]at he;obtain⟨rfl,-⟩:=he;obtain⟨pl,p1,p2,p3⟩:=h.blk b blk hb;have hlen:((blk.es.drop off).take len).length=len:=by simp;omega
    simp only[VRel]at hx;rcases hx with⟨h1,h2,h3,a0,rfl⟩|⟨cb,cap,h1,rfl,h3,el,n,h4,h5⟩
    .subst h2;subst h3
     refine⟨a0,0,[],by simp,λm hm=>by
      have :m=0:=by simpa using hm
      subst this;cases a0<;>simp[Builtin.firstCells,loadCells,loadCellsFrom],by simp[VRels],by simp,by simp⟩
    .rw[h1,c2]at p1;cases p1;obtain⟨-,-,-,p4⟩:=p3;have hE:=ERel_take _ _ len (ERel_drop blk.es 0 off p2 p4 (by omega));rw[Nat.zero_add,ERel_flat,CRel_iff]at hE;obtain⟨us,u1,u2,u3⟩:=hE;have hall:∀e∈(blk.es.drop off).take len,e.length=z:=λe he=>by rw[p2 e (List.mem_of_mem_drop (List.mem_of_mem_take he)),c2]
     refine⟨_,cap,us,by rw[hlen],λm hm=>?_,VRels.mono (Ext0.refl F w) (λ_ h=>h) (blk.emb_le φ) _ _ u1,u3,hall⟩;have hul:=u1.length;rw[flatten_len _ _ hall]at hul;have hml:m*z<=((blk.es.drop off).take len).length*z:=Nat.mul_le_mul_right _ hm;have :=run_loadCells_list (P:=P) w ⟨cb,off*z,none⟩ (us.take (m*z)) (λj u hj=>by rw[addr_add];rw[c2]at u2;exact u2 j u (get_of_take hj));rw[List.length_take,Nat.min_eq_left (by omega)]at this;simp only[Builtin.firstCells,this]
   .cases he
  .cases he
 .cases he
theorem elems_ok[Adr](h:HRel w0 w F φ U η){sz:Nat}{x:AV}{y:Value}{xs:List (List AV)}{rd:List Nat}(he:aElems η sz x=some (xs,rd))(hx:VRel w F φ x y):∃a cap us,y=.slice a xs.length cap/\(Builtin.firstCells sz xs.length y).run P w=.ok ⟨us⟩ w/\VRels w F φ xs.flatten us/\(∀v∈us,v.oneCell'=true)/\(∀e∈xs,e.length=sz):=by obtain⟨a,cap,us,h1,h2,h3,h4,h5⟩:=elems_take (P:=P) h he hx;refine⟨a,cap,us,h1,?_,h3,h4,h5⟩;have hul:=h3.length;rw[flatten_len _ _ h5]at hul;rw[h2 _ (Nat.le_refl _),List.take_of_length_le (by omega)]
end
end Go.AM
end
section
set_option linter.unusedSimpArgs false
set_option linter.unusedVariables false
namespace Go.AM
open Go Go.RowKit
section
variable{P:Program}{w0 w:World}{F:Nat->Prop}{φ:Emb}{U U':Nat->Prop}{η:Heap}
theorem growBy_le(need:Nat):∀(rounds c:Nat),c<=2*need->256<=c->Builtin.growBy need rounds c<=2*need
 |0,c,h,_=>by simpa[Builtin.growBy]using h
 |r+1,c,h,h2=>by
  simp only[Builtin.growBy];split;.exact h
  .exact growBy_le need r _ (by omega) (by omega)
theorem nextcap_le[Adr]{need cap:Nat}(h:cap<need):Builtin.nextslicecap need cap<=2*need:=by
 unfold Builtin.nextslicecap;split;.omega
 .split;.omega
  .exact growBy_le need 4 cap (by omega) (by omega)
theorem run_append_room[Adr]{t t' e e' ty:TypeId}{sz:Nat}(h1:P.underlying t=some (.slice e))(h2:P.underlying t'=some (.slice e'))(hs:tSize P e=some sz){base:Option Addr}{sLen sCap n cx:Nat}{ax:Option Addr}{us:List Value}(hroom:sLen+n<=sCap)(hx:(Builtin.firstCells sz n (.slice ax n cx)).run P w=.ok ⟨us⟩ w):(Builtin.append_ #[t,t'] ty #[.slice base sLen sCap,.slice ax n cx]).run P w=match base with|some a=>((storeCells (a.add (sLen*sz)) us).run P w).andThen λ_ w'=>.ok (.slice base (sLen+n) sCap) w'|none=>.ok (.slice none (sLen+n) sCap) w:=by cases base<;>simp[Builtin.append_,run_underlying h1,run_underlying h2,run_sizeOf_of hs,Builtin.lenOf,hroom,hx]
theorem run_append_grow[Adr]{t t' e e' ty:TypeId}{sz bs:Nat}{zv:Value}(h1:P.underlying t=some (.slice e))(h2:P.underlying t'=some (.slice e'))(hs:tSize P e=some sz)(hb:tBytes P e=some bs)(hbs:0<bs)(hz:∀w,(zeroValue e).run P w=.ok zv w){base:Option Addr}{sLen sCap n cx:Nat}{ax:Option Addr}{os us:List Value}(hroom:sCap<sLen+n)(hbig:2*((sLen+n)*bs)<=2^48)(ho:(Builtin.firstCells sz sLen (.slice base sLen sCap)).run P w.drew=.ok ⟨os⟩ w.drew)(hx:(Builtin.firstCells sz n (.slice ax n cx)).run P w.drew=.ok ⟨us⟩ w.drew):∃newCap rest,sLen+n<=newCap/\rest.size=(newCap-(sLen+n))*zv.cells.size/\(Builtin.append_ #[t,t'] ty #[.slice base sLen sCap,.slice ax n cx]).run P w=.ok (.slice (some ⟨w.heap.size,0,none⟩) (sLen+n) newCap) (w.drew.alloc (.cells (⟨os⟩++⟨us⟩++rest) e)):=by
 obtain⟨it,hit,hitb⟩:=tBytes_info hb;refine⟨sLen+n+w.tape w.drawn (.appendCap (sLen+n) sCap e)%(2^63-(sLen+n)),Builtin.zeroCells zv.cells (sLen+n+w.tape w.drawn (.appendCap (sLen+n) sCap e)%(2^63-(sLen+n))-(sLen+n)),by omega,by simp[Builtin.zeroCells],?_⟩;have hnc:¬Builtin.nextslicecap (sLen+n) sCap*it.bytes>2^48:=by have h3:=nextcap_le hroom;have h4:Builtin.nextslicecap (sLen+n) sCap*it.bytes<=2*(sLen+n)*it.bytes:=Nat.mul_le_mul_right _ h3;rw[Nat.mul_assoc,hitb]at h4;rw[hitb];omega
 have hb0:it.bytes≠0:=by omega
 have ho':(Builtin.firstCells sz sLen (.slice base sLen sCap)).run P {w with drawn:=w.drawn+1}=.ok ⟨os⟩ {w with drawn:=w.drawn+1}:=ho;have hx':(Builtin.firstCells sz n (.slice ax n cx)).run P {w with drawn:=w.drawn+1}=.ok ⟨us⟩ {w with drawn:=w.drawn+1}:=hx;have hnr:¬sLen+n<=sCap:=by omega
 simp only[Builtin.append_,List.getElem?_toArray,List.getElem?_cons_zero,List.getElem?_cons_succ,Sem.run_bind,run_underlying h1,run_underlying h2,Result.andThen_ok,run_sizeOf_of hs,Sem.run_pure,Builtin.lenOf,Bool.false_eq_true,if_false,hnr,run_typeInfo_of hit,hnc,hb0,false_or,and_false];simp only[Sem.run_bind,run_choose,Question.forced,Bool.false_eq_true,if_false,Result.andThen_ok,Question.cut,run_askRoom,ho',hx',hz,Bool.not_false,if_true,Sem.run_pure,newRow,run_newObj];rfl
theorem HRel.virt[Adr](h:HRel w0 w F φ U η)(nm:Nat)(blk:ABlk)(he:blk.es=[])(hno:∀g,blk.g<=g->φ.blk nm g=none)(hU:∀b,U b->U' b)(hUn:U' nm):φ.sle (φ.add nm blk.g (none,blk.sz))/\HRel w0 w F (φ.add nm blk.g (none,blk.sz)) U' (fupd η nm (some blk)):=by
 have hle:=φ.sle_add nm blk.g (none,blk.sz) (hno _ (Nat.le_refl _));refine⟨hle,h.upd nm blk none h.below (Ext0.refl _ _) hle (λ_ _ _=>rfl) (λ_ _ _ _ _ _ _=>by simp) (λb g x hx=>?_) hU hUn ?_ (λg hg=>?_) (λb x cb sz sz' _ _ _ e2=>?_)⟩
 .rcases φ.add_cases _ _ _ hx with g1|⟨g1,g2,g3⟩;.exact .inl g1
  .exact .inr ⟨g1,g2,λc hc=>by rw[g3]at hc;cases hc⟩
 .exact⟨none,φ.add_same _ _ _,by rw[he];simp,he⟩
 .simp only[Emb.add];rw[if_neg (by omega)];exact hno g (by omega)
 .rw[φ.add_same]at e2;cases e2
theorem list_app_row{c:Array Value}{os us:List Value}{p:Nat}(hp:os.length=p)(hc:p+us.length<=c.size)(ho:∀(k:Nat)(v:Value),os[k]?=some v->c[k]?=some v):∀(k:Nat)(v:Value),(os++us)[k]?=some v->(c.toList.take p++us++c.toList.drop (p+us.length)).toArray[k]?=some v:=by
 intro k v hk;simp only[List.getElem?_toArray];rw[List.append_assoc,List.getElem?_append];simp only[List.length_take,Array.length_toList];rw[Nat.min_eq_left (by omega)];rw[List.getElem?_append]at hk;split at hk;.rename_i h1;rw[if_pos (by omega),List.getElem?_take,if_pos (by omega)];simpa using ho k v hk
 .rename_i h1;rw[if_neg (by omega),List.getElem?_append,if_pos];.rw[<-hp];exact hk
  .have :=(List.getElem?_eq_some_iff.1 hk).1;omega
theorem app_emb[Adr]{blk:ABlk}{xs:List (List AV)}{os us:List Value}(o1:VRels w F (blk.emb φ) blk.es.flatten os)(x2:VRels w F φ xs.flatten us):VRels w F (({blk with g:=blk.g+1,es:=blk.es++xs,pure:=blk.pure&&xs.all AV.isP.isPs,ty:=none}:ABlk).emb φ) (blk.es++xs).flatten (os++us):=by
 rw[List.flatten_append];unfold ABlk.emb at o1⊢;by_cases hp:blk.pure=true
 .rw[if_pos hp]at o1;by_cases hq:xs.all AV.isP.isPs=true;.simp only[hp,hq,Bool.and_true,if_true];exact o1.append (isPs_rel _ _ (isPs_flatten xs hq) x2)
  .simp only[hp,hq,Bool.and_false,Bool.false_eq_true,if_false];exact(VRels.mono (Ext0.refl F w) (λ_ h=>h) (Emb.zero_le φ) _ _ o1).append x2
 .rw[if_neg hp]at o1;simp only[hp,Bool.false_and,Bool.false_eq_true,if_false];exact o1.append x2
theorem append_ok[Adr](h:HRel w0 w F φ U η){t t' ty:TypeId}{s x v:AV}{ys yx:Value}{nm nm':Nat}{blk':ABlk}{rd:List Nat}(ha:aAppend P t t' s x η nm=some (v,(nm',blk'),rd))(hs:VRel w F φ s ys)(hx:VRel w F φ x yx)(hnm:¬U nm)(hU:∀b,U b->U' b)(hUn:U' nm):∃w' φ' z,(Builtin.append_ #[t,t'] ty #[ys,yx]).run P w=.ok z w'/\φ.sle φ'/\Ext F w w'/\HRel w0 w' F φ' U' (fupd η nm' (some blk'))/\VRel w' F φ' v z:=by
 unfold aAppend at ha;split at ha;rotate_left;.cases ha
 rename_i e e' he he';split at ha;rotate_left;.cases ha
 rename_i sz bs sz' z hsz hbs hsz' hz;split at ha;rotate_left;.cases ha
 rename_i hcond;obtain⟨rfl,hpos,hbpos,hzl⟩:=hcond;split at ha;rotate_left;.cases ha
 rename_i xs rd' hel;have u1:=tSlice_un he;have u2:=tSlice_un he';obtain⟨zv,z1,z2,z3,z4⟩:=run_zero_of (P:=P) hz w
 have hzr:∀w,(zeroValue e).run P w=.ok zv w:=λw'=>by
  obtain⟨zv',q1,_⟩:=run_zero_of (P:=P) hz w';have :zv'=zv:=by simp only[zeroValue,Sem.run_bind]at q1 z1;cases hi:P.info? e with|none=>simp[typeInfo,hi]at q1|some i=>simp only[run_typeInfo_of hi,Result.andThen_ok]at q1 z1;cases hzz:i.zero with|none=>simp[hzz]at q1|some u=>simp[hzz]at q1 z1;rw[<-q1,<-z1]
  rw[<-this];exact q1
 obtain⟨ax,cx,us,rfl,x1,x2,x3,x4⟩:=elems_ok (P:=P) h hel hx;have hul:=x2.length;rw[flatten_len _ _ x4]at hul;have hD:HRel w0 w.drew F φ U η:=h.heap_same rfl h.below.drew;have hxD:VRel w.drew F φ x (.slice ax xs.length cx):=VRel.mono (ext_drew F w) (λ_ h=>h) (Emb.le_refl φ) _ _ hx;obtain⟨ax',cx',us',y1,y2,y3,y4,-⟩:=elems_ok (P:=P) hD hel hxD;cases y1;have hulD:=y3.length;rw[flatten_len _ _ x4]at hulD;have hxe:Ext F w w.drew:=ext_drew F w;split at ha
 .split at ha
  .rename_i hbig;simp only[Option.some.injEq,Prod.mk.injEq]at ha;obtain⟨rfl,⟨rfl,rfl⟩,-⟩:=ha;simp only[VRel]at hs;subst hs;by_cases hxe0:xs=[];.subst hxe0;have hrun:=run_append_room (P:=P) (w:=w) (ty:=ty) (base:=none) (sLen:=0) (sCap:=0) u1 u2 hsz (by simp) x1;obtain⟨v1,v2⟩:=h.virt (U':=U') nm {g:=0,own:=true,pure:=([]:List (List AV)).all AV.isP.isPs,sz:=sz,es:=[]} rfl (λg _=>by cases e:φ.blk nm g with|none=>rfl|some x=>exact absurd (h.used _ _ _ e) hnm) hU hUn;exact⟨w,_,.slice none 0 0,by simpa using hrun,v1,Ext.refl _ _,v2,by simp only[VRel];exact .inl ⟨φ.add_same _ _ _,by simp⟩⟩
   .have hlen:0<xs.length:=List.length_pos_iff.2 hxe0;obtain⟨newCap,rest,n1,n2,n3⟩:=run_append_grow (P:=P) (w:=w) (ty:=ty) (base:=none) (sLen:=0) (sCap:=0) (os:=[]) u1 u2 hsz hbs hbpos hzr (by omega) (by simpa using hbig) (by simp[Builtin.firstCells]) y2;obtain⟨a1,a2,a3,-⟩:=hD.alloc (U':=U') (c:=(⟨[]⟩++⟨us'⟩++rest:Array Value)) (el:=e) (vs:=us') nm hnm {g:=0,own:=true,pure:=xs.all AV.isP.isPs,sz:=sz,es:=xs} rfl x4 (emb_rel y3 (λq=>isPs_flatten xs q)) y4 (λk v hk=>by have :=(List.getElem?_eq_some_iff.1 hk).1;rw[Array.getElem?_append_left (by simpa using this)];simpa using hk) hU hUn;refine⟨_,_,_,n3,a2,hxe.trans a3 (λ_ h=>h),a1,?_⟩;simp only[VRel];refine .inr ⟨w.heap.size,newCap,φ.add_same _ _ _,by simp,by omega,e,_,by simp only[World.shape?];rw[show w.heap.size=w.drew.heap.size from rfl,heap_alloc_new],?_⟩;have hzs:=(z4 w F φ).length;simp only[Array.length_toList]at hzs;rw[<-hzs,hzl]at n2;simp only[Array.size_append,n2,List.size_toArray,List.length_nil,Nat.zero_add,<-hulD];rw[<-Nat.add_mul];exact Nat.mul_le_mul_right _ (by omega)
  .cases ha
 .split at ha
  .rename_i hbig;simp only[Option.some.injEq,Prod.mk.injEq]at ha;obtain⟨rfl,⟨rfl,rfl⟩,-⟩:=ha;simp only[VRel]at hs;obtain⟨a0,rfl⟩:=hs;by_cases hxe0:xs=[];.subst hxe0;have hrun:=run_append_room (P:=P) (w:=w) (ty:=ty) (base:=a0) (sLen:=0) (sCap:=0) u1 u2 hsz (by simp) x1;obtain⟨v1,v2⟩:=h.virt (U':=U') nm {g:=0,own:=true,pure:=([]:List (List AV)).all AV.isP.isPs,sz:=sz,es:=[]} rfl (λg _=>by cases e:φ.blk nm g with|none=>rfl|some x=>exact absurd (h.used _ _ _ e) hnm) hU hUn;exact⟨w,_,.slice a0 0 0,by(have hu0:us=[]:=by simpa[VRels]using x2);subst hu0;cases a0<;>simpa[storeCells]using hrun,v1,Ext.refl _ _,v2,by simp only[VRel];exact .inl ⟨φ.add_same _ _ _,by simp⟩⟩
   .have hlen:0<xs.length:=List.length_pos_iff.2 hxe0;obtain⟨newCap,rest,n1,n2,n3⟩:=run_append_grow (P:=P) (w:=w) (ty:=ty) (base:=a0) (sLen:=0) (sCap:=0) (os:=[]) u1 u2 hsz hbs hbpos hzr (by omega) (by simpa using hbig) (by cases a0<;>simp[Builtin.firstCells,loadCells,loadCellsFrom]) y2;obtain⟨a1,a2,a3,-⟩:=hD.alloc (U':=U') (c:=(⟨[]⟩++⟨us'⟩++rest:Array Value)) (el:=e) (vs:=us') nm hnm {g:=0,own:=true,pure:=xs.all AV.isP.isPs,sz:=sz,es:=xs} rfl x4 (emb_rel y3 (λq=>isPs_flatten xs q)) y4 (λk v hk=>by have :=(List.getElem?_eq_some_iff.1 hk).1;rw[Array.getElem?_append_left (by simpa using this)];simpa using hk) hU hUn;refine⟨_,_,_,n3,a2,hxe.trans a3 (λ_ h=>h),a1,?_⟩;simp only[VRel];refine .inr ⟨w.heap.size,newCap,φ.add_same _ _ _,by simp,by omega,e,_,by simp only[World.shape?];rw[show w.heap.size=w.drew.heap.size from rfl,heap_alloc_new],?_⟩;have hzs:=(z4 w F φ).length;simp only[Array.length_toList]at hzs;rw[<-hzs,hzl]at n2;simp only[Array.size_append,n2,List.size_toArray,List.length_nil,Nat.zero_add,<-hulD];rw[<-Nat.add_mul];exact Nat.mul_le_mul_right _ (by omega)
  .cases ha
 .rename_i b g z' off len;split at ha;rotate_left;.cases ha
  rename_i blk hb;split at ha;rotate_left;.cases ha
  rename_i hcond;obtain⟨rfl,rfl,c1,rfl,c2,hown,hbig⟩:=hcond;simp only[Option.some.injEq,Prod.mk.injEq]at ha;obtain⟨rfl,⟨rfl,rfl⟩,-⟩:=ha;obtain⟨pl,p1,p2,p3⟩:=h.blk b blk hb
  have hall:∀e∈blk.es++xs,e.length=blk.sz:=by
   intro e he;rcases List.mem_append.1 he with he|he;.exact p2 e he
   .rw[x4 e he,c1]
  have hUb:U' b:=hU _ (h.used _ _ _ p1);simp only[VRel]at hs;rcases hs with⟨h1,-,h3,a0,rfl⟩|⟨cb,cap,h1,rfl,h3,el,n,h4,h5⟩
  .rw[h1,c1]at p1;cases p1;simp only[LRel]at p3;subst h3;by_cases hxe0:xs=[];.subst hxe0;have hrun:=run_append_room (P:=P) (w:=w) (ty:=ty) (base:=a0) (sLen:=0) (sCap:=0) u1 u2 hsz (by simp) x1;obtain⟨v1,v2⟩:=h.virt (U':=U') b {blk with g:=blk.g+1,es:=blk.es++[],pure:=blk.pure&&([]:List (List AV)).all AV.isP.isPs,ty:=none} (by simp[p3]) (λg hg=>h.gen b blk hb g (by simp at hg;omega)) hU hUb;refine⟨w,_,.slice a0 0 0,by(have hu0:us=[]:=by simpa[VRels]using x2);subst hu0;cases a0<;>simpa[storeCells]using hrun,v1,Ext.refl _ _,v2,?_⟩;simp only[VRel];exact .inl ⟨by rw[<-c1];exact φ.add_same _ _ _,by simp⟩
   .have hlen:0<xs.length:=List.length_pos_iff.2 hxe0;obtain⟨newCap,rest,n1,n2,n3⟩:=run_append_grow (P:=P) (w:=w) (ty:=ty) (base:=a0) (sLen:=0) (sCap:=0) (os:=[]) u1 u2 hsz hbs hbpos hzr (by omega) (by simpa using hbig) (by cases a0<;>simp[Builtin.firstCells,loadCells,loadCellsFrom]) y2;have hes:blk.es++xs=xs:=by rw[p3];rfl
    obtain⟨a1,a2,a3⟩:=hD.renew (blk':={blk with g:=blk.g+1,es:=blk.es++xs,pure:=blk.pure&&xs.all AV.isP.isPs,ty:=none}) (c':=(⟨[]⟩++⟨us'⟩++rest:Array Value)) (el:=e) (us:=us') hb rfl hall (by
     refine emb_rel (blk:={blk with g:=blk.g+1,es:=blk.es++xs,pure:=blk.pure&&xs.all AV.isP.isPs,ty:=none}) ?_ ?_;.show VRels _ _ _ (blk.es++xs).flatten _;rw[hes];exact y3
     .intro q;simp only[Bool.and_eq_true]at q;show AV.isP.isPs (blk.es++xs).flatten=true;rw[hes];exact isPs_flatten xs q.2) y4 (λk v hk=>by have :=(List.getElem?_eq_some_iff.1 hk).1;rw[Array.getElem?_append_left (by simpa using this)];simpa using hk);refine⟨_,_,_,n3,a1,hxe.trans a2 (λ_ h=>h),a3.weakenU hU,?_⟩;simp only[VRel];refine .inr ⟨w.heap.size,newCap,by rw[<-c1];exact φ.add_same _ _ _,by simp,by omega,e,_,by simp only[World.shape?];rw[show w.heap.size=w.drew.heap.size from rfl,heap_alloc_new],?_⟩;have hzs:=(z4 w F φ).length;simp only[Array.length_toList]at hzs;rw[<-hzs,hzl]at n2;simp only[Array.size_append,n2,List.size_toArray,List.length_nil,Nat.zero_add,<-hulD];rw[<-Nat.add_mul];exact Nat.mul_le_mul_right _ (by omega)
  .rw[h1,c1]at p1;cases p1;obtain⟨f1,f2,⟨c,el',fz,f3,⟨hfz,-⟩,f4⟩,f5⟩:=p3;obtain rfl:=hfz hown;have hel':n=c.size:=by simp only[World.shape?,f3,Option.some.injEq,Prod.mk.injEq]at h4;exact h4.2.symm
   subst hel';rw[ERel_flat,CRel_iff]at f5;obtain⟨os,o1,o2,o3⟩:=f5;have hol:=o1.length;rw[flatten_len _ _ p2]at hol;have hoc:∀(k:Nat)(v:Value),os[k]?=some v->c[k]?=some v:=λk v hk=>by have :=o2 k v hk;simp only[World.cell?,f3,Nat.zero_add]at this;simpa using this
   simp only[Nat.zero_add,Nat.zero_mul]at h5⊢;have hus:=app_emb (blk:=blk) o1 x2;by_cases hroom:len+xs.length<=cap
   .have hrun:=run_append_room (P:=P) (w:=w) (ty:=ty) (base:=some ⟨cb,0,none⟩) (sLen:=len) (sCap:=cap) u1 u2 hsz hroom x1;have hfit:len*z'+us.length<=c.size:=by rw[<-hul,<-Nat.add_mul];exact Nat.le_trans (Nat.mul_le_mul_right _ hroom) h5
    have hst:=run_storeCells_at (P:=P) cb (len*z') el' us 0 c w f3 (by simpa using hfit) x3;simp only[addr_add,Nat.zero_add,Nat.add_zero]at hrun hst;rw[hst]at hrun;simp only[Result.andThen_ok]at hrun;have hpl:os.length=len*z':=by rw[<-hol,c1,c2]
    obtain⟨φ',r1,r2,r3,r4⟩:=h.rewrite (blk':={blk with g:=blk.g+1,es:=blk.es++xs,pure:=blk.pure&&xs.all AV.isP.isPs,ty:=none}) (c':=(c.toList.take (len*z')++us++c.toList.drop (len*z'+us.length)).toArray) (us:=os++us) hb (by rw[c1];exact h1) hown f3 (by simp only[List.size_toArray,List.length_append,List.length_take,List.length_drop,Array.length_toList];omega) rfl (.inr rfl) hall hus (by
     intro v hv;rcases List.mem_append.1 hv with hv|hv;.exact o3 v hv
     .exact x3 v hv) (list_app_row hpl hfit hoc);refine⟨_,φ',_,hrun,r1,r3,r4.weakenU hU,?_⟩;simp only[VRel];refine .inr ⟨cb,cap,by rw[<-c1];exact r2,by simp,hroom,el,c.size,r3.shape _ _ h4,by simpa using h5⟩
   .have hDo:VRels w.drew F (blk.emb φ) blk.es.flatten os:=VRels.mono hxe (λ_ h=>h) (Emb.le_refl _) _ _ o1
    have hold:(Builtin.firstCells z' len (.slice (some ⟨cb,0,none⟩) len cap)).run P w.drew=.ok ⟨os⟩ w.drew:=by
     have :=run_loadCells_list (P:=P) w.drew ⟨cb,0,none⟩ os (λj u hj=>by rw[addr_add];exact o2 j u hj);have hpl:os.length=len*z':=by rw[<-hol,c1,c2]
     simp only[Builtin.firstCells,<-hpl,this]
    obtain⟨newCap,rest,n1,n2,n3⟩:=run_append_grow (P:=P) (w:=w) (ty:=ty) (base:=some ⟨cb,0,none⟩) (sLen:=len) (sCap:=cap) (os:=os) u1 u2 hsz hbs hbpos hzr (by omega) hbig hold y2;have husD:=app_emb (blk:=blk) hDo y3
    obtain⟨a1,a2,a3⟩:=hD.renew (blk':={blk with g:=blk.g+1,es:=blk.es++xs,pure:=blk.pure&&xs.all AV.isP.isPs,ty:=none}) (c':=(⟨os⟩++⟨us'⟩++rest:Array Value)) (el:=e) (us:=os++us') hb rfl hall husD (by
     intro v hv;rcases List.mem_append.1 hv with hv|hv;.exact o3 v hv
     .exact y4 v hv) (λk v hk=>by have :=(List.getElem?_eq_some_iff.1 hk).1;rw[Array.getElem?_append_left (by simpa using this)];simpa using hk);refine⟨_,_,_,n3,a1,hxe.trans a2 (λ_ h=>h),a3.weakenU hU,?_⟩;simp only[VRel];refine .inr ⟨w.heap.size,newCap,by rw[<-c1];exact φ.add_same _ _ _,by simp,by omega,e,_,by simp only[World.shape?];rw[show w.heap.size=w.drew.heap.size from rfl,heap_alloc_new],?_⟩;have hzs:=(z4 w F φ).length;simp only[Array.length_toList]at hzs;rw[<-hzs,hzl]at n2;have hpl:os.length=len*z':=by rw[<-hol,c1,c2]
    simp only[Array.size_append,n2,List.size_toArray,<-hulD,hpl];rw[<-Nat.add_mul,<-Nat.add_mul];simp only[Nat.zero_add];exact Nat.mul_le_mul_right _ (by omega)
 .cases ha
end
end Go.AM
end
