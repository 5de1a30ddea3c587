/- Texts of the proof, joined by program. -/
import Derived.Test.YtaeifdlkolfdjaaGreatDoorKAmM
section
set_option linter.unusedSimpArgs false
set_option linter.unusedVariables false
namespace Go.AM
open Go Go.RowKit
variable{ε:Bool}
def seZ:SE:={d:=none,v:=.top,wr:=[],rt:=[],rb:=[],ob:=none}
def apsT(τ:Nat->AV):List SE->Nat->AV|[]=>τ|se::l=>apsT (apT τ se) l
def apsH(η:Heap):List SE->Heap|[]=>η|se::l=>apsH (apH η se) l
theorem apsT_append(τ:Nat->AV):∀(l k:List SE),apsT τ (l++k)=apsT (apsT τ l) k|[],_=>rfl|x::l,k=>apsT_append (apT τ x) l k
theorem apsH_append(η:Heap):∀(l k:List SE),apsH η (l++k)=apsH (apsH η l) k|[],_=>rfl|x::l,k=>apsH_append (apH η x) l k
def numbered:Nat->List Oper->List (Nat×Oper)|_,[]=>[]|i,o::os=>(i,o)::numbered (i+1) os
def maskOf(acc:List Nat):List Edge->Nat|[]=>0|e::es=>if Region.binds .any e then(2^e.on|||acc.getD e.on 0)|||maskOf acc es else maskOf acc es
def masks:List Oper->List Nat->List Nat|[],acc=>acc|o::os,acc=>masks os (acc++[maskOf acc o.after.toList])
def backs:Nat->List Oper->Bool|_,[]=>true|i,o::os=>(o.after.toList.all λe=>!(Region.binds .any e)||decide (e.on<i))&&backs (i+1) os
theorem masks_ext:∀(os:List Oper)(acc:List Nat)(k:Nat),k<acc.length->(masks os acc).getD k 0=acc.getD k 0|[],acc,k,_=>rfl|o::os,acc,k,h=>by simp only[masks];rw[masks_ext os _ k (by simp;omega)];simp only[List.getD_eq_getElem?_getD];rw[List.getElem?_append_left h]
theorem masks_get[Adr]:∀(os:List Oper)(acc:List Nat)(k:Nat)(o:Oper),os[k]?=some o->(masks os acc).getD (acc.length+k) 0=maskOf ((masks os acc).take (acc.length+k)) o.after.toList
 |[],acc,k,o,h=>by simp at h
 |p::os,acc,k,o,h=>by
  have pre:∀(os:List Oper)(acc:List Nat),(masks os acc).take acc.length=acc:=by intro os;induction os with|nil=>intro acc;simp[masks]|cons q os ih=>intro acc;simp only[masks];have :=ih (acc++[maskOf acc q.after.toList]);simp only[List.length_append,List.length_cons,List.length_nil]at this;have h2:=congrArg (List.take acc.length) this;rw[List.take_take]at h2;simpa using h2
  simp only[masks];cases k with|zero=>simp at h;subst h;rw[Nat.add_zero,masks_ext os _ _ (by simp)];have :=pre os (acc++[maskOf acc p.after.toList]);have h2:=congrArg (List.take acc.length) this;rw[List.take_take]at h2;simp only[List.length_append,List.length_cons,List.length_nil]at h2;rw[show min acc.length (acc.length+(0+1))=acc.length by omega]at h2;rw[h2];simp|succ k=>have :=masks_get os (acc++[maskOf acc p.after.toList]) k o (by simpa using h);simp only[List.length_append,List.length_cons,List.length_nil]at this;rw[show acc.length+(k+1)=acc.length+(0+1)+k by omega];exact this
theorem maskOf_bit{acc:List Nat}{k:Nat}:∀{es:List Edge},(maskOf acc es).testBit k=true->∃e∈es,Region.binds .any e=true/\(k=e.on\/(acc.getD e.on 0).testBit k=true)
 |[],h=>by simp[maskOf]at h
 |e::es,h=>by
  simp only[maskOf]at h;split at h
  .rename_i hb;rw[Nat.testBit_or,Bool.or_eq_true,Nat.testBit_or,Bool.or_eq_true]at h;rcases h with(h|h)|h;.rw[Nat.testBit_two_pow]at h;exact⟨e,by simp,hb,.inl (by simp at h;omega)⟩
   .exact⟨e,by simp,hb,.inr h⟩
   .obtain⟨e',h1,h2,h3⟩:=maskOf_bit h;exact⟨e',by simp[h1],h2,h3⟩
  .obtain⟨e',h1,h2,h3⟩:=maskOf_bit h;exact⟨e',by simp[h1],h2,h3⟩
def confl(x y:SE):Bool:=(match x.d with|some d=>y.rt.contains d||y.d==some d|none=>false)||(match y.d with|some d=>x.rt.contains d|none=>false)||x.wr.any (λp=>y.rb.contains p.1||y.wr.any (λq=>q.1==p.1))||y.wr.any (λq=>x.rb.contains q.1)
def pairsOk(M:List Nat)(ses:List SE)(n:Nat):Bool:=(List.range n).all λj=>(List.range j).all λi=>(M.getD j 0).testBit i||!confl (ses.getD i seZ) (ses.getD j seZ)
def wrT(t:Nat)(se:SE):Bool:=se.d==some t
def wrB(b:Nat)(se:SE):Bool:=se.wr.any λp=>p.1==b
theorem apT_other{τ:Nat->AV}{se:SE}{t:Nat}(h:wrT t se=false):apT τ se t=τ t:=by
 unfold apT putT
 cases hd:se.d with
  |none=>rfl
  |some d=>
   have :t≠d:=by intro e;subst e;simp[wrT,hd]at h
   simp[fupd,this]
theorem apWr_other:∀{l:List (Nat×ABlk)}{η:Heap}{b:Nat},(l.any λp=>p.1==b)=false->apWr η l b=η b
 |[],η,b,_=>rfl
 |(c,x)::l,η,b,h=>by
  simp only[List.any_cons,Bool.or_eq_false_iff]at h;simp only[apWr];rw[apWr_other h.2];have :b≠c:=by intro e;subst e;simp at h
  simp[fupd,this]
theorem apH_other[Adr]{η:Heap}{se:SE}{b:Nat}(h:wrB b se=false):apH η se b=η b:=apWr_other h
theorem apT_same{τ τ':Nat->AV}{se:SE}{t:Nat}(h:wrT t se=true\/τ t=τ' t):apT τ se t=apT τ' se t:=by
 unfold apT putT
 cases hd:se.d with
  |none=>rcases h with h|h;simp[wrT,hd]at h;exact h
  |some d=>
   simp only[fupd];split;.rfl
   .rename_i hne;rcases h with h|h;simp[wrT,hd]at h;exact absurd h.symm hne;exact h
theorem apWr_same:∀{l:List (Nat×ABlk)}{η η':Heap}{b:Nat},((l.any λp=>p.1==b)=true\/η b=η' b)->apWr η l b=apWr η' l b
 |[],η,η',b,h=>by rcases h with h|h;simp at h;exact h
 |(c,x)::l,η,η',b,h=>by
  simp only[apWr];apply apWr_same;by_cases e:b=c;.right;simp[fupd,e]
  .rcases h with h|h
   .simp only[List.any_cons,Bool.or_eq_true]at h;rcases h with h|h;.simp at h;exact absurd h.symm e
    .exact .inl h
   .right;simp[fupd,e,h]
theorem apH_same[Adr]{η η':Heap}{se:SE}{b:Nat}(h:wrB b se=true\/η b=η' b):apH η se b=apH η' se b:=apWr_same h
theorem apsT_filter[Adr](t:Nat):∀(l:List SE)(τ τ':Nat->AV),τ t=τ' t->apsT τ l t=apsT τ' (l.filter (wrT t)) t
 |[],τ,τ',h=>h
 |x::l,τ,τ',h=>by
  simp only[apsT];by_cases hx:wrT t x=true;.rw[List.filter_cons_of_pos hx];simp only[apsT];exact apsT_filter t l _ _ (apT_same (.inl hx))
  .rw[List.filter_cons_of_neg hx];exact apsT_filter t l _ _ ((apT_other (by simpa using hx)).trans h)
theorem apsH_filter[Adr](b:Nat):∀(l:List SE)(η η':Heap),η b=η' b->apsH η l b=apsH η' (l.filter (wrB b)) b
 |[],η,η',h=>h
 |x::l,η,η',h=>by
  simp only[apsH];by_cases hx:wrB b x=true;.rw[List.filter_cons_of_pos hx];simp only[apsH];exact apsH_filter b l _ _ (apH_same (.inl hx))
  .rw[List.filter_cons_of_neg hx];exact apsH_filter b l _ _ ((apH_other (by simpa using hx)).trans h)
theorem rising_eq:∀(l k:List Nat),l.Pairwise (·< ·)->k.Pairwise (·< ·)->(∀x,x∈l↔x∈k)->l=k
 |[],k,_,_,h=>by cases k with|nil=>rfl|cons y k=>have :=(h y).2 (by simp);simp at this
 |x::l,[],_,_,h=>by have :=(h x).1 (by simp);simp at this
 |x::l,y::k,hl,hk,h=>by
  rw[List.pairwise_cons]at hl hk
  have e:x=y:=by
   rcases Nat.lt_trichotomy x y with q|q|q
   .have :=(h x).1 (by simp);rcases List.mem_cons.1 this with r|r;.omega
    .have :=hk.1 x r;omega
   .exact q
   .have :=(h y).2 (by simp);rcases List.mem_cons.1 this with r|r;.omega
    .have :=hl.1 y r;omega
  subst e;congr 1;refine rising_eq l k hl.2 hk.2 λz=>?_;constructor
  .intro hz;have :=(h z).1 (by simp[hz]);rcases List.mem_cons.1 this with r|r;.subst r;have :=hl.1 z hz;omega
   .exact r
  .intro hz;have :=(h z).2 (by simp[hz]);rcases List.mem_cons.1 this with r|r;.subst r;have :=hk.1 z hz;omega
   .exact r
end Go.AM
end
section
set_option linter.unusedSimpArgs false
set_option linter.unusedVariables false
namespace Go.AM
open Go Go.RowKit
variable{ε:Bool}
section
variable{P:Program}{w0 w:World}{F:Nat->Prop}{φ:Emb}{η:Heap}{τ:Nat->AV}{nt:Nat}{ds:List Deferred}
def Used(nx:Nat)(D:List Nat):Nat->Prop:=λb=>b<nx\/ ∃i,i∈D/\ ∃m,m<8/\b=nx+8*i+m
structure RInv[Adr](w0 w:World)(F:Nat->Prop)(φ:Emb)(nx:Nat)(ses:List SE)(η:Heap)(τ:Nat->AV)(nt:Nat)(ds:List Deferred)(D:List Nat)(a:Act)(w':World)(F':Nat->Prop)(φ':Emb):Prop where
 heap:HRel w0 w' F' φ' (Used nx D) (apsH η (D.map λi=>ses.getD i seZ))
 tmps:TRel w' F' φ' (apsT τ (D.map λi=>ses.getD i seZ)) nt a.tmps
 dfr:a.defers=ds
 grow:Grow w0 w F φ w' F' φ'
theorem RInv.step[Adr]{nx:Nat}{ses:List SE}{D:List Nat}{a:Act}{w':World}{F':Nat->Prop}{φ':Emb}(h:RInv w0 w F φ nx ses η τ nt ds D a w' F' φ'){ops:Array Oper}{ans:Nat->Option (AV×List ABlk)}{i:Nat}{o:Oper}(hi:ops[i]?=some o)(hD:i∉D)(hs:stepF ε P nt ops o (ans i) (nx+8*i) (apsT τ (D.map λi=>ses.getD i seZ)) (apsH η (D.map λi=>ses.getD i seZ))=some (ses.getD i seZ))(hob:∀ob,(ses.getD i seZ).ob=some ob->ob.holds P)(r:Option Nat)(n:Nat){K:Act->World->Prop}{Q:Exit->Act->World->Prop}(hK:∀a' w'' F'' φ'',RInv w0 w F φ nx ses η τ nt ds (D++[i]) a' w'' F'' φ''->K a' w''):wpOpIn (fen r) n P ops Q i K a w':=by
 refine stepF_ok (U':=Used nx (D++[i])) h.heap h.tmps h.dfr hi hs hob (λm hm=>?_) (λb hb=>?_) (λm hm=>?_) r n λa' w'' φ'' F'' k1 k2 k3 k4=>?_
 .rintro(q|⟨j,hj,m',hm',e⟩);.omega
  .have :i=j:=by omega
   exact hD (this▸hj)
 .rcases hb with q|⟨j,hj,m',hm',e⟩;.exact .inl q
  .exact .inr ⟨j,List.mem_append_left _ hj,m',hm',e⟩
 .exact .inr ⟨i,by simp,m,hm,rfl⟩
 .refine hK a' w'' F'' φ'' ⟨?_,?_,k3,h.grow.trans k4⟩;.rw[List.map_append,apsH_append];exact k1
  .rw[List.map_append,apsT_append];exact k2
theorem map_range_take(ses:List SE):∀k,k<=ses.length->(List.range k).map (λi=>ses.getD i seZ)=ses.take k|0,_=>by simp|k+1,h=>by rw[List.range_succ,List.map_append,map_range_take ses k (by omega),List.take_succ_eq_append_getElem (by omega)];congr 1;simp[List.getD_eq_getElem?_getD,List.getElem?_eq_getElem (show k<ses.length by omega)]
def Done[Adr](w0 w:World)(F:Nat->Prop)(φ:Emb)(nx n:Nat)(η':Heap)(τ':Nat->AV)(nt:Nat)(ds:List Deferred)(K:Act->World->Prop):Prop:=∀a' w' φ' F',HRel w0 w' F' φ' (λb=>b<nx+8*n) η'->TRel w' F' φ' τ' nt a'.tmps->a'.defers=ds->Grow w0 w F φ w' F' φ'->K a' w'
theorem RInv.fin[Adr]{nx n:Nat}{ses:List SE}{D:List Nat}{a:Act}{w':World}{F':Nat->Prop}{φ':Emb}(h:RInv w0 w F φ nx ses η τ nt ds D a w' F' φ')(hn:∀i∈D,i<n)(hl:ses.length=n)(hH:apsH η (D.map λi=>ses.getD i seZ)=apsH η ses)(hT:apsT τ (D.map λi=>ses.getD i seZ)=apsT τ ses){K:Act->World->Prop}(hK:Done w0 w F φ nx n (apsH η ses) (apsT τ ses) nt ds K):K a w':=by
 refine hK a w' φ' F' ?_ (hT▸h.tmps) h.dfr h.grow;rw[<-hH];refine h.heap.weakenU λb hb=>?_;rcases hb with q|⟨i,hi,m,hm,e⟩;.omega
 .have :=hn i hi;omega
variable{a:Act}{ops:Array Oper}{ans:Nat->Option (AV×List ABlk)}{nx:Nat}{ses:List SE}
structure Ord(M:List Nat)(ses:List SE)(n:Nat)(D:List Nat):Prop where
 nodup:D.Nodup
 lt:∀i∈D,i<n
 closed:∀i∈D,∀k,(M.getD i 0).testBit k=true->k∈D
 rise:D.Pairwise λx y=>x<y\/confl (ses.getD y seZ) (ses.getD x seZ)=false
theorem pairsOk_spec{M:List Nat}{n:Nat}(h:pairsOk M ses n=true){i j:Nat}(hij:i<j)(hj:j<n)(hb:(M.getD j 0).testBit i=false):confl (ses.getD i seZ) (ses.getD j seZ)=false:=by unfold pairsOk at h;rw[List.all_eq_true]at h;have :=h j (List.mem_range.2 hj);rw[List.all_eq_true]at this;have :=this i (List.mem_range.2 hij);rw[hb]at this;simpa using this
theorem confl_wT{x y:SE}{t:Nat}(h:confl x y=false)(hx:wrT t x=true):t∉y.rt/\wrT t y=false:=by
 simp only[confl,Bool.or_eq_false_iff]at h;have hd:x.d=some t:=by simpa[wrT]using hx
 have :=h.1.1.1;rw[hd]at this;simp only[Bool.or_eq_false_iff]at this;exact⟨by simpa using this.1,by simpa[wrT]using this.2⟩
theorem confl_wT'{x y:SE}{t:Nat}(h:confl x y=false)(hy:wrT t y=true):t∉x.rt:=by
 simp only[confl,Bool.or_eq_false_iff]at h;have hd:y.d=some t:=by simpa[wrT]using hy
 have :=h.1.1.2;rw[hd]at this;simpa using this
theorem confl_wB{x y:SE}{b:Nat}(h:confl x y=false)(hx:wrB b x=true):b∉y.rb/\wrB b y=false:=by
 simp only[confl,Bool.or_eq_false_iff]at h;have h2:=h.1.2;simp only[wrB,List.any_eq_true]at hx;obtain⟨p,hp,e⟩:=hx;rw[List.any_eq_false]at h2;have :=h2 p hp;have e:p.1=b:=by simpa using e
 rw[e]at this;simp only[Bool.or_eq_true,not_or]at this;exact⟨by simpa using this.1,by unfold wrB;simpa only[Bool.not_eq_true]using this.2⟩
theorem confl_wB'{x y:SE}{b:Nat}(h:confl x y=false)(hy:wrB b y=true):b∉x.rb:=by
 simp only[confl,Bool.or_eq_false_iff]at h;have h2:=h.2;simp only[wrB,List.any_eq_true]at hy;obtain⟨p,hp,e⟩:=hy;rw[List.any_eq_false]at h2;have :=h2 p hp;have e:p.1=b:=by simpa using e
 rw[e]at this;simpa using this
theorem Ord.filter[Adr]{M:List Nat}{n:Nat}{D:List Nat}(h:Ord M ses n D)(hp:pairsOk M ses n=true){i:Nat}(hi:i<n)(hD:i∉D)(hpre:∀k,(M.getD i 0).testBit k=true->k∈D)(p:SE->Bool)(h1:∀k,k<i->confl (ses.getD k seZ) (ses.getD i seZ)=false->p (ses.getD k seZ)=false)(h2:∀k,i<k->confl (ses.getD i seZ) (ses.getD k seZ)=false->p (ses.getD k seZ)=false)(h3:∀x y,confl (ses.getD y seZ) (ses.getD x seZ)=false->p (ses.getD x seZ)=true->p (ses.getD y seZ)=true->False):D.filter (λk=>p (ses.getD k seZ))=(List.range i).filter (λk=>p (ses.getD k seZ)):=by
 apply rising_eq
 .have :=h.rise.filter (p:=λk=>p (ses.getD k seZ));rw[List.pairwise_filter]at this⊢;refine this.imp ?_;intro x y hxy px py;rcases hxy px py with q|q;.exact q
  .exact(h3 x y q px py).elim
 .exact List.Pairwise.filter _ List.pairwise_lt_range
 .intro k;simp only[List.mem_filter,List.mem_range];constructor
  .rintro⟨hk,pk⟩;refine⟨?_,pk⟩;rcases Nat.lt_trichotomy k i with q|q|q;.exact q
   .exact absurd (q▸hk) hD
   .by_cases hb:(M.getD k 0).testBit i=true;.exact absurd (h.closed k hk i hb) hD
    .have :=h2 k q (pairsOk_spec hp q (h.lt k hk) (by simpa using hb));rw[this]at pk;cases pk
  .rintro⟨hk,pk⟩;refine⟨?_,pk⟩;by_cases hb:(M.getD i 0).testBit k=true;.exact hpre k hb
   .have :=h1 k hk (pairsOk_spec hp hk hi (by simpa using hb));rw[this]at pk;cases pk
theorem filter_map_getD(D:List Nat)(p:SE->Bool):(D.map λi=>ses.getD i seZ).filter p=(D.filter λk=>p (ses.getD k seZ)).map λi=>ses.getD i seZ:=by rw[List.filter_map];rfl
theorem filter_take[Adr](k:Nat)(hk:k<=ses.length)(p:SE->Bool):(ses.take k).filter p=((List.range k).filter λk=>p (ses.getD k seZ)).map λi=>ses.getD i seZ:=by rw[<-map_range_take ses k hk,filter_map_getD]
theorem Ord.agree[Adr]{M:List Nat}{n:Nat}{D:List Nat}(h:Ord M ses n D)(hl:ses.length=n)(hp:pairsOk M ses n=true){i:Nat}(hi:i<n)(hD:i∉D)(hpre:∀k,(M.getD i 0).testBit k=true->k∈D):(∀t,t∈(ses.getD i seZ).rt->apsT τ (D.map λi=>ses.getD i seZ) t=apsT τ (ses.take i) t)/\(∀b,b∈(ses.getD i seZ).rb->apsH η (D.map λi=>ses.getD i seZ) b=apsH η (ses.take i) b):=by
 constructor
 .intro t ht;rw[apsT_filter t _ τ τ rfl,apsT_filter t (ses.take i) τ τ rfl,filter_map_getD,filter_take i (by omega)];rw[h.filter hp hi hD hpre (wrT t)];.intro k hk hc;cases hw:wrT t (ses.getD k seZ)with|false=>rfl|true=>exact absurd ht (confl_wT hc hw).1
  .intro k hk hc;cases hw:wrT t (ses.getD k seZ)with|false=>rfl|true=>exact absurd ht (confl_wT' hc hw)
  .intro x y hc px py;have :=(confl_wT hc py).2;rw[this]at px;cases px
 .intro b hb;rw[apsH_filter b _ η η rfl,apsH_filter b (ses.take i) η η rfl,filter_map_getD,filter_take i (by omega)];rw[h.filter hp hi hD hpre (wrB b)];.intro k hk hc;cases hw:wrB b (ses.getD k seZ)with|false=>rfl|true=>exact absurd hb (confl_wB hc hw).1
  .intro k hk hc;cases hw:wrB b (ses.getD k seZ)with|false=>rfl|true=>exact absurd hb (confl_wB' hc hw)
  .intro x y hc px py;have :=(confl_wB hc py).2;rw[this]at px;cases px
theorem Ord.all[Adr]{M:List Nat}{n:Nat}{D:List Nat}(h:Ord M ses n D)(hl:ses.length=n)(hall:∀i,i<n->i∈D):apsT τ (D.map λi=>ses.getD i seZ)=apsT τ ses/\apsH η (D.map λi=>ses.getD i seZ)=apsH η ses:=by
 have hf:∀p:SE->Bool,(∀x y,confl (ses.getD y seZ) (ses.getD x seZ)=false->p (ses.getD x seZ)=true->p (ses.getD y seZ)=true->False)->D.filter (λk=>p (ses.getD k seZ))=(List.range n).filter (λk=>p (ses.getD k seZ)):=by
  intro p h3;apply rising_eq
  .have :=h.rise.filter (p:=λk=>p (ses.getD k seZ));rw[List.pairwise_filter]at this⊢;refine this.imp ?_;intro x y hxy px py;rcases hxy px py with q|q;.exact q
   .exact(h3 x y q px py).elim
  .exact List.Pairwise.filter _ List.pairwise_lt_range
  .intro k;simp only[List.mem_filter,List.mem_range];exact⟨λq=>⟨h.lt k q.1,q.2⟩,λq=>⟨hall k q.1,q.2⟩⟩
 have htake:ses=ses.take n:=by rw[<-hl,List.take_length]
 constructor;.funext t;rw[apsT_filter t _ τ τ rfl,apsT_filter t ses τ τ rfl,filter_map_getD,hf (wrT t) (λx y hc px py=>by have :=(confl_wT hc py).2;rw[this]at px;cases px),htake,filter_take n (by omega)];rw[<-htake]
 .funext b;rw[apsH_filter b _ η η rfl,apsH_filter b ses η η rfl,filter_map_getD,hf (wrB b) (λx y hc px py=>by have :=(confl_wB hc py).2;rw[this]at px;cases px),htake,filter_take n (by omega)];rw[<-htake]
end
end Go.AM
end
