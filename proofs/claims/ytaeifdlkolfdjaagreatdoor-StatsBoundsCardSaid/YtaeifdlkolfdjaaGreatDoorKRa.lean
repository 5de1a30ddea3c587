/- Texts of the proof, joined by program. -/
import Derived.Test.YtaeifdlkolfdjaaGreatDoorKPs
section
set_option linter.unusedSimpArgs false
set_option linter.unusedVariables false
namespace Go.L
open Go Go.AM
theorem Evs.and{α:Type}{g:Nat->Option α}{P Q:α->Prop}(h:Evs g P)(k:Evs g Q):Evs g λr=>P r/\Q r:=by obtain⟨r,h1,N,h2⟩:=h;obtain⟨q,k1,M,k2⟩:=k;have :some r=some q:=(h2 (N+M) (by omega)).symm.trans (k2 (N+M) (by omega));cases this;exact⟨r,⟨h1,k1⟩,N,h2⟩
abbrev IM(V:Type):=List (Int×V)
theorem mputI{V:Type}:∀(m:IM V)(a:Int)(b:V),mfind (.i .i64) m a=none->mput (.i .i64) m a b=m++[(a,b)]/\a∉m.map (·.1)
 |[],a,b,h=>⟨rfl,by simp⟩
 |p::m,a,b,h=>by
  have h:(match(CT.i .i64).eqB a p.1 with|true=>some p.2|false=>mfind (.i .i64) m a)=none:=h;have e:(CT.i .i64).eqB a p.1=(a==p.1):=rfl
  cases k:(a==p.1)with
   |true=>rw[e,k]at h;cases h
   |false=>
    rw[e,k]at h;obtain⟨h1,h2⟩:=mputI m a b h;refine⟨?_,?_⟩;.show(match(CT.i .i64).eqB a p.1 with|true=>(a,b)::m|false=>p::mput (.i .i64) m a b)=_;rw[e,k];show p::mput (.i .i64) m a b=_;rw[h1];rfl
    .have :a≠p.1:=λq=>by rw[q]at k;simp at k
     simp only[List.map_cons,List.mem_cons,not_or];exact⟨this,h2⟩
theorem mputI_old{V:Type}:∀(m:IM V)(a:Int)(b:V),a∈m.map (·.1)->(show IM V from mput (.i .i64) m a b).map (·.1)=m.map (·.1)
 |[],a,b,h=>by simp at h
 |p::m,a,b,h=>by
  have e:(CT.i .i64).eqB a p.1=(a==p.1):=rfl;show(show IM V from(match(CT.i .i64).eqB a p.1 with|true=>(a,b)::m|false=>p::mput (.i .i64) m a b)).map (·.1)=_;rw[e]
  cases k:(a==p.1)with
   |true=>
    have :a=p.1:=by simpa using k
    simp[this]
   |false=>
    have :a≠p.1:=λq=>by rw[q]at k;simp at k
    have h2:a∈m.map (·.1):=by rw[List.map_cons,List.mem_cons]at h;exact h.resolve_left this
    show(p::(show IM V from mput (.i .i64) m a b)).map (·.1)=_;rw[List.map_cons,mputI_old m a b h2];rfl
theorem mfindI{V:Type}:∀(m:IM V)(a:Int),a∉m.map (·.1)->mfind (.i .i64) m a=none|[],a,h=>rfl|p::m,a,h=>by rw[List.map_cons,List.mem_cons,not_or]at h;have e:(CT.i .i64).eqB a p.1=(a==p.1):=rfl;show(match(CT.i .i64).eqB a p.1 with|true=>some p.2|false=>mfind (.i .i64) m a)=none;rw[e,show(a==p.1)=false by simpa using h.1];exact mfindI m a h.2
theorem marks_find{l:List Int}(a:Int)(h:(mfind (.i .i64) (l.map (·,true)) a).getD false=false):a∉l/\mput (.i .i64) (l.map (·,true)) a true=(l++[a]).map (·,true):=by
 have key:mfind (.i .i64) (l.map (·,true)) a=none:=by induction l with|nil=>rfl|cons x l ih=>have e:(CT.i .i64).eqB a x=(a==x):=rfl;have h:(match(CT.i .i64).eqB a x with|true=>some true|false=>mfind (.i .i64) (l.map (·,true)) a).getD false=false:=h;show(match(CT.i .i64).eqB a x with|true=>some true|false=>mfind (.i .i64) (l.map (·,true)) a)=none;rw[e]at h⊢;cases k:(a==x)with|true=>rw[k]at h;cases h|false=>rw[k]at h;exact ih h
 obtain⟨h1,h2⟩:=mputI _ a true key;refine⟨λhm=>h2 ?_,by rw[h1,List.map_append];rfl⟩;show a∈(show List (Int×Bool)from l.map (·,true)).map (·.1);exact List.mem_map.2 ⟨(a,true),List.mem_map.2 ⟨a,hm,rfl⟩,rfl⟩
def runsN(a:TApiLvLevels)(n:Nat):List TApiRun:=(a.Levels.take n).flatMap (·.Runs)
theorem runsN_succ{a:TApiLvLevels}{n:Nat}{l:TApiLvLevel}(h:a.Levels[n]?=some l):runsN a (n+1)=runsN a n++l.Runs:=by unfold runsN;rw[List.take_add_one,h];simp
theorem levelsIds(a:TApiLvLevels)(hs:SzL a):Evs (λfu=>f_levels_Check fu a) λr=>r.2.2=0->((runsN a a.Levels.length).map (·.Id)).Nodup:=by
 unfold f_levels_Check;refine Evs.seq (P:=λb=>b=false->1<=a.B/\a.B<=16) (Evs.ite (λh=>Evs.ret (by simp)) λh=>Evs.ret (by have :=ndec h;simp;omega)) λb hb=>?_;refine Evs.ite (λ_=>Evs.ret (by simp)) λhb2=>?_;refine Evs.ite (λ_=>Evs.ret (by simp)) λhl=>?_;have hl:=ndec hl;refine Evs.seq (P:=λy=>y.2.2.1=0->((runsN a a.Levels.length).map (·.Id)).Nodup) (Evs.loop (λx=>∃k:Nat,k<=a.Levels.length/\x.2.2.2.1=(k:Int)/\x.2.2.1=0/\x.2.2.2.2=((runsN a k).map (·.Id)).map (·,true)/\((runsN a k).map (·.Id)).Nodup) (λx=>((a.Levels.length:Int)-x.2.2.2.1).toNat) (λx hx=>?_) ⟨0,Nat.zero_le _,rfl,rfl,rfl,List.nodup_nil⟩) λy hy=>?_
 .obtain⟨x1,x2,x3,x4,x5⟩:=x;obtain⟨k,hk,e,he0,hm,hn⟩:=hx;simp only at e he0 hm;subst e;unfold f_levels_Check_l1;refine Lvs.ite (λhi=>?_) λhi=>Lvs.out λ_=>?_;rotate_left
  .have hi:=ndec hi;have hi:¬(k:Int)<a.Levels.length:=hi;have :k=a.Levels.length:=by omega
   subst this;exact hn
  have hi:=of_decide_eq_true hi;have hi2:(k:Int)<a.Levels.length:=hi;have w1:IntKind.i64.wrap ((k:Int)+1)=((k+1:Nat):Int):=by rw[wr (by omega) (by omega)];omega
  refine Lvs.ix (by simp) hi λv hv=>?_;have hv:a.Levels[k]?=some v:=by simpa using hv
  have hmv:=mem_of_get hv;refine Lvs.ite (λ_=>Lvs.out (by simp)) λh2=>?_;have h2:=ndec h2;refine Lvs.seq (P:=λy=>match y with|.inl v=>v.2.1≠0|.inr w=>w.2.1=0/\w.2.2=((runsN a (k+1)).map (·.Id)).map (·,true)/\((runsN a (k+1)).map (·.Id)).Nodup) (Evs.loop (λz=>∃j:Nat,j<=v.Runs.length/\z.2.2.1=(j:Int)/\z.2.1=0/\z.2.2.2=((runsN a k++v.Runs.take j).map (·.Id)).map (·,true)/\((runsN a k++v.Runs.take j).map (·.Id)).Nodup) (λz=>((v.Runs.length:Int)-z.2.2.1).toNat) (λz hz=>?_) ⟨0,Nat.zero_le _,rfl,he0,by simp only[List.take_zero,List.append_nil];exact hm,by simpa using hn⟩) λy hy=>?_
  .obtain⟨z1,z2,z3,z4⟩:=z;obtain⟨j,hj,ez,hz0,hzm,hzn⟩:=hz;simp only at ez hz0 hzm;subst ez;unfold f_levels_Check_l2;refine Lvs.ite (λhj2=>?_) λhj2=>Lvs.out ?_;rotate_left
   .have hj2:=ndec hj2;have hj2:¬(j:Int)<v.Runs.length:=hj2;have :j=v.Runs.length:=by omega
    subst this;rw[List.take_length]at hzm hzn;rw[<-runsN_succ hv]at hzm hzn;exact⟨hz0,hzm,hzn⟩
   have hj2:=of_decide_eq_true hj2;have hj3:(j:Int)<v.Runs.length:=hj2;have w2:IntKind.i64.wrap ((j:Int)+1)=((j+1:Nat):Int):=by rw[wr (by omega) (by omega)];omega
   refine Lvs.ix (by simp) hj2 λu hu=>?_;have hu:v.Runs[j]?=some u:=by simpa using hu
   refine Lvs.seq (P:=λr=>r=0->(mfind (.i .i64) z4 u.Id).getD false=false) ?_ λr hr=>?_;.refine Evs.ite (λ_=>?_) λh=>absurd (show(0:Int)<=(k:Int)by omega) h;refine Evs.seq (fits u _ ((hs.2 v hmv).2 u (mem_of_get hu))) λr hr=>?_;refine Evs.seq (P:=λb=>r=0->b=(mfind (.i .i64) z4 u.Id).getD false) (Evs.ite (λ_=>Evs.ret λ_=>rfl) λh=>Evs.ret λe=>absurd (by simpa using e) h) λb hb=>?_;refine Evs.ite (λ_=>Evs.ret (by simp)) λh=>Evs.ret λe=>?_;rw[<-hb e];simpa using h
   .refine Lvs.ite (λh=>Lvs.out (by simpa using h)) λh=>?_;have h:r=0:=by simpa using h
    have q:=hr h;rw[hzm]at q;obtain⟨q1,q2⟩:=marks_find _ q;have et:(runsN a k++v.Runs.take (j+1)).map (·.Id)=(runsN a k++v.Runs.take j).map (·.Id)++[u.Id]:=by rw[List.take_add_one,hu];simp[List.map_append]
    refine Lvs.rec ⟨⟨j+1,by omega,w2,h,?_,?_⟩,?_⟩;.subst hzm;exact q2.trans (by rw[et])
    .rw[et,List.nodup_append];refine⟨hzn,by simp,λx hx y hy=>?_⟩;have :y=u.Id:=by simpa using hy
     subst this;exact λe=>q1 (e▸hx)
    .show((v.Runs.length:Int)-IntKind.i64.wrap ((j:Int)+1)).toNat<((v.Runs.length:Int)-(j:Int)).toNat;rw[w2];omega
  .cases y with|inl w=>exact Lvs.out λe=>absurd e hy|inr w=>refine Lvs.rec ⟨⟨k+1,by omega,w1,hy.1,hy.2.1,hy.2.2⟩,?_⟩;show((a.Levels.length:Int)-IntKind.i64.wrap ((k:Int)+1)).toNat<((a.Levels.length:Int)-(k:Int)).toNat;rw[w1];omega
 .refine Evs.ite (λh=>Evs.ret λe=>absurd e (by simpa using h)) λh=>?_;have h:=hy (by simpa using h);refine Evs.seq (P:=λ_=>True) ?_ λb _=>?_;.refine Evs.ite (λh0=>?_) λ_=>Evs.ret trivial;have h0:=of_decide_eq_true h0;rw[wr (n:=(a.Levels.length:Int)-1) (by omega) (by omega)];exact Evs.ix (by omega) (by omega) λu hu=>Evs.ret trivial
  .exact Evs.ite (λ_=>Evs.ret (by simp)) λ_=>Evs.ret λ_=>h
end Go.L
end
section
set_option linter.unusedSimpArgs false
set_option linter.unusedVariables false
namespace Go.L
open Go Go.AM
def newN(a:TApiLvLevels)(n:Nat):List TApiRun:=(a.Levels.take n).flatMap (·.Runs.reverse)
theorem newN_succ{a:TApiLvLevels}{n:Nat}{l:TApiLvLevel}(h:a.Levels[n]?=some l):newN a (n+1)=newN a n++l.Runs.reverse:=by unfold newN;rw[List.take_add_one,h];simp
theorem flat_rev(l:List TApiLvLevel):(l.flatMap (·.Runs.reverse)).Perm (l.flatMap (·.Runs)):=by induction l with|nil=>exact List.Perm.refl _|cons x l ih=>rw[List.flatMap_cons,List.flatMap_cons];exact(List.reverse_perm x.Runs).append ih
theorem newN_perm(a:TApiLvLevels)(n:Nat):(newN a n).Perm (runsN a n):=flat_rev _
theorem newestE(a:TApiLvLevels)(hs:SzL a):Evs (λfu=>f_levels_Newest fu a) λr=>r.2=0->r.1=newN a a.Levels.length:=by
 unfold f_levels_Newest;refine Evs.seq (levelsCheck a hs) λr hr=>Evs.ite (λh=>Evs.ret λe=>absurd e (by simpa using h)) λh=>?_;obtain⟨_,_,hL,hV⟩:=hr (by simpa using h);refine Evs.seq (P:=λy=>y=newN a a.Levels.length) (Evs.loop (λx=>∃k:Nat,k<=a.Levels.length/\x=((k:Int),newN a k)/\(newN a k).length<=2*k) (λx=>a.Levels.length-x.1.toNat) (λx hx=>?_) ⟨0,Nat.zero_le _,rfl,Nat.le_refl _⟩) λy hy=>Evs.cond rfl (Evs.ret λ_=>hy);obtain⟨k,hk,rfl,hl⟩:=hx;unfold f_levels_Newest_l1;refine Lvs.ite (λhi=>?_) λhi=>Lvs.cond rfl (Lvs.out ?_);rotate_left
 .have hi:=ndec hi;have hi:¬(k:Int)<a.Levels.length:=hi;have :k=a.Levels.length:=by omega
  rw[this]
 have hi:=of_decide_eq_true hi;have hi:(k:Int)<a.Levels.length:=hi;have w1:IntKind.i64.wrap ((k:Int)+1)=((k+1:Nat):Int):=by rw[wr (by omega) (by omega)];omega
 refine Lvs.ix (by simp) hi λv hv=>Lvs.cond rfl ?_;have hv:a.Levels[k]?=some v:=by simpa using hv
 have hm:=mem_of_get hv;have h2:=(hV v hm).1;rw[wr (n:=(v.Runs.length:Int)-1) (by omega) (by omega)];refine Lvs.seq (P:=λy=>y=newN a k++v.Runs.reverse) (Evs.loop (λz=>∃j:Nat,j<=v.Runs.length/\z=((j:Int)-1,newN a k++(v.Runs.drop j).reverse)) (λz=>(z.1+1).toNat) (λz hz=>?_) ⟨v.Runs.length,Nat.le_refl _,by simp⟩) λy hy=>?_
 .obtain⟨j,hj,rfl⟩:=hz;unfold f_levels_Newest_l2;refine Lvs.ite (λhj2=>?_) λhj2=>Lvs.cond rfl (Lvs.out ?_);rotate_left
  .have hj2:=ndec hj2;have hj2:¬(j:Int)-1>=0:=hj2;have :j=0:=by omega
   subst this;rfl
  have hj2:=of_decide_eq_true hj2;have hj2:(j:Int)-1>=0:=hj2;obtain⟨i,rfl⟩:∃i,j=i+1:=⟨j-1,by omega⟩;have e1:((i+1:Nat):Int)-1=(i:Int):=by omega
  rw[e1];have hi3:i<v.Runs.length:=by omega
  refine Lvs.ix (by simp) (by simp only;omega) λu hu=>Lvs.cond rfl (Lvs.cond rfl (Lvs.cond ?_ (Lvs.cond rfl (Lvs.rec ⟨⟨i,by omega,?_⟩,?_⟩))));.simp only[List.length_append,List.length_reverse,List.length_drop,List.length_singleton];omega
  .have hu:v.Runs[i]?=some u:=by simpa using hu
   have ed:v.Runs.drop i=u::v.Runs.drop (i+1):=by
    rw[List.drop_eq_getElem_cons hi3];have :v.Runs[i]=u:=by rw[List.getElem?_eq_getElem hi3]at hu;exact Option.some.inj hu
    rw[this]
   rw[ed,List.reverse_cons,<-List.append_assoc,wr (n:=(i:Int)-1) (by omega) (by omega)]
  .show(IntKind.i64.wrap ((i:Int)-1)+1).toNat<((i:Int)+1).toNat;rw[wr (by omega) (by omega)];omega
 .subst hy;refine Lvs.cond rfl (Lvs.rec ⟨⟨k+1,by omega,by rw[w1,newN_succ hv],?_⟩,?_⟩);.rw[newN_succ hv,List.length_append,List.length_reverse];omega
  .show a.Levels.length-(IntKind.i64.wrap ((k:Int)+1)).toNat<a.Levels.length-(k:Int).toNat;rw[w1];omega
def headV(a:TApiPrFront):TApiVsView:=⟨a.Buffer.Entries,newN a.Jobs.Levels a.Jobs.Levels.Levels.length⟩
end Go.L
end
section
set_option linter.unusedSimpArgs false
set_option linter.unusedVariables false
namespace Go.L
open Go Go.AM
theorem Evs.inv{α β:Type}{g:Nat->Option α}{h:Nat->Option β}{r:α}{p:β->Prop}{Q:β->Prop}(hg:Evs g (·=r))(hh:Evs h Q)(k:∀n,g n=some r->∃q,h n=some q/\p q):Evs h λq=>Q q/\p q:=by obtain⟨r',rfl,N,h1⟩:=hg;obtain⟨q,hq,M,h2⟩:=hh;refine⟨q,⟨hq,?_⟩,M,h2⟩;obtain⟨q',e1,e2⟩:=k (N+M) (h1 _ (by omega));rw[h2 _ (by omega)]at e1;cases e1;exact e2
theorem ite_no{α:Type}{c:Prop}[Decidable c]{x y:Option α}{r:α}(h:(if c then x else y)=some r)(hx:x≠some r):¬c/\y=some r:=by
 by_cases hv:c;.rw[if_pos hv]at h;exact absurd h hx
 .rw[if_neg hv]at h;exact⟨hv,h⟩
theorem store_inv{fu:Nat}{a:TApiMpState}(h:f_store_Check fu a=some 0):f_pressure_Check fu a.Front=some 0/\f_versions_CheckTable fu a.Table=some 0:=by
 unfold f_store_Check at h;obtain⟨v,h1,h⟩:=Option.bind_eq_some_iff.1 h;by_cases hv:(v !=0)=true;.rw[if_pos hv]at h;cases h;cases hv
 rw[if_neg hv]at h;obtain⟨w,h2,h⟩:=Option.bind_eq_some_iff.1 h;have hv:v=0:=by simpa using hv
 subst hv;by_cases hw:(w !=0)=true;.rw[if_pos hw]at h;cases h;cases hw
 have hw:w=0:=by simpa using hw
 subst hw;exact⟨h1,h2⟩
theorem pressure_inv{fu:Nat}{a:TApiPrFront}(h:f_pressure_Check fu a=some 0):(∃q,f_buffer_Check fu a.Buffer=some q/\q.2=0)/\ ∃q,f_jobs_Check fu a.Jobs=some q/\q.2=0:=by
 unfold f_pressure_Check at h;obtain⟨v,h1,h⟩:=Option.bind_eq_some_iff.1 h;by_cases hv:(v.2 !=0)=true;.rw[if_pos hv]at h;have :v.2=0:=Option.some.inj h;rw[this]at hv;cases hv
 rw[if_neg hv]at h;obtain⟨w,h2,h⟩:=Option.bind_eq_some_iff.1 h;by_cases hw:(w.2 !=0)=true;.rw[if_pos hw]at h;have :w.2=0:=Option.some.inj h;rw[this]at hw;cases hw
 exact⟨⟨v,h1,by simpa using hv⟩,w,h2,by simpa using hw⟩
theorem jobs_inv{fu:Nat}{a:TApiJbState}{q:Int×Int}(h:f_jobs_Check fu a=some q)(hq:q.2=0):∃r,f_levels_Check fu a.Levels=some r/\r.2.2=0:=by
 unfold f_jobs_Check at h;obtain⟨v,h1,h⟩:=Option.bind_eq_some_iff.1 h;by_cases hv:(v.2.2 !=0)=true;.rw[if_pos hv]at h;cases h;have hq:v.2.2=0:=hq;rw[hq]at hv;cases hv
 exact⟨v,h1,by simpa using hv⟩
theorem buffer_inv{fu:Nat}{a:TApiBfBuffer}{q:Int×Int}(h:f_buffer_Check fu a=some q)(hq:q.2=0):(a.Entries.length:Int)<=a.Most:=by
 unfold f_buffer_Check at h;obtain⟨v,h1,h⟩:=Option.bind_eq_some_iff.1 h
 cases v with
  |true=>rw[if_pos rfl]at h;cases h;cases hq
  |false=>
   rw[if_neg (by simp)]at h;by_cases hv:decide ((a.Entries.length:Int)>a.Most)=true;.rw[if_pos hv]at h;cases h;cases hq
   .have :=ndec hv;omega
def FreeOk(us:List TApiHnSlot)(vs:List TApiVsView):Prop:=∀(j:Nat)(v:TApiVsView)(u:TApiHnSlot),vs[j]?=some v->us[j]?=some u->u.Used=false->v.Runs=[]
theorem ct1(a:TApiVsTable)(h3:Sz a.Pinned)(h4:∀v∈a.Pinned,SzV v)(q1:a.Pinned.length=a.Pins.Slots.length):Evs (λfu=>lpc (f_versions_CheckTable_l1 a) fu 0) λy=>match y with|.inl v=>v≠0|.inr _=>FreeOk a.Pins.Slots a.Pinned:=by
 refine Evs.loop (λx=>At a.Pinned x/\ ∀(j:Nat)(v:TApiVsView)(u:TApiHnSlot),(j:Int)<x->a.Pinned[j]?=some v->a.Pins.Slots[j]?=some u->u.Used=false->v.Runs=[]) (λx=>((a.Pinned.length:Int)-x).toNat) (λx hx=>?_) ⟨At.zero h3,λj v u h=>by omega⟩;obtain⟨ha,hse⟩:=hx;unfold f_versions_CheckTable_l1;refine Lvs.ite (λhi=>?_) λhi=>Lvs.out λj v u e1 e2 e3=>hse j v u ?_ e1 e2 e3;rotate_left;.have hi:=ndec hi;have :=(List.getElem?_eq_some_iff.1 e1).1;omega
 have hi:=of_decide_eq_true hi;refine Lvs.ix ha.1 hi λv hv=>Lvs.seq (versionsCheck v (h4 v (mem_of_get hv))) λr hr=>Lvs.ite (λh=>Lvs.out (by simpa using h)) λh=>?_;have hr:=hr (by simpa using h);refine Lvs.ix ha.1 (by omega) λu hu=>?_;refine Lvs.seq (P:=λb=>b=false->u.Used=false->v.Runs=[]) (Evs.ite (λ_=>Evs.ret λe _=>?_) λh=>Evs.ret λ_ e=>absurd (by rw[e];rfl) h) λb hb=>Lvs.ite (λ_=>Lvs.out (by simp)) λh=>?_;.have b1:=hr.2.1;have b2:=hr.2.2.1;have e:=ndec (by rw[e];simp:¬decide ((IntKind.i64.wrap ((v.Buffer.length:Int)+(v.Runs.length:Int)))>0)=true);rw[wr (by omega) (by omega)]at e;exact List.eq_nil_of_length_eq_zero (by omega)
 .have hb:=hb (by simpa using h);refine Lvs.rec ⟨⟨(ha.next hi).1,λj v' u' hj e1 e2 e3=>?_⟩,(ha.next hi).2⟩;rw[ha.nx hi]at hj;by_cases hlt:(j:Int)<x;.exact hse j v' u' hlt e1 e2 e3
  .have :j=x.toNat:=by have :=ha.1;omega
   subst this;rw[hv]at e1;cases e1;rw[hu]at e2;cases e2;exact hb e3
theorem ct2(a:TApiVsTable)(h5:Sz a.Opened)(h6:∀v∈a.Opened,SzV v)(q2:a.Opened.length=a.Cursors.Slots.length):Evs (λfu=>lpc (f_versions_CheckTable_l2 a) fu 0) λy=>match y with|.inl v=>v≠0|.inr _=>FreeOk a.Cursors.Slots a.Opened:=ct1 ⟨a.Cursors,a.Cursors,a.Opened,a.Opened⟩ h5 h6 q2
theorem table_inv{fu:Nat}{a:TApiVsTable}(h:f_versions_CheckTable fu a=some 0):(∃q,f_handles_Check fu a.Pins=some q/\q.2=0)/\(∃q,f_handles_Check fu a.Cursors=some q/\q.2=0)/\ ∃y,lpc (f_versions_CheckTable_l1 a) fu 0=some y/\(∀v,y=.inl v->v=0)/\(∀w,y=.inr w->∃z,lpc (f_versions_CheckTable_l2 a) fu 0=some z/\ ∀v,z=.inl v->v=0):=by
 unfold f_versions_CheckTable at h;obtain⟨v,h1,h⟩:=Option.bind_eq_some_iff.1 h;by_cases hv:(v.2 !=0)=true;.rw[if_pos hv]at h;have :v.2=0:=Option.some.inj h;rw[this]at hv;cases hv
 rw[if_neg hv]at h;obtain⟨w,h2,h⟩:=Option.bind_eq_some_iff.1 h;by_cases hw:(w.2 !=0)=true;.rw[if_pos hw]at h;have :w.2=0:=Option.some.inj h;rw[this]at hw;cases hw
 rw[if_neg hw]at h;refine⟨⟨v,h1,by simpa using hv⟩,⟨w,h2,by simpa using hw⟩,?_⟩;obtain⟨b,h3,h⟩:=Option.bind_eq_some_iff.1 h
 cases b with
  |true=>rw[if_pos rfl]at h;cases h
  |false=>
   rw[if_neg (by simp)]at h;obtain⟨-,h⟩:=ite_no h (by simp);obtain⟨-,h⟩:=ite_no h (by simp);obtain⟨y,h4,h⟩:=Option.bind_eq_some_iff.1 h;refine⟨y,h4,λv e=>?_,λw e=>?_⟩;.subst e;exact Option.some.inj h
   .subst e;obtain⟨z,h5,h⟩:=Option.bind_eq_some_iff.1 h;exact⟨z,h5,λv e=>by subst e;exact Option.some.inj h⟩
theorem tableMore(a:TApiVsTable)(hs:SzT a)(hok:TOk a)(hc:Evs (λfu=>f_versions_CheckTable fu a) (·=0)):Evs (λfu=>f_handles_Check fu a.Pins) (·.2=0)/\Evs (λfu=>f_handles_Check fu a.Cursors) (·.2=0)/\FreeOk a.Pins.Slots a.Pinned/\FreeOk a.Cursors.Slots a.Opened:=by obtain⟨h1,h2,⟨h3,h4⟩,h5,h6⟩:=hs;have q1:=hok.2.1.1;have q2:=hok.2.1.2;refine⟨(Evs.inv hc (handlesCheck _ h1) λn e=>(table_inv e).1).mono λ_ h=>h.2,(Evs.inv hc (handlesCheck _ h2) λn e=>(table_inv e).2.1).mono λ_ h=>h.2,?_⟩;obtain⟨r0,hr0,N,g0⟩:=hc;have hr0:r0=0:=hr0;subst hr0;obtain⟨y1,p1,M1,g1⟩:=ct1 a h3 h4 q1;obtain⟨y2,p2,M2,g2⟩:=ct2 a h5 h6 q2;obtain⟨-,-,y,e1,e2,e3⟩:=table_inv (g0 (N+M1+M2) (by omega));have g1:=g1 (N+M1+M2) (by omega);have g2:=g2 (N+M1+M2) (by omega);have ey:y1=y:=Option.some.inj (g1.symm.trans e1);subst ey;cases y1 with|inl v=>exact absurd (e2 v rfl) p1|inr w=>obtain⟨z,e4,e5⟩:=e3 w rfl;have ez:y2=z:=Option.some.inj (g2.symm.trans e4);subst ez;cases y2 with|inl v=>exact absurd (e5 v rfl) p2|inr u=>exact⟨p1,p2⟩
structure StMore(a:TApiMpState):Prop where
 most:(a.Front.Buffer.Entries.length:Int)<=a.Front.Buffer.Most
 ids:((runsN a.Front.Jobs.Levels a.Front.Jobs.Levels.Levels.length).map (·.Id)).Nodup
 prs:Evs (λfu=>f_pressure_Check fu a.Front) (·=0)
 lvl:Evs (λfu=>f_levels_Check fu a.Front.Jobs.Levels) (·.2.2=0)
 pins:Evs (λfu=>f_handles_Check fu a.Table.Pins) (·.2=0)
 curs:Evs (λfu=>f_handles_Check fu a.Table.Cursors) (·.2=0)
 fr1:FreeOk a.Table.Pins.Slots a.Table.Pinned
 fr2:FreeOk a.Table.Cursors.Slots a.Table.Opened
theorem storeMore(a:TApiMpState)(hs:SzS a)(hok:StOk a)(hc:Evs (λfu=>f_store_Check fu a) (·=0)):StMore a:=by
 have hp:Evs (λfu=>f_pressure_Check fu a.Front) (·=0):=(Evs.inv hc (pressureCheck a.Front hs.1.1 hs.1.2.1 hs.1.2.2.1) λn e=>⟨0,(store_inv e).1,rfl⟩).mono λ_ h=>h.2.symm;have ht:Evs (λfu=>f_versions_CheckTable fu a.Table) (·=0):=(Evs.inv hc (checkTable a.Table hs.2.1) λn e=>⟨0,(store_inv e).2,rfl⟩).mono λ_ h=>h.2.symm;have hl:=Evs.inv hp (levelsIds a.Front.Jobs.Levels hs.1.2.1) λn e=>by obtain⟨-,q,e1,e2⟩:=pressure_inv e;obtain⟨r,e3,e4⟩:=jobs_inv e1 e2;exact⟨r,e3,e4⟩
 have ids:((runsN a.Front.Jobs.Levels a.Front.Jobs.Levels.Levels.length).map (·.Id)).Nodup:=by obtain⟨r,⟨h1,h2⟩,-⟩:=hl;exact h1 h2
 have most:(a.Front.Buffer.Entries.length:Int)<=a.Front.Buffer.Most:=by obtain⟨r,hr,N,h⟩:=hp;have hr:r=0:=hr;subst hr;obtain⟨⟨q,e1,e2⟩,-⟩:=pressure_inv (h N (Nat.le_refl _));exact buffer_inv e1 e2
 obtain⟨t1,t2,t3,t4⟩:=tableMore a.Table hs.2.1 hok.2.2 ht;exact⟨most,ids,hp,hl.mono λ_ h=>h.2,t1,t2,t3,t4⟩
end Go.L
end
section
set_option linter.unusedSimpArgs false
set_option linter.unusedVariables false
namespace Go.L
open Go Go.AM
theorem Evs.inv2{α β:Type}{g:Nat->Option α}{h:Nat->Option β}{P:α->Prop}{p:β->Prop}{Q:β->Prop}(hg:Evs g P)(hh:Evs h Q)(k:∀n r q,P r->g n=some r->h n=some q->p q):Evs h λq=>Q q/\p q:=by obtain⟨r,hr,N,h1⟩:=hg;obtain⟨q,hq,M,h2⟩:=hh;exact⟨q,⟨hq,k (N+M) r q hr (h1 _ (by omega)) (h2 _ (by omega))⟩,M,h2⟩
theorem newestZ(a:TApiLvLevels)(hs:SzL a)(hl:Evs (λfu=>f_levels_Check fu a) (·.2.2=0)):Evs (λfu=>f_levels_Newest fu a) (·=(newN a a.Levels.length,0)):=by refine(Evs.inv2 (p:=λq=>q.2=0) hl (newestE a hs) λn r q hr e1 e2=>?_).mono λr h=>Prod.ext (h.1 h.2) h.2;unfold f_levels_Newest at e2;rw[e1]at e2;have e2:(if(r.2.2 !=0)=true then some ([],r.2.2)else _)=some q:=e2;rw[if_neg (by rw[hr];decide)]at e2;obtain⟨y,-,e3⟩:=Option.bind_eq_some_iff.1 e2;rw[if_pos rfl]at e3;cases e3;rfl
theorem headZ(a:TApiPrFront)(hs:SzF a)(hp:Evs (λfu=>f_pressure_Check fu a) (·=0))(hl:Evs (λfu=>f_levels_Check fu a.Jobs.Levels) (·.2.2=0)):Evs (λfu=>f_versions_Head fu a) (·=(headV a,0)):=by unfold f_versions_Head;exact Evs.eq hp (Evs.ite (λh=>absurd h (by decide)) λ_=>Evs.eq (newestZ _ hs.2.1 hl) (Evs.ret rfl))
def viewsV(a:TApiMpState):List TApiVsView:=headV a.Front::(a.Table.Pinned++a.Table.Opened)
theorem viewsZ(a:TApiMpState)(hs:SzS a)(ok:StOk a)(m:StMore a):Evs (λfu=>f_store_views fu a) (·=viewsV a):=by
 have t1:=ok.2.2.1;have t2:=ok.2.2.2.1;have h3:a.Table.Pinned.length<=16:=by omega
 have h4:a.Table.Opened.length<=16:=by omega
 unfold f_store_views;refine Evs.eq (headZ a.Front hs.1 m.prs m.lvl) ?_;rw[wr (n:=1+(a.Table.Pinned.length:Int)) (by omega) (by omega)];refine Evs.ite (λh=>absurd (of_decide_eq_true h) (by omega)) λ_=>?_;rw[wr (n:=1+(a.Table.Pinned.length:Int)+(a.Table.Opened.length:Int)) (by omega) (by omega)];refine Evs.ite (λh=>absurd (of_decide_eq_true h) (by omega)) λ_=>?_;refine Evs.eq (r:=[]) (Evs.pure (λ_=>growOk _ (by omega) (by omega)) rfl) ?_;refine Evs.cond rfl (Evs.cond rfl (Evs.cond (by simp) (Evs.cond rfl (Evs.cond (by simp;omega) (Evs.cond rfl (Evs.cond (by simp;omega) (Evs.cond rfl (Evs.ret ?_))))))));unfold viewsV;simp
def KeysOf(m:IM Bool)(rs:List TApiRun):Prop:=(m.map (·.1)).Nodup/\ ∀i,i∈m.map (·.1)↔i∈rs.map (·.Id)
theorem KeysOf.put{m:IM Bool}{rs:List TApiRun}(h:KeysOf m rs)(r:TApiRun):KeysOf (mput (.i .i64) m r.Id true) (rs++[r]):=by
 obtain⟨h1,h2⟩:=h;by_cases hm:r.Id∈m.map (·.1)
 .have e:=mputI_old m r.Id true hm;refine⟨?_,λi=>?_⟩;.show((show IM Bool from mput (.i .i64) m r.Id true).map (·.1)).Nodup;rw[e];exact h1
  .show i∈(show IM Bool from mput (.i .i64) m r.Id true).map (·.1)↔_;rw[e,List.map_append,List.mem_append,h2];constructor;.exact .inl
   .rintro(h|h);.exact h
    .have :i=r.Id:=by simpa using h
     subst this;exact(h2 _).1 hm
 .obtain⟨e,-⟩:=mputI m r.Id true (mfindI m r.Id hm);have e2:(show IM Bool from mput (.i .i64) m r.Id true).map (·.1)=m.map (·.1)++[r.Id]:=by show(show IM Bool from mput (.i .i64) m r.Id true).map (·.1)=_;rw[show(show IM Bool from mput (.i .i64) m r.Id true)=m++[(r.Id,true)]from e];simp
  refine⟨?_,λi=>?_⟩
  .show((show IM Bool from mput (.i .i64) m r.Id true).map (·.1)).Nodup;rw[e2,List.nodup_append];refine⟨h1,by simp,λx hx y hy=>?_⟩;have :y=r.Id:=by simpa using hy
   subst this;exact λq=>hm (q▸hx)
  .show i∈(show IM Bool from mput (.i .i64) m r.Id true).map (·.1)↔_;rw[e2,List.map_append,List.mem_append,List.mem_append,h2];simp
theorem nodup_len{α:Type}[DecidableEq α]:∀(l m:List α),l.Nodup->(∀x∈l,x∈m)->l.length<=m.length|[],m,_,_=>by simp|x::l,m,h,k=>by rw[List.nodup_cons]at h;have hx:=k x (by simp);have :=nodup_len l (m.erase x) h.2 λy hy=>(List.mem_erase_of_ne (λe=>h.1 (by rw[e]at hy;exact hy))).2 (k y (by simp[hy]));rw[List.length_erase_of_mem hx]at this;have :0<m.length:=List.length_pos_of_mem hx;simp only[List.length_cons];omega
theorem heldAllE(l:List TApiVsView)(hl:l.length<=33)(h:∀v∈l,SzV v/\v.Runs.length<=24):Evs (λfu=>lpc (f_store_Held_l1 l) fu (0,[])) λm=>KeysOf m (l.flatMap (·.Runs)):=by
 refine Evs.loop (λx=>∃k:Nat,k<=l.length/\x.1=(k:Int)/\KeysOf x.2 ((l.take k).flatMap (·.Runs))) (λx=>l.length-x.1.toNat) (λx hx=>?_) ⟨0,Nat.zero_le _,rfl,show KeysOf ([]:IM Bool) []from⟨List.nodup_nil,λi=>by simp⟩⟩;obtain⟨x1,x2⟩:=x;obtain⟨k,hk,e,hb⟩:=hx;have e:x1=(k:Int):=e;subst e;have hb:KeysOf x2 ((l.take k).flatMap (·.Runs)):=hb;unfold f_store_Held_l1;refine Lvs.ite (λhi=>?_) λhi=>Lvs.out ?_;rotate_left
 .have hi:=ndec hi;have hi:¬(k:Int)<l.length:=hi;have :k=l.length:=by omega
  subst this;rw[List.take_length]at hb;exact hb
 have hi:=of_decide_eq_true hi;have hi2:(k:Int)<l.length:=hi;have w1:IntKind.i64.wrap ((k:Int)+1)=((k+1:Nat):Int):=by rw[wr (by omega) (by omega)];omega
 refine Lvs.ix (by simp) hi λv hv=>?_;have hv0:l[k]?=some v:=by simpa using hv
 have hv:=h v (mem_of_get hv);have h24:=hv.2;refine Lvs.seq (P:=λy=>KeysOf y ((l.take k).flatMap (·.Runs)++v.Runs)) (Evs.loop (λz=>∃j:Nat,j<=v.Runs.length/\z.1=(j:Int)/\KeysOf z.2 ((l.take k).flatMap (·.Runs)++v.Runs.take j)) (λz=>((v.Runs.length:Int)-z.1).toNat) (λz hz=>?_) ⟨0,Nat.zero_le _,rfl,by simpa using hb⟩) λy hy=>Lvs.rec ⟨⟨k+1,by omega,w1,?_⟩,?_⟩
 .obtain⟨z1,z2⟩:=z;obtain⟨j,hj,e,hz2⟩:=hz;have e:z1=(j:Int):=e;subst e;have hz2:KeysOf z2 ((l.take k).flatMap (·.Runs)++v.Runs.take j):=hz2;unfold f_store_Held_l2;refine Lvs.ite (λhj2=>?_) λhj2=>Lvs.out ?_;rotate_left
  .have hj2:=ndec hj2;have hj2:¬(j:Int)<v.Runs.length:=hj2;have :j=v.Runs.length:=by omega
   subst this;rw[List.take_length]at hz2;exact hz2
  have hj2:=of_decide_eq_true hj2;have hj3:(j:Int)<v.Runs.length:=hj2;have w2:IntKind.i64.wrap ((j:Int)+1)=((j+1:Nat):Int):=by rw[wr (by omega) (by omega)];omega
  refine Lvs.ix (by simp) hj2 λr hr=>Lvs.rec ⟨⟨j+1,by omega,w2,?_⟩,?_⟩
  .have hr:v.Runs[j]?=some r:=by simpa using hr
   have :=hz2.put r;rw[List.append_assoc]at this;rw[List.take_add_one,hr];exact this
  .show((v.Runs.length:Int)-IntKind.i64.wrap ((j:Int)+1)).toNat<((v.Runs.length:Int)-(j:Int)).toNat;rw[w2];omega
 .rw[List.take_add_one,hv0];simpa using hy
 .show l.length-(IntKind.i64.wrap ((k:Int)+1)).toNat<l.length-(k:Int).toNat;rw[w1];omega
theorem heldE(a:TApiMpState)(hs:SzS a)(ok:StOk a)(m:StMore a)(hc:Evs (λfu=>f_store_Check fu a) (·=0)):Evs (λfu=>f_store_Held fu a) λr=>r.2=0/\ ∃q,KeysOf q ((viewsV a).flatMap (·.Runs))/\r.1.length=q.length:=by unfold f_store_Held;refine Evs.eq hc (Evs.ite (λh=>absurd h (by decide)) λ_=>?_);have hv:=viewsZ a hs ok m;obtain⟨l,⟨h1,h2⟩,-⟩:=Evs.and hv (views a hs.1 hs.2.1 ok.2.2);have h1:l=viewsV a:=h1;subst h1;refine Evs.eq hv (Evs.seq (Evs.and (heldAll _ h2.1 h2.2) (heldAllE _ h2.1 h2.2)) λq hq=>?_);refine(heldLoop ([],q) (by have :=hq.1;simp only[List.length_nil];omega)).mono λr e=>?_;subst e;refine⟨rfl,q,hq.2,?_⟩;unfold heldF;rw[List.length_mergeSort];simp
theorem held_ge(a:TApiMpState)(m:StMore a){q:IM Bool}(hq:KeysOf q ((viewsV a).flatMap (·.Runs))):(runsN a.Front.Jobs.Levels a.Front.Jobs.Levels.Levels.length).length<=q.length:=by
 have :=nodup_len _ (q.map (·.1)) m.ids λx hx=>(hq.2 x).2 ?_;.simpa using this
 .obtain⟨r,hr,rfl⟩:=List.mem_map.1 hx;refine List.mem_map.2 ⟨r,?_,rfl⟩;unfold viewsV;rw[List.flatMap_cons];exact List.mem_append_left _ ((newN_perm _ _).mem_iff.2 hr)
theorem held_eq(a:TApiMpState)(m:StMore a){q:IM Bool}(hq:KeysOf q ((viewsV a).flatMap (·.Runs)))(h1:∀v∈a.Table.Pinned,v.Runs=[])(h2:∀v∈a.Table.Opened,v.Runs=[]):q.length=(runsN a.Front.Jobs.Levels a.Front.Jobs.Levels.Levels.length).length:=by
 have :=nodup_len (q.map (·.1)) ((runsN a.Front.Jobs.Levels a.Front.Jobs.Levels.Levels.length).map (·.Id)) hq.1 λx hx=>?_;.have k:=held_ge a m hq;simp only[List.length_map]at this;omega
 .obtain⟨r,hr,rfl⟩:=List.mem_map.1 ((hq.2 x).1 hx);refine List.mem_map.2 ⟨r,?_,rfl⟩;unfold viewsV at hr;rw[List.flatMap_cons,List.mem_append]at hr;rcases hr with hr|hr;.exact(newN_perm _ _).mem_iff.1 hr
  .obtain⟨v,hv,hr⟩:=List.mem_flatMap.1 hr;rcases List.mem_append.1 hv with hv|hv;.rw[h1 v hv]at hr;cases hr
   .rw[h2 v hv]at hr;cases hr
end Go.L
end
section
set_option linter.unusedSimpArgs false
set_option linter.unusedVariables false
namespace Go.L
open Go Go.AM
def n1(e:TApiEntry):Nat:=if e.Dead then 0 else 1
def nE(l:List TApiEntry):Nat:=su n1 l
def nV(v:TApiVsView):Nat:=nE v.Buffer+su (λr=>nE r.Entries) v.Runs
def nM(m:KM):Nat:=(m.filter λp=>!p.2.Dead).length
theorem nM_put(m:KM)(e:TApiEntry)(hn:mfind .s m e.Key=none):nM (mput .s m e.Key e)=nM m+n1 e:=by obtain⟨h1,-⟩:=mput_new m e.Key e hn;show nM (show KM from mput .s m e.Key e)=_;rw[show(show KM from mput .s m e.Key e)=m++[(e.Key,e)]from h1];unfold nM n1;rw[List.filter_append,List.length_append];cases hd:e.Dead<;>simp[hd]
theorem pairs2N(l:List TApiEntry)(hl:l.length<=5000)(c:Nat)(m:KM)(hm:nM m<=c):Evs (λfu=>lpc (f_lookup_pairs_l2 l) fu (0,m)) λr=>nM r<=c+nE l:=by
 refine Evs.loop (λx=>∃k:Nat,k<=l.length/\x.1=(k:Int)/\nM x.2<=c+su n1 (l.take k)) (λx=>l.length-x.1.toNat) (λx hx=>?_) ⟨0,Nat.zero_le _,rfl,by simpa[su]using hm⟩;obtain⟨x1,x2⟩:=x;obtain⟨k,hk,e,hb⟩:=hx;have e:x1=(k:Int):=e;subst e;have hb:nM x2<=c+su n1 (l.take k):=hb;unfold f_lookup_pairs_l2;refine Lvs.ite (λhi=>?_) λhi=>Lvs.out ?_;rotate_left
 .have hi:=ndec hi;have hi:¬(k:Int)<l.length:=hi;have :k=l.length:=by omega
  subst this;rw[List.take_length]at hb;exact hb
 have hi:=of_decide_eq_true hi;have hi2:(k:Int)<l.length:=hi;have w1:IntKind.i64.wrap ((k:Int)+1)=((k+1:Nat):Int):=by rw[wr (by omega) (by omega)];omega
 have mu:l.length-(IntKind.i64.wrap ((k:Int)+1)).toNat<l.length-(k:Int).toNat:=by rw[w1];omega
 refine Lvs.ix (by simp) hi λv hv=>?_;have hv:l[k]?=some v:=by simpa using hv
 have ht:=su_take n1 hv;refine Lvs.ite (λhc=>Lvs.rec ⟨⟨k+1,by omega,w1,?_⟩,mu⟩) λ_=>Lvs.rec ⟨⟨k+1,by omega,w1,by simp only;omega⟩,mu⟩
 have q:mfind .s x2 v.Key=none:=by
  cases q:mfind .s x2 v.Key with
   |none=>rfl
   |some w=>
    have q2:(mfind .s x2 v.Key).isSome=true:=by rw[q];rfl
    have hc2:(!(mfind .s x2 v.Key).isSome)=true:=hc;rw[q2]at hc2;cases hc2
 have :=nM_put x2 v q;show nM (mput .s x2 v.Key v)<=_;omega
def nP(l:List (Sum (List TApiEntry) TLookupRun)):Nat:=su (λp=>nE (pE p)) l
theorem pairs1N(l:List (Sum (List TApiEntry) TLookupRun))(h:PsOk l):Evs (λfu=>lpc (f_lookup_pairs_l1 l) fu (0,[])) λr=>nM r<=nP l:=by
 have hL:=h.1;refine Evs.loop (λx=>∃k:Nat,k<=l.length/\x.1=(k:Int)/\nM x.2<=su (λp=>nE (pE p)) (l.take k)) (λx=>l.length-x.1.toNat) (λx hx=>?_) ⟨0,Nat.zero_le _,rfl,by simp[nM]⟩;obtain⟨x1,x2⟩:=x;obtain⟨k,hk,e,hb⟩:=hx;have e:x1=(k:Int):=e;subst e;have hb:nM x2<=su (λp=>nE (pE p)) (l.take k):=hb;unfold f_lookup_pairs_l1;refine Lvs.ite (λhi=>?_) λhi=>Lvs.out ?_;rotate_left
 .have hi:=ndec hi;have hi:¬(k:Int)<l.length:=hi;have :k=l.length:=by omega
  subst this;rw[List.take_length]at hb;exact hb
 have hi:=of_decide_eq_true hi;have hi2:(k:Int)<l.length:=hi;have w1:IntKind.i64.wrap ((k:Int)+1)=((k+1:Nat):Int):=by rw[wr (by omega) (by omega)];omega
 have mu:l.length-(IntKind.i64.wrap ((k:Int)+1)).toNat<l.length-(k:Int).toNat:=by rw[w1];omega
 refine Lvs.ix (by simp) hi λv hv=>?_;have hp:=h.2 v (mem_of_get hv);have hv:l[k]?=some v:=by simpa using hv
 have ht:=su_take (λp=>nE (pE p)) hv;cases v with|inl q=>exact Lvs.seq (pairs2N q hp.1 _ _ hb) λy hy=>Lvs.rec ⟨⟨k+1,by omega,w1,by simp only;rw[ht];exact hy⟩,mu⟩|inr q=>exact Lvs.seq (pairs2N q.Entries hp.1 _ _ hb) λy hy=>Lvs.rec ⟨⟨k+1,by omega,w1,by simp only;rw[ht];exact hy⟩,mu⟩
def prt(r:TApiRun):Sum (List TApiEntry) TLookupRun:=.inr ⟨r.Id,r.Entries⟩
theorem partsE(a:TApiVsView)(h:a.Runs.length<=24):Evs (λfu=>f_lookup_parts fu a) (·=.inl a.Buffer::a.Runs.map prt):=by
 unfold f_lookup_parts;refine Evs.cond rfl (Evs.seq (P:=(·=.inl a.Buffer::a.Runs.map prt)) (Evs.loop (λx=>∃k:Nat,k<=a.Runs.length/\x=(.inl a.Buffer::(a.Runs.take k).map prt,(k:Int))) (λx=>a.Runs.length-x.2.toNat) (λx hx=>?_) ⟨0,Nat.zero_le _,rfl⟩) λy hy=>Evs.cond rfl (Evs.ret hy));obtain⟨k,hk,rfl⟩:=hx;unfold f_lookup_parts_l1;refine Lvs.ite (λhi=>?_) λhi=>Lvs.cond rfl (Lvs.out ?_);rotate_left
 .have hi:=ndec hi;have hi:¬(k:Int)<a.Runs.length:=hi;have :k=a.Runs.length:=by omega
  subst this;simp only[List.take_length]
 have hi:=of_decide_eq_true hi;have hi2:(k:Int)<a.Runs.length:=hi;have w1:IntKind.i64.wrap ((k:Int)+1)=((k+1:Nat):Int):=by rw[wr (by omega) (by omega)];omega
 refine Lvs.ix (by simp) hi λv hv=>Lvs.cond rfl (Lvs.cond rfl (Lvs.cond ?_ (Lvs.cond rfl (Lvs.rec ⟨⟨k+1,by omega,?_⟩,?_⟩))));.simp only[List.length_cons,List.length_map,List.length_take,List.length_nil];omega
 .have hv:a.Runs[k]?=some v:=by simpa using hv
  rw[w1,List.take_add_one,hv];simp[prt]
 .show a.Runs.length-(IntKind.i64.wrap ((k:Int)+1)).toNat<a.Runs.length-(k:Int).toNat;rw[w1];omega
theorem su_cons{α:Type}(f:α->Nat)(x:α)(l:List α):su f (x::l)=f x+su f l:=by
 have key:∀(l:List α)(c:Nat),l.foldl (λs x=>s+f x) c=c+su f l:=by intro l;induction l with|nil=>intro c;simp[su]|cons y l ih=>intro c;unfold su;simp only[List.foldl_cons];rw[ih,ih (0+f y)];omega
 show(x::l).foldl (λs x=>s+f x) 0=_;rw[List.foldl_cons,key];omega
theorem su_map{α β:Type}(f:β->Nat)(g:α->β)(l:List α):su f (l.map g)=su (λx=>f (g x)) l:=by induction l with|nil=>rfl|cons x l ih=>rw[List.map_cons,su_cons,su_cons,ih]
theorem su_append{α:Type}(f:α->Nat)(l m:List α):su f (l++m)=su f l+su f m:=by induction l with|nil=>simp[su]|cons x l ih=>rw[List.cons_append,su_cons,su_cons,ih];omega
theorem su_perm{α:Type}(f:α->Nat){l m:List α}(h:l.Perm m):su f l=su f m:=by induction h with|nil=>rfl|cons x _ ih=>rw[su_cons,su_cons,ih]|swap x y l=>rw[su_cons,su_cons,su_cons,su_cons];omega|trans _ _ h1 h2=>exact h1.trans h2
theorem pairsN(a:TApiVsView)(h:WOk a):Evs (λfu=>f_lookup_pairs fu a) λr=>r.length<=nV a:=by
 have hp:=partsE a h.2.2.1;obtain⟨l,⟨h1,h2⟩,-⟩:=Evs.and hp (parts a h);have h1:l=.inl a.Buffer::a.Runs.map prt:=h1;subst h1;unfold f_lookup_pairs;refine Evs.eq hp (Evs.seq (Evs.and (pairs1 _ h2) (pairs1N _ h2)) λm hm=>?_);refine(pairs4 ([],m) ⟨by have :=hm.1.1;simp only[List.length_nil];omega,by simpa using hm.1.2.1⟩).mono λr e=>?_;subst e;unfold pairF;simp only[List.nil_append];rw[List.length_mergeSort];have e1:(mp m).length=nM m:=by unfold mp nM;rw[List.length_map]
 have e2:nP (.inl a.Buffer::a.Runs.map prt)=nV a:=by unfold nP nV;rw[su_cons,su_map];rfl
 rw[e1,<-e2];exact hm.2
theorem part0N(a:TApiVsView)(hs:SzV a):Evs (λfu=>f_lookup_Part fu a ⟨[],[],false⟩) λr=>r.1.length<=nV a:=by
 unfold f_lookup_Part;refine Evs.seq (versionsCheck a hs) λr hr=>Evs.ite (λ_=>Evs.ret (by simp)) λh=>?_;have hw:=hr (by simpa using h);refine Evs.eq range0 (Evs.ite (λ_=>Evs.ret (by simp)) λ_=>Evs.seq (Evs.and (pairsOk a hw) (pairsN a hw)) λl hl=>?_);refine Evs.seq (P:=(·=.inr ())) (Evs.loop (λx=>At l x) (λx=>((l.length:Int)-x).toNat) (λx hx=>?_) (At.zero (by have :=hl.1.1;omega))) λy hy=>by cases hy;exact Evs.cond rfl (Evs.ret hl.2)
 unfold f_lookup_Part_l1;refine Lvs.ite (λhi=>?_) λ_=>Lvs.out rfl;have hi:=of_decide_eq_true hi;refine Lvs.cond rfl (Lvs.ix hx.1 hi λv hv=>Lvs.eq (in0 v.Key (hl.1.2 v (mem_of_get hv))) ?_);exact Lvs.ite (λh=>absurd h (by decide)) λ_=>Lvs.rec (hx.next hi)
theorem count0N(a:TApiVsView)(hs:SzV a):Evs (λfu=>f_lookup_Count fu a ⟨[],[],false⟩) λr=>0<=r.1/\r.1<=(nV a:Int):=by unfold f_lookup_Count;exact Evs.seq (part0N a hs) λr hr=>Evs.ret ⟨by simp,Int.ofNat_le.2 hr⟩
theorem storeViewN(a:TApiMpState)(hs:SzS a)(m:StMore a):Evs (λfu=>f_store_View fu a ⟨0,0⟩) λr=>SzV r.1/\nV r.1<=nV (headV a.Front):=by have zv:SzV ⟨[],[]⟩/\nV ⟨[],[]⟩<=nV (headV a.Front):=⟨⟨by simp,by simp,λr hr=>by cases hr⟩,Nat.zero_le _⟩;unfold f_store_View;refine Evs.seq (storeCheck a hs) λr hr=>Evs.ite (λ_=>Evs.ret zv) λh=>?_;have hz:=headZ a.Front hs.1 m.prs m.lvl;obtain⟨r,⟨h1,h2⟩,-⟩:=Evs.and hz (head a.Front hs.1);have h1:r=(headV a.Front,0):=h1;subst h1;refine Evs.eq hz (Evs.ite (λh=>absurd h (by simp)) λ_=>?_);have hv:SzV (headV a.Front):=⟨by have :=h2.1;unfold Sz;simp only at this;omega,by have :=h2.2.1;unfold Sz;simp only at this;omega,λx hx=>(h2.2.2 x hx).2⟩;exact Evs.seq (viewZeroP (λv=>SzV v/\nV v<=nV (headV a.Front)) a.Table _ hs.2.1 hv ⟨hv,Nat.le_refl _⟩ zv) λq hq=>Evs.ite (λ_=>Evs.ret hq) λ_=>Evs.ret zv
end Go.L
end
section
set_option linter.unusedSimpArgs false
set_option linter.unusedVariables false
namespace Go.L
open Go Go.AM
def usedN(l:List TApiHnSlot):Nat:=(l.filter (·.Used)).length
theorem liveE(a:TApiHnTable)(hs:Sz a.Slots)(hc:Evs (λfu=>f_handles_Check fu a) (·.2=0)):Evs (λfu=>f_handles_Live fu a) λr=>r.1.length=usedN a.Slots/\r.1.length<=16:=by
 obtain⟨r,⟨h1,h2⟩,N,hN⟩:=Evs.and hc (handlesCheck a hs);have hl:=h2 h1;have hc:Evs (λfu=>f_handles_Check fu a) (·=r):=⟨r,rfl,N,hN⟩;unfold f_handles_Live;refine Evs.eq hc (Evs.ite (λh=>absurd h (by rw[h1];decide)) λ_=>?_);refine Evs.seq (P:=λy=>y.length=usedN a.Slots/\y.length<=16) (Evs.loop (λx=>∃k:Nat,k<=a.Slots.length/\x.1=(k:Int)/\x.2.length=usedN (a.Slots.take k)/\x.2.length<=k) (λx=>((a.Slots.length:Int)-x.1).toNat) (λx hx=>?_) ⟨0,Nat.zero_le _,rfl,rfl,Nat.le_refl _⟩) λy hy=>Evs.cond rfl (Evs.ret hy);obtain⟨x1,x2⟩:=x;obtain⟨k,hk,e,hb,hb2⟩:=hx;have e:x1=(k:Int):=e;subst e;have hb:x2.length=usedN (a.Slots.take k):=hb;have hb2:x2.length<=k:=hb2;unfold f_handles_Live_l1;refine Lvs.ite (λhi=>?_) λhi=>Lvs.cond rfl (Lvs.out ?_);rotate_left
 .have hi:=ndec hi;have hi:¬(k:Int)<a.Slots.length:=hi;have :k=a.Slots.length:=by omega
  subst this;rw[List.take_length]at hb;exact⟨hb,by simp only;omega⟩
 have hi:=of_decide_eq_true hi;have hi2:(k:Int)<a.Slots.length:=hi;have w1:IntKind.i64.wrap ((k:Int)+1)=((k+1:Nat):Int):=by rw[wr (by omega) (by omega)];omega
 have mu:((a.Slots.length:Int)-IntKind.i64.wrap ((k:Int)+1)).toNat<((a.Slots.length:Int)-(k:Int)).toNat:=by rw[w1];omega
 refine Lvs.ix (by simp) hi λv hv=>?_;have hv:a.Slots[k]?=some v:=by simpa using hv
 have et:usedN (a.Slots.take (k+1))=usedN (a.Slots.take k)+if v.Used then 1 else 0:=by unfold usedN;rw[List.take_add_one,hv];rw[List.filter_append,List.length_append];cases hu:v.Used<;>simp[hu]
 refine Lvs.ite (λhu=>?_) λhu=>Lvs.cond rfl (Lvs.rec ⟨⟨k+1,by omega,w1,?_,?_⟩,mu⟩)
 .refine Lvs.cond rfl (Lvs.cond rfl (Lvs.cond ?_ (Lvs.cond rfl (Lvs.rec ⟨⟨k+1,by omega,w1,?_,?_⟩,mu⟩))));.show 2*((x2.length+1)*16)<=281474976710656;omega
  .have hu:v.Used=true:=hu;rw[et,if_pos hu];simp only[List.length_append,List.length_singleton];omega
  .simp only[List.length_append,List.length_singleton];omega
 .have hu:¬v.Used=true:=hu;rw[et,if_neg hu];simp only;omega
 .simp only;omega
theorem used_zero{us:List TApiHnSlot}{vs:List TApiVsView}(h:usedN us=0)(hl:vs.length=us.length)(hf:FreeOk us vs):∀v∈vs,v.Runs=[]:=by
 intro v hv;obtain⟨j,hj,rfl⟩:=List.getElem_of_mem hv;have hj2:j<us.length:=by omega
 refine hf j _ us[j] (List.getElem?_eq_getElem hj) (List.getElem?_eq_getElem hj2) ?_;cases hu:us[j].Used with|false=>rfl|true=>have :us[j]∈us.filter (·.Used):=List.mem_filter.2 ⟨List.getElem_mem _,hu⟩;have :=List.length_pos_of_mem this;unfold usedN at h;omega
theorem n1_d1(l:List TApiEntry):su n1 l+su d1 l=l.length:=by
 induction l with
  |nil=>rfl
  |cons x l ih=>
   rw[su_cons,su_cons,List.length_cons];have :n1 x+d1 x=1:=by unfold n1 d1;cases x.Dead<;>rfl
   omega
theorem nE_eR(l:List TApiRun):su (λr=>nE r.Entries) l+su dR l=su eR l:=by induction l with|nil=>rfl|cons x l ih=>rw[su_cons,su_cons,su_cons];have :nE x.Entries+dR x=eR x:=n1_d1 x.Entries;omega
theorem sums_runs(a:TApiJbState):∀n,n<=a.Levels.Levels.length->sm (λi=>(le a i).Entries) n=sm (λi=>(le a i).Dead) n+(su (λr=>nE r.Entries) (runsN a.Levels n):Int)/\sm (λi=>(le a i).Runs) n=((runsN a.Levels n).length:Int)
 |0,_=>⟨rfl,rfl⟩
 |n+1,h=>by
  obtain⟨h1,h2⟩:=sums_runs a n (by omega);obtain⟨l,hl⟩:∃l,a.Levels.Levels[n]?=some l:=⟨_,List.getElem?_eq_getElem (by omega)⟩;have e:le a n=⟨(l.Runs.length:Int),(su eR l.Runs:Int),(su dR l.Runs:Int),isDue a.Levels n,(lv a n).1⟩:=by unfold le;rw[hl]
  have k:=nE_eR l.Runs;refine⟨?_,?_⟩;.show sm (λi=>(le a i).Entries) n+(le a n).Entries=sm (λi=>(le a i).Dead) n+(le a n).Dead+_;rw[runsN_succ hl,su_append,h1,e];simp only;omega
  .show sm (λi=>(le a i).Runs) n+(le a n).Runs=_;rw[runsN_succ hl,h2,e,List.length_append];simp only;omega
theorem nV_head(a:TApiPrFront):nV (headV a)=su n1 a.Buffer.Entries+su (λr=>nE r.Entries) (runsN a.Jobs.Levels a.Jobs.Levels.Levels.length):=by unfold nV headV;rw[su_perm _ (newN_perm _ _)];rfl
def OfOk(s:TApiMpState)(x:TApiStStats):Prop:=0<=x.Live/\x.Live<=x.Entries-x.Dead/\(0<=x.Entries/\x.Entries<=1000000)/\(0<=x.Dead/\x.Dead<=1000000)/\x.Runs<=x.Held/\(0<=x.Pins/\x.Pins<=16)/\(0<=x.Cursors/\x.Cursors<=16)/\(x.Pins+x.Cursors=0->x.Held=x.Runs)/\x.Buffered<=s.Front.Buffer.Most
def stats0:TApiStStats:=⟨0,0,0,0,0,0,0,0,0,0,0,0,0,0,0,0,0⟩
theorem statsBd(s:TApiMpState)(hs:SzS s)(c:Int)(hc:Evs (λfu=>f_store_Check fu s) (·=c))(hok:c=0->StOk s):Evs (λfu=>f_stats_Of fu s) λr=>r.2=c/\(c≠0->r.1=stats0)/\(c=0->OfOk s r.1):=by
 unfold f_stats_Of;refine Evs.eq hc (Evs.ite (λh=>Evs.ret ⟨rfl,λ_=>rfl,λe=>absurd e (by simpa using h)⟩) λh=>?_);have h:c=0:=by simpa using h
 subst h;have ok:=hok rfl;have mo:=storeMore s hs ok hc;obtain⟨k1,k2,k3⟩:=ok;refine Evs.seq (storeViewN s hs mo) λv hv=>Evs.eq (r:=v.1) (Evs.pure (λ_=>rfl) rfl) (Evs.cond rfl ?_);refine Evs.eq (counted [⟨0,s.Front.Buffer.Entries⟩] (by simp) (λr hr=>?_)) ?_
 .have :r=⟨0,s.Front.Buffer.Entries⟩:=by simpa using hr
  subst this;show s.Front.Buffer.Entries.length<=5000;omega
 have e1:su eR [(⟨0,s.Front.Buffer.Entries⟩:TApiRun)]=s.Front.Buffer.Entries.length:=by show 0+s.Front.Buffer.Entries.length=_;omega
 have e2:su dR [(⟨0,s.Front.Buffer.Entries⟩:TApiRun)]=su d1 s.Front.Buffer.Entries:=by show 0+su d1 s.Front.Buffer.Entries=_;omega
 rw[e1,e2];have e3:=su_all d1 s.Front.Buffer.Entries 1 (λx _=>d1_le x);refine Evs.seq (count0N v.1 hv.1) λq hq=>Evs.eq (r:=q.1) (Evs.pure (λ_=>rfl) rfl) ?_;refine Evs.eq (debtAll s.Front.Jobs k2) (Evs.eq (r:=sm (ow s.Front.Jobs) s.Front.Jobs.Levels.Levels.length) (Evs.pure (λ_=>rfl) rfl) ?_);refine Evs.seq (liveE s.Table.Pins hs.2.1.1 mo.pins) λp hp=>Evs.eq (r:=p.1) (Evs.pure (λ_=>rfl) rfl) ?_;refine Evs.seq (liveE s.Table.Cursors hs.2.1.2.1 mo.curs) λp2 hp2=>Evs.eq (r:=p2.1) (Evs.pure (λ_=>rfl) rfl) ?_;refine Evs.seq (heldE s hs ⟨k1,k2,k3⟩ mo hc) λp3 hp3=>Evs.eq (r:=p3.1) (Evs.pure (λ_=>rfl) rfl) ?_;refine Evs.eq (levels s.Front.Jobs k2) (Evs.eq (ofLoop s.Front.Jobs k2 _ _ (by simp only;omega) (by simp only;omega)) (Evs.ret ⟨rfl,λe=>absurd rfl e,λ_=>?_⟩));obtain⟨g1,g2⟩:=sums_runs s.Front.Jobs s.Front.Jobs.Levels.Levels.length (Nat.le_refl _);have g3:=n1_d1 s.Front.Buffer.Entries;have g4:=nV_head s.Front;obtain⟨-,m,hm,hml⟩:=hp3;have g5:=held_ge s mo hm;have hL:=k2.1.2.2.1;have b1:=sm_le (λi=>(le_b s.Front.Jobs k2 i).2.1) s.Front.Jobs.Levels.Levels.length hL (by decide) (by decide);have b2:=sm_le (λi=>(le_b s.Front.Jobs k2 i).2.2.1) s.Front.Jobs.Levels.Levels.length hL (by decide) (by decide);refine⟨hq.1,?_,?_,?_,?_,?_,?_,λe=>?_,?_⟩;.have :=hq.2;have :=hv.2;simp only;omega
 .simp only;omega
 .simp only;omega
 .simp only;omega
 .exact⟨by simp,by have :=hp.2;simp only;omega⟩
 .exact⟨by simp,by have :=hp2.2;simp only;omega⟩
 .have e:((p.1.length:Int))+(p2.1.length:Int)=0:=e;have :=held_eq s mo hm (used_zero (by omega) k3.2.1.1 mo.fr1) (used_zero (by omega) k3.2.1.2 mo.fr2);simp only;omega
 .exact mo.most
end Go.L
end
section
set_option linter.unusedSimpArgs false
set_option linter.unusedVariables false
namespace Go.L
open Go Go.AM
theorem bounds(s:TApiMpState)(hs:SzS s):Evs (λfu=>f_law31_StatsBounds fu s) (·=true):=by
 obtain⟨c,hok,hc⟩:=storeCheck s hs;have hc:Evs (λfu=>f_store_Check fu s) (·=c):=⟨c,rfl,hc⟩;obtain⟨r,⟨h1,h2,h3⟩,hN⟩:=statsBd s hs c hc hok;have hr:Evs (λfu=>f_stats_Of fu s) (·=r):=⟨r,rfl,hN⟩;unfold f_law31_StatsBounds;refine Evs.seq (far31 s hs.1 hs.2.1) λv _=>Evs.ite (λ_=>Evs.eq (r:=true) (Evs.pure (λ_=>rfl) rfl) (Evs.ret rfl)) λ_=>?_;refine Evs.eq hr ?_;by_cases h:c=0
 .obtain⟨g1,g2,g3,g4,g5,g6,g7,g8,g9⟩:=h3 h;refine Evs.ite (λhh=>absurd hh (by rw[h1,h];decide)) λ_=>Evs.eq hr ?_;refine Evs.eq (r:=true) (Evs.ite (λ_=>Evs.ret (by rw[h1,h];rfl)) λhh=>absurd (by simp) hh) ?_;refine Evs.eq (r:=true) (Evs.tt (Evs.ret (decide_eq_true g1))) ?_;refine Evs.eq (r:=true) (Evs.tt (Evs.ret (decide_eq_true ?_))) ?_;.rw[wr (by omega) (by omega)];exact g2
  refine Evs.eq (r:=true) (Evs.tt (Evs.ret (decide_eq_true g5))) ?_;refine Evs.eq (r:=true) (Evs.tt (Evs.eq (r:=true) (Evs.ite (λ_=>Evs.ret rfl) λhh=>Evs.ret ?_) (Evs.ret rfl))) ?_;.have hh:=ndec hh;rw[wr (by omega) (by omega)]at hh;have :=g8 (by omega);simpa using this
  refine Evs.eq (r:=true) (Evs.tt (Evs.ret (decide_eq_true g9))) ?_;exact Evs.eq (r:=true) (Evs.tt (Evs.eq (r:=true) (Evs.pure (λ_=>rfl) rfl) (Evs.ret rfl))) (Evs.ret rfl)
 .have e:=h2 h;refine Evs.ite (λ_=>?_) λhh=>absurd (by rw[h1];simpa using h) hh;refine Evs.eq (r:=true) (Evs.ite (λ_=>Evs.eq (r:=true) (Evs.pure (λ_=>rfl) rfl) (Evs.ret rfl)) λhh=>absurd (by rw[e];rfl) hh) (Evs.ret rfl)
end Go.L

end
