/- Texts of the proof, joined by program. -/
import Derived.Test.YtaeifdlkolfdjaaGreatDoorKPa
section
set_option linter.unusedSimpArgs false
set_option linter.unusedVariables false
namespace Go.L
open Go Go.AM
variable{u v:List TApiEntry}{i j:Nat}
def pl(u v:List TApiEntry):Nat->Nat×Nat|0=>(0,0)|n+1=>sx u v (pl u v n)
def em(u v:List TApiEntry)(n:Nat):TApiEntry:=rd u v (pl u v n).1 (pl u v n).2
def ems(u v:List TApiEntry)(n:Nat):List TApiEntry:=(List.range n).map (em u v)
theorem ems_len(n:Nat):(ems u v n).length=n:=by simp[ems]
theorem ems_succ(n:Nat):ems u v (n+1)=ems u v n++[em u v n]:=by simp[ems,List.range_succ]
theorem pl_ok(hu:LOk u)(hv:LOk v):∀n,n<=u.length+v.length->Cut u v (pl u v n).1 (pl u v n).2/\(pl u v n).1+(pl u v n).2=n
 |0,_=>⟨Cut.zero u v,rfl⟩
 |n+1,h=>by
  obtain⟨c,e⟩:=pl_ok hu hv n (by omega);show Cut u v (sx u v (pl u v n)).1 (sx u v (pl u v n)).2/\(sx u v (pl u v n)).1+(sx u v (pl u v n)).2=n+1;have c1:=c.1;have c2:=c.2.1;have hm:(pl u v n).1<u.length\/(pl u v n).2<v.length:=by omega
  unfold sx;cases ht:two u v (pl u v n).1 (pl u v n).2 with|true=>refine⟨c.next2 hu hv ht,?_⟩;show(pl u v n).1+((pl u v n).2+1)=n+1;omega|false=>refine⟨c.next1 hu hv ht hm,?_⟩;show((pl u v n).1+1)+(pl u v n).2=n+1;omega
theorem Lvs.eq{α X Y:Type}{I:X->Prop}{O:Y->Prop}{g:Nat->Option α}{k:α->Nat->(X->Option Y)->Option Y}{r:α}(h:Evs g (·=r))(h2:Lvs (k r) I O):Lvs (λn rec=>(g n).bind λa=>k a n rec) I O:=Lvs.seq h λa e=>by cases e;exact h2
theorem Lvs.cond{X Y:Type}{I:X->Prop}{O:Y->Prop}{c:Prop}[Decidable c]{g:Nat->(X->Option Y)->Option Y}(h:c)(h2:Lvs g I O):Lvs (λn rec=>if c then g n rec else none) I O:=by simpa only[if_pos h]using h2
theorem mall2(hu:LOk u)(hv:LOk v)(hu2:Sz u)(hv2:Sz v):Evs (λfu=>f_merge_All fu [u,v]) λr=>r.1=ems u v (u.length+v.length)/\r.2.2=0:=by
 unfold f_merge_All;have L1:=hu.1.1;have L2:=hv.1.1;refine Evs.eq (mcheck2 hu hv) (Evs.ite (λh=>absurd h (by decide)) λ_=>Evs.cond (by simp) ?_);refine Evs.eq (Evs.pure (cloneE u v) rfl) (Evs.cond (by simp) (Evs.cond rfl ?_));refine Evs.eq (r:=[kN u 0,kN v 0]) (Evs.from 3 (λn=>?_) rfl) (Evs.cond rfl (Evs.eq (build2 _ _ (kNb _ _) (kNb _ _)) (Evs.cond rfl (Evs.cond rfl (Evs.cond rfl ?_)))));.have e1:=next_eq u 0 (Nat.zero_le _);have e2:=next_eq v 0 (Nat.zero_le _);simp only[Int.natCast_zero]at e1 e2;show lpc _ (n+1+1+1) _=_;rw[lpc_succ,f_merge_All_l1];simp[ix,IntKind.wrap_i64,e1];rw[lpc_succ,f_merge_All_l1];simp[ix,IntKind.wrap_i64,e2];rw[lpc_succ,f_merge_All_l1];simp[ix]
 refine Evs.seq (P:=λy=>y.1=ems u v (u.length+v.length)) (Evs.loop (λx=>∃n p,n<=u.length+v.length/\p.length=n/\x=(ems u v n,p,(T2 (kN u (pl u v n).1) (kN v (pl u v n).2)).Keys,(T2 (kN u (pl u v n).1) (kN v (pl u v n).2)).Lose,(T2 (kN u (pl u v n).1) (kN v (pl u v n).2)).Win,[((pl u v n).1:Int),((pl u v n).2:Int)])) (λx=>u.length+v.length-x.1.length) (λx hx=>?_) ⟨0,[],Nat.zero_le _,rfl,rfl⟩) λy hy=>Evs.cond rfl (Evs.cond rfl (Evs.ret ⟨hy,rfl⟩));obtain⟨n,p,hn0,hp,rfl⟩:=hx;obtain⟨c,e⟩:=pl_ok hu hv n hn0;generalize hs:pl u v n=s at c e⊢;obtain⟨i,j⟩:=s;have hi:=c.1;have hj:=c.2.1;simp only at hi hj e c;unfold f_merge_All_l2;refine Lvs.cond rfl (Lvs.cond rfl ?_);by_cases hn:i=u.length/\j=v.length
 .have pk:=peek2 hi hj;rw[if_pos hn]at pk;refine Lvs.eq (r:=(e00,0,12)) pk (Lvs.ite (λ_=>Lvs.cond rfl (Lvs.cond rfl (Lvs.cond rfl (Lvs.cond rfl (Lvs.cond rfl (Lvs.out ?_)))))) λh=>absurd (by decide) h);have :n=u.length+v.length:=by omega
  rw[this]
 .cases ht:two u v i j with
   |true=>
    have o:=(two_tt hi hj ht).1;have l1:=hv.1.1;have w1:IntKind.i64.wrap ((j:Int)+1)=((j+1:Nat):Int):=by rw[wr (by omega) (by omega)];omega
    have pk:=peek2 hi hj;rw[if_neg hn,ht]at pk;have rp:=repl3 c hu hv hn;rw[ht]at rp;have rp:Evs (λfu=>f_loser_Replace fu (T2 (kN u i) (kN v j)) (kN v (j+1))) (·=(T2 (kN u (sx u v (i,j)).1) (kN v (sx u v (i,j)).2),1,0)):=rp;have es:sx u v (i,j)=(i,j+1):=by unfold sx;rw[ht];rfl
    refine Lvs.eq (r:=(rd u v i j,1,0)) pk (Lvs.ite (λh=>absurd h (by simp)) λ_=>Lvs.cond rfl (Lvs.cond rfl (Lvs.cond (by simp only[ems_len,List.length_singleton];omega) (Lvs.cond rfl (Lvs.cond rfl (Lvs.cond (by simp only[hp,List.length_singleton];omega) (Lvs.cond rfl ?_)))))));refine Lvs.eq (r:=(j:Int)) (Evs.pure (λ_=>rfl) rfl) (Lvs.cond rfl (Lvs.eq (r:=(j:Int)) (Evs.pure (λ_=>rfl) rfl) (Lvs.cond (by simp) (Lvs.cond rfl ?_))));refine Lvs.eq (r:=v) (Evs.pure (λ_=>rfl) rfl) (Lvs.eq (r:=v) (Evs.pure (λ_=>rfl) rfl) (Lvs.cond rfl ?_));rw[w1];refine Lvs.eq (r:=((j+1:Nat):Int)) (Evs.pure (λ_=>rfl) rfl) (Lvs.eq (r:=((j+1:Nat):Int)) (Evs.pure (λ_=>rfl) rfl) ?_);refine Lvs.eq (Evs.pure (next_eq v (j+1) (by omega)) rfl) (Lvs.eq rp (Lvs.cond rfl (Lvs.cond rfl (Lvs.cond rfl (Lvs.cond rfl (Lvs.cond rfl (Lvs.rec ?_)))))));refine⟨⟨n+1,p++[1],by omega,by simp[hp],?_⟩,?_⟩
    .have e2:pl u v (n+1)=sx u v (i,j):=by show sx u v (pl u v n)=_;rw[hs]
     rw[e2,ems_succ,es];have :em u v n=rd u v i j:=by unfold em;rw[hs]
     rw[this];rfl
    .simp only[List.length_append,ems_len,List.length_singleton];omega
   |false=>
    have o:=(two_ff hi hj ht (by omega)).1;have l1:=hu.1.1;have w1:IntKind.i64.wrap ((i:Int)+1)=((i+1:Nat):Int):=by rw[wr (by omega) (by omega)];omega
    have pk:=peek2 hi hj;rw[if_neg hn,ht]at pk;have rp:=repl3 c hu hv hn;rw[ht]at rp;have rp:Evs (λfu=>f_loser_Replace fu (T2 (kN u i) (kN v j)) (kN u (i+1))) (·=(T2 (kN u (sx u v (i,j)).1) (kN v (sx u v (i,j)).2),1,0)):=rp;have es:sx u v (i,j)=(i+1,j):=by unfold sx;rw[ht];rfl
    refine Lvs.eq (r:=(rd u v i j,0,0)) pk (Lvs.ite (λh=>absurd h (by simp)) λ_=>Lvs.cond rfl (Lvs.cond rfl (Lvs.cond (by simp only[ems_len,List.length_singleton];omega) (Lvs.cond rfl (Lvs.cond rfl (Lvs.cond (by simp only[hp,List.length_singleton];omega) (Lvs.cond rfl ?_)))))));refine Lvs.eq (r:=(i:Int)) (Evs.pure (λ_=>rfl) rfl) (Lvs.cond rfl (Lvs.eq (r:=(i:Int)) (Evs.pure (λ_=>rfl) rfl) (Lvs.cond (by simp) (Lvs.cond rfl ?_))));refine Lvs.eq (r:=u) (Evs.pure (λ_=>rfl) rfl) (Lvs.eq (r:=u) (Evs.pure (λ_=>rfl) rfl) (Lvs.cond rfl ?_));rw[w1];refine Lvs.eq (r:=((i+1:Nat):Int)) (Evs.pure (λ_=>rfl) rfl) (Lvs.eq (r:=((i+1:Nat):Int)) (Evs.pure (λ_=>rfl) rfl) ?_);refine Lvs.eq (Evs.pure (next_eq u (i+1) (by omega)) rfl) (Lvs.eq rp (Lvs.cond rfl (Lvs.cond rfl (Lvs.cond rfl (Lvs.cond rfl (Lvs.cond rfl (Lvs.rec ?_)))))));refine⟨⟨n+1,p++[0],by omega,by simp[hp],?_⟩,?_⟩
    .have e2:pl u v (n+1)=sx u v (i,j):=by show sx u v (pl u v n)=_;rw[hs]
     rw[e2,ems_succ,es];have :em u v n=rd u v i j:=by unfold em;rw[hs]
     rw[this];rfl
    .simp only[List.length_append,ems_len,List.length_singleton];omega
end Go.L
end
section
set_option linter.unusedSimpArgs false
set_option linter.unusedVariables false
namespace Go.L
open Go Go.AM
variable{u v:List TApiEntry}{n:Nat}{b:Bool}
theorem bl_as{a b:List UInt8}(h:Op.bytesLess a b=true):Op.bytesLess b a=false:=by
 have :=bl_tri a b λe=>by rw[e,bl_irr]at h;cases h
 rw[h]at this;simpa using this
theorem rd_tt{i j:Nat}(h:two u v i j=true)(hj:j<v.length):v[j]?=some (rd u v i j):=by unfold rd;rw[if_pos h,List.getElem?_eq_getElem hj];simp[hj]
theorem rd_ff{i j:Nat}(h:two u v i j=false)(hi:i<u.length):u[i]?=some (rd u v i j):=by unfold rd;rw[if_neg (by rw[h];simp),List.getElem?_eq_getElem hi];simp[hi]
theorem em_ok(hu:LOk u)(hv:LOk v)(h:n<u.length+v.length):EOk (em u v n):=by
 obtain⟨c,e⟩:=pl_ok hu hv n (by omega);have c1:=c.1;have c2:=c.2.1;have hm:(pl u v n).1<u.length\/(pl u v n).2<v.length:=by omega
 unfold em;cases ht:two u v (pl u v n).1 (pl u v n).2 with|true=>exact hv.1.2.1 _ (mem_of_get (rd_tt ht (two_tt c1 c2 ht).1))|false=>exact hu.1.2.1 _ (mem_of_get (rd_ff ht (two_ff c1 c2 ht hm).1))
theorem em_asc(hu:LOk u)(hv:LOk v)(h:n+1<u.length+v.length):Op.bytesLess (em u v (n+1)).Key (em u v n).Key=false:=by
 obtain⟨c,e⟩:=pl_ok hu hv n (by omega);obtain⟨d,f⟩:=pl_ok hu hv (n+1) (by omega);unfold em;have hp:pl u v (n+1)=sx u v (pl u v n):=rfl;rw[hp]at d f⊢;generalize pl u v n=s at*;obtain⟨i,j⟩:=s;have c1:=c.1;have c2:=c.2.1;simp only at c1 c2 c e;have hm:i<u.length\/j<v.length:=by omega
 cases ht:two u v i j with
  |true=>
   have o:=(two_tt c1 c2 ht).1;have r1:=rd_tt ht o;have es:sx u v (i,j)=(i,j+1):=by unfold sx;rw[ht];rfl
   rw[es]at d f⊢;simp only at d f⊢;have d1:=d.1;have d2:=d.2.1;have hm:i<u.length\/j+1<v.length:=by omega
   cases ht2:two u v i (j+1)with|true=>exact(asc hv r1 (rd_tt ht2 (two_tt d1 d2 ht2).1)).2|false=>exact bl_as (d.2.2.2 j _ _ rfl r1 (rd_ff ht2 (two_ff d1 d2 ht2 hm).1))
  |false=>
   have o:=(two_ff c1 c2 ht hm).1;have r1:=rd_ff ht o;have es:sx u v (i,j)=(i+1,j):=by unfold sx;rw[ht];rfl
   rw[es]at d f⊢;simp only at d f⊢;have d1:=d.1;have d2:=d.2.1;have hm:i+1<u.length\/j<v.length:=by omega
   cases ht2:two u v (i+1) j with|true=>exact d.2.2.1 i _ _ rfl r1 (rd_tt ht2 (two_tt d1 d2 ht2).1)|false=>exact(asc hu r1 (rd_ff ht2 (two_ff d1 d2 ht2 hm).1)).2
def sh(u v:List TApiEntry)(b:Bool):Nat->TApiShState|0=>⟨false,[],b⟩|n+1=>⟨true,(em u v n).Key,b⟩
def keep(u v:List TApiEntry)(b:Bool)(n:Nat):Bool:=!((sh u v b n).Some&&(em u v n).Key==(sh u v b n).Last)&&!(b&&(em u v n).Dead)
def outs(u v:List TApiEntry)(b:Bool):Nat->List TApiEntry|0=>[]|n+1=>if keep u v b n then outs u v b n++[em u v n]else outs u v b n
theorem outs_len:∀n,(outs u v b n).length<=n
 |0=>Nat.le_refl _
 |n+1=>by
  have :=outs_len n;show(if keep u v b n then outs u v b n++[em u v n]else outs u v b n).length<=n+1;split;.rw[List.length_append,List.length_singleton];omega
  .omega
theorem sh_b(n:Nat):(sh u v b n).Bottom=b:=by cases n<;>rfl
theorem entry0{x:TApiEntry}(h:EOk x):Evs (λfu=>f_entries_Check fu x) (·=0):=(entriesCheck x).mono λr k=>k.2 h
theorem shcheck(hu:LOk u)(hv:LOk v)(h:n<=u.length+v.length):Evs (λfu=>f_shadow_Check fu (sh u v b n)) (·=0):=by
 unfold f_shadow_Check
 cases n with
  |zero=>
   refine Evs.seq (keysCheck _) λr hr=>?_;have :r=0:=by rw[hr];rfl
   subst this;refine Evs.ite (λh=>absurd h (by decide)) λ_=>?_;exact Evs.eq (r:=false) (Evs.pure (λ_=>rfl) rfl) (Evs.ff (Evs.ret rfl))
  |succ n=>
   refine Evs.seq (keysCheck _) λr hr=>?_;have k:=(em_ok hu hv (n:=n) (by omega)).1;have :r=0:=by rw[hr];exact if_pos k
   subst this;refine Evs.ite (λh=>absurd h (by decide)) λ_=>?_;exact Evs.eq (r:=false) (Evs.pure (λ_=>rfl) rfl) (Evs.ff (Evs.ret rfl))
theorem sh_asc(hu:LOk u)(hv:LOk v)(h:n<u.length+v.length):(sh u v b n).Some=true->Op.bytesLess (em u v n).Key (sh u v b n).Last=false:=by cases n with|zero=>intro h;cases h|succ n=>exact λ_=>em_asc hu hv h
theorem shstep(hu:LOk u)(hv:LOk v)(h:n<u.length+v.length):Evs (λfu=>f_shadow_Step fu (sh u v b n) (em u v n)) (·=(keep u v b n,sh u v b (n+1),0)):=by
 unfold f_shadow_Step;refine Evs.eq (shcheck hu hv (by omega)) (Evs.ite (λh=>absurd h (by decide)) λ_=>?_);refine Evs.eq (entry0 (em_ok hu hv h)) (Evs.ite (λh=>absurd h (by decide)) λ_=>?_);have ha:=sh_asc (b:=b) hu hv h;refine Evs.seq (P:=(·=false)) (Evs.ite (λk=>Evs.ret (ha k)) λ_=>Evs.ret rfl) λr hr=>?_;subst hr;refine Evs.ff ?_;rw[sh_b];refine Evs.seq (P:=(·=((sh u v b n).Some&&(em u v n).Key==(sh u v b n).Last))) (Evs.ite (λk=>Evs.ret (by rw[k];rfl)) λk=>Evs.ret (by simp at k;rw[k];rfl)) λr hr=>?_;refine Evs.ite (λk=>Evs.ret ?_) λk=>?_;.unfold keep;rw[<-hr,k];rfl
 .refine Evs.seq (P:=(·=(b&&(em u v n).Dead))) (Evs.ite (λk=>Evs.ret (by rw[k];rfl)) λk=>Evs.ret (by simp at k;rw[k];rfl)) λq hq=>?_;have k:r=false:=by simpa using k
  refine Evs.ite (λk2=>Evs.ret ?_) λk2=>Evs.ret ?_;.unfold keep;rw[<-hr,<-hq,k,k2];rfl
  .have k2:q=false:=by simpa using k2
   unfold keep;rw[<-hr,<-hq,k,k2];rfl
theorem filter2(hu:LOk u)(hv:LOk v)(hn:n<=u.length+v.length):Evs (λfu=>f_shadow_Filter fu (ems u v n) b) (·=(outs u v b n,0,0)):=by
 unfold f_shadow_Filter;have L1:=hu.1.1;have L2:=hv.1.1;refine Evs.ite (λh=>absurd h (by rw[ems_len];simp;omega)) λ_=>?_;refine Evs.eq (r:=⟨false,[],b⟩) (Evs.pure (λ_=>rfl) rfl) ?_;refine Evs.seq (P:=(·=.inr (outs u v b n,(sh u v b n).Some,(sh u v b n).Last,b))) (Evs.loop (λx=>∃m,m<=n/\x=((m:Int),outs u v b m,(sh u v b m).Some,(sh u v b m).Last,b)) (λx=>n-x.1.toNat) (λx hx=>?_) ⟨0,Nat.zero_le _,rfl⟩) λy hy=>by cases hy;exact Evs.cond rfl (Evs.ret rfl)
 obtain⟨m,hm,rfl⟩:=hx;unfold f_shadow_Filter_l1;refine Lvs.ite (λhi=>?_) λhi=>Lvs.cond rfl (Lvs.out ?_)
 .have hi:=of_decide_eq_true hi;rw[ems_len]at hi;have hi:(m:Int)<n:=hi;have hm:m<n:=by omega
  have w1:IntKind.i64.wrap ((m:Int)+1)=((m+1:Nat):Int):=by rw[wr (by omega) (by omega)];omega
  have hsh:sh u v b (m+1)=⟨true,(em u v m).Key,b⟩:=rfl;refine Lvs.ix (by simp) (by rw[ems_len];exact hi) λe he=>?_;have he:em u v m=e:=by simpa[ems,hm]using he
  subst he;have e1:(⟨(sh u v b m).Some,(sh u v b m).Last,b⟩:TApiShState)=sh u v b m:=by cases m<;>rfl
  refine Lvs.eq (r:=0) (by have :=shcheck (b:=b) hu hv (n:=m) (by omega);rw[<-e1]at this;exact this) (Lvs.ite (λh=>absurd h (by decide)) λ_=>?_);refine Lvs.eq (entry0 (em_ok hu hv (by omega))) (Lvs.ite (λh=>absurd h (by decide)) λ_=>?_);have ha:=sh_asc (b:=b) hu hv (n:=m) (by omega);refine Lvs.seq (P:=(·=false)) (Evs.ite (λk=>Evs.ret (ha k)) λ_=>Evs.ret rfl) λr hr=>?_;subst hr;refine Lvs.ff ?_;have ho:outs u v b (m+1)=if keep u v b m then outs u v b m++[em u v m]else outs u v b m:=rfl;have hmu:n-(m+1)<n-m:=by omega
  refine Lvs.seq (P:=(·=((sh u v b m).Some&&(em u v m).Key==(sh u v b m).Last))) (Evs.ite (λk=>Evs.ret (by rw[show(sh u v b m).Some=true from k];rfl)) λk=>Evs.ret (by simp at k;rw[k];rfl)) λr hr=>?_;refine Lvs.ite (λk=>Lvs.cond rfl (Lvs.rec ⟨⟨m+1,hm,?_⟩,?_⟩)) λk=>?_
  .have :keep u v b m=false:=by unfold keep;rw[<-hr,k];rfl
   rw[ho,this,hsh,w1];rfl
  .show n-(IntKind.i64.wrap ((m:Int)+1)).toNat<n-(m:Int).toNat;rw[w1];simpa using hmu
  .refine Lvs.seq (P:=(·=(b&&(em u v m).Dead))) (Evs.ite (λk=>Evs.ret (by rw[show b=true from k];rfl)) λk=>Evs.ret (by simp at k;rw[k];rfl)) λq hq=>?_;have k:r=false:=by simpa using k
   refine Lvs.ite (λk2=>Lvs.cond rfl (Lvs.rec ⟨⟨m+1,hm,?_⟩,?_⟩)) λk2=>Lvs.cond rfl (Lvs.cond rfl (Lvs.cond ?_ (Lvs.cond rfl (Lvs.rec ⟨⟨m+1,hm,?_⟩,?_⟩))))
   .have :keep u v b m=false:=by unfold keep;rw[<-hr,<-hq,k,k2];rfl
    rw[ho,this,hsh,w1];rfl
   .show n-(IntKind.i64.wrap ((m:Int)+1)).toNat<n-(m:Int).toNat;rw[w1];simpa using hmu
   .have :=outs_len (u:=u) (v:=v) (b:=b) m;simp only[List.length_singleton];omega
   .have k2:q=false:=by simpa using k2
    have :keep u v b m=true:=by unfold keep;rw[<-hr,<-hq,k,k2];rfl
    rw[ho,this,hsh,w1];rfl
   .show n-(IntKind.i64.wrap ((m:Int)+1)).toNat<n-(m:Int).toNat;rw[w1];simpa using hmu
 .have hi:=ndec hi;rw[ems_len]at hi;have hi:¬(m:Int)<n:=hi;have :m=n:=by omega
  rw[this]
end Go.L
end
section
set_option linter.unusedSimpArgs false
set_option linter.unusedVariables false
namespace Go.L
open Go Go.AM
variable{u v:List TApiEntry}{n:Nat}{b:Bool}
def Sl(u v:List TApiEntry)(b:Bool)(n:Nat):TApiSlState:=⟨Ms u v (pl u v n).1 (pl u v n).2,sh u v b n,outs u v b n,n⟩
theorem ems_take{t:Nat}(h:n<=t):(ems u v t).take n=ems u v n:=by unfold ems;rw[<-List.map_take,List.take_range,Nat.min_eq_left h]
theorem slalike(l:List TApiEntry)(hs:Sz l):Evs (λfu=>f_slices_alike fu l l) (·=true):=by
 unfold f_slices_alike;refine Evs.ite (λh=>absurd h (by simp)) λ_=>?_;refine Evs.seq (P:=(·=.inr ())) (Evs.loop (λx=>At l x) (λx=>((l.length:Int)-x).toNat) (λx hx=>?_) (At.zero hs)) λy hy=>?_;.unfold f_slices_alike_l1;refine Lvs.ite (λhi=>?_) λ_=>Lvs.out rfl;have hi:=of_decide_eq_true hi;refine Lvs.ix hx.1 hi λw hw=>Lvs.ix hx.1 hi λw2 hw2=>?_;rw[hw]at hw2;cases hw2;exact Lvs.ite (λh=>absurd h (by simp)) λ_=>Lvs.rec (hx.next hi)
 .cases hy;exact Evs.ret rfl
theorem slcheck(hu:LOk u)(hv:LOk v)(hu2:Sz u)(hv2:Sz v)(hn:n<=u.length+v.length):Evs (λfu=>f_slices_Check fu (Sl u v b n)) (·=0):=by
 unfold f_slices_Check;have L1:=hu.1.1;have L2:=hv.1.1;obtain⟨c,e⟩:=pl_ok hu hv n hn;have hol:=outs_len (u:=u) (v:=v) (b:=b) n;refine Evs.eq (mcheckOk c hu hv hu2 hv2) (Evs.ite (λh=>absurd h (by decide)) λ_=>?_);refine Evs.eq (r:=(n:Int)) (Evs.from 3 (λk=>?_) rfl) ?_
 .have s0:IntKind.i64.wrap 1=1:=by decide
  have s1:IntKind.i64.wrap (1+1)=2:=by decide
  have s2:IntKind.i64.wrap 2=2:=by decide
  have e1:IntKind.i64.wrap ((pl u v n).1:Int)=(pl u v n).1:=wr (by omega) (by omega);have e2:IntKind.i64.wrap (((pl u v n).1:Int)+(pl u v n).2)=((pl u v n).1:Int)+(pl u v n).2:=wr (by omega) (by omega);show lpc _ (k+1+1+1) _=_;rw[lpc_succ,f_slices_Check_l1];simp[Sl,Ms,ix,e1,s0];rw[lpc_succ,f_slices_Check_l1];simp[ix,e2,s0,s1,s2];rw[lpc_succ,f_slices_Check_l1];simp;omega
 refine Evs.eq (r:=false) (Evs.ite (λh=>absurd (of_decide_eq_true h) (by show¬(((outs u v b n).length:Int)>20000);omega)) λ_=>Evs.ret (by simp;omega)) (Evs.ff ?_);refine Evs.ite (λh=>absurd h (by simp[Sl])) λ_=>?_;refine Evs.seq (mall2 hu hv hu2 hv2) λr hr=>?_;obtain⟨r1,r2,r3⟩:=r;obtain⟨rfl,rfl⟩:r1=_/\r3=0:=hr;refine Evs.ite (λh=>absurd h (by simp)) λ_=>?_;refine Evs.cond ⟨by omega,by show(n:Int)<=((ems u v (u.length+v.length)).length:Int);rw[ems_len];omega⟩ ?_;have et:(ems u v (u.length+v.length)).take (n:Int).toNat=ems u v n:=ems_take hn;have hf:Evs (λfu=>f_shadow_Filter fu ((ems u v (u.length+v.length)).take (n:Int).toNat) (Sl u v b n).Shadow.Bottom) (·=(outs u v b n,0,0)):=by rw[et,show(Sl u v b n).Shadow.Bottom=b from sh_b n];exact filter2 hu hv hn
 refine Evs.eq hf (Evs.ite (λh=>absurd h (by simp)) λ_=>?_);have hB:(Sl u v b n).Shadow.Bottom=b:=sh_b n;refine Evs.eq (r:=⟨false,[],b⟩) (Evs.pure (λ_=>by rw[hB];rfl) rfl) ?_;refine Evs.eq (r:=((sh u v b n).Some,(sh u v b n).Last)) ?_ ?_
 .refine Evs.ite (λh=>?_) λh=>Evs.ret ?_
  .have h:=of_decide_eq_true h;obtain⟨m,rfl⟩:∃m,n=m+1:=⟨n-1,by omega⟩;rw[wr (n:=((m+1:Nat):Int)-1) (by omega) (by omega)];refine Evs.ix (by omega) (by show _<((ems u v (u.length+v.length)).length:Int);rw[ems_len];omega) λx hx=>Evs.ret ?_;have e9:(((m+1:Nat):Int)-1).toNat=m:=by omega
   rw[e9]at hx
   have :em u v m=x:=by
    have h8:m<u.length+v.length:=by omega
    simpa[ems,h8]using hx
   rw[<-this];rfl
  .have h:=ndec h;have :n=0:=by omega
   subst this;rfl
 refine Evs.eq (slalike _ (by show(outs u v b n).length<=_;omega)) ?_;refine Evs.eq (r:=false) (Evs.ite (λh=>absurd h (by simp)) λ_=>Evs.ret ?_) (Evs.ff (Evs.ret rfl));simp[Sl,sh_b]
theorem slleft(hu:LOk u)(hv:LOk v)(hu2:Sz u)(hv2:Sz v)(hn:n<=u.length+v.length):Evs (λfu=>f_slices_Left fu (Sl u v b n)) (·=(((u.length+v.length-n:Nat):Int),0)):=by unfold f_slices_Left;obtain⟨c,e⟩:=pl_ok hu hv n hn;have c1:=c.1;have c2:=c.2.1;refine Evs.eq (slcheck hu hv hu2 hv2 hn) (Evs.ite (λh=>absurd h (by decide)) λ_=>?_);refine Evs.eq (mleft2 c hu hv hu2 hv2) (Evs.ret ?_);show(((u.length-(pl u v n).1+(v.length-(pl u v n).2):Nat):Int),(0:Int))=_;rw[show u.length-(pl u v n).1+(v.length-(pl u v n).2)=u.length+v.length-n by omega]
theorem slbegin(hu:LOk u)(hv:LOk v):Evs (λfu=>f_slices_Begin fu [u,v] b) (·=(Sl u v b 0,0,0)):=by unfold f_slices_Begin;refine Evs.eq (mbegin2 hu hv) (Evs.ite (λh=>absurd h (by simp)) λ_=>?_);exact Evs.eq (r:=⟨false,[],b⟩) (Evs.pure (λ_=>rfl) rfl) (Evs.ret rfl)
theorem nextS(hu:LOk u)(hv:LOk v)(hu2:Sz u)(hv2:Sz v)(hn:n<u.length+v.length):Evs (λfu=>f_merge_Next fu (Sl u v b n).Merge) (·=(em u v n,if two u v (pl u v n).1 (pl u v n).2 then 1 else 0,(Sl u v b (n+1)).Merge,0)):=by obtain⟨c,e⟩:=pl_ok hu hv n (by omega);exact mnext2 c hu hv hu2 hv2 (by omega)
theorem slstep(hu:LOk u)(hv:LOk v)(hu2:Sz u)(hv2:Sz v)(k:Nat):Evs (λfu=>f_slices_Step fu (Sl u v b 0) (k:Int)) λr=>r.1=Sl u v b (min k (u.length+v.length)):=by
 unfold f_slices_Step;have L1:=hu.1.1;have L2:=hv.1.1;refine Evs.eq (slleft hu hv hu2 hv2 (Nat.zero_le _)) (Evs.ite (λh=>absurd h (by simp)) λ_=>Evs.ite (λh=>absurd (of_decide_eq_true h) (by omega)) λ_=>?_);have em0:(if((u.length+v.length-0:Nat):Int)<(k:Int)then((u.length+v.length-0:Nat):Int)else(k:Int))=((min k (u.length+v.length):Nat):Int):=by split<;>omega
 simp only[em0];generalize hm:min k (u.length+v.length)=m;have hmt:m<=u.length+v.length:=by omega
 have e0:IntKind.i64.wrap ((Sl u v b 0).Steps+(m:Int))=m:=by
  have :(Sl u v b 0).Steps+(m:Int)=m:=by show((0:Nat):Int)+m=m;omega
  rw[this,wr (by omega) (by omega)]
 rw[e0];refine Evs.ite (λh=>absurd (of_decide_eq_true h) (by omega)) λ_=>?_;refine Evs.cond (by simp[Sl,outs]) (Evs.cond (by simp[Sl,Ms]) ?_);refine Evs.ite (λh0=>?_) λh0=>?_
 .have h0:=of_decide_eq_true h0;refine Evs.cond (by trivial) ?_;refine Evs.eq (nextS (b:=b) hu hv hu2 hv2 (n:=0) (by omega)) (Evs.ite (λh=>absurd h (by simp)) λ_=>?_);refine Evs.eq (shstep (b:=b) hu hv (n:=0) (by omega)) (Evs.ite (λh=>absurd h (by simp)) λ_=>?_);refine Evs.eq (r:=outs u v b 1) (Evs.ite (λh=>Evs.cond (by trivial) (Evs.cond (by trivial) (Evs.cond (by simp[Sl,outs]) (Evs.cond (by trivial) (Evs.ret ?_))))) λh=>Evs.cond (by trivial) (Evs.ret ?_)) (Evs.cond (by trivial) ?_);.show _=if keep u v b 0 then outs u v b 0++[em u v 0]else outs u v b 0;rw[if_pos h];rfl
  .show _=if keep u v b 0 then outs u v b 0++[em u v 0]else outs u v b 0;rw[if_neg h];rfl
  let F:Nat->_:=λq=>((Sl u v b q).Merge.Runs,(Sl u v b q).Merge.At,(Sl u v b q).Merge.Tree.Keys,(Sl u v b q).Merge.Tree.Lose,(Sl u v b q).Merge.Tree.Win,(Sl u v b q).Shadow.Some,(Sl u v b q).Shadow.Last,(Sl u v b q).Shadow.Bottom,(Sl u v b q).Out,(q:Int));refine Evs.seq (P:=(·=.inr (F m))) (Evs.loop (λx=>∃q,q<=m/\x=((q:Int),F q)) (λx=>m-x.1.toNat) (λx hx=>?_) ⟨1,by omega,?_⟩) λy hy=>by cases hy;exact Evs.cond (by trivial) (Evs.ret rfl)
  .obtain⟨q,hq,rfl⟩:=hx;unfold f_slices_Step_l1;have em1:(if(((u.length+v.length-0:Nat):Int),(0:Int)).1<(k:Int)then(((u.length+v.length-0:Nat):Int),(0:Int)).1 else(k:Int))=(m:Int):=by simp only;rw[em0,hm]
   simp only[em1];refine Lvs.ite (λhi=>?_) λhi=>Lvs.cond (by trivial) (Lvs.out ?_)
   .have hi:=of_decide_eq_true hi;have hi:(q:Int)<m:=hi;have w1:IntKind.i64.wrap ((q:Int)+1)=((q+1:Nat):Int):=by rw[wr (by omega) (by omega)];omega
    have hol:=outs_len (u:=u) (v:=v) (b:=b) q;refine Lvs.eq (nextS (b:=b) hu hv hu2 hv2 (n:=q) (by omega)) (Lvs.ite (λh=>absurd h (by simp)) λ_=>?_);refine Lvs.eq (shstep (b:=b) hu hv (n:=q) (by omega)) (Lvs.ite (λh=>absurd h (by simp)) λ_=>?_);refine Lvs.eq (r:=outs u v b (q+1)) (Evs.ite (λh=>Evs.cond (by trivial) (Evs.cond (by trivial) (Evs.cond ?_ (Evs.cond (by trivial) (Evs.ret ?_))))) λh=>Evs.cond (by trivial) (Evs.ret ?_)) (Lvs.cond (by trivial) (Lvs.rec ⟨⟨q+1,by omega,?_⟩,?_⟩));.show 2*(((outs u v b q).length+1)*48)<=281474976710656;omega
    .show _=if keep u v b q then outs u v b q++[em u v q]else outs u v b q;rw[if_pos h];rfl
    .show _=if keep u v b q then outs u v b q++[em u v q]else outs u v b q;rw[if_neg h];rfl
    .show(IntKind.i64.wrap ((q:Int)+1),_,_,_,_,_,_,_,_,_,IntKind.i64.wrap ((q:Int)+1))=_;rw[w1];rfl
    .show m-(IntKind.i64.wrap ((q:Int)+1)).toNat<m-(q:Int).toNat;rw[w1];omega
   .have hi:=ndec hi;have hi:¬(q:Int)<m:=hi;have :q=m:=by omega
    rw[this]
  .rfl
 .have h0:=ndec h0;have :m=0:=by omega
  subst this;exact Evs.cond (by trivial) (Evs.cond (by trivial) (Evs.ret rfl))
end Go.L
end
section
set_option linter.unusedSimpArgs false
set_option linter.unusedVariables false
namespace Go.L
open Go Go.AM
def Same{α:Type}(l m:List α)(i:Int):Prop:=∀j:Nat,(j:Int)<i->l[j]?=m[j]?
theorem Same.zero{α:Type}{l m:List α}:Same l m 0:=λj h=>by omega
theorem Same.next{α:Type}{l m:List α}{i:Int}{a:α}(h:Same l m i)(ha:At l i)(hi:i<(l.length:Int))(h1:l[i.toNat]?=some a)(h2:m[i.toNat]?=some a):Same l m (IntKind.i64.wrap (i+1)):=by
 intro j hj;rw[ha.nx hi]at hj;by_cases k:(j:Int)<i;.exact h j k
 .have :j=i.toNat:=by have :=ha.1;omega
  subst this;rw[h1,h2]
theorem Same.all{α:Type}{l m:List α}{i:Int}(h:Same l m i)(hl:l.length=m.length)(hi:¬i<(l.length:Int)):l=m:=by
 refine List.ext_getElem? λj=>?_;by_cases k:j<l.length;.exact h j (by omega)
 .rw[List.getElem?_eq_none (by omega),List.getElem?_eq_none (by omega)]
theorem eqK2(l m:List TApiLsKey)(hs:Sz l):Evs (λfu=>f_slices_Equal_api_LsKey_api_LsKey fu l m) λr=>r=true->l=m:=by
 unfold f_slices_Equal_api_LsKey_api_LsKey;refine Evs.ite (λ_=>Evs.ret (by simp)) λhl=>?_;have hl:l.length=m.length:=by simp at hl;omega
 refine Evs.seq (P:=λy=>match y with|.inl b=>b=false|.inr _=>l=m) (Evs.loop (λx=>At l x/\Same l m x) (λx=>((l.length:Int)-x).toNat) (λx hx=>?_) ⟨At.zero hs,Same.zero⟩) λy hy=>?_
 .unfold f_slices_Equal_api_LsKey_api_LsKey_l1;refine Lvs.ite (λhi=>?_) λhi=>Lvs.out (hx.2.all hl (by simpa using hi));have hi:=of_decide_eq_true hi;refine Lvs.ix hx.1.1 hi λw hw=>Lvs.ix hx.1.1 (by omega) λw2 hw2=>?_;refine Lvs.ite (λ_=>Lvs.out rfl) λhe=>Lvs.rec ⟨⟨(hx.1.next hi).1,hx.2.next hx.1 hi hw ?_⟩,(hx.1.next hi).2⟩;have :w=w2:=by cases w;cases w2;simp_all
  rw[this];exact hw2
 .cases y with|inl b=>exact Evs.ret λe=>by rw[hy]at e;cases e|inr b=>exact Evs.ret λ_=>hy
theorem eqI2(l m:List Int)(hs:Sz l):Evs (λfu=>f_slices_Equal_int_int fu l m) λr=>r=true->l=m:=by
 unfold f_slices_Equal_int_int;refine Evs.ite (λ_=>Evs.ret (by simp)) λhl=>?_;have hl:l.length=m.length:=by simp at hl;omega
 refine Evs.seq (P:=λy=>match y with|.inl b=>b=false|.inr _=>l=m) (Evs.loop (λx=>At l x/\Same l m x) (λx=>((l.length:Int)-x).toNat) (λx hx=>?_) ⟨At.zero hs,Same.zero⟩) λy hy=>?_
 .unfold f_slices_Equal_int_int_l1;refine Lvs.ite (λhi=>?_) λhi=>Lvs.out (hx.2.all hl (by simpa using hi));have hi:=of_decide_eq_true hi;refine Lvs.ix hx.1.1 hi λw hw=>Lvs.ix hx.1.1 (by omega) λw2 hw2=>?_;refine Lvs.ite (λ_=>Lvs.out rfl) λhe=>Lvs.rec ⟨⟨(hx.1.next hi).1,hx.2.next hx.1 hi hw ?_⟩,(hx.1.next hi).2⟩;have :w=w2:=by simpa using he
  rw[this];exact hw2
 .cases y with|inl b=>exact Evs.ret λe=>by rw[hy]at e;cases e|inr b=>exact Evs.ret λ_=>hy
theorem eqE2(l m:List TApiEntry)(hs:Sz l):Evs (λfu=>f_slices_Equal_api_Entry_api_Entry fu l m) λr=>r=true->l=m:=by
 unfold f_slices_Equal_api_Entry_api_Entry;refine Evs.ite (λ_=>Evs.ret (by simp)) λhl=>?_;have hl:l.length=m.length:=by simp at hl;omega
 refine Evs.seq (P:=λy=>match y with|.inl b=>b=false|.inr _=>l=m) (Evs.loop (λx=>At l x/\Same l m x) (λx=>((l.length:Int)-x).toNat) (λx hx=>?_) ⟨At.zero hs,Same.zero⟩) λy hy=>?_
 .unfold f_slices_Equal_api_Entry_api_Entry_l1;refine Lvs.ite (λhi=>?_) λhi=>Lvs.out (hx.2.all hl (by simpa using hi));have hi:=of_decide_eq_true hi;refine Lvs.ix hx.1.1 hi λw hw=>Lvs.ix hx.1.1 (by omega) λw2 hw2=>?_;refine Lvs.ite (λ_=>Lvs.out rfl) λhe=>Lvs.rec ⟨⟨(hx.1.next hi).1,hx.2.next hx.1 hi hw ?_⟩,(hx.1.next hi).2⟩;have :w=w2:=by cases w;cases w2;simp_all
  rw[this];exact hw2
 .cases y with|inl b=>exact Evs.ret λe=>by rw[hy]at e;cases e|inr b=>exact Evs.ret λ_=>hy
theorem sameE(l m:List TApiEntry)(hs:Sz l):Evs (λfu=>f_jobs_sameEntries fu l m) λr=>r=true->l=m:=by unfold f_jobs_sameEntries;exact Evs.seq (eqE2 l m hs) λr hr=>Evs.ret hr
theorem shEq{a b:TApiShState}(h:((a.Some==b.Some)&&((a.Last==b.Last)&&((a.Bottom==b.Bottom)&&true)))=true):a=b:=by cases a;cases b;simp_all
theorem sameOk(a b:TApiSlState)(h0:Sz a.Merge.Runs)(h1:∀r∈a.Merge.Runs,Sz r)(ha:Sz a.Merge.At)(hk:Sz a.Merge.Tree.Keys)(hlo:Sz a.Merge.Tree.Lose)(ho:Sz a.Out):Evs (λfu=>f_jobs_same fu a b) λr=>r=true->a=b:=by
 unfold f_jobs_same;refine Evs.ite (λ_=>?_) λhl=>?_;.refine Evs.eq (r:=false) (Evs.ret rfl) ?_;refine Evs.seq (P:=(·=false)) (Evs.ff (Evs.ret rfl)) λr hr=>?_;subst hr;refine Evs.seq (P:=(·=false)) (Evs.ff (Evs.ret rfl)) λr hr=>?_;subst hr;refine Evs.seq (P:=(·=false)) (Evs.ff (Evs.ret rfl)) λr hr=>?_;subst hr;refine Evs.seq (P:=(·=false)) (Evs.ff (Evs.ret rfl)) λr hr=>?_;subst hr;refine Evs.seq (P:=(·=false)) (Evs.ff (Evs.ret rfl)) λr hr=>?_;subst hr;refine Evs.seq (P:=(·=false)) (Evs.ff (Evs.ret rfl)) λr hr=>?_;subst hr;exact Evs.ret (by simp)
 have hl:a.Merge.Runs.length=b.Merge.Runs.length:=by simp at hl;omega
 refine Evs.seq (P:=λy=>match y with|.inl b=>b=false|.inr _=>a.Merge.Runs=b.Merge.Runs) (Evs.loop (λx=>At a.Merge.Runs x/\Same a.Merge.Runs b.Merge.Runs x) (λx=>((a.Merge.Runs.length:Int)-x).toNat) (λx hx=>?_) ⟨At.zero h0,Same.zero⟩) λy hy=>?_;.unfold f_jobs_same_l1;refine Lvs.ite (λhi=>?_) λhi=>Lvs.out (hx.2.all hl (by simpa using hi));have hi:=of_decide_eq_true hi;refine Lvs.ix hx.1.1 hi λw hw=>Lvs.ix hx.1.1 (by omega) λw2 hw2=>?_;refine Lvs.seq (sameE w w2 (h1 w (mem_of_get hw))) λr hr=>?_;refine Lvs.ite (λ_=>Lvs.out rfl) λhe=>Lvs.rec ⟨⟨(hx.1.next hi).1,hx.2.next hx.1 hi hw ?_⟩,(hx.1.next hi).2⟩;have :w=w2:=hr (by simpa using he);rw[this];exact hw2
 cases y with|inl c=>have hy:c=false:=hy;subst hy;refine Evs.seq (P:=(·=false)) (Evs.ff (Evs.ret rfl)) λr hr=>?_;subst hr;refine Evs.seq (P:=(·=false)) (Evs.ff (Evs.ret rfl)) λr hr=>?_;subst hr;refine Evs.seq (P:=(·=false)) (Evs.ff (Evs.ret rfl)) λr hr=>?_;subst hr;refine Evs.seq (P:=(·=false)) (Evs.ff (Evs.ret rfl)) λr hr=>?_;subst hr;refine Evs.seq (P:=(·=false)) (Evs.ff (Evs.ret rfl)) λr hr=>?_;subst hr;refine Evs.seq (P:=(·=false)) (Evs.ff (Evs.ret rfl)) λr hr=>?_;subst hr;refine Evs.seq (P:=(·=false)) (Evs.ff (Evs.ret rfl)) λr hr=>?_;subst hr;exact Evs.ret (by simp)|inr c=>refine Evs.seq (P:=λr=>r=true->a.Merge.At=b.Merge.At) (Evs.seq (eqI2 _ _ ha) λq hq=>Evs.ret hq) λr hr=>?_;refine Evs.seq (P:=λr=>r=true->(a.Merge.At=b.Merge.At)/\a.Merge.Tree.Keys=b.Merge.Tree.Keys) (Evs.ite (λh=>Evs.seq (eqK2 _ _ hk) λq hq=>Evs.ret λe=>⟨hr h,hq e⟩) λ_=>Evs.ret (by simp)) λr hr=>?_;refine Evs.seq (P:=λr=>r=true->((a.Merge.At=b.Merge.At)/\a.Merge.Tree.Keys=b.Merge.Tree.Keys)/\a.Merge.Tree.Lose=b.Merge.Tree.Lose) (Evs.ite (λh=>Evs.seq (eqI2 _ _ hlo) λq hq=>Evs.ret λe=>⟨hr h,hq e⟩) λ_=>Evs.ret (by simp)) λr hr=>?_;refine Evs.seq (P:=λr=>r=true->(((a.Merge.At=b.Merge.At)/\a.Merge.Tree.Keys=b.Merge.Tree.Keys)/\a.Merge.Tree.Lose=b.Merge.Tree.Lose)/\a.Merge.Tree.Win=b.Merge.Tree.Win) (Evs.ite (λh=>Evs.ret λe=>⟨hr h,by simpa using e⟩) λ_=>Evs.ret (by simp)) λr hr=>?_;refine Evs.seq (P:=λr=>r=true->((((a.Merge.At=b.Merge.At)/\a.Merge.Tree.Keys=b.Merge.Tree.Keys)/\a.Merge.Tree.Lose=b.Merge.Tree.Lose)/\a.Merge.Tree.Win=b.Merge.Tree.Win)/\a.Shadow=b.Shadow) (Evs.ite (λh=>Evs.ret λe=>⟨hr h,shEq e⟩) λ_=>Evs.ret (by simp)) λr hr=>?_;refine Evs.seq (P:=λr=>r=true->(((((a.Merge.At=b.Merge.At)/\a.Merge.Tree.Keys=b.Merge.Tree.Keys)/\a.Merge.Tree.Lose=b.Merge.Tree.Lose)/\a.Merge.Tree.Win=b.Merge.Tree.Win)/\a.Shadow=b.Shadow)/\a.Out=b.Out) (Evs.ite (λh=>Evs.seq (sameE _ _ ho) λq hq=>Evs.ret λe=>⟨hr h,hq e⟩) λ_=>Evs.ret (by simp)) λr hr=>?_;refine Evs.seq (P:=λr=>r=true->((((((a.Merge.At=b.Merge.At)/\a.Merge.Tree.Keys=b.Merge.Tree.Keys)/\a.Merge.Tree.Lose=b.Merge.Tree.Lose)/\a.Merge.Tree.Win=b.Merge.Tree.Win)/\a.Shadow=b.Shadow)/\a.Out=b.Out)/\a.Steps=b.Steps) (Evs.ite (λh=>Evs.ret λe=>⟨hr h,by simpa using e⟩) λ_=>Evs.ret (by simp)) λr hr=>?_;refine Evs.ret λe=>?_;have hy:a.Merge.Runs=b.Merge.Runs:=hy;obtain⟨⟨⟨⟨⟨⟨e1,e2⟩,e3⟩,e4⟩,e5⟩,e6⟩,e7⟩:=hr e;obtain⟨⟨r,t,k,l,w⟩,s,o,n⟩:=a;obtain⟨⟨r,t,k,l,w⟩,s,o,n⟩:=b;simp only at hy e1 e2 e3 e4 e5 e6 e7;subst hy;subst e1;subst e2;subst e3;subst e4;subst e5;subst e6;subst e7;rfl
end Go.L
end
section
set_option linter.unusedSimpArgs false
set_option linter.unusedVariables false
namespace Go.L
open Go Go.AM
def isDue(a:TApiLvLevels)(i:Nat):Bool:=match a.Levels[i]? with|some l=>l.Runs.length==2|none=>false
def dues(a:TApiLvLevels)(n:Nat):List Int:=((List.range n).filter (isDue a)).map Int.ofNat
theorem dues_succ(a:TApiLvLevels)(n:Nat):dues a (n+1)=if isDue a n then dues a n++[(n:Int)]else dues a n:=by
 unfold dues;rw[List.range_succ,List.filter_append,List.map_append];by_cases h:isDue a n=true;.rw[if_pos h,List.filter_cons_of_pos h];rfl
 .rw[if_neg h,List.filter_cons_of_neg h];simp
theorem dues_len(a:TApiLvLevels)(n:Nat):(dues a n).length<=n:=by unfold dues;rw[List.length_map];exact Nat.le_trans (List.length_filter_le _ _) (by simp)
theorem dues_mem(a:TApiLvLevels)(n:Nat)(x:Int)(h:x∈dues a n):∃i:Nat,x=i/\i<n/\isDue a i=true:=by unfold dues at h;obtain⟨i,h1,rfl⟩:=List.mem_map.1 h;obtain⟨h2,h3⟩:=List.mem_filter.1 h1;exact⟨i,rfl,List.mem_range.1 h2,h3⟩
theorem mem_dues(a:TApiLvLevels){n i:Nat}(h:i<n)(hd:isDue a i=true):(i:Int)∈dues a n:=by unfold dues;exact List.mem_map.2 ⟨i,List.mem_filter.2 ⟨List.mem_range.2 h,hd⟩,rfl⟩
theorem duesLoop(a:TApiJbState)(h:a.Levels.Levels.length<=12):Evs (λfu=>lpc (f_jobs_Check_l1 a) fu (0,[])) (·=dues a.Levels a.Levels.Levels.length):=by
 refine Evs.loop (λx=>∃n:Nat,n<=a.Levels.Levels.length/\x=((n:Int),dues a.Levels n)) (λx=>a.Levels.Levels.length-x.1.toNat) (λx hx=>?_) ⟨0,Nat.zero_le _,rfl⟩;obtain⟨n,hn,rfl⟩:=hx;unfold f_jobs_Check_l1;refine Lvs.ite (λhi=>?_) λhi=>Lvs.cond rfl (Lvs.out ?_)
 .have hi:=of_decide_eq_true hi;have hi:(n:Int)<a.Levels.Levels.length:=hi;have w1:IntKind.i64.wrap ((n:Int)+1)=((n+1:Nat):Int):=by rw[wr (by omega) (by omega)];omega
  refine Lvs.ix (by simp) hi λw hw=>?_;have hw:a.Levels.Levels[n]?=some w:=by simpa using hw
  have hl:=dues_len a.Levels n;have hd:isDue a.Levels n=(w.Runs.length==2):=by unfold isDue;rw[hw]
  refine Lvs.ite (λh2=>?_) λh2=>Lvs.cond rfl (Lvs.rec ⟨⟨n+1,by omega,?_⟩,?_⟩)
  .refine Lvs.cond rfl (Lvs.cond rfl (Lvs.cond ?_ (Lvs.cond rfl (Lvs.rec ⟨⟨n+1,by omega,?_⟩,?_⟩))));.show 2*(((dues a.Levels n).length+1)*8)<=281474976710656;omega
   .have :isDue a.Levels n=true:=by rw[hd];simp at h2⊢;omega
    rw[dues_succ,if_pos this,w1]
   .show a.Levels.Levels.length-(IntKind.i64.wrap ((n:Int)+1)).toNat<a.Levels.Levels.length-(n:Int).toNat;rw[w1];omega
  .have :¬isDue a.Levels n=true:=by rw[hd];simp at h2⊢;omega
   rw[dues_succ,if_neg this,w1]
  .show a.Levels.Levels.length-(IntKind.i64.wrap ((n:Int)+1)).toNat<a.Levels.Levels.length-(n:Int).toNat;rw[w1];omega
 .have hi:=ndec hi;have hi:¬(n:Int)<a.Levels.Levels.length:=hi;have :n=a.Levels.Levels.length:=by omega
  rw[this]
def JOk(a:TApiLvLevels)(j:TApiJbJob):Prop:=∃(i:Nat) (l:TApiLvLevel) (r s:TApiRun) (b:Bool) (k:Nat),j.Level=i/\a.Levels[i]?=some l/\l.Runs=[r,s]/\k<=s.Entries.length+r.Entries.length/\j.Work=Sl s.Entries r.Entries b k
def JsOk(a:TApiJbState):Prop:=1<=a.Levels.B/\a.Levels.B<=16/\a.Levels.Levels.length<=12/\(∀l∈a.Levels.Levels,VOk l)/\a.Jobs.map (·.Level)=dues a.Levels a.Levels.Levels.length/\ ∀j∈a.Jobs,JOk a.Levels j
theorem two_runs{l:TApiLvLevel}(h:l.Runs.length=2):∃r s,l.Runs=[r,s]:=by obtain⟨l⟩:=l;match l,h with|[r,s],_=>exact⟨r,s,rfl⟩
theorem begun(a:TApiLvLevels)(hs:SzL a){i:Nat}{l:TApiLvLevel}{r s:TApiRun}{b:Bool}(h:a.Levels[i]?=some l)(hr:l.Runs=[r,s])(h1:ROk r)(h2:ROk s):Evs (λfu=>f_jobs_begun fu a (i:Int) b) (·=⟨i,Sl s.Entries r.Entries b 0⟩):=by
 unfold f_jobs_begun;have hi:=(List.getElem?_eq_some_iff.1 h).1;refine Evs.ix (by simp) (by omega) λw hw=>?_;have :l=w:=by rw[show(i:Int).toNat=i from rfl,h]at hw;exact Option.some.inj hw
 subst this;rw[hr];refine Evs.eq (r:=s) (Evs.pure (λ_=>rfl) rfl) (Evs.eq (r:=r) (Evs.pure (λ_=>rfl) rfl) (Evs.cond rfl ?_));exact Evs.eq (slbegin h2.2.2.1 h1.2.2.1) (Evs.ret rfl)
end Go.L
end
section
set_option linter.unusedSimpArgs false
set_option linter.unusedVariables false
namespace Go.L
open Go Go.AM
theorem jobRound(a:TApiJbState)(hs:SzL a.Levels)(hL:a.Levels.Levels.length<=12)(hV:∀l∈a.Levels.Levels,VOk l)(y:List Int)(hy:y=dues a.Levels a.Levels.Levels.length)(hz:Sz a.Jobs):Evs (λfu=>lpc (f_jobs_Check_l2 a y) fu 0) λr=>match r with|.inl v=>v.2≠0|.inr _=>(∀j∈a.Jobs,JOk a.Levels j)/\a.Jobs.length<=y.length/\ ∀(k:Nat)(j:TApiJbJob),a.Jobs[k]?=some j->y[k]?=some j.Level:=by
 refine Evs.loop (λx=>At a.Jobs x/\Seen a.Jobs (JOk a.Levels) x/\x<=(y.length:Int)/\Seen (List.range a.Jobs.length) (λk=>∀j,a.Jobs[k]?=some j->y[k]?=some j.Level) x) (λx=>((a.Jobs.length:Int)-x).toNat) (λx hx=>?_) ⟨At.zero hz,Seen.zero,by omega,Seen.zero⟩;obtain⟨ha,hse,hle,hlv⟩:=hx;unfold f_jobs_Check_l2;refine Lvs.ite (λhi=>?_) λhi=>Lvs.out ?_
 .have hi:=of_decide_eq_true hi;refine Lvs.ix ha.1 hi λw hw=>?_;refine Lvs.seq (P:=λb=>b=false->x<(y.length:Int)/\y[x.toNat]?=some w.Level) ?_ λb hb=>?_
  .refine Evs.ite (λ_=>Evs.ret (by simp)) λh=>?_;have h:=ndec h;refine Evs.cond rfl (Evs.ix ha.1 (by omega) λq hq=>?_);refine Evs.eq (r:=q) (Evs.pure (λ_=>hq) rfl) (Evs.ret λe=>⟨by omega,?_⟩);have :w.Level=q:=by simpa using e
   rw[this];exact hq
  refine Lvs.ite (λ_=>Lvs.out (by simp)) λhb2=>?_;obtain⟨b1,b2⟩:=hb (by simpa using hb2);refine Lvs.seq (P:=λ_=>True) (Evs.ite (λ_=>Evs.eq (Evs.pure (λ_=>rfl) rfl) (Evs.ret trivial)) λ_=>Evs.ret trivial) λc _=>?_;refine Lvs.ite (λ_=>Lvs.out (by simp)) λ_=>?_;obtain⟨i,e1,e2,e3⟩:=dues_mem a.Levels a.Levels.Levels.length w.Level (by rw[<-hy];exact mem_of_get b2);obtain⟨l,hl⟩:∃l,a.Levels.Levels[i]?=some l:=⟨_,List.getElem?_eq_getElem e2⟩;have hd:l.Runs.length=2:=by unfold isDue at e3;rw[hl]at e3;simpa using e3
  obtain⟨r,s,hrs⟩:=two_runs hd;have hm:=mem_of_get hl;have hr:=(hV l hm).2 r (by rw[hrs];simp);have hss:=(hV l hm).2 s (by rw[hrs];simp);have zr:=(hs.2 l hm).2 r (by rw[hrs];simp);have zs:=(hs.2 l hm).2 s (by rw[hrs];simp);have L1:=hr.2.2.1.1.1;have L2:=hss.2.2.1.1.1;rw[e1];refine Lvs.eq (begun a.Levels hs hl hrs hr hss) ?_;refine Lvs.eq (slleft hss.2.2.1 hr.2.2.1 zs zr (Nat.zero_le _)) ?_;refine Lvs.seq (P:=λb=>b=false->0<=w.Work.Steps/\w.Work.Steps<=((s.Entries.length+r.Entries.length:Nat):Int)) (Evs.ite (λ_=>Evs.ret (by simp)) λh=>Evs.ret λe=>⟨by have :=ndec h;omega,by simp at e;omega⟩) λd hd=>?_;refine Lvs.ite (λ_=>Lvs.out (by simp)) λhd2=>?_;obtain⟨d1,d2⟩:=hd (by simpa using hd2);obtain⟨k,hk⟩:∃k:Nat,w.Work.Steps=k:=⟨w.Work.Steps.toNat,by omega⟩;rw[hk]at d1 d2⊢;have hkt:k<=s.Entries.length+r.Entries.length:=by omega
  refine Lvs.seq (slstep (b:=w.Work.Shadow.Bottom) hss.2.2.1 hr.2.2.1 zs zr k) λz hz1=>?_;rw[Nat.min_eq_left hkt]at hz1;obtain⟨z1,z2⟩:=z;have hz1:z1=_:=hz1;subst hz1;have hol:=outs_len (u:=s.Entries) (v:=r.Entries) (b:=w.Work.Shadow.Bottom) k;refine Lvs.seq (sameOk (Sl s.Entries r.Entries w.Work.Shadow.Bottom k) w.Work (by simp[Sl,Ms]) ?_ (by simp[Sl,Ms]) (by unfold Sl Ms;simp only[T2K];simp) (by unfold Sl Ms;simp only[Sz,T2L];omega) (by show(outs _ _ _ k).length<=_;omega)) λq hq=>?_
  .intro t ht;have ht:t∈[s.Entries,r.Entries]:=ht;rcases List.mem_cons.1 ht with rfl|ht;.exact zs
   .have :t=r.Entries:=by simpa using ht
    rw[this];exact zr
  refine Lvs.ite (λ_=>Lvs.out (by simp)) λhq2=>Lvs.rec ⟨⟨(ha.next hi).1,hse.next ha hi hw ?_,?_,?_⟩,(ha.next hi).2⟩;.exact⟨i,l,r,s,w.Work.Shadow.Bottom,k,e1,hl,hrs,hkt,(hq (by simpa using hq2)).symm⟩
  .rw[ha.nx hi];omega
  .rw[ha.nx hi];intro j e hj he;have hje:j=e:=by have :=List.getElem?_eq_some_iff.1 he;obtain⟨h1,h2⟩:=this;simpa using h2
   subst hje;by_cases hjx:(j:Int)<x;.exact hlv j j hjx he
   .have :j=x.toNat:=by have :=ha.1;omega
    subst this;intro j2 h2;rw[hw]at h2;cases h2;exact b2
 .refine⟨hse.all (by simpa using hi),by have :=ndec hi;omega,λk j hj=>?_⟩;have hk:=(List.getElem?_eq_some_iff.1 hj).1;exact hlv k k (by have :=ndec hi;omega) (by simp[hk]) j hj
theorem jobsCheck(a:TApiJbState)(hs:SzL a.Levels)(hz:Sz a.Jobs):Evs (λfu=>f_jobs_Check fu a) λr=>r.2=0->JsOk a:=by
 unfold f_jobs_Check;refine Evs.seq (levelsCheck a.Levels hs) λr hr=>?_;refine Evs.ite (λh=>Evs.ret λe=>absurd e (by simpa using h)) λh=>?_;obtain⟨hB1,hB2,hL,hV⟩:=hr (by simpa using h);refine Evs.seq (P:=λ_=>True) (Evs.ite (λ_=>Evs.ret trivial) λ_=>Evs.ret trivial) λb _=>?_;refine Evs.ite (λ_=>Evs.ret (by simp)) λ_=>?_;refine Evs.seq (greatest a.Levels hs) λg _=>?_;refine Evs.ite (λ_=>Evs.ret (by simp)) λ_=>?_;refine Evs.eq (duesLoop a hL) ?_;refine Evs.seq (jobRound a hs hL hV _ rfl hz) λy hy=>?_
 cases y with
  |inl v=>exact Evs.ret λe=>absurd e hy
  |inr v=>
   obtain⟨y1,y2,y3⟩:=hy;refine Evs.ite (λ_=>Evs.ret (by simp)) λh=>Evs.ret λ_=>⟨hB1,hB2,hL,hV,?_,y1⟩;have h:=ndec h;refine List.ext_getElem? λk=>?_;rw[List.getElem?_map];by_cases hk:k<a.Jobs.length;.have :=List.getElem?_eq_getElem hk;rw[this,y3 k _ this];rfl
   .rw[List.getElem?_eq_none (by omega),List.getElem?_eq_none (by omega)];rfl
end Go.L
end
section
set_option linter.unusedSimpArgs false
set_option linter.unusedVariables false
namespace Go.L
open Go Go.AM
def JobsOk(a:TApiJbState):Prop:=JsOk a/\(SzL a.Levels/\Sz a.Jobs)/\Evs (λfu=>f_jobs_Check fu a) λr=>r.2=0
theorem jobsCheckOk(a:TApiJbState)(hs:SzL a.Levels)(hz:Sz a.Jobs):Evs (λfu=>f_jobs_Check fu a) λr=>r.2=0->JobsOk a:=(jobsCheck a hs hz).self.mono λr h e=>⟨h.1 e,⟨hs,hz⟩,h.2.mono λ_ k=>k▸e⟩
theorem due_lt{a:TApiLvLevels}{i:Nat}(h:isDue a i=true):i<a.Levels.length:=by
 unfold isDue at h;split at h;.rename_i l hl;exact(List.getElem?_eq_some_iff.1 hl).1
 .cases h
theorem jobsFind(a:TApiJbState)(h:JobsOk a)(i:Nat):Evs (λfu=>f_jobs_Find fu a (i:Int)) λr=>if isDue a.Levels i then r.2=0/\0<=r.1/\ ∃j,a.Jobs[r.1.toNat]?=some j/\j.Level=i else r=(0,4):=by
 obtain⟨h1,⟨h2,h3⟩,h4⟩:=h;unfold f_jobs_Find;refine Evs.seq h4 λr hr=>Evs.ite (λh=>absurd h (by rw[hr];simp)) λ_=>?_;refine Evs.seq (P:=λy=>match y with|.inl x=>0<=x/\ ∃j,a.Jobs[x.toNat]?=some j/\j.Level=i|.inr _=>∀j∈a.Jobs,j.Level≠i) (Evs.loop (λx=>At a.Jobs x/\Seen a.Jobs (λj=>j.Level≠i) x) (λx=>((a.Jobs.length:Int)-x).toNat) (λx hx=>?_) ⟨At.zero h3,Seen.zero⟩) λy hy=>?_;.unfold f_jobs_Find_l1;refine Lvs.ite (λhi=>?_) λhi=>Lvs.out (hx.2.all (by simpa using hi));have hi:=of_decide_eq_true hi;refine Lvs.ix hx.1.1 hi λw hw=>?_;refine Lvs.ite (λe=>Lvs.out ⟨hx.1.1,w,hw,by simpa using e⟩) λe=>Lvs.rec ⟨⟨(hx.1.next hi).1,hx.2.next hx.1 hi hw (by simpa using e)⟩,(hx.1.next hi).2⟩
 .have hmem:∀j∈a.Jobs,j.Level∈dues a.Levels a.Levels.Levels.length:=λj hj=>by rw[<-h1.2.2.2.2.1];exact List.mem_map.2 ⟨j,hj,rfl⟩
  cases y with
   |inl x=>
    obtain⟨y1,j,y2,y3⟩:=hy;refine Evs.ite (λh=>absurd (of_decide_eq_true h) (by omega)) λ_=>Evs.ret ?_;obtain⟨k,e1,e2,e3⟩:=dues_mem _ _ _ (hmem j (mem_of_get y2));have :k=i:=by omega
    subst this;rw[if_pos e3];exact⟨rfl,y1,j,y2,y3⟩
   |inr x=>
    refine Evs.ret ?_;have :¬isDue a.Levels i=true:=λhd=>by have :=mem_dues a.Levels (due_lt hd) hd;rw[<-h1.2.2.2.2.1]at this;obtain⟨j,hj,e⟩:=List.mem_map.1 this;exact hy j hj e
    rw[if_neg this]
theorem jobsLeft(a:TApiJbState)(h:JobsOk a)(i:Nat):Evs (λfu=>f_jobs_Left fu a (i:Int)) λr=>if isDue a.Levels i then r.2=0/\0<=r.1/\r.1<=10000 else r=(0,4):=by
 unfold f_jobs_Left;refine Evs.seq (jobsFind a h i) λr hr=>?_
 cases hd:isDue a.Levels i with
  |false=>rw[hd]at hr;have hr:r=(0,4):=hr;subst hr;exact Evs.ite (λ_=>Evs.ret rfl) λh=>absurd (by decide) h
  |true=>
   rw[hd]at hr;obtain⟨r1,r2,j,r3,r4⟩:=hr;refine Evs.ite (λh=>absurd h (by rw[r1];simp)) λ_=>?_;have :=(List.getElem?_eq_some_iff.1 r3).1;refine Evs.ix r2 (by omega) λw hw=>?_;rw[r3]at hw;cases hw;obtain⟨i2,l,p,s,b,k,j1,j2,j3,j4,j5⟩:=h.1.2.2.2.2.2 j (mem_of_get r3);have hm:=mem_of_get j2;have hp:=(h.1.2.2.2.1 l hm).2 p (by rw[j3];simp);have hs:=(h.1.2.2.2.1 l hm).2 s (by rw[j3];simp);have zp:=(h.2.1.1.2 l hm).2 p (by rw[j3];simp);have zs:=(h.2.1.1.2 l hm).2 s (by rw[j3];simp);have L1:=hp.2.2.1.1.1;have L2:=hs.2.2.1.1.1;refine Evs.seq (P:=λr=>r=(((s.Entries.length+p.Entries.length-k:Nat):Int),0)) ?_ λq hq=>?_;.show Evs (λfu=>f_slices_Left fu j.Work) _;rw[j5];exact slleft hs.2.2.1 hp.2.2.1 zs zp j4
   .subst hq;exact Evs.ret ⟨rfl,by omega,by simp only;omega⟩
theorem exists_lv(a:TApiJbState)(i:Nat):∃r:Int×Int,JobsOk a->Evs (λfu=>f_jobs_Left fu a (i:Int)) (·=r)/\if isDue a.Levels i then r.2=0/\0<=r.1/\r.1<=10000 else r=(0,4):=by
 by_cases h:JobsOk a;.obtain⟨r,h1,h2⟩:=jobsLeft a h i;exact⟨r,λ_=>⟨⟨r,rfl,h2⟩,h1⟩⟩
 .exact⟨(0,0),λk=>absurd k h⟩
noncomputable def lv(a:TApiJbState)(i:Nat):Int×Int:=Classical.choose (exists_lv a i)
theorem lvE(a:TApiJbState)(h:JobsOk a)(i:Nat):Evs (λfu=>f_jobs_Left fu a (i:Int)) (·=lv a i):=(Classical.choose_spec (exists_lv a i) h).1
theorem lvP(a:TApiJbState)(h:JobsOk a)(i:Nat):if isDue a.Levels i then(lv a i).2=0/\0<=(lv a i).1/\(lv a i).1<=10000 else lv a i=(0,4):=(Classical.choose_spec (exists_lv a i) h).2
theorem lvB(a:TApiJbState)(h:JobsOk a)(i:Nat):0<=(lv a i).1/\(lv a i).1<=10000/\((lv a i).2==0)=isDue a.Levels i/\(isDue a.Levels i=false->(lv a i).1=0):=by have :=lvP a h i;cases hd:isDue a.Levels i with|true=>rw[hd]at this;exact⟨this.2.1,this.2.2,by rw[this.1];rfl,λe=>by cases e⟩|false=>rw[hd]at this;have this:lv a i=(0,4):=this;rw[this];exact⟨by decide,by decide,rfl,λ_=>rfl⟩
theorem debtJob(a:TApiJbState)(h:JobsOk a)(i:Nat)(hd:isDue a.Levels i=true):Evs (λfu=>f_debt_Job fu a (i:Int)) (·=((lv a i).1+1,0)):=by unfold f_debt_Job;have :=lvP a h i;rw[if_pos hd]at this;refine Evs.eq (lvE a h i) (Evs.ite (λh=>absurd h (by rw[this.1];simp)) λ_=>Evs.ret ?_);rw[wr (by omega) (by omega)]
theorem pendLoop(a:TApiJbState)(h:a.Levels.Levels.length<=12):Evs (λfu=>lpc (f_jobs_Pending_l1 a) fu (0,[])) (·=dues a.Levels a.Levels.Levels.length):=duesLoop a h
theorem pending(a:TApiJbState)(h:JobsOk a):Evs (λfu=>f_jobs_Pending fu a) (·=(dues a.Levels a.Levels.Levels.length,0)):=by unfold f_jobs_Pending;refine Evs.seq h.2.2 λr hr=>Evs.ite (λh=>absurd h (by rw[hr];simp)) λ_=>?_;exact Evs.eq (pendLoop a h.1.2.2.1) (Evs.cond rfl (Evs.ret rfl))
def sm(f:Nat->Int):Nat->Int|0=>0|n+1=>sm f n+f n
theorem sm_bound{f:Nat->Int}{m:Int}(h:∀i,0<=f i/\f i<=m):∀n:Nat,0<=sm f n/\sm f n<=n*m
 |0=>by simp[sm]
 |n+1=>by
  have :=sm_bound h n;have h1:=h n;have e:((n+1:Nat):Int)*m=n*m+m:=by rw[Int.natCast_add,Int.add_mul];simp
  rw[e];show 0<=sm f n+f n/\sm f n+f n<=_;omega
noncomputable def ow(a:TApiJbState)(i:Nat):Int:=if isDue a.Levels i then(lv a i).1+1 else 0
def sl(g:Int->Int)(l:List Int):Int:=l.foldl (λs x=>s+g x) 0
theorem sl_app(g:Int->Int)(l:List Int)(x:Int):sl g (l++[x])=sl g l+g x:=by unfold sl;rw[List.foldl_append];rfl
theorem sl_dues(a:TApiJbState):∀n,sl (λz=>(lv a z.toNat).1+1) (dues a.Levels n)=sm (ow a) n
 |0=>rfl
 |n+1=>by
  rw[dues_succ];show _=sm (ow a) n+ow a n;by_cases hd:isDue a.Levels n=true
  .have :ow a n=(lv a n).1+1:=by unfold ow;rw[if_pos hd]
   rw[if_pos hd,sl_app,sl_dues a n,this];rfl
  .have :ow a n=0:=by unfold ow;rw[if_neg hd]
   rw[if_neg hd,sl_dues a n,this];omega
theorem debtAll(a:TApiJbState)(h:JobsOk a):Evs (λfu=>f_debt_All fu a) (·=(sm (ow a) a.Levels.Levels.length,0)):=by
 unfold f_debt_All;refine Evs.eq (pending a h) (Evs.ite (λh=>absurd h (by simp)) λ_=>?_);have hL:=h.1.2.2.1;have hdl:=dues_len a.Levels a.Levels.Levels.length;rw[<-sl_dues];have hmem:=dues_mem a.Levels a.Levels.Levels.length;generalize dues a.Levels a.Levels.Levels.length=d at*;refine Evs.seq (P:=(·=.inr (sl (λz=>(lv a z.toNat).1+1) d))) (Evs.loop (λx=>∃k:Nat,k<=d.length/\x=(sl (λz=>(lv a z.toNat).1+1) (d.take k),(k:Int))/\0<=x.1/\x.1<=k*10001) (λx=>d.length-x.2.toNat) (λx hx=>?_) ⟨0,Nat.zero_le _,rfl,by decide,by decide⟩) λy hy=>by cases hy;exact Evs.ret rfl
 obtain⟨k,hk,rfl,x1,x2⟩:=hx;simp only at x1 x2;unfold f_debt_All_l1;refine Lvs.ite (λhi=>?_) λhi=>Lvs.out ?_
 .have hi:=of_decide_eq_true hi;have hi:(k:Int)<d.length:=hi;have w1:IntKind.i64.wrap ((k:Int)+1)=((k+1:Nat):Int):=by rw[wr (by omega) (by omega)];omega
  refine Lvs.ix (by simp) hi λz hz=>?_;have hz:d[k]?=some z:=by simpa using hz
  obtain⟨i,rfl,i1,i2⟩:=hmem z (mem_of_get hz);have hb:=lvB a h i;refine Lvs.eq (debtJob a h i i2) (Lvs.ite (λh=>absurd h (by simp)) λ_=>Lvs.rec ⟨⟨k+1,by omega,?_,?_,?_⟩,?_⟩);.rw[List.take_add_one,hz,w1];show _=(sl _ (d.take k++[(i:Int)]),_);rw[sl_app,wr (by omega) (by omega)];rfl
  .simp only;rw[wr (by omega) (by omega)];omega
  .simp only;rw[wr (by omega) (by omega)];omega
  .show d.length-(IntKind.i64.wrap ((k:Int)+1)).toNat<d.length-(k:Int).toNat;rw[w1];omega
 .have hi:=ndec hi;have hi:¬(k:Int)<d.length:=hi;rw[List.take_of_length_le (by omega)]
end Go.L
end
section
set_option linter.unusedSimpArgs false
set_option linter.unusedVariables false
namespace Go.L
open Go Go.AM
def su{α:Type}(f:α->Nat)(l:List α):Nat:=l.foldl (λs x=>s+f x) 0
theorem su_app{α:Type}(f:α->Nat)(l:List α)(x:α):su f (l++[x])=su f l+f x:=by unfold su;rw[List.foldl_append];rfl
theorem su_take{α:Type}(f:α->Nat){l:List α}{k:Nat}{x:α}(h:l[k]?=some x):su f (l.take (k+1))=su f (l.take k)+f x:=by rw[List.take_add_one,h];exact su_app f _ x
theorem su_le{α:Type}(f:α->Nat)(l:List α)(m:Nat)(h:∀x∈l,f x<=m):∀k,su f (l.take k)<=k*m
 |0=>by simp[su]
 |k+1=>by
  have :=su_le f l m h k;have e:(k+1)*m=k*m+m:=by rw[Nat.add_mul];simp
  rw[e];cases hx:l[k]? with|some x=>rw[su_take f hx];have :=h x (mem_of_get hx);omega|none=>rw[List.take_add_one,hx];simp;omega
theorem su_all{α:Type}(f:α->Nat)(l:List α)(m:Nat)(h:∀x∈l,f x<=m):su f l<=l.length*m:=by have :=su_le f l m h l.length;rwa[List.take_length]at this
def d1(e:TApiEntry):Nat:=if e.Dead then 1 else 0
def dR(r:TApiRun):Nat:=su d1 r.Entries
def eR(r:TApiRun):Nat:=r.Entries.length
theorem d1_le(e:TApiEntry):d1 e<=1:=by unfold d1;split<;>omega
theorem dR_le(r:TApiRun):dR r<=eR r:=by have :=su_all d1 r.Entries 1 (λx _=>d1_le x);unfold dR eR;omega
theorem counted(l:List TApiRun)(h1:l.length<=2)(h2:∀r∈l,eR r<=5000):Evs (λfu=>f_stats_counted fu l) (·=((su eR l:Int),(su dR l:Int))):=by
 unfold f_stats_counted;refine Evs.eq (r:=((su eR l:Int),(su dR l:Int))) (Evs.loop (λx=>∃k:Nat,k<=l.length/\x=((k:Int),((su eR (l.take k):Nat):Int),((su dR (l.take k):Nat):Int))) (λx=>l.length-x.1.toNat) (λx hx=>?_) ⟨0,Nat.zero_le _,rfl⟩) (Evs.ret rfl);obtain⟨k,hk,rfl⟩:=hx;unfold f_stats_counted_l1;have b1:=su_le eR l 5000 h2 k;have b2:=su_le dR l 5000 (λr hr=>Nat.le_trans (dR_le r) (h2 r hr)) k;refine Lvs.ite (λhi=>?_) λhi=>Lvs.out ?_
 .have hi:=of_decide_eq_true hi;have hi:(k:Int)<l.length:=hi;have w1:IntKind.i64.wrap ((k:Int)+1)=((k+1:Nat):Int):=by rw[wr (by omega) (by omega)];omega
  refine Lvs.ix (by simp) hi λw hw=>?_;have hw:l[k]?=some w:=by simpa using hw
  have hwm:=h2 w (mem_of_get hw);have t1:=su_take eR hw;have t2:=su_take dR hw;generalize su eR (l.take k)=E at b1 t1⊢;generalize su dR (l.take k)=D at b2 t2⊢;refine Lvs.seq (P:=(·=(((E+eR w:Nat):Int),((D+dR w:Nat):Int)))) (Evs.loop (λz=>∃q:Nat,q<=w.Entries.length/\z=((q:Int),((E+q:Nat):Int),((D+su d1 (w.Entries.take q):Nat):Int))) (λz=>w.Entries.length-z.1.toNat) (λz hz=>?_) ⟨0,Nat.zero_le _,rfl⟩) λy hy=>?_
  .obtain⟨q,hq,rfl⟩:=hz;have hww:w.Entries.length<=5000:=hwm;have b3:=su_le d1 w.Entries 1 (λx _=>d1_le x) q;unfold f_stats_counted_l2;refine Lvs.ite (λhj=>?_) λhj=>Lvs.out ?_
   .have hj:=of_decide_eq_true hj;have hj:(q:Int)<w.Entries.length:=hj;have v1:IntKind.i64.wrap ((q:Int)+1)=((q+1:Nat):Int):=by rw[wr (by omega) (by omega)];omega
    have v2:IntKind.i64.wrap (((E+q:Nat):Int)+1)=((E+(q+1):Nat):Int):=by rw[wr (by omega) (by omega)];omega
    refine Lvs.ix (by simp) hj λe he=>?_;have he:w.Entries[q]?=some e:=by simpa using he
    have mu:w.Entries.length-(IntKind.i64.wrap ((q:Int)+1)).toNat<w.Entries.length-(q:Int).toNat:=by rw[v1];omega
    refine Lvs.ite (λhd=>Lvs.rec ⟨⟨q+1,by omega,?_⟩,mu⟩) λhd=>Lvs.rec ⟨⟨q+1,by omega,?_⟩,mu⟩;.have :d1 e=1:=if_pos hd;rw[su_take d1 he,this];simp only;rw[v1,v2,wr (by omega) (by omega)];simp only[Prod.mk.injEq,true_and];omega
    .have :d1 e=0:=if_neg hd;rw[su_take d1 he,this];simp only;rw[v1,v2];rfl
   .have hj:=ndec hj;have hj:¬(q:Int)<w.Entries.length:=hj;have :q=w.Entries.length:=by omega
    rw[this,List.take_length];rfl
  .subst hy;refine Lvs.rec ⟨⟨k+1,by omega,?_⟩,?_⟩;.rw[t1,t2];simp only;rw[w1]
   .show l.length-(IntKind.i64.wrap ((k:Int)+1)).toNat<l.length-(k:Int).toNat;rw[w1];omega
 .have hi:=ndec hi;have hi:¬(k:Int)<l.length:=hi;rw[List.take_of_length_le (by omega)]
end Go.L
end
