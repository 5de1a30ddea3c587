/- Texts of the proof, joined by program. -/
import Derived.Test.YtaeifdlkolfdjaaGreatDoorKPk
section
set_option linter.unusedSimpArgs false
set_option linter.unusedVariables false
namespace Go.L
open Go Go.AM
noncomputable def le(a:TApiJbState)(i:Nat):TApiStLevel:=match a.Levels.Levels[i]? with|some l=>⟨(l.Runs.length:Int),(su eR l.Runs:Int),(su dR l.Runs:Int),isDue a.Levels i,(lv a i).1⟩|none=>⟨0,0,0,false,0⟩
noncomputable def les(a:TApiJbState)(n:Nat):List TApiStLevel:=(List.range n).map (le a)
theorem les_len(a:TApiJbState)(n:Nat):(les a n).length=n:=by simp[les]
theorem les_succ(a:TApiJbState)(n:Nat):les a (n+1)=les a n++[le a n]:=by simp[les,List.range_succ]
theorem les_get(a:TApiJbState){n i:Nat}{v:TApiStLevel}(h:(les a n)[i]?=some v):v=le a i:=by
 unfold les at h;rw[List.getElem?_map]at h;by_cases hi:i<n;.simp[hi]at h;exact h.symm
 .simp[hi]at h
theorem vok_runs{l:TApiLvLevel}(h:VOk l):∀r∈l.Runs,eR r<=5000:=λr hr=>(h.2 r hr).2.2.1.1.1
theorem le_b(a:TApiJbState)(h:JobsOk a)(i:Nat):(0<=(le a i).Runs/\(le a i).Runs<=10000)/\(0<=(le a i).Entries/\(le a i).Entries<=10000)/\(0<=(le a i).Dead/\(le a i).Dead<=10000)/\(0<=(le a i).Left/\(le a i).Left<=10000)/\(le a i).Job=isDue a.Levels i/\((le a i).Job=((le a i).Runs==2))/\((le a i).Job=false->(le a i).Left=0):=by
 unfold le
 cases hl:a.Levels.Levels[i]? with
  |none=>
   have :isDue a.Levels i=false:=by unfold isDue;rw[hl]
   simp[this]
  |some l=>
   have hv:=h.1.2.2.2.1 l (mem_of_get hl);have h2:=hv.1;have e1:=su_all eR l.Runs 5000 (vok_runs hv);have e2:=su_all dR l.Runs 5000 λr hr=>Nat.le_trans (dR_le r) (vok_runs hv r hr);have hb:=lvB a h i;have hd:isDue a.Levels i=(l.Runs.length==2):=by unfold isDue;rw[hl]
   refine⟨⟨by simp,by simp only;omega⟩,⟨by simp,by simp only;omega⟩,⟨by simp,by simp only;omega⟩,⟨hb.1,hb.2.1⟩,rfl,?_,hb.2.2.2⟩;simp only[hd];rw[Bool.eq_iff_iff];simp;omega
theorem levels(a:TApiJbState)(h:JobsOk a):Evs (λfu=>f_stats_levels fu a) (·=les a a.Levels.Levels.length):=by
 unfold f_stats_levels;have hL:=h.1.2.2.1;refine Evs.eq (r:=les a a.Levels.Levels.length) (Evs.loop (λx=>∃k:Nat,k<=a.Levels.Levels.length/\x=(les a k,(k:Int))) (λx=>a.Levels.Levels.length-x.2.toNat) (λx hx=>?_) ⟨0,Nat.zero_le _,rfl⟩) (Evs.cond rfl (Evs.ret rfl));obtain⟨k,hk,rfl⟩:=hx;unfold f_stats_levels_l1;refine Lvs.ite (λhi=>?_) λhi=>Lvs.cond rfl (Lvs.out ?_)
 .have hi:=of_decide_eq_true hi;have hi:(k:Int)<a.Levels.Levels.length:=hi;have w1:IntKind.i64.wrap ((k:Int)+1)=((k+1:Nat):Int):=by rw[wr (by omega) (by omega)];omega
  refine Lvs.ix (by simp) hi λw hw=>?_;have hw:a.Levels.Levels[k]?=some w:=by simpa using hw
  have hv:=h.1.2.2.2.1 w (mem_of_get hw);refine Lvs.eq (counted w.Runs hv.1 (vok_runs hv)) (Lvs.eq (lvE a h k) (Lvs.cond rfl (Lvs.cond rfl (Lvs.cond ?_ (Lvs.cond rfl (Lvs.rec ⟨⟨k+1,by omega,?_⟩,?_⟩))))));.show 2*(((les a k).length+1)*40)<=281474976710656;rw[les_len];omega
  .rw[les_succ,w1];have :le a k=⟨(w.Runs.length:Int),(su eR w.Runs:Int),(su dR w.Runs:Int),(lv a k).2==0,(lv a k).1⟩:=by unfold le;rw[hw,(lvB a h k).2.2.1]
   rw[this]
  .show a.Levels.Levels.length-(IntKind.i64.wrap ((k:Int)+1)).toNat<a.Levels.Levels.length-(k:Int).toNat;rw[w1];omega
 .have hi:=ndec hi;have hi:¬(k:Int)<a.Levels.Levels.length:=hi;have :k=a.Levels.Levels.length:=by omega
  rw[this]
theorem sum2(x y:Int)(hx:0<=x/\x<=1000000000)(hy:0<=y/\y<=1000000000):Evs (λfu=>f_stats_sum fu [x,y]) (·=x+y):=by
 unfold f_stats_sum;refine Evs.eq (r:=x+y) (Evs.from 3 (λn=>?_) rfl) (Evs.ret rfl);have s0:IntKind.i64.wrap 1=1:=by decide
 have s1:IntKind.i64.wrap (1+1)=2:=by decide
 have s2:IntKind.i64.wrap 2=2:=by decide
 have e1:IntKind.i64.wrap x=x:=wr (by omega) (by omega);have e2:IntKind.i64.wrap (x+y)=x+y:=wr (by omega) (by omega);show lpc _ (n+1+1+1) _=_;rw[lpc_succ,f_stats_sum_l1];simp[ix,e1,s0];rw[lpc_succ,f_stats_sum_l1];simp[ix,e2,s0,s1,s2];rw[lpc_succ,f_stats_sum_l1];simp
end Go.L
end
section
set_option linter.unusedSimpArgs false
set_option linter.unusedVariables false
namespace Go.L
open Go Go.AM
theorem sm_le{f:Nat->Int}{m:Int}(h:∀i,0<=f i/\f i<=m)(n:Nat)(hn:n<=12)(hm:0<=m)(hm2:m<=10001):0<=sm f n/\sm f n<=200000:=by have :=sm_bound h n;refine⟨this.1,Int.le_trans this.2 ?_⟩;have h1:(n:Int)*m<=12*m:=Int.mul_le_mul_of_nonneg_right (by omega) hm;omega
theorem ofLoop(a:TApiJbState)(h:JobsOk a)(e d:Int)(he:0<=e/\e<=10000)(hd:0<=d/\d<=10000):Evs (λfu=>lpc (f_stats_Of_l1 (les a a.Levels.Levels.length)) fu (0,e,d,0,0)) (·=(e+sm (λi=>(le a i).Entries) a.Levels.Levels.length,d+sm (λi=>(le a i).Dead) a.Levels.Levels.length,sm (λi=>(le a i).Runs) a.Levels.Levels.length,(a.Levels.Levels.length:Int))):=by
 have hL:=h.1.2.2.1;generalize hN:a.Levels.Levels.length=N at hL⊢;refine Evs.loop (λx=>∃k:Nat,k<=N/\x=((k:Int),e+sm (λi=>(le a i).Entries) k,d+sm (λi=>(le a i).Dead) k,sm (λi=>(le a i).Runs) k,(k:Int))) (λx=>N-x.1.toNat) (λx hx=>?_) ⟨0,Nat.zero_le _,by simp[sm]⟩;obtain⟨k,hk,rfl⟩:=hx;unfold f_stats_Of_l1;have r1:=sm_le (λi=>(le_b a h i).1) k (by omega) (by decide) (by decide);have r2:=sm_le (λi=>(le_b a h i).2.1) k (by omega) (by decide) (by decide);have r3:=sm_le (λi=>(le_b a h i).2.2.1) k (by omega) (by decide) (by decide);refine Lvs.ite (λhi=>?_) λhi=>Lvs.out ?_
 .have hi:=of_decide_eq_true hi;have hi:(k:Int)<(les a N).length:=hi;rw[les_len]at hi;have w1:IntKind.i64.wrap ((k:Int)+1)=((k+1:Nat):Int):=by rw[wr (by omega) (by omega)];omega
  refine Lvs.ix (by simp) (by rw[les_len];exact hi) λw hw=>?_;have hw:=les_get a hw;have hw:w=le a k:=hw;subst hw;have q:=le_b a h k;refine Lvs.cond rfl (Lvs.eq (sum2 _ _ (by simp only;omega) (by omega)) (Lvs.cond rfl (Lvs.eq (sum2 _ _ (by simp only;omega) (by omega)) (Lvs.cond rfl (Lvs.eq (sum2 _ _ (by simp only;omega) (by omega)) (Lvs.rec ⟨⟨k+1,by omega,?_⟩,?_⟩))))));.simp only;rw[w1];simp only[sm,Prod.mk.injEq,true_and,and_true];omega
  .show N-(IntKind.i64.wrap ((k:Int)+1)).toNat<N-(k:Int).toNat;rw[w1];omega
 .have hi:=ndec hi;have hi:¬(k:Int)<(les a N).length:=hi;rw[les_len]at hi;have :k=N:=by omega
  subst this;rfl
end Go.L
end
section
set_option linter.unusedSimpArgs false
set_option linter.unusedVariables false
namespace Go.L
open Go Go.AM
abbrev Tt{α:Type}(g:Nat->Option α):Prop:=Evs g λ_=>True
theorem Evs.loopT{α X Y:Type}{step:Nat->(X->Option Y)->X->Option Y}{x0:X}(l:List α)(ixf:X->Int)(hs:Sz l)(hx:ixf x0=0)(h:∀x,At l (ixf x)->Lvs (λn rec=>step n rec x) (λx'=>ixf x'=IntKind.i64.wrap (ixf x+1)/\ixf x<(l.length:Int)) (λ_=>True)):Tt (λfu=>lpc step fu x0):=by
 refine Evs.loop (λx=>At l (ixf x)) (λx=>((l.length:Int)-ixf x).toNat) (λx ha=>?_) (by rw[hx];exact At.zero hs);obtain⟨N,h1⟩:=h x ha;refine⟨N,?_⟩;rcases h1 with⟨x',⟨q1,q2⟩,q3⟩|h1;.have :=ha.next q2;exact .inl ⟨x',⟨by rw[q1];exact this.1,by rw[q1];exact this.2⟩,q3⟩
 .exact .inr h1
theorem bufferCheck(a:TApiBfBuffer)(hs:Sz a.Entries):Evs (λfu=>f_buffer_Check fu a) λr=>r.2=0->a.Entries.length<=16:=by
 unfold f_buffer_Check;refine Evs.seq (P:=λb=>b=false->a.Most<=16) (Evs.ite (λ_=>Evs.ret (by simp)) λ_=>Evs.ret (by simp)) λb hb=>?_;refine Evs.ite (λ_=>Evs.ret (by simp)) λhb2=>?_;have hm:=hb (by simpa using hb2);refine Evs.ite (λ_=>Evs.ret (by simp)) λh3=>?_;have h3:=ndec h3;refine Evs.seq (P:=λ_=>True) (Evs.loopT a.Entries id hs rfl λx ha=>?_) λy _=>by cases y<;>exact Evs.ret λ_=>by omega
 unfold f_buffer_Check_l1;refine Lvs.ite (λhi=>?_) λ_=>Lvs.out trivial;have hi:=of_decide_eq_true hi;refine Lvs.ix ha.1 hi λv hv=>Lvs.seq (entriesCheck v) λr _=>?_;refine Lvs.ite (λ_=>Lvs.out trivial) λ_=>?_;refine Lvs.seq (P:=λ_=>True) (Evs.ite (λh0=>?_) λ_=>Evs.ret trivial) λc _=>Lvs.ite (λ_=>Lvs.out trivial) λ_=>Lvs.rec ⟨rfl,hi⟩;have h0:=of_decide_eq_true h0;have h0:0<x:=h0;have a1:=ha.2.1;have a2:=ha.2.2;simp only[id]at a1 a2 hi;rw[wr (n:=x-1) (by omega) (by omega)];exact Evs.ix (by omega) (by omega) λ_ _=>Evs.ret trivial
theorem pressureCheck(a:TApiPrFront)(h1:Sz a.Buffer.Entries)(h2:SzL a.Jobs.Levels)(h3:Sz a.Jobs.Jobs):Evs (λfu=>f_pressure_Check fu a) λr=>r=0->a.Buffer.Entries.length<=16/\JobsOk a.Jobs:=by unfold f_pressure_Check;refine Evs.seq (bufferCheck _ h1) λr hr=>Evs.ite (λh=>Evs.ret λe=>absurd e (by simpa using h)) λh=>?_;have hr:=hr (by simpa using h);refine Evs.seq (jobsCheckOk a.Jobs h2 h3) λr2 hr2=>Evs.ite (λh=>Evs.ret λe=>absurd e (by simpa using h)) λh=>?_;have hr2:=hr2 (by simpa using h);exact Evs.ite (λ_=>Evs.ret (by simp)) λ_=>Evs.ret λ_=>⟨hr,hr2⟩
theorem handlesCheck(a:TApiHnTable)(hs:Sz a.Slots):Evs (λfu=>f_handles_Check fu a) λr=>r.2=0->a.Slots.length<=16:=by
 unfold f_handles_Check;refine Evs.seq (P:=λb=>b=false->a.Most<=16) (Evs.ite (λ_=>Evs.ret (by simp)) λ_=>Evs.ret (by simp)) λb hb=>?_;refine Evs.ite (λ_=>Evs.ret (by simp)) λhb2=>?_;have hm:=hb (by simpa using hb2);refine Evs.ite (λ_=>Evs.ret (by simp)) λh3=>?_;have h3:=ndec h3;refine Evs.seq (P:=λ_=>True) (Evs.loopT a.Slots id hs rfl λx ha=>?_) λy _=>by cases y<;>exact Evs.ret λ_=>by omega
 unfold f_handles_Check_l1;refine Lvs.ite (λhi=>?_) λ_=>Lvs.out trivial;have hi:=of_decide_eq_true hi;refine Lvs.ix ha.1 hi λv hv=>?_;exact Lvs.seq (P:=λ_=>True) (Evs.ite (λ_=>Evs.ret trivial) λ_=>Evs.ret trivial) λc _=>Lvs.ite (λ_=>Lvs.out trivial) λ_=>Lvs.rec ⟨rfl,hi⟩
def SzV(a:TApiVsView):Prop:=Sz a.Buffer/\Sz a.Runs/\ ∀r∈a.Runs,Sz r.Entries
def WOk(a:TApiVsView):Prop:=LOk a.Buffer/\a.Buffer.length<=16/\a.Runs.length<=24/\ ∀r∈a.Runs,LOk r.Entries
theorem versionsCheck(a:TApiVsView)(hs:SzV a):Evs (λfu=>f_versions_Check fu a) λr=>r.2=0->WOk a:=by
 unfold f_versions_Check;refine Evs.ite (λ_=>Evs.ret (by simp)) λh1=>?_;have h1:=ndec h1;refine Evs.seq (checkList _ hs.1) λr hr=>Evs.ite (λh=>Evs.ret λe=>absurd e (by simpa using h)) λh=>?_;refine Evs.ite (λ_=>Evs.ret (by simp)) λh2=>?_;have h2:=ndec h2;refine Evs.seq (P:=λy=>match y with|.inl v=>v.2≠0|.inr _=>∀r∈a.Runs,LOk r.Entries) (Evs.loop (λx=>At a.Runs x/\Seen a.Runs (λr=>LOk r.Entries) x) (λx=>((a.Runs.length:Int)-x).toNat) (λx hx=>?_) ⟨At.zero hs.2.1,Seen.zero⟩) λy hy=>?_
 .obtain⟨ha,hse⟩:=hx;unfold f_versions_Check_l1;refine Lvs.ite (λhi=>?_) λhi=>Lvs.out (hse.all (by simpa using hi));have hi:=of_decide_eq_true hi;refine Lvs.ix ha.1 hi λv hv=>Lvs.seq (runsCheck v (hs.2.2 v (mem_of_get hv))) λr hr=>?_;refine Lvs.ite (λh=>Lvs.out (by simpa using h)) λh=>Lvs.cond ⟨ha.1,by omega⟩ ?_;have hr:=hr (by simpa using h);have hz:=hs.2.1;refine Lvs.seq (P:=λ_=>True) (Evs.loopT (a.Runs.take x.toNat) id (by unfold Sz;rw[List.length_take];omega) rfl λz hz=>?_) λy _=>?_;.unfold f_versions_Check_l2;refine Lvs.ite (λhi=>?_) λ_=>Lvs.out trivial;have hi:=of_decide_eq_true hi;exact Lvs.ix hz.1 hi λu hu=>Lvs.ite (λ_=>Lvs.out trivial) λ_=>Lvs.rec ⟨rfl,hi⟩
  .have nx:(At a.Runs (IntKind.i64.wrap (x+1))/\Seen a.Runs (λr=>LOk r.Entries) (IntKind.i64.wrap (x+1)))/\((a.Runs.length:Int)-IntKind.i64.wrap (x+1)).toNat<((a.Runs.length:Int)-x).toNat:=⟨⟨(ha.next hi).1,hse.next ha hi hv hr.2.2⟩,(ha.next hi).2⟩;cases y with|inl q=>exact Lvs.ite (λ_=>Lvs.out (by simp)) λ_=>Lvs.rec nx|inr q=>exact Lvs.rec nx
 .cases y with|inl q=>exact Evs.ret λe=>absurd e hy|inr q=>exact Evs.ret λ_=>⟨hr (by simpa using h),by omega,by omega,hy⟩
theorem eqE3(l m:List TApiEntry)(h:Sz m):Evs (λfu=>f_slices_Equal_api_Entry_api_Entry fu l m) λr=>r=true->l=m:=by
 by_cases e:l.length=m.length;.exact eqE2 l m (by unfold Sz;omega)
 .unfold f_slices_Equal_api_Entry_api_Entry;exact Evs.ite (λ_=>Evs.ret (by simp)) λh=>absurd (by simp;omega) h
end Go.L
end
section
set_option linter.unusedSimpArgs false
set_option linter.unusedVariables false
namespace Go.L
open Go Go.AM
def SzJ(j:TApiJbJob):Prop:=Sz j.Work.Out/\Sz j.Work.Merge.Runs/\ ∀r∈j.Work.Merge.Runs,Sz r
def SzF(a:TApiPrFront):Prop:=Sz a.Buffer.Entries/\SzL a.Jobs.Levels/\Sz a.Jobs.Jobs/\ ∀j∈a.Jobs.Jobs,SzJ j
def SzT(a:TApiVsTable):Prop:=Sz a.Pins.Slots/\Sz a.Cursors.Slots/\(Sz a.Pinned/\ ∀v∈a.Pinned,SzV v)/\(Sz a.Opened/\ ∀v∈a.Opened,SzV v)
theorem orT{c:Bool}{x:Bool}:Tt (λ_=>if c=true then some true else some x):=Evs.ite (λ_=>Evs.ret trivial) λ_=>Evs.ret trivial
theorem farFront(a:TApiPrFront)(hs:SzF a):Tt (λfu=>f_law25_FarFront fu a):=by
 obtain⟨h1,h2,h3,h4⟩:=hs;unfold f_law25_FarFront;refine Evs.seq (farEntries _ _ h1) λ_ _=>Evs.seq orT λ_ _=>Evs.seq orT λ_ _=>Evs.ite (λ_=>Evs.ret trivial) λ_=>?_;refine Evs.seq (P:=λ_=>True) (Evs.loopT a.Jobs.Levels.Levels id h2.1 rfl λx ha=>?_) λy _=>?_
 .unfold f_law25_FarFront_l1;refine Lvs.ite (λhi=>?_) λ_=>Lvs.out trivial;have hi:=of_decide_eq_true hi;refine Lvs.ix ha.1 hi λv hv=>Lvs.ite (λ_=>Lvs.out trivial) λ_=>?_;have hl:=h2.2 v (mem_of_get hv);refine Lvs.seq (P:=λ_=>True) (Evs.loopT v.Runs id hl.1 rfl λz hz=>?_) λy _=>by cases y<;>first|exact Lvs.out trivial|exact Lvs.rec ⟨rfl,hi⟩
  unfold f_law25_FarFront_l2;refine Lvs.ite (λhj=>?_) λ_=>Lvs.out trivial;have hj:=of_decide_eq_true hj;exact Lvs.ix hz.1 hj λr hr=>Lvs.seq (farEntries _ _ (hl.2 r (mem_of_get hr))) λ_ _=>Lvs.ite (λ_=>Lvs.out trivial) λ_=>Lvs.rec ⟨rfl,hj⟩
 .cases y with
   |inl q=>exact Evs.ret trivial
   |inr q=>
    refine Evs.seq (P:=λ_=>True) (Evs.loopT a.Jobs.Jobs id h3 rfl λx ha=>?_) λy _=>by cases y<;>exact Evs.ret trivial
    unfold f_law25_FarFront_l3;refine Lvs.ite (λhi=>?_) λ_=>Lvs.out trivial;have hi:=of_decide_eq_true hi;refine Lvs.ix ha.1 hi λv hv=>?_;obtain⟨g1,g2,g3⟩:=h4 v (mem_of_get hv);refine Lvs.seq (farEntries _ _ g1) λ_ _=>Lvs.seq orT λ_ _=>Lvs.seq orT λ_ _=>Lvs.seq orT λ_ _=>Lvs.seq orT λ_ _=>Lvs.seq orT λ_ _=>Lvs.ite (λ_=>Lvs.out trivial) λ_=>?_;refine Lvs.seq (P:=λ_=>True) (Evs.loopT v.Work.Merge.Runs id g2 rfl λz hz=>?_) λy _=>by cases y<;>first|exact Lvs.out trivial|exact Lvs.rec ⟨rfl,hi⟩
    unfold f_law25_FarFront_l4;refine Lvs.ite (λhj=>?_) λ_=>Lvs.out trivial;have hj:=of_decide_eq_true hj;exact Lvs.ix hz.1 hj λr hr=>Lvs.seq (farEntries _ _ (g3 r (mem_of_get hr))) λ_ _=>Lvs.ite (λ_=>Lvs.out trivial) λ_=>Lvs.rec ⟨rfl,hj⟩
theorem far(a:TApiVsView)(hs:SzV a):Tt (λfu=>f_law25_Far fu a):=by
 unfold f_law25_Far;refine Evs.seq (farEntries _ _ hs.1) λ_ _=>Evs.seq orT λ_ _=>Evs.ite (λ_=>Evs.ret trivial) λ_=>?_;refine Evs.seq (P:=λ_=>True) (Evs.loopT a.Runs (·.2) hs.2.1 rfl λx ha=>?_) λy _=>by cases y<;>exact Evs.ret trivial
 unfold f_law25_Far_l1;refine Lvs.ite (λhi=>?_) λ_=>Lvs.out trivial;have hi:=of_decide_eq_true hi;exact Lvs.ix ha.1 hi λv hv=>Lvs.ix ha.1 hi λr hr=>Lvs.seq (farEntries _ _ (hs.2.2 r (mem_of_get hr))) λ_ _=>Lvs.seq orT λ_ _=>Lvs.ite (λ_=>Lvs.out trivial) λ_=>Lvs.rec ⟨rfl,hi⟩
theorem farTable(a:TApiVsTable)(hs:SzT a):Tt (λfu=>f_law25_FarTable fu a):=by
 obtain⟨h1,h2,⟨h3,h4⟩,h5,h6⟩:=hs;unfold f_law25_FarTable;refine Evs.seq orT λ_ _=>Evs.seq orT λ_ _=>Evs.seq orT λ_ _=>Evs.ite (λ_=>Evs.ret trivial) λ_=>?_;refine Evs.seq (P:=λ_=>True) (Evs.loopT a.Pinned id h3 rfl λx ha=>?_) λy _=>?_;.unfold f_law25_FarTable_l1;refine Lvs.ite (λhi=>?_) λ_=>Lvs.out trivial;have hi:=of_decide_eq_true hi;exact Lvs.ix ha.1 hi λr hr=>Lvs.seq (far _ (h4 r (mem_of_get hr))) λ_ _=>Lvs.ite (λ_=>Lvs.out trivial) λ_=>Lvs.rec ⟨rfl,hi⟩
 .cases y with
   |inl q=>exact Evs.ret trivial
   |inr q=>
    refine Evs.seq (P:=λ_=>True) (Evs.loopT a.Opened id h5 rfl λx ha=>?_) λy _=>by cases y<;>exact Evs.ret trivial
    unfold f_law25_FarTable_l2;refine Lvs.ite (λhi=>?_) λ_=>Lvs.out trivial;have hi:=of_decide_eq_true hi;exact Lvs.ix ha.1 hi λr hr=>Lvs.seq (far _ (h6 r (mem_of_get hr))) λ_ _=>Lvs.ite (λ_=>Lvs.out trivial) λ_=>Lvs.rec ⟨rfl,hi⟩
theorem far31(a:TApiMpState)(h1:SzF a.Front)(h2:SzT a.Table):Tt (λfu=>f_law31_Far fu a):=by unfold f_law31_Far;refine Evs.seq (farFront _ h1) λ_ _=>Evs.seq (P:=λ_=>True) (Evs.ite (λ_=>Evs.ret trivial) λ_=>Evs.seq (farTable _ h2) λ_ _=>Evs.ret trivial) λ_ _=>?_;exact Evs.seq (P:=λ_=>True) (Evs.ite (λ_=>Evs.ret trivial) λ_=>Evs.ret trivial) λ_ _=>Evs.ret trivial
def TOk(a:TApiVsTable):Prop:=(a.Pins.Slots.length<=16/\a.Cursors.Slots.length<=16)/\(a.Pinned.length=a.Pins.Slots.length/\a.Opened.length=a.Cursors.Slots.length)/\(∀v∈a.Pinned,WOk v)/\ ∀v∈a.Opened,WOk v
theorem ctMap4(v:TApiVsView)(hs:SzV v)(m:List (Int×List TApiEntry)):Tt (λfu=>lpc (f_versions_CheckTable_l4 v) fu (0,m)):=by refine Evs.loopT v.Runs (·.1) hs.2.1 rfl λx ha=>?_;unfold f_versions_CheckTable_l4;refine Lvs.ite (λhi=>?_) λ_=>Lvs.out trivial;have hi:=of_decide_eq_true hi;refine Lvs.ix ha.1 hi λr hr=>?_;refine Lvs.seq (P:=λ_=>True) (Evs.ite (λ_=>Evs.seq (eqE3 _ _ (hs.2.2 r (mem_of_get hr))) λ_ _=>Evs.ret trivial) λ_=>Evs.ret trivial) λ_ _=>?_;exact Lvs.ite (λ_=>Lvs.out trivial) λ_=>Lvs.rec ⟨rfl,hi⟩
theorem checkTable(a:TApiVsTable)(hs:SzT a):Evs (λfu=>f_versions_CheckTable fu a) λr=>r=0->TOk a:=by
 obtain⟨h1,h2,⟨h3,h4⟩,h5,h6⟩:=hs;unfold f_versions_CheckTable;refine Evs.seq (handlesCheck _ h1) λr hr=>Evs.ite (λh=>Evs.ret λe=>absurd e (by simpa using h)) λh=>?_;have p1:=hr (by simpa using h);refine Evs.seq (handlesCheck _ h2) λr hr=>Evs.ite (λh=>Evs.ret λe=>absurd e (by simpa using h)) λh=>?_;have p2:=hr (by simpa using h);refine Evs.seq (P:=λ_=>True) (Evs.ite (λ_=>Evs.ret trivial) λ_=>Evs.ret trivial) λ_ _=>Evs.ite (λ_=>Evs.ret (by simp)) λ_=>?_;refine Evs.ite (λ_=>Evs.ret (by simp)) λq1=>Evs.ite (λ_=>Evs.ret (by simp)) λq2=>?_;have q1:a.Pinned.length=a.Pins.Slots.length:=by simp at q1;omega
 have q2:a.Opened.length=a.Cursors.Slots.length:=by simp at q2;omega
 refine Evs.seq (P:=λy=>match y with|.inl v=>v≠0|.inr _=>∀v∈a.Pinned,WOk v) (Evs.loop (λx=>At a.Pinned x/\Seen a.Pinned WOk x) (λx=>((a.Pinned.length:Int)-x).toNat) (λx hx=>?_) ⟨At.zero h3,Seen.zero⟩) λy hy=>?_;.obtain⟨ha,hse⟩:=hx;unfold f_versions_CheckTable_l1;refine Lvs.ite (λhi=>?_) λhi=>Lvs.out (hse.all (by simpa using hi));have hi:=of_decide_eq_true hi;refine Lvs.ix ha.1 hi λv hv=>Lvs.seq (versionsCheck v (h4 v (mem_of_get hv))) λr hr=>Lvs.ite (λh=>Lvs.out (by simpa using h)) λh=>?_;have hr:=hr (by simpa using h);refine Lvs.ix ha.1 (by omega) λu _=>?_;exact Lvs.seq (P:=λ_=>True) (Evs.ite (λ_=>Evs.ret trivial) λ_=>Evs.ret trivial) λ_ _=>Lvs.ite (λ_=>Lvs.out (by simp)) λ_=>Lvs.rec ⟨⟨(ha.next hi).1,hse.next ha hi hv hr⟩,(ha.next hi).2⟩
 cases y with
  |inl q=>exact Evs.ret λe=>absurd e hy
  |inr q=>
   refine Evs.seq (P:=λy=>match y with|.inl v=>v≠0|.inr _=>∀v∈a.Opened,WOk v) (Evs.loop (λx=>At a.Opened x/\Seen a.Opened WOk x) (λx=>((a.Opened.length:Int)-x).toNat) (λx hx=>?_) ⟨At.zero h5,Seen.zero⟩) λz hz=>?_;.obtain⟨ha,hse⟩:=hx;unfold f_versions_CheckTable_l2;refine Lvs.ite (λhi=>?_) λhi=>Lvs.out (hse.all (by simpa using hi));have hi:=of_decide_eq_true hi;refine Lvs.ix ha.1 hi λv hv=>Lvs.seq (versionsCheck v (h6 v (mem_of_get hv))) λr hr=>Lvs.ite (λh=>Lvs.out (by simpa using h)) λh=>?_;have hr:=hr (by simpa using h);refine Lvs.ix ha.1 (by omega) λu _=>?_;exact Lvs.seq (P:=λ_=>True) (Evs.ite (λ_=>Evs.ret trivial) λ_=>Evs.ret trivial) λ_ _=>Lvs.ite (λ_=>Lvs.out (by simp)) λ_=>Lvs.rec ⟨⟨(ha.next hi).1,hse.next ha hi hv hr⟩,(ha.next hi).2⟩
   cases z with
    |inl q=>exact Evs.ret λe=>absurd e hz
    |inr q=>
     have ok:TOk a:=⟨⟨p1,p2⟩,⟨q1,q2⟩,hy,hz⟩;refine Evs.seq (P:=λ_=>True) (Evs.loopT a.Pinned (·.1) h3 rfl λx ha=>?_) λy _=>?_;.unfold f_versions_CheckTable_l3;refine Lvs.ite (λhi=>?_) λ_=>Lvs.out trivial;have hi:=of_decide_eq_true hi;refine Lvs.ix ha.1 hi λv hv=>Lvs.seq (ctMap4 v (h4 v (mem_of_get hv)) _) λy _=>?_;cases y with|inl q=>exact Lvs.ite (λ_=>Lvs.out trivial) λ_=>Lvs.rec ⟨rfl,hi⟩|inr q=>exact Lvs.rec ⟨rfl,hi⟩
     cases y with
      |inl q=>exact Evs.ret λ_=>ok
      |inr q=>
       refine Evs.seq (P:=λ_=>True) (Evs.loopT a.Opened (·.1) h5 rfl λx ha=>?_) λy _=>by cases y<;>exact Evs.ret λ_=>ok
       unfold f_versions_CheckTable_l5;refine Lvs.ite (λhi=>?_) λ_=>Lvs.out trivial;have hi:=of_decide_eq_true hi;refine Lvs.ix ha.1 hi λv hv=>Lvs.seq (ctMap4 v (h6 v (mem_of_get hv)) _) λy _=>?_;cases y with|inl q=>exact Lvs.ite (λ_=>Lvs.out trivial) λ_=>Lvs.rec ⟨rfl,hi⟩|inr q=>exact Lvs.rec ⟨rfl,hi⟩
end Go.L
end
section
set_option linter.unusedSimpArgs false
set_option linter.unusedVariables false
namespace Go.L
open Go Go.AM
theorem keysAll(l:List (List UInt8))(hs:Sz l):Tt (λfu=>f_keys_all fu l):=by
 unfold f_keys_all;refine Evs.seq (P:=λ_=>True) (Evs.loopT l id hs rfl λx ha=>?_) λy _=>by cases y<;>exact Evs.ret trivial
 unfold f_keys_all_l1;refine Lvs.ite (λhi=>?_) λ_=>Lvs.out trivial;have hi:=of_decide_eq_true hi;exact Lvs.ix ha.1 hi λv _=>Lvs.seq (keysCheck v) λ_ _=>Lvs.ite (λ_=>Lvs.out trivial) λ_=>Lvs.rec ⟨rfl,hi⟩
theorem checkRange(a:TApiKeRange):Tt (λfu=>f_keys_CheckRange fu a):=by unfold f_keys_CheckRange;refine Evs.cond rfl (Evs.seq (keysAll _ (by simp)) λ_ _=>Evs.ite (λ_=>Evs.ret trivial) λ_=>?_);exact Evs.seq (P:=λ_=>True) (Evs.ite (λ_=>Evs.ret trivial) λ_=>Evs.ret trivial) λ_ _=>Evs.ite (λ_=>Evs.ret trivial) λ_=>Evs.ret trivial
theorem scancheck(a:TApiVsView)(r:TApiKeRange)(hs:SzV a):Tt (λfu=>f_scan_check fu a r):=by unfold f_scan_check;exact Evs.seq (versionsCheck a hs) λ_ _=>Evs.ite (λ_=>Evs.ret trivial) λ_=>Evs.seq (checkRange r) λ_ _=>Evs.ret trivial
theorem keysIn(r:TApiKeRange)(k:List UInt8):Tt (λfu=>f_keys_In fu r k):=by unfold f_keys_In;refine Evs.seq (checkRange r) λ_ _=>Evs.seq (P:=λ_=>True) (Evs.ite (λ_=>Evs.seq (keysCheck k) λ_ _=>Evs.ret trivial) λ_=>Evs.ret trivial) λ_ _=>Evs.ite (λ_=>Evs.ret trivial) λ_=>?_;refine Evs.seq (P:=λ_=>True) (Evs.ite (λ_=>?_) λ_=>Evs.ret trivial) λ_ _=>Evs.ret trivial;exact Evs.seq (P:=λ_=>True) (Evs.ite (λ_=>Evs.ret trivial) λ_=>Evs.ret trivial) λ_ _=>Evs.ret trivial
theorem scanCheck(a:TApiVsView)(c:TApiCuState)(hs:SzV a):Tt (λfu=>f_scan_Check fu a c):=by unfold f_scan_Check;refine Evs.seq (scancheck a _ hs) λ_ _=>Evs.ite (λ_=>Evs.ret trivial) λ_=>Evs.seq (keysCheck _) λ_ _=>Evs.ite (λ_=>Evs.ret trivial) λ_=>Evs.ite (λ_=>Evs.ite (λ_=>Evs.ret trivial) λ_=>Evs.ret trivial) λ_=>?_;refine Evs.seq (keysIn _ _) λ_ _=>Evs.seq (P:=λ_=>True) (Evs.ite (λ_=>Evs.ret trivial) λ_=>Evs.ret trivial) λ_ _=>Evs.ite (λ_=>Evs.ret trivial) λ_=>Evs.ret trivial
def RsOk(l:List TApiRun):Prop:=∀r∈l,LOk r.Entries/\Sz r.Entries
theorem newest(a:TApiLvLevels)(hs:SzL a):Evs (λfu=>f_levels_Newest fu a) λr=>r.1.length<=24/\RsOk r.1:=by
 unfold f_levels_Newest;refine Evs.seq (levelsCheck a hs) λr hr=>Evs.ite (λ_=>Evs.ret ⟨by simp,λr hr=>by cases hr⟩) λh=>?_;obtain⟨_,_,hL,hV⟩:=hr (by simpa using h);refine Evs.seq (P:=λy=>y.length<=24/\RsOk y) (Evs.loop (λx=>∃k:Nat,k<=a.Levels.length/\x.1=(k:Int)/\x.2.length<=2*k/\RsOk x.2) (λx=>a.Levels.length-x.1.toNat) (λx hx=>?_) ⟨0,Nat.zero_le _,rfl,by simp,λr hr=>by cases hr⟩) λy hy=>Evs.cond rfl (Evs.ret hy);obtain⟨k,hk,e,hl,ho⟩:=hx;obtain⟨x1,x2⟩:=x;have e:x1=(k:Int):=e;subst e;simp only at hl ho;unfold f_levels_Newest_l1;refine Lvs.ite (λhi=>?_) λhi=>Lvs.cond rfl (Lvs.out ⟨by simp only;omega,ho⟩);have hi:=of_decide_eq_true hi;have hi:(k:Int)<a.Levels.length:=hi;have w1:IntKind.i64.wrap ((k:Int)+1)=((k+1:Nat):Int):=by rw[wr (by omega) (by omega)];omega
 refine Lvs.ix (by simp) hi λv hv=>Lvs.cond rfl ?_;have hm:=mem_of_get hv;have hv2:=hV v hm;have hz:=(hs.2 v hm).2;have h2:=hv2.1;rw[wr (n:=(v.Runs.length:Int)-1) (by omega) (by omega)];refine Lvs.seq (P:=λy=>y.length<=2*k+2/\RsOk y) (Evs.loop (λz=> -1<=z.1/\z.1<(v.Runs.length:Int)/\(z.2.length:Int)<=2*k+(v.Runs.length-1-z.1)/\RsOk z.2) (λz=>(z.1+1).toNat) (λz hz1=>?_) ⟨by omega,by omega,by simp only;omega,ho⟩) λy hy=>Lvs.cond rfl (Lvs.rec ⟨⟨k+1,by omega,w1,by have :=hy.1;simp only;omega,hy.2⟩,?_⟩)
 .obtain⟨z1,z2⟩:=z;simp only at hz1;obtain⟨g1,g2,g3,g4⟩:=hz1;unfold f_levels_Newest_l2;refine Lvs.ite (λhj=>?_) λhj=>Lvs.cond rfl (Lvs.out ⟨by have :=ndec hj;simp only at this⊢;omega,g4⟩);have hj:=of_decide_eq_true hj;have hj:0<=z1:=hj;refine Lvs.ix hj g2 λu hu=>Lvs.cond rfl (Lvs.cond rfl (Lvs.cond (by simp only[List.length_singleton];omega) (Lvs.cond rfl (Lvs.rec ⟨⟨?_,?_,?_,?_⟩,?_⟩))));.simp only;rw[wr (by omega) (by omega)];omega
  .simp only;rw[wr (by omega) (by omega)];omega
  .simp only;rw[wr (by omega) (by omega),List.length_append,List.length_singleton];omega
  .intro r hr;rcases List.mem_append.1 hr with hr|hr;.exact g4 r hr
   .have :r=u:=by simpa using hr
    subst this;exact⟨(hv2.2 r (mem_of_get hu)).2.2.1,hz r (mem_of_get hu)⟩
  .show(IntKind.i64.wrap (z1-1)+1).toNat<(z1+1).toNat;rw[wr (by omega) (by omega)];omega
 .show a.Levels.length-(IntKind.i64.wrap ((k:Int)+1)).toNat<a.Levels.length-(k:Int).toNat;rw[w1];omega
theorem head(a:TApiPrFront)(hs:SzF a):Evs (λfu=>f_versions_Head fu a) λr=>(r.1.Buffer.length<=16/\r.1.Runs.length<=24/\RsOk r.1.Runs):=by unfold f_versions_Head;refine Evs.seq (pressureCheck a hs.1 hs.2.1 hs.2.2.1) λr hr=>Evs.ite (λ_=>Evs.ret ⟨by simp,by simp,λr hr=>by cases hr⟩) λh=>?_;have hr:=hr (by simpa using h);exact Evs.seq (newest _ hs.2.1) λr2 h2=>Evs.ret ⟨hr.1,h2.1,h2.2⟩
theorem latest(l:List TApiEntry)(q:Int)(hs:Sz l):Tt (λfu=>f_store_latest fu l q):=by
 unfold f_store_latest;refine Evs.seq (P:=λ_=>True) (Evs.loopT l id hs rfl λx ha=>?_) λy _=>by cases y<;>exact Evs.ret trivial
 unfold f_store_latest_l1;refine Lvs.ite (λhi=>?_) λ_=>Lvs.out trivial;have hi:=of_decide_eq_true hi;exact Lvs.ix ha.1 hi λv _=>Lvs.ite (λ_=>Lvs.out trivial) λ_=>Lvs.rec ⟨rfl,hi⟩
theorem growOk(n:Int)(h0:0<=n)(h1:n<=1000000000):f_growViews n=some []:=by unfold f_growViews;exact if_pos ⟨h0,h1⟩
theorem views(a:TApiMpState)(h1:SzF a.Front)(h2:SzT a.Table)(ht:TOk a.Table):Evs (λfu=>f_store_views fu a) λr=>r.length<=33/\ ∀v∈r,SzV v/\v.Runs.length<=24:=by
 have t1:=ht.1;have t2:=ht.2.1;have h3:a.Table.Pinned.length<=16:=by omega
 have h4:a.Table.Opened.length<=16:=by omega
 unfold f_store_views;refine Evs.seq (head _ h1) λr hr=>?_;rw[wr (n:=1+(a.Table.Pinned.length:Int)) (by omega) (by omega)];refine Evs.ite (λh=>absurd (of_decide_eq_true h) (by omega)) λ_=>?_;rw[wr (n:=1+(a.Table.Pinned.length:Int)+(a.Table.Opened.length:Int)) (by omega) (by omega)];refine Evs.ite (λh=>absurd (of_decide_eq_true h) (by omega)) λ_=>?_;refine Evs.eq (r:=[]) (Evs.pure (λ_=>growOk _ (by omega) (by omega)) rfl) ?_;refine Evs.cond rfl ?_;refine Evs.cond rfl ?_;refine Evs.cond (by simp) ?_;refine Evs.cond rfl ?_;refine Evs.cond (by simp;omega) ?_;refine Evs.cond rfl ?_;refine Evs.cond (by simp;omega) ?_;refine Evs.cond rfl ?_;refine Evs.ret ⟨?_,?_⟩;.simp;omega
 .intro v hv;simp only[List.nil_append,List.mem_append,List.mem_singleton]at hv;rcases hv with(rfl|hv)|hv;.exact⟨⟨by have :=hr.1;unfold Sz;omega,by have :=hr.2.1;unfold Sz;omega,λx hx=>(hr.2.2 x hx).2⟩,hr.2.1⟩
  .exact⟨h2.2.2.1.2 v hv,(ht.2.2.1 v hv).2.2.1⟩
  .exact⟨h2.2.2.2.2 v hv,(ht.2.2.2 v hv).2.2.1⟩
end Go.L
end
section
set_option linter.unusedSimpArgs false
set_option linter.unusedVariables false
namespace Go.L
open Go Go.AM
def SzS(a:TApiMpState):Prop:=SzF a.Front/\SzT a.Table/\Sz a.Places
def StOk(a:TApiMpState):Prop:=a.Front.Buffer.Entries.length<=16/\JobsOk a.Front.Jobs/\TOk a.Table
theorem storeCheck(a:TApiMpState)(hs:SzS a):Evs (λfu=>f_store_Check fu a) λr=>r=0->StOk a:=by
 obtain⟨h1,h2,h3⟩:=hs;unfold f_store_Check;refine Evs.seq (pressureCheck a.Front h1.1 h1.2.1 h1.2.2.1) λr hr=>Evs.ite (λh=>Evs.ret λe=>absurd e (by simpa using h)) λh=>?_;have p1:=hr (by simpa using h);refine Evs.seq (checkTable a.Table h2) λr hr=>Evs.ite (λh=>Evs.ret λe=>absurd e (by simpa using h)) λh=>?_;have p2:=hr (by simpa using h);have ok:StOk a:=⟨p1.1,p1.2,p2⟩;refine Evs.seq (P:=λ_=>True) (Evs.ite (λ_=>Evs.ret trivial) λ_=>Evs.ret trivial) λ_ _=>?_;refine Evs.seq (P:=λ_=>True) (Evs.ite (λ_=>Evs.ret trivial) λ_=>Evs.ret trivial) λ_ _=>?_;refine Evs.ite (λ_=>Evs.ret λ_=>ok) λ_=>Evs.ite (λ_=>Evs.ret λ_=>ok) λhp=>?_;have hp:a.Places.length=a.Table.Cursors.Slots.length:=by simp at hp;omega
 refine Evs.seq (P:=λ_=>True) (Evs.loopT a.Places id h3 rfl λx ha=>?_) λy _=>?_;.unfold f_store_Check_l1;refine Lvs.ite (λhi=>?_) λ_=>Lvs.out trivial;have hi:=of_decide_eq_true hi;have ho:=p2.2.1.2;have hi2:x<(a.Places.length:Int):=hi;have hx2:id x=x:=rfl;refine Lvs.ix ha.1 hi λv _=>Lvs.ix ha.1 (by omega) λu _=>?_;refine Lvs.seq (P:=λ_=>True) (Evs.ite (λ_=>Evs.ret trivial) λ_=>Evs.ret trivial) λ_ _=>?_;refine Lvs.seq (P:=λ_=>True) (Evs.ite (λ_=>Evs.ret trivial) λ_=>?_) λ_ _=>Lvs.ite (λ_=>Lvs.out trivial) λ_=>Lvs.rec ⟨rfl,hi⟩;refine Evs.seq (P:=λ_=>True) (Evs.ite (λ_=>?_) λ_=>Evs.ret trivial) λ_ _=>Evs.ret trivial;exact Evs.ix ha.1 (by omega) λw hw=>Evs.seq (scanCheck w _ (h2.2.2.2.2 w (mem_of_get hw))) λ_ _=>Evs.ret trivial
 cases y with
  |inl q=>exact Evs.ret λ_=>ok
  |inr q=>
   have q1:=p2.1;have q2:=p2.2.1;refine Evs.seq (views a h1 h2 p2) λl hl=>?_;refine Evs.seq (P:=λ_=>True) (Evs.loopT l id (by have :=hl.1;unfold Sz;omega) rfl λx ha=>?_) λy _=>by cases y<;>exact Evs.ret λ_=>ok
   unfold f_store_Check_l2;refine Lvs.ite (λhi=>?_) λ_=>Lvs.out trivial;have hi:=of_decide_eq_true hi;refine Lvs.ix ha.1 hi λv hv=>?_;have hz:=(hl.2 v (mem_of_get hv)).1;refine Lvs.seq (latest _ _ hz.1) λ_ _=>?_;refine Lvs.seq (P:=λ_=>True) (Evs.loopT v.Runs (·.2) hz.2.1 rfl λz ha=>?_) λ_ _=>Lvs.ite (λ_=>Lvs.out trivial) λ_=>Lvs.rec ⟨rfl,hi⟩;unfold f_store_Check_l3;refine Lvs.ite (λhj=>?_) λ_=>Lvs.out trivial;have hj:=of_decide_eq_true hj;refine Lvs.ix ha.1 hj λr hr=>?_;exact Lvs.seq (P:=λ_=>True) (Evs.ite (λ_=>Evs.seq (latest _ _ (hz.2.2 r (mem_of_get hr))) λ_ _=>Evs.ret trivial) λ_=>Evs.ret trivial) λ_ _=>Lvs.rec ⟨rfl,hj⟩
end Go.L
end
section
set_option linter.unusedSimpArgs false
set_option linter.unusedVariables false
namespace Go.L
open Go Go.AM
theorem viewZeroP(p:TApiVsView->Prop)(a:TApiVsTable)(v:TApiVsView)(hs:SzT a)(hvs:SzV v)(hv:p v)(zv:p ⟨[],[]⟩):Evs (λfu=>f_versions_View fu a v ⟨0,0⟩) λr=>p r.1:=by
 obtain⟨h1,h2,⟨h3,h4⟩,h5,h6⟩:=hs;unfold f_versions_View;refine Evs.seq (P:=λ_=>True) ?_ λy _=>?_
 .refine Evs.seq (handlesCheck _ h1) λr hr=>Evs.ite (λh=>Evs.ite (λ_=>Evs.ret trivial) λ_=>Evs.ret trivial) λh=>?_;refine Evs.seq (handlesCheck _ h2) λr hr=>Evs.ite (λh=>Evs.ite (λ_=>Evs.ret trivial) λ_=>Evs.ret trivial) λh=>?_;refine Evs.seq (P:=λ_=>True) (Evs.ite (λ_=>Evs.ret trivial) λ_=>Evs.ret trivial) λ_ _=>Evs.ite (λ_=>Evs.ret trivial) λ_=>?_;refine Evs.ite (λ_=>Evs.ret trivial) λq1=>Evs.ite (λ_=>Evs.ret trivial) λq2=>?_;have q1:a.Pinned.length=a.Pins.Slots.length:=by simp at q1;omega
  have q2:a.Opened.length=a.Cursors.Slots.length:=by simp at q2;omega
  refine Evs.seq (P:=λ_=>True) (Evs.loopT a.Pinned id h3 rfl λx ha=>?_) λy _=>?_;.unfold f_versions_View_l1;refine Lvs.ite (λhi=>?_) λhi=>Lvs.out trivial;have hi:=of_decide_eq_true hi;have hi2:x<(a.Pinned.length:Int):=hi;have hx2:id x=x:=rfl;refine Lvs.ix ha.1 hi λv hv=>Lvs.seq (versionsCheck v (h4 v (mem_of_get hv))) λr hr=>Lvs.ite (λh=>Lvs.out trivial) λh=>?_;refine Lvs.ix ha.1 (by omega) λu _=>?_;exact Lvs.seq (P:=λ_=>True) (Evs.ite (λ_=>Evs.ret trivial) λ_=>Evs.ret trivial) λ_ _=>Lvs.ite (λ_=>Lvs.out trivial) λ_=>Lvs.rec ⟨rfl,hi⟩
  cases y with
   |inl q=>exact Evs.ite (λ_=>Evs.ret trivial) λ_=>Evs.ret trivial
   |inr q=>
    refine Evs.seq (P:=λ_=>True) (Evs.loopT a.Opened id h5 rfl λx ha=>?_) λy _=>?_;.unfold f_versions_View_l2;refine Lvs.ite (λhi=>?_) λhi=>Lvs.out trivial;have hi:=of_decide_eq_true hi;have hi2:x<(a.Opened.length:Int):=hi;have hx2:id x=x:=rfl;refine Lvs.ix ha.1 hi λv hv=>Lvs.seq (versionsCheck v (h6 v (mem_of_get hv))) λr hr=>Lvs.ite (λh=>Lvs.out trivial) λh=>?_;refine Lvs.ix ha.1 (by omega) λu _=>?_;exact Lvs.seq (P:=λ_=>True) (Evs.ite (λ_=>Evs.ret trivial) λ_=>Evs.ret trivial) λ_ _=>Lvs.ite (λ_=>Lvs.out trivial) λ_=>Lvs.rec ⟨rfl,hi⟩
    cases y with
     |inl q=>exact Evs.ite (λ_=>Evs.ret trivial) λ_=>Evs.ret trivial
     |inr q=>
      refine Evs.seq (P:=λ_=>True) (Evs.loopT a.Pinned (·.1) h3 rfl λx ha=>?_) λy _=>?_;.unfold f_versions_View_l3;refine Lvs.ite (λhi=>?_) λ_=>Lvs.out trivial;have hi:=of_decide_eq_true hi;refine Lvs.ix ha.1 hi λv hv=>Lvs.seq (ctMap4 v (h4 v (mem_of_get hv)) _) λy _=>?_;cases y with|inl q=>exact Lvs.ite (λ_=>Lvs.out trivial) λ_=>Lvs.rec ⟨rfl,hi⟩|inr q=>exact Lvs.rec ⟨rfl,hi⟩
      cases y with
       |inl q=>exact Evs.ite (λ_=>Evs.ret trivial) λ_=>Evs.ret trivial
       |inr q=>
        refine Evs.seq (P:=λ_=>True) (Evs.loopT a.Opened (·.1) h5 rfl λx ha=>?_) λy _=>by cases y<;>first|exact Evs.ret trivial|exact Evs.ite (λ_=>Evs.ret trivial) λ_=>Evs.ret trivial
        unfold f_versions_View_l5;refine Lvs.ite (λhi=>?_) λ_=>Lvs.out trivial;have hi:=of_decide_eq_true hi;refine Lvs.ix ha.1 hi λv hv=>Lvs.seq (ctMap4 v (h6 v (mem_of_get hv)) _) λy _=>?_;cases y with|inl q=>exact Lvs.ite (λ_=>Lvs.out trivial) λ_=>Lvs.rec ⟨rfl,hi⟩|inr q=>exact Lvs.rec ⟨rfl,hi⟩
 .cases y with|inl q=>refine Evs.seq (versionsCheck v hvs) λr _=>Evs.ite (λ_=>Evs.ret zv) λ_=>Evs.ite (λ_=>Evs.ret hv) λh=>absurd (by decide) h|inr q=>exact Evs.ret zv
end Go.L
end
section
set_option linter.unusedSimpArgs false
set_option linter.unusedVariables false
namespace Go.L
open Go Go.AM
theorem mput_len(k:CT){V:Type}:∀(l:List (k.T×V))(a:k.T)(b:V),(mput k l a b).length<=l.length+1
 |[],a,b=>by simp[mput]
 |p::l,a,b=>by
  unfold mput;split;.simp
  .have :=mput_len k l a b;simp only[List.length_cons];omega
theorem dropAt_perm{α:Type}:∀(l:List α)(j:Nat)(a:α),l[j]?=some a->(a::dropAt l j).Perm l
 |[],j,a,h=>by simp at h
 |x::l,0,a,h=>by
  have :x=a:=by simpa using h
  subst this;exact List.Perm.refl _
 |x::l,j+1,a,h=>by have :=dropAt_perm l j a (by simpa using h);exact(List.Perm.swap x a (dropAt l j)).trans (this.cons x)
theorem sortInts_perm{l m:List Int}(h:l.Perm m):(l.mergeSort λa b=>decide (a<=b))=m.mergeSort λa b=>decide (a<=b):=by
 have tr:∀a b c:Int,decide (a<=b)=true->decide (b<=c)=true->decide (a<=c)=true:=λa b c h k=>by simp at*;omega
 have to:∀a b:Int,(decide (a<=b)||decide (b<=a))=true:=λa b=>by simp;omega
 refine List.Perm.eq_of_pairwise (le:=λa b=>decide (a<=b)=true) (λa b _ _ h k=>by simp at h k;omega) (List.pairwise_mergeSort tr to l) (List.pairwise_mergeSort tr to m) ?_;exact(List.mergeSort_perm l _).trans (h.trans (List.mergeSort_perm m _).symm)
def heldF(x:List Int×List (Int×Bool)):List Int×Int:=((x.1++x.2.map (·.1)).mergeSort λa b=>decide (a<=b),0)
theorem heldLoop(x:List Int×List (Int×Bool))(h:x.1.length+x.2.length<=1000000):Evs (λfu=>lpc f_store_Held_l3 fu x) (·=heldF x):=by
 refine Evs.loopF (λx=>x.1.length+x.2.length<=1000000) (λx=>x.2.length) heldF (λx hx=>?_) h;obtain⟨l,m⟩:=x;have hx:l.length+m.length<=1000000:=hx;have good:∀j a,m[j]?=some a->l.length+1+(dropAt m j).length=l.length+m.length:=λj a e=>by have :=(dropAt_perm m j a e).length_eq;simp only[List.length_cons]at this;omega
 refine⟨0,(List.range m.length).map λj=>(l++[(m[j]?.getD (0,false)).1],dropAt m j),λx' hx'=>?_,λn rec _ hr=>?_⟩
 .obtain⟨j,hj,rfl⟩:=List.mem_map.1 hx';have hj:=List.mem_range.1 hj;have e:=List.getElem?_eq_getElem hj;have g:=good j _ e;refine⟨?_,?_,?_⟩;.simp only[List.length_append,List.length_singleton];omega
  .simp only;omega
  .unfold heldF;simp only[e,Option.getD_some];congr 1;refine sortInts_perm ?_;rw[List.append_assoc];refine List.Perm.append_left l ?_;exact(dropAt_perm m j _ e).map (·.1)
 .unfold f_store_Held_l3;refine pick_all (λe=>?_) λj a e=>?_
  .have e:m=[]:=e;subst e;show(if l.length=l.length then f_store_Held_k3 (l,[])else none)=_;rw[if_pos rfl];have hx2:l.length<4611686018427387904:=by simp only[List.length_nil]at hx;omega
   unfold f_store_Held_k3 f_sortInts heldF;simp[hx2]
  .have hj:=(List.getElem?_eq_some_iff.1 e).1;have :=hr (l++[a.1],dropAt m j) (List.mem_map.2 ⟨j,List.mem_range.2 hj,by have e:m[j]?=some a:=e;simp[e]⟩);rw[<-this];have g:2*((l.length+1)*8)<=281474976710656:=by omega
   simp[g]
theorem heldAll(l:List TApiVsView)(hl:l.length<=33)(h:∀v∈l,SzV v/\v.Runs.length<=24):Evs (λfu=>lpc (f_store_Held_l1 l) fu (0,[])) λr=>r.length<=1000:=by
 refine Evs.loop (λx=>∃k:Nat,k<=l.length/\x.1=(k:Int)/\x.2.length<=24*k) (λx=>l.length-x.1.toNat) (λx hx=>?_) ⟨0,Nat.zero_le _,rfl,by simp⟩;obtain⟨x1,x2⟩:=x;obtain⟨k,hk,e,hb⟩:=hx;have e:x1=(k:Int):=e;subst e;have hb:x2.length<=24*k:=hb;unfold f_store_Held_l1;refine Lvs.ite (λhi=>?_) λ_=>Lvs.out (by simp only;omega);have hi:=of_decide_eq_true hi;have hi2:(k:Int)<l.length:=hi;have w1:IntKind.i64.wrap ((k:Int)+1)=((k+1:Nat):Int):=by rw[wr (by omega) (by omega)];omega
 refine Lvs.ix (by simp) hi λv hv=>?_;have hv:=h v (mem_of_get hv);have h24:=hv.2;refine Lvs.seq (P:=λy=>y.length<=x2.length+24) (Evs.loop (λz=>At v.Runs z.1/\(z.2.length:Int)<=x2.length+z.1) (λz=>((v.Runs.length:Int)-z.1).toNat) (λz hz=>?_) ⟨At.zero hv.1.2.1,by simp⟩) λy hy=>Lvs.rec ⟨⟨k+1,by omega,w1,by simp only;omega⟩,?_⟩
 .obtain⟨z1,z2⟩:=z;obtain⟨ha,hb2⟩:=hz;simp only at ha hb2;unfold f_store_Held_l2;have :=ha.2.1;refine Lvs.ite (λhj=>?_) λhj=>Lvs.out (by simp only;omega);have hj:=of_decide_eq_true hj;have hj2:z1<(v.Runs.length:Int):=hj;refine Lvs.ix ha.1 hj λr _=>Lvs.rec ⟨⟨(ha.next hj2).1,?_⟩,(ha.next hj2).2⟩;have q:=mput_len (.i .i64) z2 r.Id true;have q2:z2.length+1<=x2.length+(z1+1).toNat:=by have :=ha.1;omega
  refine Int.le_trans (Int.ofNat_le.2 q) (Int.le_trans (Int.ofNat_le.2 q2) ?_);simp only;rw[ha.nx hj2];have :=ha.1;omega
 .show l.length-(IntKind.i64.wrap ((k:Int)+1)).toNat<l.length-(k:Int).toNat;rw[w1];omega
theorem held(a:TApiMpState)(hs:SzS a):Tt (λfu=>f_store_Held fu a):=by unfold f_store_Held;refine Evs.seq (storeCheck a hs) λr hr=>Evs.ite (λ_=>Evs.ret trivial) λh=>?_;have ok:=hr (by simpa using h);refine Evs.seq (views a hs.1 hs.2.1 ok.2.2) λl hl=>Evs.seq (heldAll l hl.1 hl.2) λm hm=>?_;exact(heldLoop ([],m) (by simp only[List.length_nil];omega)).mono λ_ _=>trivial
end Go.L
end
section
set_option linter.unusedSimpArgs false
set_option linter.unusedVariables false
namespace Go.L
open Go Go.AM
abbrev KM:=List (List UInt8×TApiEntry)
theorem mput_new:∀(m:KM)(a:List UInt8)(b:TApiEntry),mfind .s m a=none->mput .s m a b=m++[(a,b)]/\a∉m.map (·.1)
 |[],a,b,h=>⟨rfl,by simp⟩
 |p::m,a,b,h=>by
  have h:(match CT.s.eqB a p.1 with|true=>some p.2|false=>mfind .s m a)=none:=h;have e:CT.s.eqB a p.1=(a==p.1):=rfl
  cases k:(a==p.1)with
   |true=>rw[e,k]at h;cases h
   |false=>
    rw[e,k]at h;obtain⟨h1,h2⟩:=mput_new m a b h;refine⟨?_,?_⟩;.show(match CT.s.eqB a p.1 with|true=>(a,b)::m|false=>p::mput .s m a b)=_;rw[e,k];show p::mput .s m a b=_;rw[h1];rfl
    .have :a≠p.1:=λq=>by rw[q]at k;simp at k
     simp only[List.map_cons,List.mem_cons,not_or];exact⟨this,h2⟩
def MOk(n:Nat)(m:KM):Prop:=m.length<=n/\(m.map (·.1)).Nodup/\ ∀p∈m,p.1.length<=32
theorem MOk.put{n:Nat}{m:KM}(h:MOk n m)(e:TApiEntry)(he:EOk e)(hn:mfind .s m e.Key=none):MOk (n+1) (mput .s m e.Key e):=by
 obtain⟨h1,h2⟩:=mput_new m e.Key e hn;obtain⟨g1,g2,g3⟩:=h;rw[h1];refine⟨by rw[List.length_append,List.length_singleton];omega,?_,λp hp=>?_⟩
 .rw[List.map_append,List.nodup_append];refine⟨g2,by simp,λa ha b hb=>?_⟩;have :b=e.Key:=by simpa using hb
  subst this;exact λq=>h2 (q▸ha)
 .rcases List.mem_append.1 hp with hp|hp;.exact g3 p hp
  .have :p=(e.Key,e):=by simpa using hp
   subst this;exact he.1
theorem MOk.mono{n k:Nat}{m:KM}(h:MOk n m)(hk:n<=k):MOk k m:=⟨Nat.le_trans h.1 hk,h.2⟩
theorem pairs2(l:List TApiEntry)(hl:l.length<=5000)(h:∀e∈l,EOk e)(n:Nat)(m:KM)(hm:MOk n m):Evs (λfu=>lpc (f_lookup_pairs_l2 l) fu (0,m)) (MOk (n+5000)):=by
 refine Evs.loop (λx=>∃k:Nat,k<=l.length/\x.1=(k:Int)/\MOk (n+k) x.2) (λx=>l.length-x.1.toNat) (λx hx=>?_) ⟨0,Nat.zero_le _,rfl,hm⟩;obtain⟨x1,x2⟩:=x;obtain⟨k,hk,e,hb⟩:=hx;have e:x1=(k:Int):=e;subst e;have hb:MOk (n+k) x2:=hb;unfold f_lookup_pairs_l2;refine Lvs.ite (λhi=>?_) λ_=>Lvs.out (hb.mono (by omega));have hi:=of_decide_eq_true hi;have hi2:(k:Int)<l.length:=hi;have w1:IntKind.i64.wrap ((k:Int)+1)=((k+1:Nat):Int):=by rw[wr (by omega) (by omega)];omega
 have mu:l.length-(IntKind.i64.wrap ((k:Int)+1)).toNat<l.length-(k:Int).toNat:=by rw[w1];omega
 refine Lvs.ix (by simp) hi λv hv=>Lvs.ite (λhc=>Lvs.rec ⟨⟨k+1,by omega,w1,?_⟩,mu⟩) λ_=>Lvs.rec ⟨⟨k+1,by omega,w1,hb.mono (by omega)⟩,mu⟩;refine hb.put v (h v (mem_of_get hv)) ?_
 cases q:mfind .s x2 v.Key with
  |none=>rfl
  |some w=>
   have q2:(mfind .s x2 v.Key).isSome=true:=by rw[q];rfl
   have hc2:(!(mfind .s x2 v.Key).isSome)=true:=hc;rw[q2]at hc2;cases hc2
theorem pairs3(r:TLookupRun)(hl:r.Entries.length<=5000)(h:∀e∈r.Entries,EOk e)(n:Nat)(m:KM)(hm:MOk n m):Evs (λfu=>lpc (f_lookup_pairs_l3 r) fu (0,m)) (MOk (n+5000)):=pairs2 r.Entries hl h n m hm
def pE:Sum (List TApiEntry) TLookupRun->List TApiEntry|.inl l=>l|.inr r=>r.Entries
def PsOk(l:List (Sum (List TApiEntry) TLookupRun)):Prop:=l.length<=25/\ ∀p∈l,(pE p).length<=5000/\ ∀e∈pE p,EOk e
theorem pairs1(l:List (Sum (List TApiEntry) TLookupRun))(h:PsOk l):Evs (λfu=>lpc (f_lookup_pairs_l1 l) fu (0,[])) (MOk 125000):=by
 have hL:=h.1;refine Evs.loop (λx=>∃k:Nat,k<=l.length/\x.1=(k:Int)/\MOk (k*5000) x.2) (λx=>l.length-x.1.toNat) (λx hx=>?_) ⟨0,Nat.zero_le _,rfl,by simp[MOk]⟩;obtain⟨x1,x2⟩:=x;obtain⟨k,hk,e,hb⟩:=hx;have e:x1=(k:Int):=e;subst e;have hb:MOk (k*5000) x2:=hb;unfold f_lookup_pairs_l1;refine Lvs.ite (λhi=>?_) λ_=>Lvs.out (hb.mono (by omega));have hi:=of_decide_eq_true hi;have hi2:(k:Int)<l.length:=hi;have w1:IntKind.i64.wrap ((k:Int)+1)=((k+1:Nat):Int):=by rw[wr (by omega) (by omega)];omega
 have mu:l.length-(IntKind.i64.wrap ((k:Int)+1)).toNat<l.length-(k:Int).toNat:=by rw[w1];omega
 refine Lvs.ix (by simp) hi λv hv=>?_;have hp:=h.2 v (mem_of_get hv);cases v with|inl q=>exact Lvs.seq (pairs2 q hp.1 hp.2 _ _ hb) λy hy=>Lvs.rec ⟨⟨k+1,by omega,w1,hy.mono (by omega)⟩,mu⟩|inr q=>exact Lvs.seq (pairs3 q hp.1 hp.2 _ _ hb) λy hy=>Lvs.rec ⟨⟨k+1,by omega,w1,hy.mono (by omega)⟩,mu⟩
theorem parts(a:TApiVsView)(h:WOk a):Evs (λfu=>f_lookup_parts fu a) PsOk:=by
 obtain⟨h1,h2,h3,h4⟩:=h;unfold f_lookup_parts;refine Evs.cond rfl (Evs.seq (P:=PsOk) (Evs.loop (λx=>∃k:Nat,k<=a.Runs.length/\x.2=(k:Int)/\x.1.length=k+1/\ ∀p∈x.1,(pE p).length<=5000/\ ∀e∈pE p,EOk e) (λx=>a.Runs.length-x.2.toNat) (λx hx=>?_) ⟨0,Nat.zero_le _,rfl,rfl,λp hp=>?_⟩) λy hy=>Evs.cond rfl (Evs.ret hy))
 .obtain⟨x1,x2⟩:=x;obtain⟨k,hk,e,hb,hc⟩:=hx;have e:x2=(k:Int):=e;subst e;have hb:x1.length=k+1:=hb;unfold f_lookup_parts_l1;refine Lvs.ite (λhi=>?_) λ_=>Lvs.cond rfl (Lvs.out ⟨by simp only;omega,hc⟩);have hi:=of_decide_eq_true hi;have hi2:(k:Int)<a.Runs.length:=hi;have w1:IntKind.i64.wrap ((k:Int)+1)=((k+1:Nat):Int):=by rw[wr (by omega) (by omega)];omega
  refine Lvs.ix (by simp) hi λv hv=>Lvs.cond rfl (Lvs.cond rfl (Lvs.cond ?_ (Lvs.cond rfl (Lvs.rec ⟨⟨k+1,by omega,w1,by simp only[List.length_append,List.length_singleton];omega,λp hp=>?_⟩,?_⟩))));.show 2*((x1.length+1)*16)<=281474976710656;omega
  .rcases List.mem_append.1 hp with hp|hp;.exact hc p hp
   .have :p=.inr ⟨v.Id,v.Entries⟩:=by simpa using hp
    subst this;have :=h4 v (mem_of_get hv);exact⟨this.1.1,this.1.2.1⟩
  .show a.Runs.length-(IntKind.i64.wrap ((k:Int)+1)).toNat<a.Runs.length-(k:Int).toNat;rw[w1];omega
 .have :p=.inl a.Buffer:=by simpa using hp
  subst this;exact⟨h1.1.1,h1.1.2.1⟩
end Go.L
end
section
set_option linter.unusedSimpArgs false
set_option linter.unusedVariables false
namespace Go.L
open Go Go.AM
def leK(a b:TApiPair):Bool:=!Op.bytesLess b.Key a.Key
theorem leK_tr(a b c:TApiPair)(h:leK a b=true)(k:leK b c=true):leK a c=true:=by
 unfold leK at*;simp only[Bool.not_eq_true']at*
 cases q:Op.bytesLess c.Key a.Key with
  |false=>rfl
  |true=>
   by_cases e:b.Key=c.Key;.rw[e,q]at h;cases h
   .have :=bl_tri b.Key c.Key e;rw[k]at this;rw[bl_trans _ _ _ this q]at h;cases h
theorem leK_to(a b:TApiPair):(leK a b||leK b a)=true:=by unfold leK;cases q:Op.bytesLess b.Key a.Key with|false=>rfl|true=>rw[bl_as q];rfl
theorem nodup_inj{l:List TApiPair}:(l.map (·.Key)).Nodup->∀a∈l,∀b∈l,a.Key=b.Key->a=b:=by
 induction l with
  |nil=>intro _ a h;cases h
  |cons x l ih=>
   intro h a ha b hb e;rw[List.map_cons,List.nodup_cons]at h;rcases List.mem_cons.1 ha with r1|ha1
   .rcases List.mem_cons.1 hb with r2|hb1;.rw[r1,r2]
    .exact absurd (show x.Key∈l.map (·.Key)from List.mem_map.2 ⟨b,hb1,by rw[<-e,r1]⟩) h.1
   .rcases List.mem_cons.1 hb with r2|hb1;.exact absurd (show x.Key∈l.map (·.Key)from List.mem_map.2 ⟨a,ha1,by rw[e,r2]⟩) h.1
    .exact ih h.2 a ha1 b hb1 e
theorem sortPairs_perm{l m:List TApiPair}(h:l.Perm m)(hn:(l.map (·.Key)).Nodup):l.mergeSort leK=m.mergeSort leK:=by
 refine List.Perm.eq_of_pairwise (le:=λa b=>leK a b=true) (λa b ha hb p q=>?_) (List.pairwise_mergeSort leK_tr leK_to l) (List.pairwise_mergeSort leK_tr leK_to m) ?_
 .have ha:=(List.mergeSort_perm l leK).mem_iff.1 ha;have hb:=h.mem_iff.2 ((List.mergeSort_perm m leK).mem_iff.1 hb);refine nodup_inj hn a ha b hb ?_;unfold leK at p q;simp only[Bool.not_eq_true']at p q;by_cases e:a.Key=b.Key;.exact e
  .have :=bl_tri _ _ e;rw[p,q]at this;cases this
 .exact(List.mergeSort_perm l _).trans (h.trans (List.mergeSort_perm m _).symm)
def mp(m:KM):List TApiPair:=(m.filter λp=>!p.2.Dead).map λp=>⟨p.1,p.2.Val⟩
def pairF(x:List TApiPair×KM):List TApiPair:=(x.1++mp x.2).mergeSort leK
def PI(x:List TApiPair×KM):Prop:=x.1.length+x.2.length<=1000000/\(x.1.map (·.Key)++x.2.map (·.1)).Nodup
theorem mp_sub(m:KM):List.Sublist ((mp m).map (·.Key)) (m.map (·.1)):=by unfold mp;rw[List.map_map];exact(List.filter_sublist (l:=m)).map _
theorem PI_nodup{x:List TApiPair×KM}(h:PI x):((x.1++mp x.2).map (·.Key)).Nodup:=by rw[List.map_append];exact h.2.sublist (List.Sublist.append_left (mp_sub x.2) _)
theorem mp_cons(p:List UInt8×TApiEntry)(m:KM):mp (p::m)=if p.2.Dead then mp m else⟨p.1,p.2.Val⟩::mp m:=by unfold mp;cases h:p.2.Dead<;>simp[h]
theorem mp_perm{l m:KM}(h:l.Perm m):(mp l).Perm (mp m):=(h.filter _).map _
def pnx(l:List TApiPair)(m:KM)(j:Nat)(a:List UInt8×TApiEntry):List TApiPair×KM:=(if a.2.Dead then l else l++[⟨a.1,a.2.Val⟩],dropAt m j)
theorem pnx_ok{l:List TApiPair}{m:KM}{j:Nat}{a:List UInt8×TApiEntry}(h:PI (l,m))(e:m[j]?=some a):PI (pnx l m j a)/\(dropAt m j).length<m.length/\pairF (pnx l m j a)=pairF (l,m):=by
 have pm:=dropAt_perm m j a e;have hl:=pm.length_eq;simp only[List.length_cons]at hl;obtain⟨h1,h2⟩:=h;simp only at h1 h2;have pq:(l.map (·.Key)++(a.1::(dropAt m j).map (·.1))).Perm (l.map (·.Key)++m.map (·.1)):=List.Perm.append_left _ (List.Perm.map (λp:List UInt8×TApiEntry=>p.1) pm);have nd:=pq.nodup_iff.2 h2;have k1:PI (pnx l m j a):=by unfold pnx PI;cases q:a.2.Dead with|true=>refine⟨by simp only[if_true];omega,?_⟩;exact nd.sublist (List.Sublist.append_left (List.sublist_cons_self _ _) _)|false=>refine⟨by simp only[Bool.false_eq_true,if_false,List.length_append,List.length_singleton];omega,?_⟩;simp only[Bool.false_eq_true,if_false,List.map_append,List.map_cons,List.map_nil,List.append_assoc,List.singleton_append];exact nd
 refine⟨k1,by omega,?_⟩;unfold pairF;refine sortPairs_perm ?_ (PI_nodup k1);have e2:=mp_perm pm;rw[mp_cons]at e2;unfold pnx;cases q:a.2.Dead with|true=>rw[q]at e2;exact List.Perm.append_left l e2|false=>rw[q]at e2;show(l++[(⟨a.1,a.2.Val⟩:TApiPair)]++mp (dropAt m j)).Perm _;rw[List.append_assoc];exact List.Perm.append_left l e2
theorem pairs4(x:List TApiPair×KM)(h:PI x):Evs (λfu=>lpc f_lookup_pairs_l4 fu x) (·=pairF x):=by
 refine Evs.loopF PI (λx=>x.2.length) pairF (λx hx=>?_) h;obtain⟨l,m⟩:=x;refine⟨0,(List.range m.length).map λj=>pnx l m j (m[j]?.getD ([],e00)),λx' hx'=>?_,λn rec _ hr=>?_⟩;.obtain⟨j,hj,rfl⟩:=List.mem_map.1 hx';have hj:=List.mem_range.1 hj;have e:=List.getElem?_eq_getElem hj;rw[e];exact pnx_ok hx e
 .unfold f_lookup_pairs_l4;refine pick_all (λe=>?_) λj a e=>?_
  .have e:m=[]:=e;subst e;show(if l.length=l.length then f_lookup_pairs_k4 (l,[])else none)=_;rw[if_pos rfl];unfold f_lookup_pairs_k4 f_sortPairs pairF;have :=PI_nodup hx;have hn:(l.map (·.Key)).Nodup:=by simpa[mp]using this
   have hm:mp []=[]:=rfl;have hq:l.length<4611686018427387904:=by have :=hx.1;simp only at this;omega
   simp only[if_pos (And.intro hn hq),if_true,Option.bind_some,List.length_mergeSort,hm,List.append_nil];rfl
  .have e:m[j]?=some a:=e;have hj:=(List.getElem?_eq_some_iff.1 e).1;have :=hr (pnx l m j a) (List.mem_map.2 ⟨j,List.mem_range.2 hj,by rw[e];rfl⟩);rw[<-this];have h1:=hx.1;simp only at h1;have g:2*((l.length+1)*32)<=281474976710656:=by omega
   unfold pnx;cases q:a.2.Dead<;>simp[q,g]
end Go.L
end
section
set_option linter.unusedSimpArgs false
set_option linter.unusedVariables false
namespace Go.L
open Go Go.AM
theorem pairsOk(a:TApiVsView)(h:WOk a):Evs (λfu=>f_lookup_pairs fu a) λr=>r.length<=1000000/\ ∀p∈r,p.Key.length<=32:=by
 unfold f_lookup_pairs;refine Evs.seq (parts a h) λl hl=>Evs.seq (pairs1 l hl) λm hm=>?_;refine(pairs4 ([],m) ⟨by have :=hm.1;simp only[List.length_nil];omega,by simpa using hm.2.1⟩).mono λr e=>?_;subst e;unfold pairF;simp only[List.nil_append];have hlen:(mp m).length<=m.length:=by unfold mp;rw[List.length_map];exact List.length_filter_le _ _
 refine⟨by rw[List.length_mergeSort];have :=hm.1;omega,λp hp=>?_⟩;have hp:=(List.mergeSort_perm (mp m) leK).mem_iff.1 hp;unfold mp at hp;obtain⟨q,hq,rfl⟩:=List.mem_map.1 hp;exact hm.2.2 q (List.mem_filter.1 hq).1
theorem range0:Evs (λfu=>f_keys_CheckRange fu ⟨[],[],false⟩) (·=0):=by
 unfold f_keys_CheckRange;refine Evs.cond rfl (Evs.eq (r:=0) ?_ (Evs.ite (λh=>absurd h (by decide)) λ_=>?_))
 .unfold f_keys_all;refine Evs.seq (P:=(·=.inr ())) (Evs.loop (λx=>At [([]:List UInt8),[]] x) (λx=>(2-x).toNat) (λx hx=>?_) (At.zero (by simp))) λy hy=>by cases hy;exact Evs.ret rfl
  unfold f_keys_all_l1;refine Lvs.ite (λhi=>?_) λ_=>Lvs.out rfl;have hi:=of_decide_eq_true hi;refine Lvs.ix hx.1 hi λv hv=>Lvs.seq (keysCheck v) λr hr=>?_;have hm:=mem_of_get hv;have :v=[]:=by simpa using hm
  subst this;have :r=0:=by rw[hr];rfl
  subst this;exact Lvs.ite (λh=>absurd h (by decide)) λ_=>Lvs.rec ⟨(hx.next hi).1,(hx.next hi).2⟩
 .exact Evs.eq (r:=false) (Evs.pure (λ_=>rfl) rfl) (Evs.ff (Evs.ret rfl))
theorem in0(k:List UInt8)(hk:k.length<=32):Evs (λfu=>f_keys_In fu ⟨[],[],false⟩ k) (·=(true,0)):=by
 unfold f_keys_In;refine Evs.eq range0 ?_;refine Evs.eq (r:=0) (Evs.ite (λ_=>Evs.seq (keysCheck k) λr hr=>Evs.ret (by rw[hr,if_pos hk])) λh=>absurd (by decide) h) ?_;refine Evs.ite (λh=>absurd h (by decide)) λ_=>?_;have e:Op.bytesLess k []=false:=by cases k<;>rfl
 refine Evs.eq (r:=true) (Evs.ite (λ_=>Evs.eq (r:=true) (Evs.pure (λ_=>rfl) rfl) (Evs.ret rfl)) λh=>absurd (by show(!Op.bytesLess k [])=true;rw[e];rfl) h) (Evs.ret rfl)
end Go.L
end
section
set_option linter.unusedSimpArgs false
set_option linter.unusedVariables false
namespace Go.L
open Go Go.AM
end Go.L
end
