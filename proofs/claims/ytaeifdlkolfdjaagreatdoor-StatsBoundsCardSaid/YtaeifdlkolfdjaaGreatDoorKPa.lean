/- Texts of the proof, joined by program. -/
import Derived.Test.YtaeifdlkolfdjaaGreatDoorKTp7
import Derived.Laws.BitsLemmas
section
set_option linter.unusedSimpArgs false
set_option linter.unusedVariables false
namespace Go.L
open Go Go.AM
def Evs{α:Type}(g:Nat->Option α)(P:α->Prop):Prop:=∃r,P r/\ ∃N,∀n,N<=n->g n=some r
variable{α β X Y:Type}{P Q:α->Prop}{R:β->Prop}
theorem Evs.ret{r:α}(h:P r):Evs (λ_=>some r) P:=⟨r,h,0,λ_ _=>rfl⟩
theorem Evs.mono{g:Nat->Option α}(h:Evs g P)(k:∀r,P r->Q r):Evs g Q:=let⟨r,h1,h2⟩:=h;⟨r,k r h1,h2⟩
theorem Evs.bind{g:Nat->Option α}{k:α->Nat->Option β}(h:Evs g λa=>Evs (k a) R):Evs (λn=>(g n).bind λa=>k a n) R:=by obtain⟨a,⟨r,h1,M,h2⟩,N,h3⟩:=h;exact⟨r,h1,N+M,λn hn=>by show(g n).bind _=_;rw[h3 n (by omega)];exact h2 n (by omega)⟩
theorem Evs.seq{g:Nat->Option α}{k:α->Nat->Option β}(h:Evs g P)(h2:∀a,P a->Evs (k a) R):Evs (λn=>(g n).bind λa=>k a n) R:=Evs.bind (h.mono h2)
theorem Evs.ite{c:Prop}[Decidable c]{g h:Nat->Option α}(h1:c->Evs g P)(h2:¬c->Evs h P):Evs (λn=>if c then g n else h n) P:=by
 by_cases e:c;.simpa only[if_pos e]using h1 e
 .simpa only[if_neg e]using h2 e
theorem Evs.tt{g h:Nat->Option α}(h1:Evs g P):Evs (λn=>if true=true then g n else h n) P:=by simpa only[if_true]using h1
theorem Evs.ff{g h:Nat->Option α}(h1:Evs h P):Evs (λn=>if false=true then g n else h n) P:=by simpa only[Bool.false_eq_true,if_false]using h1
theorem Evs.one{g:Nat->Option α}{r:α}(h:Evs g (·=r)):∃n,g n=some r:=by obtain⟨_,rfl,N,h⟩:=h;exact⟨N,h N (Nat.le_refl _)⟩
theorem Evs.pure{g:Nat->Option α}{r:α}(e:∀n,g n=some r)(h:P r):Evs g P:=⟨r,h,0,λn _=>e n⟩
theorem Evs.of{g g':Nat->Option α}(e:∀n,g n=g' n)(h:Evs g' P):Evs g P:=by rw[show g=g' from funext e];exact h
def Lvs(b:Nat->(X->Option Y)->Option Y)(I:X->Prop)(P:Y->Prop):Prop:=∃N,(∃x,I x/\ ∀n rec,N<=n->b n rec=rec x)\/ ∃y,P y/\ ∀n rec,N<=n->b n rec=some y
variable{I:X->Prop}{O:Y->Prop}
theorem Lvs.out{y:Y}(h:O y):Lvs (λ_ (_:X->Option Y)=>some y) I O:=⟨0,.inr ⟨y,h,λ_ _ _=>rfl⟩⟩
theorem Lvs.rec{x:X}(h:I x):Lvs (λ_ (rec:X->Option Y)=>rec x) I O:=⟨0,.inl ⟨x,h,λ_ _ _=>rfl⟩⟩
theorem Lvs.bind{g:Nat->Option α}{k:α->Nat->(X->Option Y)->Option Y}(h:Evs g λa=>Lvs (k a) I O):Lvs (λn rec=>(g n).bind λa=>k a n rec) I O:=by
 obtain⟨a,⟨M,h1⟩,N,h3⟩:=h;refine⟨N+M,?_⟩;rcases h1 with⟨x,q1,q2⟩|⟨y,q1,q2⟩;.exact .inl ⟨x,q1,λn rec hn=>by show(g n).bind _=_;rw[h3 n (by omega)];exact q2 n rec (by omega)⟩
 .exact .inr ⟨y,q1,λn rec hn=>by show(g n).bind _=_;rw[h3 n (by omega)];exact q2 n rec (by omega)⟩
theorem Lvs.seq{g:Nat->Option α}{k:α->Nat->(X->Option Y)->Option Y}(h:Evs g P)(h2:∀a,P a->Lvs (k a) I O):Lvs (λn rec=>(g n).bind λa=>k a n rec) I O:=Lvs.bind (h.mono h2)
theorem Lvs.ite{c:Prop}[Decidable c]{g h:Nat->(X->Option Y)->Option Y}(h1:c->Lvs g I O)(h2:¬c->Lvs h I O):Lvs (λn rec=>if c then g n rec else h n rec) I O:=by
 by_cases e:c;.simpa only[if_pos e]using h1 e
 .simpa only[if_neg e]using h2 e
theorem Lvs.tt{g h:Nat->(X->Option Y)->Option Y}(h1:Lvs g I O):Lvs (λn rec=>if true=true then g n rec else h n rec) I O:=by simpa only[if_true]using h1
theorem Lvs.ff{g h:Nat->(X->Option Y)->Option Y}(h1:Lvs h I O):Lvs (λn rec=>if false=true then g n rec else h n rec) I O:=by simpa only[Bool.false_eq_true,if_false]using h1
theorem Evs.loop{step:Nat->(X->Option Y)->X->Option Y}(I:X->Prop)(mu:X->Nat){O:Y->Prop}(h:∀x,I x->Lvs (λn rec=>step n rec x) (λx'=>I x'/\mu x'<mu x) O){x:X}(hx:I x):Evs (λfu=>lpc step fu x) O:=by
 have key:∀(m:Nat)(x:X),mu x<m->I x->Evs (λfu=>lpc step fu x) O:=by
  intro m
  induction m with
   |zero=>intro x hx;omega
   |succ m ih=>
    intro x hm hx;obtain⟨N,h1⟩:=h x hx;rcases h1 with⟨x',⟨q1,q2⟩,q3⟩|⟨y,q1,q2⟩;.obtain⟨r,k1,M,k2⟩:=ih x' (by omega) q1;refine⟨r,k1,N+M+1,λn hn=>?_⟩;obtain⟨j,rfl⟩:∃j,n=j+1:=⟨n-1,by omega⟩;show lpc step (j+1) x=_;rw[lpc_succ];exact(q3 j _ (by omega)).trans (k2 j (by omega))
    .refine⟨y,q1,N+1,λn hn=>?_⟩;obtain⟨j,rfl⟩:∃j,n=j+1:=⟨n-1,by omega⟩;show lpc step (j+1) x=_;rw[lpc_succ];exact q2 j _ (by omega)
 exact key _ x (Nat.lt_succ_self _) hx
theorem Evs.loopF{step:Nat->(X->Option Y)->X->Option Y}(I:X->Prop)(mu:X->Nat)(F:X->Y)(h:∀x,I x->∃(N:Nat) (S:List X),(∀x'∈S,I x'/\mu x'<mu x/\F x'=F x)/\ ∀n rec,N<=n->(∀x'∈S,rec x'=some (F x))->step n rec x=some (F x)){x:X}(hx:I x):Evs (λfu=>lpc step fu x) (·=F x):=by
 have key:∀(m:Nat)(x:X),mu x<m->I x->∃N,∀n,N<=n->lpc step n x=some (F x):=by
  intro m
  induction m with
   |zero=>intro x hx;omega
   |succ m ih=>
    intro x hm hx;obtain⟨N,S,h1,h2⟩:=h x hx
    have all:∀l:List X,(∀x'∈l,x'∈S)->∃M,∀n,M<=n->∀x'∈l,lpc step n x'=some (F x):=by
     intro l
     induction l with
      |nil=>exact λ_=>⟨0,λ_ _ _ hx=>by cases hx⟩
      |cons a l il=>
       intro hl;obtain⟨M,hM⟩:=il λx' hx'=>hl x' (by simp[hx']);obtain⟨q1,q2,q3⟩:=h1 a (hl a (by simp));obtain⟨K,hK⟩:=ih a (by omega) q1;refine⟨M+K,λn hn x' hx'=>?_⟩;rcases List.mem_cons.1 hx' with rfl|hx';.rw[hK n (by omega),q3]
       .exact hM n (by omega) x' hx'
    obtain⟨M,hM⟩:=all S λ_ h=>h;refine⟨N+M+1,λn hn=>?_⟩;obtain⟨j,rfl⟩:∃j,n=j+1:=⟨n-1,by omega⟩;rw[lpc_succ];exact h2 j _ (by omega) λx' hx'=>hM j (by omega) x' hx'
 obtain⟨N,hN⟩:=key _ x (Nat.lt_succ_self _) hx;exact⟨_,rfl,N,hN⟩
theorem ndec{p:Prop}[Decidable p](h:¬decide p=true):¬p:=λk=>h (decide_eq_true k)
theorem wr{n:Int}(h1: -9223372036854775808<=n)(h2:n<=9223372036854775807):IntKind.i64.wrap n=n:=by rw[IntKind.wrap_i64];omega
theorem ix_at{α:Type}{l:List α}{i:Int}(h0:0<=i)(h1:i<(l.length:Int)):∃v,ix l i=some v/\l[i.toNat]?=some v:=by
 have :i.toNat<l.length:=by omega
 refine⟨l[i.toNat],?_,List.getElem?_eq_getElem this⟩;unfold ix;rw[if_pos h0];exact List.getElem?_eq_getElem this
theorem Evs.ix{l:List α}{i:Int}{k:α->Nat->Option β}(h0:0<=i)(h1:i<(l.length:Int))(h:∀v,l[i.toNat]?=some v->Evs (k v) R):Evs (λn=>(Go.AM.ix l i).bind λa=>k a n) R:=by obtain⟨v,e1,e2⟩:=ix_at h0 h1;rw[e1];exact h v e2
theorem Lvs.ix{l:List α}{i:Int}{k:α->Nat->(X->Option Y)->Option Y}(h0:0<=i)(h1:i<(l.length:Int))(h:∀v,l[i.toNat]?=some v->Lvs (k v) I O):Lvs (λn rec=>(Go.AM.ix l i).bind λa=>k a n rec) I O:=by obtain⟨v,e1,e2⟩:=ix_at h0 h1;rw[e1];exact h v e2
def At(l:List α)(i:Int):Prop:=0<=i/\i<=(l.length:Int)/\l.length<=9223372036854775807
theorem At.zero{l:List α}(h:l.length<=9223372036854775807):At l 0:=⟨by omega,by omega,h⟩
theorem At.next{l:List α}{i:Int}(h:At l i)(hi:i<(l.length:Int)):At l (IntKind.i64.wrap (i+1))/\((l.length:Int)-IntKind.i64.wrap (i+1)).toNat<((l.length:Int)-i).toNat:=by obtain⟨h0,h1,h2⟩:=h;rw[wr (by omega) (by omega)];exact⟨⟨by omega,by omega,h2⟩,by omega⟩
theorem At.nx{l:List α}{i:Int}(h:At l i)(hi:i<(l.length:Int)):IntKind.i64.wrap (i+1)=i+1:=by obtain⟨h0,h1,h2⟩:=h;exact wr (by omega) (by omega)
end Go.L
end
section
set_option linter.unusedSimpArgs false
set_option linter.unusedVariables false
namespace Go.L
open Go Go.AM
abbrev Sz{α:Type}(l:List α):Prop:=l.length<=9223372036854775807
def Seen{α:Type}(l:List α)(p:α->Prop)(i:Int):Prop:=∀(j:Nat)(e:α),(j:Int)<i->l[j]?=some e->p e
theorem Seen.zero{α:Type}{l:List α}{p:α->Prop}:Seen l p 0:=λj e h=>by omega
theorem Seen.next{α:Type}{l:List α}{p:α->Prop}{i:Int}{v:α}(h:Seen l p i)(ha:At l i)(hi:i<(l.length:Int))(hv:l[i.toNat]?=some v)(hp:p v):Seen l p (IntKind.i64.wrap (i+1)):=by
 intro j e hj he;rw[ha.nx hi]at hj;by_cases h1:(j:Int)<i;.exact h j e h1 he
 .have :j=i.toNat:=by have :=ha.1;omega
  subst this;rw[hv]at he;cases he;exact hp
theorem Seen.all{α:Type}{l:List α}{p:α->Prop}{i:Int}(h:Seen l p i)(hi:¬i<(l.length:Int)):∀e∈l,p e:=by intro e he;obtain⟨j,hj⟩:=List.mem_iff_getElem?.1 he;refine h j e ?_ hj;have :=(List.getElem?_eq_some_iff.1 hj).1;omega
theorem farEntries(a:List TApiEntry)(m:Int)(hs:Sz a):Evs (λfu=>f_law25_farEntries fu a m) λr=>r=false->(a.length:Int)<=m:=by
 unfold f_law25_farEntries;refine Evs.ite (λh1=>Evs.ret (by simp)) λh1=>?_;refine Evs.seq (P:=λ_=>True) (Evs.loop (λi=>At a i) (λi=>((a.length:Int)-i).toNat) (λi ha=>?_) (At.zero hs)) λy _=>?_;.unfold f_law25_farEntries_l1;refine Lvs.ite (λhi=>?_) λhi=>Lvs.out trivial;have hi:=of_decide_eq_true hi;refine Lvs.ix ha.1 hi λv hv=>?_;refine Lvs.seq (P:=λ_=>True) (Evs.ite (λ_=>Evs.ret trivial) λ_=>Evs.ix ha.1 hi λ_ _=>Evs.ret trivial) λb _=>?_;exact Lvs.ite (λ_=>Lvs.out trivial) λ_=>Lvs.rec (ha.next hi)
 .cases y;.exact Evs.ret λ_=>by simpa using h1
  .exact Evs.ret λ_=>by simpa using h1
theorem Evs.const{α:Type}{P:α->Prop}{o:Option α}(h:∃r,o=some r/\P r):Evs (λ_=>o) P:=by obtain⟨r,rfl,h⟩:=h;exact Evs.ret h
theorem keysCheck(a:List UInt8):Evs (λfu=>f_keys_Check fu a) λr=>r=if a.length<=32 then 0 else 3:=by unfold f_keys_Check;exact Evs.const (by grind)
def EOk(x:TApiEntry):Prop:=x.Key.length<=32/\x.Val.length<=64/\(x.Dead=true->x.Val=[])/\1<=x.Seq/\x.Seq<=1000000000
theorem entriesCheck(x:TApiEntry):Evs (λfu=>f_entries_Check fu x) λr=>(r=0↔EOk x):=by
 unfold f_entries_Check;refine Evs.seq (keysCheck x.Key) λv hv=>?_;unfold EOk;repeat' first|refine Evs.ret ?_|refine Evs.tt ?_|refine Evs.ff ?_|refine Evs.ite (λ_=>?_) (λ_=>?_)|refine Evs.bind ?_
 all_goals grind
def LOk0(l:List TApiEntry):Prop:=l.length<=5000/\(∀e∈l,EOk e)/\ ∀(i:Nat)(a b:TApiEntry),l[i]?=some a->l[i+1]?=some b->¬(Op.bytesLess b.Key a.Key||b.Key==a.Key)=true
theorem checkList0(l:List TApiEntry)(hs:Sz l):Evs (λfu=>f_entries_CheckList fu l) λr=>r.2=0->LOk0 l:=by
 unfold f_entries_CheckList;refine Evs.ite (λ_=>Evs.ret (by simp)) λhl=>?_;refine Evs.seq (P:=λy=>match y with|.inl v=>v.2≠0|.inr _=>(∀e∈l,EOk e)/\ ∀(i:Nat)(a b:TApiEntry),l[i]?=some a->l[i+1]?=some b->¬(Op.bytesLess b.Key a.Key||b.Key==a.Key)=true) (Evs.loop (λi=>At l i/\Seen l EOk i/\ ∀(j:Nat)(a b:TApiEntry),(j:Int)+1<i->l[j]?=some a->l[j+1]?=some b->¬(Op.bytesLess b.Key a.Key||b.Key==a.Key)=true) (λi=>((l.length:Int)-i).toNat) (λi ha=>?_) ⟨At.zero hs,Seen.zero,λj a b h=>by omega⟩) λy hy=>?_
 .unfold f_entries_CheckList_l1;obtain⟨ha,hse,hor⟩:=ha;refine Lvs.ite (λhi=>?_) λhi=>Lvs.out ⟨hse.all (by simpa using hi),λj a b e1 e2=>hor j a b ?_ e1 e2⟩
  .have hi:=of_decide_eq_true hi;refine Lvs.ix ha.1 hi λv hv=>?_;refine Lvs.seq (entriesCheck v) λr hr=>?_;refine Lvs.ite (λh=>Lvs.out (by simpa using h)) λh=>?_;refine Lvs.seq (P:=λb=>b=false->∀(j:Nat)(a:TApiEntry),(j:Int)+1=i->l[j]?=some a->¬(Op.bytesLess v.Key a.Key||v.Key==a.Key)=true) ?_ λb hb=>?_
   .refine Evs.ite (λh0=>?_) λh0=>Evs.ret λ_ j a hj=>by have :=ndec h0;omega
    have h0:=of_decide_eq_true h0;have h0:0<i:=h0;rw[wr (n:=i-1) (by have :=ha.2.1;omega) (by have :=ha.2.1;have :=ha.2.2;omega)];refine Evs.ix (by omega) (by omega) λu hu=>Evs.ret λe j a hj hja=>?_;rw[show(i-1).toNat=j by omega,hja]at hu;cases hu;rw[e];simp
   .refine Lvs.ite (λ_=>Lvs.out (by simp)) λhb2=>Lvs.rec ⟨⟨(ha.next hi).1,hse.next ha hi hv (hr.1 (by simpa using h)),λj a b hj e1 e2=>?_⟩,(ha.next hi).2⟩;rw[ha.nx hi]at hj;by_cases h1:(j:Int)+1<i;.exact hor j a b h1 e1 e2
    .have :l[j+1]?=some v:=by rw[<-hv];congr 1;have :=ha.1;omega
     rw[e2]at this;cases this;exact hb (by simpa using hb2) j a (by omega) e1
  .have :=(List.getElem?_eq_some_iff.1 e2).1;have :=ndec hi;omega
 .cases y with|inl v=>exact Evs.ret λe=>absurd e hy|inr v=>exact Evs.ret λ_=>⟨by have :=ndec hl;omega,hy⟩
theorem Evs.self{α:Type}{g:Nat->Option α}{P:α->Prop}(h:Evs g P):Evs g λr=>P r/\Evs g (·=r):=by obtain⟨r,h1,h2⟩:=h;exact⟨r,⟨h1,r,rfl,h2⟩,h2⟩
def LOk(l:List TApiEntry):Prop:=LOk0 l/\Evs (λfu=>f_entries_CheckList fu l) λr=>r.2=0
theorem checkList(l:List TApiEntry)(hs:Sz l):Evs (λfu=>f_entries_CheckList fu l) λr=>r.2=0->LOk l:=(checkList0 l hs).self.mono λr h e=>⟨h.1 e,h.2.mono λ_ k=>k▸e⟩
theorem runsCheck(r:TApiRun)(hs:Sz r.Entries):Evs (λfu=>f_runs_Check fu r) λv=>v.2=0->1<=r.Id/\r.Id<=1000000/\LOk r.Entries:=by
 unfold f_runs_Check;repeat' first|refine Evs.ret ?_|refine Evs.tt ?_|refine Evs.ff ?_|refine Evs.ite (λ_=>?_) (λ_=>?_)|refine Evs.seq (checkList _ hs) (λ_ _=>?_)|refine Evs.bind ?_
 all_goals grind
theorem fits(r:TApiRun)(m:Int)(hs:Sz r.Entries):Evs (λfu=>f_levels_fits fu r m) λv=>v=0->1<=r.Id/\r.Id<=1000000/\LOk r.Entries/\r.Entries≠[]/\(r.Entries.length:Int)<=m:=by
 unfold f_levels_fits;repeat' first|refine Evs.ret ?_|refine Evs.tt ?_|refine Evs.ff ?_|refine Evs.ite (λ_=>?_) (λ_=>?_)|refine Evs.seq (runsCheck _ hs) (λ_ _=>?_)|refine Evs.bind ?_
 all_goals grind
end Go.L
end
section
set_option linter.unusedSimpArgs false
set_option linter.unusedVariables false
namespace Go.L
open Go Go.AM
def SzL(a:TApiLvLevels):Prop:=Sz a.Levels/\ ∀l∈a.Levels,Sz l.Runs/\ ∀r∈l.Runs,Sz r.Entries
theorem mem_of_get{α:Type}{l:List α}{i:Nat}{v:α}(h:l[i]?=some v):v∈l:=List.mem_iff_getElem?.2 ⟨i,h⟩
def ROk(r:TApiRun):Prop:=1<=r.Id/\r.Id<=1000000/\LOk r.Entries/\r.Entries≠[]
def VOk(l:TApiLvLevel):Prop:=l.Runs.length<=2/\ ∀r∈l.Runs,ROk r
theorem levelsCheck(a:TApiLvLevels)(hs:SzL a):Evs (λfu=>f_levels_Check fu a) λr=>r.2.2=0->1<=a.B/\a.B<=16/\a.Levels.length<=12/\ ∀l∈a.Levels,VOk l:=by
 unfold f_levels_Check;refine Evs.seq (P:=λb=>b=false->1<=a.B/\a.B<=16) (Evs.ite (λh=>Evs.ret (by simp)) λh=>Evs.ret (by have :=ndec h;simp;omega)) λb hb=>?_;refine Evs.ite (λ_=>Evs.ret (by simp)) λhb2=>?_;have hB:=hb (by simpa using hb2);refine Evs.ite (λ_=>Evs.ret (by simp)) λhl=>?_;have hl:=ndec hl;refine Evs.seq (P:=λy=>y.2.2.1=0->∀l∈a.Levels,VOk l) (Evs.loop (λx=>At a.Levels x.2.2.2.1/\x.2.2.1=0/\Seen a.Levels VOk x.2.2.2.1) (λx=>((a.Levels.length:Int)-x.2.2.2.1).toNat) (λx hx=>?_) ⟨At.zero hs.1,rfl,Seen.zero⟩) λy hy=>?_
 .obtain⟨ha,he0,hse⟩:=hx;unfold f_levels_Check_l1;refine Lvs.ite (λhi=>?_) λhi=>Lvs.out λe=>hse.all (by simpa using hi);have hi:=of_decide_eq_true hi;refine Lvs.ix ha.1 hi λv hv=>?_;have hm:=mem_of_get hv;refine Lvs.ite (λ_=>Lvs.out (by simp)) λh2=>?_;have h2:=ndec h2;refine Lvs.seq (P:=λy=>match y with|.inl v=>v.2.1≠0|.inr w=>w.2.1=0/\ ∀r∈v.Runs,ROk r) (Evs.loop (λz=>At v.Runs z.2.2.1/\z.2.1=0/\Seen v.Runs ROk z.2.2.1) (λz=>((v.Runs.length:Int)-z.2.2.1).toNat) (λz hz=>?_) ⟨At.zero (hs.2 v hm).1,he0,Seen.zero⟩) λy hy=>?_
  .obtain⟨hz,hz0,hzs⟩:=hz;unfold f_levels_Check_l2;refine Lvs.ite (λhj=>?_) λhj=>Lvs.out ⟨hz0,hzs.all (by simpa using hj)⟩;have hj:=of_decide_eq_true hj;refine Lvs.ix hz.1 hj λu hu=>?_;refine Lvs.seq (P:=λr=>r=0->ROk u) ?_ λr hr=>?_;.refine Evs.ite (λ_=>?_) λh=>absurd ha.1 h;refine Evs.seq (fits u _ ((hs.2 v hm).2 u (mem_of_get hu))) λr hr=>?_;refine Evs.seq (P:=λ_=>True) (Evs.ite (λ_=>Evs.ret trivial) λ_=>Evs.ret trivial) λb _=>?_;refine Evs.ite (λ_=>Evs.ret (by simp)) λ_=>Evs.ret λe=>?_;have :=hr e;exact⟨this.1,this.2.1,this.2.2.1,this.2.2.2.1⟩
   .refine Lvs.ite (λh=>Lvs.out (by simpa using h)) λh=>?_;have h:r=0:=by simpa using h
    exact Lvs.rec ⟨⟨(hz.next hj).1,h,hzs.next hz hj hu (hr h)⟩,(hz.next hj).2⟩
  .cases y with|inl w=>exact Lvs.out λe=>absurd e hy|inr w=>exact Lvs.rec ⟨⟨(ha.next hi).1,hy.1,hse.next ha hi hv ⟨by omega,hy.2⟩⟩,(ha.next hi).2⟩
 .refine Evs.ite (λh=>Evs.ret λe=>absurd e (by simpa using h)) λh=>?_;have h:=hy (by simpa using h);refine Evs.seq (P:=λ_=>True) ?_ λb _=>?_;.refine Evs.ite (λh0=>?_) λ_=>Evs.ret trivial;have h0:=of_decide_eq_true h0;rw[wr (n:=(a.Levels.length:Int)-1) (by omega) (by omega)];exact Evs.ix (by omega) (by omega) λu hu=>Evs.ret trivial
  .exact Evs.ite (λ_=>Evs.ret (by simp)) λ_=>Evs.ret λ_=>⟨hB.1,hB.2,by omega,h⟩
theorem greatest(a:TApiLvLevels)(hs:SzL a):Evs (λfu=>f_jobs_greatest fu a) λ_=>True:=by unfold f_jobs_greatest;refine Evs.seq (P:=λ_=>True) (Evs.loop (λx=>At a.Levels x.2) (λx=>((a.Levels.length:Int)-x.2).toNat) (λx hx=>?_) (At.zero hs.1)) λ_ _=>Evs.ret trivial;unfold f_jobs_greatest_l1;refine Lvs.ite (λhi=>?_) λ_=>Lvs.out trivial;have hi:=of_decide_eq_true hi;refine Lvs.ix hx.1 hi λv hv=>?_;refine Lvs.seq (P:=λ_=>True) (Evs.loop (λz=>At v.Runs z.2) (λz=>((v.Runs.length:Int)-z.2).toNat) (λz hz=>?_) (At.zero (hs.2 v (mem_of_get hv)).1)) λ_ _=>Lvs.rec (hx.next hi);unfold f_jobs_greatest_l2;refine Lvs.ite (λhj=>?_) λ_=>Lvs.out trivial;have hj:=of_decide_eq_true hj;exact Lvs.ix hz.1 hj λu hu=>Lvs.rec (hz.next hj)
end Go.L
end
section
set_option linter.unusedSimpArgs false
set_option linter.unusedVariables false
namespace Go.L
open Go Go.AM
theorem Evs.from{α:Type}{g:Nat->Option α}{P:α->Prop}{r:α}(N:Nat)(e:∀n,g (n+N)=some r)(h:P r):Evs g P:=⟨r,h,N,λn hn=>by have :=e (n-N);rwa[Nat.sub_add_cancel hn]at this⟩
def snd2(a b:TApiLsKey):Bool:=if !(a.Done==b.Done)then !b.Done else if !(a.Key==b.Key)then !Op.bytesLess a.Key b.Key else false
def T2(a b:TApiLsKey):TApiLsTree:=if snd2 a b then⟨[a,b],[0,0],1⟩else⟨[a,b],[0,1],0⟩
def Bare(a:TApiLsKey):Prop:=a.Done=true->a.Key=[]
theorem cloneK(a b:TApiLsKey)(fu:Nat):f_slices_Clone_api_LsKey_api_LsKey fu [a,b]=some [a,b]:=rfl
theorem cloneI(a b:Int)(fu:Nat):f_slices_Clone_int_int fu [a,b]=some [a,b]:=rfl
theorem cloneE(a b:List TApiEntry)(fu:Nat):f_slices_Clone_api_Entry_api_Entry fu [a,b]=some [a,b]:=rfl
theorem Evs.eq{α β:Type}{g:Nat->Option α}{k:α->Nat->Option β}{P:β->Prop}{r:α}(h:Evs g (·=r))(h2:Evs (k r) P):Evs (λn=>(g n).bind λa=>k a n) P:=Evs.seq h λa e=>by cases e;exact h2
theorem Evs.cond{β:Type}{c:Prop}[Decidable c]{g:Nat->Option β}{P:β->Prop}(h:c)(h2:Evs g P):Evs (λn=>if c then g n else none) P:=by simpa only[if_pos h]using h2
theorem play2loop(a b:TApiLsKey):Evs (λfu=>lpc (f_loser_play_l1 [a,b]) fu ([0,0,0,0],3,[0,0])) (·=if snd2 a b then([0,1,0,1],[0,0])else([0,0,0,1],[0,1])):=by
 refine Evs.from 5 (λn=>?_) rfl;have s1:lpc (f_loser_play_l1 [a,b]) (n+1+1+1+1+1) ([0,0,0,0],3,[0,0])=lpc (f_loser_play_l1 [a,b]) (n+1+1+1) ([0,0,0,1],1,[0,0]):=by rw[lpc_succ];simp[f_loser_play_l1,ix,IntKind.wrap_i64];rw[lpc_succ];simp[f_loser_play_l1,ix,IntKind.wrap_i64]
 show lpc (f_loser_play_l1 [a,b]) (n+1+1+1+1+1) _=_;rw[s1,lpc_succ];cases a;cases b;rename_i ak ad bk bd;unfold snd2;by_cases h1:ak=bk<;>cases ad<;>cases bd<;>cases hh:Op.bytesLess ak bk<;>simp[f_loser_play_l1,lpc_succ,h1,hh,ix,IntKind.wrap_i64]
theorem play2(a b:TApiLsKey):Evs (λfu=>f_loser_play fu [a,b]) (·=T2 a b):=by
 unfold f_loser_play;refine Evs.cond (by simp[IntKind.wrap_i64]) ?_;refine Evs.eq (Evs.pure (cloneK a b) rfl) ?_;refine Evs.cond (by simp) ?_;refine Evs.cond rfl ?_;refine Evs.cond rfl ?_;refine Evs.eq (play2loop a b) ?_;refine Evs.cond rfl ?_;cases h:snd2 a b;.simp only[Bool.false_eq_true,if_false];exact Evs.ret (by unfold T2;rw[h];rfl)
 .simp only[if_true];exact Evs.ret (by unfold T2;rw[h];rfl)
theorem check1(a:TApiLsKey)(h:Bare a)(fu:Nat):f_loser_check_1 fu a=some false:=by
 unfold f_loser_check_1
 cases a with
  |mk k d=>
   cases d;.rfl
   .have :k=[]:=h rfl;subst this;rfl
theorem lcheck2(a b:TApiLsKey)(ha:Bare a)(hb:Bare b):Evs (λfu=>f_loser_check fu [a,b]) (·=0):=by refine Evs.from 3 (λn=>?_) rfl;show f_loser_check (n+1+1+1) [a,b]=_;unfold f_loser_check;rw[lpc_succ];simp[f_loser_check_l1,check1 a ha,ix,IntKind.wrap_i64];rw[lpc_succ];simp[f_loser_check_l1,check1 b hb,ix,IntKind.wrap_i64];rw[lpc_succ];simp[f_loser_check_l1]
theorem build2(a b:TApiLsKey)(ha:Bare a)(hb:Bare b):Evs (λfu=>f_loser_Build fu [a,b]) (·=(T2 a b,0)):=by unfold f_loser_Build;refine Evs.eq (lcheck2 a b ha hb) (Evs.ite (λh=>absurd h (by decide)) λ_=>Evs.eq (play2 a b) (Evs.ret rfl))
theorem T2K(a b:TApiLsKey):(T2 a b).Keys=[a,b]:=by unfold T2;split<;>rfl
theorem T2L(a b:TApiLsKey):(T2 a b).Lose.length=2:=by unfold T2;split<;>rfl
theorem T2W(a b:TApiLsKey):(T2 a b).Win=if snd2 a b then 1 else 0:=by unfold T2;split<;>rfl
theorem tcheck2(a b:TApiLsKey)(ha:Bare a)(hb:Bare b):Evs (λfu=>f_loser_Check fu (T2 a b)) (·=(0,0)):=by
 unfold f_loser_Check;simp only[T2K];refine Evs.eq (lcheck2 a b ha hb) (Evs.ite (λh=>absurd h (by decide)) λ_=>Evs.ite (λh=>absurd h (by rw[T2L];simp)) λ_=>?_);refine Evs.eq (play2 a b) ?_;refine Evs.seq (P:=(·=.inr ())) ?_ λy hy=>?_
 .refine Evs.from 3 (λn=>?_) rfl;show lpc _ (n+1+1+1) 0=_;unfold T2;split;.rw[lpc_succ,f_loser_Check_l1];simp[ix,IntKind.wrap_i64];rw[lpc_succ,f_loser_Check_l1];simp[ix,IntKind.wrap_i64];rw[lpc_succ,f_loser_Check_l1];simp[ix,IntKind.wrap_i64]
  .rw[lpc_succ,f_loser_Check_l1];simp[ix,IntKind.wrap_i64];rw[lpc_succ,f_loser_Check_l1];simp[ix,IntKind.wrap_i64];rw[lpc_succ,f_loser_Check_l1];simp[ix,IntKind.wrap_i64]
 .cases hy;exact Evs.ite (λh=>absurd h (by simp)) λ_=>Evs.ret rfl
def fst2(a b:TApiLsKey):TApiLsKey:=if snd2 a b then b else a
theorem topen2(a b:TApiLsKey)(ha:Bare a)(hb:Bare b):Evs (λfu=>f_loser_open fu (T2 a b)) (·=if(fst2 a b).Done then 12 else 0):=by
 unfold f_loser_open;refine Evs.eq (tcheck2 a b ha hb) (Evs.ite (λh=>absurd h (by decide)) λ_=>?_);have :ix (T2 a b).Keys (T2 a b).Win=some (fst2 a b):=by unfold T2 fst2;split<;>rfl
 rw[this];show Evs (λfu=>if(fst2 a b).Done=true then some 12 else some 0) _;exact Evs.ite (λh=>Evs.ret (by rw[if_pos h])) λh=>Evs.ret (by rw[if_neg h])
theorem winner2(a b:TApiLsKey)(ha:Bare a)(hb:Bare b):Evs (λfu=>f_loser_Winner fu (T2 a b)) (·=if(fst2 a b).Done then(0,[],12)else((T2 a b).Win,(fst2 a b).Key,0)):=by
 unfold f_loser_Winner;refine Evs.eq (topen2 a b ha hb) ?_;have :ix (T2 a b).Keys (T2 a b).Win=some (fst2 a b):=by unfold T2 fst2;split<;>rfl
 rw[this];by_cases h:(fst2 a b).Done=true;.simp only[if_pos h];exact Evs.ite (λ_=>Evs.ret rfl) λh=>absurd (by decide) h
 .simp only[if_neg h];exact Evs.ite (λh=>absurd h (by decide)) λ_=>Evs.ret rfl
end Go.L
end
section
set_option linter.unusedSimpArgs false
set_option linter.unusedVariables false
namespace Go.L
open Go Go.AM
theorem bl_irr:∀a:List UInt8,Op.bytesLess a a=false|[]=>rfl|x::l=>by unfold Op.bytesLess;simp[bl_irr l]
theorem bl_tri:∀a b:List UInt8,a≠b->Op.bytesLess a b=!Op.bytesLess b a
 |[],[],h=>absurd rfl h
 |[],y::m,_=>by simp[Op.bytesLess]
 |x::l,[],_=>by simp[Op.bytesLess]
 |x::l,y::m,h=>by
  unfold Op.bytesLess;by_cases e:x=y;.subst e;have :=bl_tri l m (by intro k;subst k;exact h rfl);simpa using this
  .have :x<y↔¬y<x:=by rw[UInt8.lt_iff_toNat_lt,UInt8.lt_iff_toNat_lt];have :x.toNat≠y.toNat:=λk=>e (UInt8.toNat_inj.1 k);omega
   have e':¬y=x:=λh=>e h.symm;by_cases k:x<y<;>simp_all
theorem bl_trans:∀a b c:List UInt8,Op.bytesLess a b=true->Op.bytesLess b c=true->Op.bytesLess a c=true|[],[],_,h,_=>by simp[Op.bytesLess]at h|[],y::m,[],_,h=>by simp[Op.bytesLess]at h|[],y::m,z::n,_,_=>by simp[Op.bytesLess]|x::l,[],_,h,_=>by simp[Op.bytesLess]at h|x::l,y::m,[],_,h=>by simp[Op.bytesLess]at h|x::l,y::m,z::n,h,k=>by unfold Op.bytesLess at h k⊢;have ih:=bl_trans l m n;simp only[UInt8.lt_iff_toNat_lt,<-UInt8.toNat_inj,Bool.or_eq_true,Bool.and_eq_true,decide_eq_true_eq,beq_iff_eq]at h k⊢;grind
def put2(a b c:TApiLsKey):TApiLsTree:=if snd2 a b then T2 a c else T2 c b
theorem lcheck1(a:TApiLsKey)(ha:Bare a):Evs (λfu=>f_loser_check fu [a]) (·=0):=by refine Evs.from 2 (λn=>?_) rfl;show f_loser_check (n+1+1) [a]=_;unfold f_loser_check;rw[lpc_succ];simp[f_loser_check_l1,check1 a ha,ix,IntKind.wrap_i64];rw[lpc_succ];simp[f_loser_check_l1]
theorem repl1(a b c:TApiLsKey)(T:TApiLsTree)(hT:T.Win=1):Evs (λfu=>lpc (f_loser_Replace_l1 [a,b] T c) fu (0,3,1,[0,0])) (·=if snd2 a c then(1,1,[0,0])else(1,0,[0,1])):=by refine Evs.from 2 (λn=>?_) rfl;show lpc (f_loser_Replace_l1 [a,b] T c) (n+1+1) _=_;rw[lpc_succ];cases a;cases c;rename_i ak ad bk bd;unfold snd2;by_cases h1:ak=bk<;>cases ad<;>cases bd<;>cases hh:Op.bytesLess ak bk<;>simp[f_loser_Replace_l1,lpc_succ,h1,hh,ix,IntKind.wrap_i64,hT]
theorem repl0(a b c:TApiLsKey)(T:TApiLsTree)(hT:T.Win=0):Evs (λfu=>lpc (f_loser_Replace_l1 [a,b] T c) fu (0,2,0,[0,1])) (·=if snd2 c b then(1,1,[0,0])else(1,0,[0,1])):=by
 refine Evs.from 2 (λn=>?_) rfl;show lpc (f_loser_Replace_l1 [a,b] T c) (n+1+1) _=_;rw[lpc_succ];cases c;cases b;rename_i ak ad bk bd;unfold snd2;by_cases h1:bk=ak;.cases ad<;>cases bd<;>cases hh:Op.bytesLess ak bk<;>simp[f_loser_Replace_l1,lpc_succ,h1,hh,ix,IntKind.wrap_i64,hT]
 .have h2:=bl_tri bk ak h1;have h3:¬ak=bk:=λh=>h1 h.symm;cases ad<;>cases bd<;>cases hh:Op.bytesLess ak bk<;>rw[hh]at h2<;>simp[f_loser_Replace_l1,lpc_succ,h1,h2,h3,hh,ix,IntKind.wrap_i64,hT]
theorem replace2(a b c:TApiLsKey)(ha:Bare a)(hb:Bare b)(hc:Bare c)(hd:(fst2 a b).Done=false)(hl:c.Done=false->Op.bytesLess c.Key (fst2 a b).Key=false):Evs (λfu=>f_loser_Replace fu (T2 a b) c) (·=(put2 a b c,1,0)):=by
 unfold f_loser_Replace;refine Evs.eq (topen2 a b ha hb) ?_;rw[hd];refine Evs.ite (λh=>absurd h (by decide)) λ_=>?_;refine Evs.cond rfl ?_;refine Evs.eq (lcheck1 c hc) ?_;refine Evs.ite (λh=>absurd h (by decide)) λ_=>?_;have hf:ix (T2 a b).Keys (T2 a b).Win=some (fst2 a b):=by unfold T2 fst2;split<;>rfl
 refine Evs.seq (P:=(·=false)) ?_ λv hv=>?_;.rw[hf];refine Evs.ite (λh=>Evs.ret (hl (by simpa using h))) λ_=>Evs.ret rfl
 subst hv;refine Evs.ff ?_;unfold put2;cases h:snd2 a b
 .have e:T2 a b=⟨[a,b],[0,1],0⟩:=by unfold T2;rw[h];rfl
  rw[e];refine Evs.eq (Evs.pure (cloneK a b) rfl) (Evs.eq (Evs.pure (cloneI 0 1) rfl) (Evs.cond rfl ?_));refine Evs.ix (by simp) (by simp) λv hv=>Evs.cond (by simp) (Evs.cond rfl ?_);refine Evs.eq (repl0 a b c _ rfl) (Evs.cond (by simp) (Evs.cond rfl ?_));refine Evs.ret ?_;unfold T2;cases snd2 c b<;>rfl
 .have e:T2 a b=⟨[a,b],[0,0],1⟩:=by unfold T2;rw[h];rfl
  rw[e];refine Evs.eq (Evs.pure (cloneK a b) rfl) (Evs.eq (Evs.pure (cloneI 0 0) rfl) (Evs.cond rfl ?_));refine Evs.ix (by simp) (by simp) λv hv=>Evs.cond (by simp) (Evs.cond rfl ?_);refine Evs.eq (repl1 a b c _ rfl) (Evs.cond (by simp) (Evs.cond rfl ?_));refine Evs.ret ?_;unfold T2;cases snd2 a c<;>rfl
end Go.L
end
section
set_option linter.unusedSimpArgs false
set_option linter.unusedVariables false
namespace Go.L
open Go Go.AM
def kN(l:List TApiEntry)(i:Nat):TApiLsKey:=match l[i]? with|some e=>⟨e.Key,false⟩|none=>⟨[],true⟩
theorem kNb(l:List TApiEntry)(i:Nat):Bare (kN l i):=by unfold kN Bare;split<;>simp
theorem kNd(l:List TApiEntry)(i:Nat)(h:i<=l.length):(kN l i).Done=decide (i=l.length):=by
 unfold kN;split;.rename_i e h1;have :=(List.getElem?_eq_some_iff.1 h1).1;simp;omega
 .rename_i h1;have :=List.getElem?_eq_none_iff.1 h1;simp;omega
theorem kNs{l:List TApiEntry}{i:Nat}{e:TApiEntry}(h:l[i]?=some e):kN l i=⟨e.Key,false⟩:=by unfold kN;rw[h]
theorem next_eq(l:List TApiEntry)(i:Nat)(h:i<=l.length)(fu:Nat):f_merge_next fu l (i:Int)=some (kN l i):=by
 unfold f_merge_next kN;by_cases e:i=l.length;.subst e;simp
 .have hi:i<l.length:=by omega
  have :¬((i:Int)==(l.length:Int))=true:=by simp;omega
  rw[if_neg this];simp[ix,List.getElem?_eq_getElem hi]
def Ms(u v:List TApiEntry)(i j:Nat):TApiMgState:=⟨[u,v],[(i:Int),(j:Int)],T2 (kN u i) (kN v j)⟩
def two(u v:List TApiEntry)(i j:Nat):Bool:=snd2 (kN u i) (kN v j)
def Cut(u v:List TApiEntry)(i j:Nat):Prop:=i<=u.length/\j<=v.length/\(∀(k:Nat)(a b:TApiEntry),i=k+1->u[k]?=some a->v[j]?=some b->Op.bytesLess b.Key a.Key=false)/\ ∀(k:Nat)(a b:TApiEntry),j=k+1->v[k]?=some a->u[i]?=some b->Op.bytesLess a.Key b.Key=true
theorem Cut.zero(u v:List TApiEntry):Cut u v 0 0:=⟨Nat.zero_le _,Nat.zero_le _,λk a b h=>by omega,λk a b h=>by omega⟩
theorem asc{l:List TApiEntry}(h:LOk l){k:Nat}{a b:TApiEntry}(ha:l[k]?=some a)(hb:l[k+1]?=some b):Op.bytesLess a.Key b.Key=true/\Op.bytesLess b.Key a.Key=false:=by
 have :=h.1.2.2 k a b ha hb;simp only[Bool.or_eq_true,beq_iff_eq,not_or]at this;have h1:Op.bytesLess b.Key a.Key=false:=by simpa using this.1
 have h2:=bl_tri a.Key b.Key λe=>this.2 e.symm;rw[h1]at h2;exact⟨h2,h1⟩
theorem two_tt{u v:List TApiEntry}{i j:Nat}(hi:i<=u.length)(hj:j<=v.length)(h:two u v i j=true):j<v.length/\ ∀a b,u[i]?=some a->v[j]?=some b->Op.bytesLess b.Key a.Key=true:=by
 unfold two snd2 at h;rw[kNd u i hi,kNd v j hj]at h;by_cases e1:i=u.length<;>by_cases e2:j=v.length<;>simp[e1,e2]at h;.unfold kN at h;simp[e1,e2]at h
 .subst e1;exact⟨by omega,λa b ha=>by simp at ha⟩
 .refine⟨by omega,λa b ha hb=>?_⟩;rw[kNs ha,kNs hb]at h;have :=bl_tri b.Key a.Key λe=>h.1 e.symm;rw[this];simpa using h.2
theorem two_ff{u v:List TApiEntry}{i j:Nat}(hi:i<=u.length)(hj:j<=v.length)(h:two u v i j=false)(hn:i<u.length\/j<v.length):i<u.length/\ ∀a b,u[i]?=some a->v[j]?=some b->Op.bytesLess b.Key a.Key=false:=by
 unfold two snd2 at h;rw[kNd u i hi,kNd v j hj]at h;by_cases e1:i=u.length<;>by_cases e2:j=v.length<;>simp[e1,e2]at h;.omega
 .subst e2;exact⟨by omega,λa b _ hb=>by simp at hb⟩
 .refine⟨by omega,λa b ha hb=>?_⟩;rw[kNs ha,kNs hb]at h;by_cases e:a.Key=b.Key;.rw[e];exact bl_irr _
  .have :=bl_tri b.Key a.Key λk=>e k.symm;rw[this,h e];rfl
theorem Cut.next2{u v:List TApiEntry}{i j:Nat}(hu:LOk u)(hv:LOk v)(h:Cut u v i j)(ht:two u v i j=true):Cut u v i (j+1):=by
 obtain⟨h1,h2,h3,h4⟩:=h;obtain⟨hj,ho⟩:=two_tt h1 h2 ht;refine⟨h1,by omega,λk a b e ha hb=>?_,λk a b e ha hb=>?_⟩;.have hc:=List.getElem?_eq_getElem hj;have :=h3 k a _ e ha hc;have h5:=(asc hv hc hb).1;cases h6:Op.bytesLess b.Key a.Key with|false=>rfl|true=>rw[bl_trans _ _ _ h5 h6]at this;cases this
 .have :k=j:=by omega
  subst this;exact ho b a hb ha
theorem Cut.next1{u v:List TApiEntry}{i j:Nat}(hu:LOk u)(hv:LOk v)(h:Cut u v i j)(ht:two u v i j=false)(hn:i<u.length\/j<v.length):Cut u v (i+1) j:=by
 obtain⟨h1,h2,h3,h4⟩:=h;obtain⟨hi,ho⟩:=two_ff h1 h2 ht hn;refine⟨by omega,h2,λk a b e ha hb=>?_,λk a b e ha hb=>?_⟩
 .have :k=i:=by omega
  subst this;exact ho a b ha hb
 .have hc:=List.getElem?_eq_getElem hi;exact bl_trans _ _ _ (h4 k a _ e ha hc) (asc hu hc hb).1
end Go.L
end
section
set_option linter.unusedSimpArgs false
set_option linter.unusedVariables false
namespace Go.L
open Go Go.AM
variable{u v:List TApiEntry}{i j:Nat}
theorem mcheck2(hu:LOk u)(hv:LOk v):Evs (λfu=>f_merge_check fu [u,v]) (·=(0,0)):=by
 unfold f_merge_check;refine Evs.ite (λh=>absurd h (by simp)) λ_=>Evs.ite (λh=>absurd h (by simp)) λ_=>?_;refine Evs.seq (P:=(·=.inr ())) (Evs.loop (λx=>At [u,v] x) (λx=>(2-x).toNat) (λx hx=>?_) (At.zero (by simp))) λy hy=>?_
 .unfold f_merge_check_l1;refine Lvs.ite (λhi=>?_) λ_=>Lvs.out rfl;have hi:=of_decide_eq_true hi;refine Lvs.ix hx.1 hi λw hw=>?_;refine Lvs.seq (P:=λr=>r.2=0) ?_ λr hr=>Lvs.ite (λh=>absurd h (by rw[hr];decide)) λ_=>Lvs.rec ⟨(hx.next hi).1,(hx.next hi).2⟩;have :=mem_of_get hw;rcases List.mem_cons.1 this with rfl|h;.exact hu.2
  .have :w=v:=by simpa using h
   subst this;exact hv.2
 .cases hy;exact Evs.ret rfl
theorem tree2(hi:i<=u.length)(hj:j<=v.length):Evs (λfu=>f_merge_tree fu [u,v] [(i:Int),(j:Int)]) (·=T2 (kN u i) (kN v j)):=by unfold f_merge_tree;refine Evs.cond (by simp) (Evs.cond rfl ?_);refine Evs.eq (r:=[kN u i,kN v j]) (Evs.from 3 (λn=>?_) rfl) (Evs.cond rfl (Evs.eq (build2 _ _ (kNb _ _) (kNb _ _)) (Evs.ret rfl)));show lpc _ (n+1+1+1) _=_;rw[lpc_succ,f_merge_tree_l1];simp[ix,IntKind.wrap_i64,next_eq u i hi];rw[lpc_succ,f_merge_tree_l1];simp[ix,IntKind.wrap_i64,next_eq v j hj];rw[lpc_succ,f_merge_tree_l1];simp[ix]
theorem mbegin2(hu:LOk u)(hv:LOk v):Evs (λfu=>f_merge_Begin fu [u,v]) (·=(Ms u v 0 0,0,0)):=by unfold f_merge_Begin;refine Evs.eq (mcheck2 hu hv) (Evs.ite (λh=>absurd h (by decide)) λ_=>Evs.cond (by simp) ?_);refine Evs.eq (Evs.pure (cloneE u v) rfl) (Evs.cond (by simp) (Evs.cond rfl ?_));refine Evs.eq (r:=[kN u 0,kN v 0]) (Evs.from 3 (λn=>?_) rfl) (Evs.cond rfl (Evs.eq (build2 _ _ (kNb _ _) (kNb _ _)) (Evs.cond rfl (Evs.cond rfl (Evs.ret rfl)))));have e1:=next_eq u 0 (Nat.zero_le _);have e2:=next_eq v 0 (Nat.zero_le _);simp only[Int.natCast_zero]at e1 e2;show lpc _ (n+1+1+1) _=_;rw[lpc_succ,f_merge_Begin_l1];simp[ix,IntKind.wrap_i64,e1];rw[lpc_succ,f_merge_Begin_l1];simp[ix,IntKind.wrap_i64,e2];rw[lpc_succ,f_merge_Begin_l1];simp[ix]
theorem eqK(l:List TApiLsKey)(hs:Sz l):Evs (λfu=>f_slices_Equal_api_LsKey_api_LsKey fu l l) (·=true):=by
 unfold f_slices_Equal_api_LsKey_api_LsKey;refine Evs.ite (λh=>absurd h (by simp)) λ_=>?_;refine Evs.seq (P:=(·=.inr ())) (Evs.loop (λx=>At l x) (λx=>((l.length:Int)-x).toNat) (λx hx=>?_) (At.zero hs)) λy hy=>?_;.unfold f_slices_Equal_api_LsKey_api_LsKey_l1;refine Lvs.ite (λhi=>?_) λ_=>Lvs.out rfl;have hi:=of_decide_eq_true hi;refine Lvs.ix hx.1 hi λw hw=>Lvs.ix hx.1 hi λw2 hw2=>?_;rw[hw]at hw2;cases hw2;exact Lvs.ite (λh=>absurd h (by simp)) λ_=>Lvs.rec (hx.next hi)
 .cases hy;exact Evs.ret rfl
theorem eqI(l:List Int)(hs:Sz l):Evs (λfu=>f_slices_Equal_int_int fu l l) (·=true):=by
 unfold f_slices_Equal_int_int;refine Evs.ite (λh=>absurd h (by simp)) λ_=>?_;refine Evs.seq (P:=(·=.inr ())) (Evs.loop (λx=>At l x) (λx=>((l.length:Int)-x).toNat) (λx hx=>?_) (At.zero hs)) λy hy=>?_;.unfold f_slices_Equal_int_int_l1;refine Lvs.ite (λhi=>?_) λ_=>Lvs.out rfl;have hi:=of_decide_eq_true hi;refine Lvs.ix hx.1 hi λw hw=>Lvs.ix hx.1 hi λw2 hw2=>?_;rw[hw]at hw2;cases hw2;exact Lvs.ite (λh=>absurd h (by simp)) λ_=>Lvs.rec (hx.next hi)
 .cases hy;exact Evs.ret rfl
theorem alike2(a b:TApiLsKey):Evs (λfu=>f_merge_alike fu (T2 a b) (T2 a b)) (·=true):=by
 unfold f_merge_alike;have h1:Sz (T2 a b).Keys:=by rw[T2K];simp
 have h2:Sz (T2 a b).Lose:=by unfold Sz;rw[T2L];omega
 refine Evs.eq (Evs.ite (λ_=>Evs.eq (eqK _ h1) (Evs.ret rfl)) λh=>absurd h (by simp)) ?_;refine Evs.eq (Evs.tt (Evs.eq (eqI _ h2) (Evs.ret rfl))) (Evs.ret rfl)
theorem cmpS(a b:List UInt8)(fu:Nat):f_cmp_Compare_string fu a b=some (if Op.bytesLess a b then-1 else if a=b then 0 else 1):=by
 unfold f_cmp_Compare_string f_cmp_isNaN_string;by_cases h:Op.bytesLess a b=true;.simp[h]
 .by_cases e:a=b;.subst e;simp[bl_irr]
  .simp[h,e]
theorem cmpI(a b:Int)(fu:Nat):f_cmp_Compare_int fu a b=some (if a<b then-1 else if b<a then 1 else 0):=by
 unfold f_cmp_Compare_int f_cmp_isNaN_int;by_cases h:a<b;.simp[h]
 .simp[h];split<;>rfl
theorem or2(a b:Int):Evs (λfu=>f_cmp_Or_int fu [a,b]) (·=if a=0 then b else a):=by
 refine Evs.from 3 (λn=>?_) rfl;show f_cmp_Or_int (n+1+1+1) _=_;unfold f_cmp_Or_int;rw[lpc_succ,f_cmp_Or_int_l1];by_cases h:a=0
 .simp[ix,h,IntKind.wrap_i64];rw[lpc_succ,f_cmp_Or_int_l1];by_cases h2:b=0;.simp[ix,h2,IntKind.wrap_i64];rw[lpc_succ,f_cmp_Or_int_l1];simp
  .simp[ix,h2,IntKind.wrap_i64]
 .simp[ix,h,IntKind.wrap_i64]
end Go.L
end
section
set_option linter.unusedSimpArgs false
set_option linter.unusedVariables false
namespace Go.L
open Go Go.AM
variable{u v:List TApiEntry}{i j:Nat}
theorem fst_done(hi:i<=u.length)(hj:j<=v.length):(fst2 (kN u i) (kN v j)).Done=decide (i=u.length/\j=v.length):=by
 cases h:two u v i j with
  |true=>have :=two_tt hi hj h;unfold two at h;unfold fst2;rw[if_pos h,kNd v j hj];simp;omega
  |false=>
   by_cases hn:i<u.length\/j<v.length;.have :=two_ff hi hj h hn;unfold two at h;unfold fst2;rw[if_neg (by rw[h];simp),kNd u i hi];simp;omega
   .have e1:i=u.length:=by omega
    have e2:j=v.length:=by omega
    unfold two at h;unfold fst2;rw[if_neg (by rw[h];simp),kNd u i hi];simp[e1,e2]
theorem mck_l2(c:Cut u v i j)(hu:LOk u)(hv:LOk v)(hu2:Sz u)(hv2:Sz v)(hn:i<u.length\/j<v.length)(T:TApiLsTree):Evs (λfu=>lpc (f_merge_Check_l2 ⟨[u,v],[(i:Int),(j:Int)],T⟩ ((if two u v i j then 1 else 0),(fst2 (kN u i) (kN v j)).Key,0)) fu 0) (·=.inr ()):=by
 refine Evs.loop (λx=>At [u,v] x) (λx=>(2-x).toNat) (λx hx=>?_) (At.zero (by simp));unfold f_merge_Check_l2;refine Lvs.ite (λh=>?_) λ_=>Lvs.out rfl;have h:=of_decide_eq_true h;have h:x<2:=h;have hx0:=hx.1;refine Lvs.ix hx0 h λw hw=>?_;refine Lvs.seq (P:=(·=false)) ?_ λb hb=>?_
 .refine Evs.ite (λh0=>?_) λ_=>Evs.ret rfl;have h0:=of_decide_eq_true h0;refine Evs.ix hx0 h λl hl=>?_;obtain⟨c1,c2,c3,c4⟩:=c;have hx:x=0\/x=1:=by omega
  rcases hx with rfl|rfl
  .have :(i:Int)=w:=by simpa using hw
   subst this;have :u=l:=by simpa using hl
   subst this;rw[wr (n:=(i:Int)-1) (by omega) (by omega)];refine Evs.ix (by omega) (by omega) λe he=>?_;have hk:i=(i-1)+1:=by omega
   have he':u[i-1]?=some e:=by rw[<-he];congr 1;omega
   refine Evs.eq (Evs.pure (cmpS _ _) rfl) (Evs.eq (Evs.pure (cmpI _ _) rfl) (Evs.cond rfl (Evs.eq (or2 _ _) (Evs.ret ?_))))
   cases ht:two u v i j with
    |true=>
     have o:=two_tt c1 c2 ht;have hb:=List.getElem?_eq_getElem o.1;have :=c3 _ _ _ hk he' hb;unfold two at ht;have hf:(fst2 (kN u i) (kN v j)).Key=v[j].Key:=by unfold fst2;rw[if_pos ht,kNs hb]
     rw[hf];by_cases e1:e.Key=v[j].Key;.simp[e1,bl_irr]
     .have h9:=bl_tri _ _ e1;rw[this]at h9;have h9:Op.bytesLess e.Key v[j].Key=true:=h9;simp only[h9];simp
    |false=>
     have o:=two_ff c1 c2 ht hn;have hb:=List.getElem?_eq_getElem o.1;have he2:u[i-1+1]?=some u[i]:=by rw[<-hk];exact hb
     have :=(asc hu he' he2).1;unfold two at ht;have hf:(fst2 (kN u i) (kN v j)).Key=u[i].Key:=by unfold fst2;rw[if_neg (by rw[ht];simp),kNs hb]
     rw[hf];simp[this]
  .have :(j:Int)=w:=by simpa using hw
   subst this;have :v=l:=by simpa using hl
   subst this;rw[wr (n:=(j:Int)-1) (by omega) (by omega)];refine Evs.ix (by omega) (by omega) λe he=>?_;have hk:j=(j-1)+1:=by omega
   have he':v[j-1]?=some e:=by rw[<-he];congr 1;omega
   refine Evs.eq (Evs.pure (cmpS _ _) rfl) (Evs.eq (Evs.pure (cmpI _ _) rfl) (Evs.cond rfl (Evs.eq (or2 _ _) (Evs.ret ?_))))
   cases ht:two u v i j with
    |true=>
     have o:=two_tt c1 c2 ht;have hb:=List.getElem?_eq_getElem o.1;have he2:v[j-1+1]?=some v[j]:=by rw[<-hk];exact hb
     have :=(asc hv he' he2).1;unfold two at ht;have hf:(fst2 (kN u i) (kN v j)).Key=v[j].Key:=by unfold fst2;rw[if_pos ht,kNs hb]
     rw[hf];simp[this]
    |false=>
     have o:=two_ff c1 c2 ht hn;have hb:=List.getElem?_eq_getElem o.1;have :=c4 _ _ _ hk he' hb;unfold two at ht;have hf:(fst2 (kN u i) (kN v j)).Key=u[i].Key:=by unfold fst2;rw[if_neg (by rw[ht];simp),kNs hb]
     rw[hf];simp[this]
 .subst hb;exact Lvs.ff (Lvs.rec ⟨(hx.next h).1,(hx.next h).2⟩)
theorem mcheckOk(c:Cut u v i j)(hu:LOk u)(hv:LOk v)(hu2:Sz u)(hv2:Sz v):Evs (λfu=>f_merge_Check fu (Ms u v i j)) (·=(0,0)):=by
 unfold f_merge_Check;have hi:=c.1;have hj:=c.2.1;refine Evs.eq (mcheck2 hu hv) (Evs.ite (λh=>absurd h (by decide)) λ_=>Evs.ite (λh=>absurd h (by simp[Ms])) λ_=>?_);refine Evs.seq (P:=(·=.inr ())) (Evs.loop (λx=>At [u,v] x) (λx=>(2-x).toNat) (λx hx=>?_) (At.zero (by simp))) λy hy=>?_
 .unfold f_merge_Check_l1;refine Lvs.ite (λh=>?_) λ_=>Lvs.out rfl;have h:=of_decide_eq_true h;have h:x<2:=h;have hx0:=hx.1;refine Lvs.ix hx0 h λw hw=>?_;have hx01:x=0\/x=1:=by omega
  refine Lvs.seq (P:=(·=false)) ?_ λb hb=>?_
  .rcases hx01 with rfl|rfl
   .have :(i:Int)=w:=by simpa[Ms]using hw
    subst this;refine Evs.ite (λh=>absurd h (by simp)) λ_=>Evs.ix (by simp) (by simp[Ms]) λl hl=>Evs.ret ?_;have :u=l:=by simpa[Ms]using hl
    subst this;simp;omega
   .have :(j:Int)=w:=by simpa[Ms]using hw
    subst this;refine Evs.ite (λh=>absurd h (by simp)) λ_=>Evs.ix (by simp) (by simp[Ms]) λl hl=>Evs.ret ?_;have :v=l:=by simpa[Ms]using hl
    subst this;simp;omega
  .subst hb;exact Lvs.ff (Lvs.rec ⟨(hx.next h).1,(hx.next h).2⟩)
 cases hy;refine Evs.eq (tree2 hi hj) (Evs.eq (alike2 _ _) ?_);refine Evs.ite (λh=>absurd h (by simp)) λ_=>Evs.eq (winner2 _ _ (kNb _ _) (kNb _ _)) ?_;rw[fst_done hi hj];by_cases hn:i=u.length/\j=v.length;.rw[if_pos (by simpa using hn)];exact Evs.ite (λ_=>Evs.ret rfl) λh=>absurd (by decide) h
 .rw[if_neg (by simpa using hn)];refine Evs.ite (λh=>absurd h (by simp)) λ_=>?_;have :=mck_l2 c hu hv hu2 hv2 (by omega) (T2 (kN u i) (kN v j));rw[T2W];refine Evs.eq this ?_;exact Evs.ret rfl
end Go.L
end
section
set_option linter.unusedSimpArgs false
set_option linter.unusedVariables false
namespace Go.L
open Go Go.AM
variable{u v:List TApiEntry}{i j:Nat}
theorem mleft2(c:Cut u v i j)(hu:LOk u)(hv:LOk v)(hu2:Sz u)(hv2:Sz v):Evs (λfu=>f_merge_Left fu (Ms u v i j)) (·=(((u.length-i+(v.length-j):Nat):Int),0)):=by
 unfold f_merge_Left;have hi:=c.1;have hj:=c.2.1;refine Evs.eq (mcheckOk c hu hv hu2 hv2) (Evs.ite (λh=>absurd h (by decide)) λ_=>?_);refine Evs.eq (r:=((u.length-i+(v.length-j):Nat):Int)) (Evs.from 3 (λn=>?_) rfl) (Evs.ret rfl);have l1:=hu.1.1;have l2:=hv.1.1;show lpc _ (n+1+1+1) _=_;have e1:IntKind.i64.wrap ((u.length:Int)-i)=(u.length:Int)-i:=wr (by omega) (by omega);have e2:IntKind.i64.wrap ((v.length:Int)-j)=(v.length:Int)-j:=wr (by omega) (by omega);have e3:IntKind.i64.wrap ((u.length:Int)-i+((v.length:Int)-j))=(u.length:Int)-i+((v.length:Int)-j):=wr (by omega) (by omega);have s0:IntKind.i64.wrap 1=1:=by decide
 have s1:IntKind.i64.wrap (1+1)=2:=by decide
 have s2:IntKind.i64.wrap 2=2:=by decide
 rw[lpc_succ,f_merge_Left_l1];simp[Ms,ix,e1,s0];rw[lpc_succ,f_merge_Left_l1];simp[ix,e2,e3,s0,s1,s2];rw[lpc_succ,f_merge_Left_l1];simp;omega
def e00:TApiEntry:=⟨[],[],false,0⟩
def rd(u v:List TApiEntry)(i j:Nat):TApiEntry:=if two u v i j then v.getD j e00 else u.getD i e00
theorem peek2(hi:i<=u.length)(hj:j<=v.length):Evs (λfu=>f_merge_reader_peek fu ⟨Ms u v i j⟩) (·=if i=u.length/\j=v.length then(e00,0,12)else(rd u v i j,if two u v i j then 1 else 0,0)):=by
 unfold f_merge_reader_peek;refine Evs.eq (winner2 _ _ (kNb _ _) (kNb _ _)) ?_;by_cases hn:i=u.length/\j=v.length
 .have hd:(fst2 (kN u i) (kN v j)).Done=true:=by rw[fst_done hi hj];simpa using hn
  rw[hd,if_pos hn];simp only[if_true];exact Evs.ite (λ_=>Evs.ret rfl) λh=>absurd (by decide) h
 .have hd:(fst2 (kN u i) (kN v j)).Done=false:=by rw[fst_done hi hj];simpa using hn
  rw[hd,if_neg hn];simp only[Bool.false_eq_true,if_false];refine Evs.ite (λh=>absurd h (by simp)) λ_=>?_;rw[T2W]
  cases ht:two u v i j with
   |true=>
    have o:=(two_tt hi hj ht).1;have hb:=List.getElem?_eq_getElem o;have ht':=ht;unfold two at ht';rw[ht'];refine Evs.ix (by simp) (by simp[Ms]) λw hw=>Evs.ix (by simp) (by simp[Ms]) λk hk=>?_;have h1:v=w:=by simpa[Ms]using hw
    have h2:(j:Int)=k:=by simpa[Ms]using hk
    subst h1;subst h2;refine Evs.ix (by omega) (by omega) λe he=>Evs.ret ?_;have he:v[j]?=some e:=by simpa using he
    unfold rd;rw[ht];simp[he]
   |false=>
    have o:=(two_ff hi hj ht (by omega)).1;have hb:=List.getElem?_eq_getElem o;have ht':=ht;unfold two at ht';rw[ht'];refine Evs.ix (by simp) (by simp[Ms]) λw hw=>Evs.ix (by simp) (by simp[Ms]) λk hk=>?_;have h1:u=w:=by simpa[Ms]using hw
    have h2:(i:Int)=k:=by simpa[Ms]using hk
    subst h1;subst h2;refine Evs.ix (by omega) (by omega) λe he=>Evs.ret ?_;have he:u[i]?=some e:=by simpa using he
    unfold rd;rw[ht];simp[he]
def sx(u v:List TApiEntry)(s:Nat×Nat):Nat×Nat:=if two u v s.1 s.2 then(s.1,s.2+1)else(s.1+1,s.2)
theorem put_eq:put2 (kN u i) (kN v j) (if two u v i j then kN v (j+1)else kN u (i+1))=T2 (kN u (sx u v (i,j)).1) (kN v (sx u v (i,j)).2):=by unfold put2 sx;cases ht:two u v i j with|true=>have ht':=ht;unfold two at ht';rw[ht'];rfl|false=>have ht':=ht;unfold two at ht';rw[ht'];rfl
theorem repl3(c:Cut u v i j)(hu:LOk u)(hv:LOk v)(hn:¬(i=u.length/\j=v.length)):Evs (λfu=>f_loser_Replace fu (T2 (kN u i) (kN v j)) (if two u v i j then kN v (j+1)else kN u (i+1))) (·=(T2 (kN u (sx u v (i,j)).1) (kN v (sx u v (i,j)).2),1,0)):=by
 have hi:=c.1;have hj:=c.2.1;rw[<-put_eq];refine replace2 _ _ _ (kNb _ _) (kNb _ _) (by split<;>exact kNb _ _) (by rw[fst_done hi hj];simpa using hn) ?_
 cases ht:two u v i j with
  |true=>
   have o:=(two_tt hi hj ht).1;have hb:=List.getElem?_eq_getElem o;unfold two at ht;intro hd;have hd:(kN v (j+1)).Done=false:=hd;show Op.bytesLess (kN v (j+1)).Key _=false;rw[kNd v (j+1) (by omega)]at hd;have o2:j+1<v.length:=by have :=of_decide_eq_false hd;omega
   have hc:=List.getElem?_eq_getElem o2;have :(fst2 (kN u i) (kN v j))=kN v j:=by unfold fst2;rw[if_pos ht]
   rw[this,kNs hb,kNs hc];exact(asc hv hb hc).2
  |false=>
   have o:=(two_ff hi hj ht (by omega)).1;have hb:=List.getElem?_eq_getElem o;unfold two at ht;intro hd;have hd:(kN u (i+1)).Done=false:=hd;show Op.bytesLess (kN u (i+1)).Key _=false;rw[kNd u (i+1) (by omega)]at hd;have o2:i+1<u.length:=by have :=of_decide_eq_false hd;omega
   have hc:=List.getElem?_eq_getElem o2;have :(fst2 (kN u i) (kN v j))=kN u i:=by unfold fst2;rw[if_neg (by rw[ht];simp)]
   rw[this,kNs hb,kNs hc];exact(asc hu hb hc).2
end Go.L
end
section
set_option linter.unusedSimpArgs false
set_option linter.unusedVariables false
namespace Go.L
open Go Go.AM
variable{u v:List TApiEntry}{i j:Nat}
theorem mnext2(c:Cut u v i j)(hu:LOk u)(hv:LOk v)(hu2:Sz u)(hv2:Sz v)(hn:¬(i=u.length/\j=v.length)):Evs (λfu=>f_merge_Next fu (Ms u v i j)) (·=(rd u v i j,if two u v i j then 1 else 0,Ms u v (sx u v (i,j)).1 (sx u v (i,j)).2,0)):=by
 unfold f_merge_Next;have hi:=c.1;have hj:=c.2.1;refine Evs.eq (mcheckOk c hu hv hu2 hv2) (Evs.ite (λh=>absurd h (by decide)) λ_=>?_);refine Evs.eq (Evs.pure (cloneE u v) rfl) (Evs.eq (Evs.pure (cloneI i j) rfl) (Evs.cond rfl (Evs.cond rfl ?_)))
 cases ht:two u v i j with
  |true=>
   have o:=(two_tt hi hj ht).1;have l1:=hv.1.1;have w1:IntKind.i64.wrap ((j:Int)+1)=((j+1:Nat):Int):=by rw[wr (by omega) (by omega)];omega
   have pk:=peek2 hi hj;rw[if_neg hn,ht]at pk;have rp:=repl3 c hu hv hn;rw[ht]at rp;have rp:Evs (λfu=>f_loser_Replace fu (T2 (kN u i) (kN v j)) (kN v (j+1))) (·=(T2 (kN u (sx u v (i,j)).1) (kN v (sx u v (i,j)).2),1,0)):=rp;have es:sx u v (i,j)=(i,j+1):=by unfold sx;rw[ht];rfl
   refine Evs.eq (r:=(rd u v i j,1,0)) pk (Evs.ite (λh=>absurd h (by simp)) λ_=>Evs.cond rfl ?_);refine Evs.eq (r:=(j:Int)) (Evs.pure (λ_=>rfl) rfl) (Evs.cond rfl (Evs.eq (r:=(j:Int)) (Evs.pure (λ_=>rfl) rfl) (Evs.cond (by simp) (Evs.cond rfl ?_))));refine Evs.eq (r:=v) (Evs.pure (λ_=>rfl) rfl) (Evs.eq (r:=v) (Evs.pure (λ_=>rfl) rfl) (Evs.cond rfl ?_));rw[w1];refine Evs.eq (r:=((j+1:Nat):Int)) (Evs.pure (λ_=>rfl) rfl) (Evs.eq (r:=((j+1:Nat):Int)) (Evs.pure (λ_=>rfl) rfl) ?_);refine Evs.eq (Evs.pure (next_eq v (j+1) (by omega)) rfl) (Evs.eq rp (Evs.cond rfl (Evs.cond rfl (Evs.ret ?_))));rw[es];rfl
  |false=>
   have o:=(two_ff hi hj ht (by omega)).1;have l1:=hu.1.1;have w1:IntKind.i64.wrap ((i:Int)+1)=((i+1:Nat):Int):=by rw[wr (by omega) (by omega)];omega
   have pk:=peek2 hi hj;rw[if_neg hn,ht]at pk;have rp:=repl3 c hu hv hn;rw[ht]at rp;have rp:Evs (λfu=>f_loser_Replace fu (T2 (kN u i) (kN v j)) (kN u (i+1))) (·=(T2 (kN u (sx u v (i,j)).1) (kN v (sx u v (i,j)).2),1,0)):=rp;have es:sx u v (i,j)=(i+1,j):=by unfold sx;rw[ht];rfl
   refine Evs.eq (r:=(rd u v i j,0,0)) pk (Evs.ite (λh=>absurd h (by simp)) λ_=>Evs.cond rfl ?_);refine Evs.eq (r:=(i:Int)) (Evs.pure (λ_=>rfl) rfl) (Evs.cond rfl (Evs.eq (r:=(i:Int)) (Evs.pure (λ_=>rfl) rfl) (Evs.cond (by simp) (Evs.cond rfl ?_))));refine Evs.eq (r:=u) (Evs.pure (λ_=>rfl) rfl) (Evs.eq (r:=u) (Evs.pure (λ_=>rfl) rfl) (Evs.cond rfl ?_));rw[w1];refine Evs.eq (r:=((i+1:Nat):Int)) (Evs.pure (λ_=>rfl) rfl) (Evs.eq (r:=((i+1:Nat):Int)) (Evs.pure (λ_=>rfl) rfl) ?_);refine Evs.eq (Evs.pure (next_eq u (i+1) (by omega)) rfl) (Evs.eq rp (Evs.cond rfl (Evs.cond rfl (Evs.ret ?_))));rw[es];rfl
end Go.L
end
