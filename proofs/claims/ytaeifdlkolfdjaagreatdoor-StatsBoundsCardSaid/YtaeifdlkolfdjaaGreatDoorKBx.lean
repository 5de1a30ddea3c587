/- Texts of the proof, joined by program. -/
import Derived.Test.YtaeifdlkolfdjaaGreatDoorKBs
import Derived.Lib.Bytealg
import Derived.Lib.Join
import Derived.Lib.Builder
section
set_option linter.unusedSimpArgs false
set_option linter.unusedVariables false
namespace Go.AM
open Go Go.RowKit
structure Line where
 args:List AV
 r:AV
 blks:List ABlk
def look:List Line->List AV->Option (AV×List ABlk)|[],_=>none|e::l,args=>match listB (avB 40) e.args args with|true=>some (e.r,e.blks)|false=>look l args
theorem look_ok[Adr]{P:Program}{f:FuncId}{args:List AV}{r:AV}{blks:List ABlk}:∀(l:List Line),(∀e∈l,PCall P f e.args e.r e.blks)->look l args=some (r,blks)->PCall P f args r blks
 |[],_,h=>by cases h
 |e::l,hl,h=>by
  simp only[look]at h;split at h;.rename_i q;cases h;rw[<-listB_ok (avB_ok 40) _ _ q];exact hl e (by simp)
  .exact look_ok l (λx hx=>hl x (by simp[hx])) h
abbrev Cons:=FuncId->Option CK
def evC(con:Cons):Ev:=⟨false,λ_=>none,λ_ f=>con f,λ_ _=>none⟩
noncomputable def lineB[Adr](P:Program)(con:Cons)(f:FuncId)(e:Line):Bool:=match run (evC con) P 10000000 (.pcall 0 f e.args)with|.lf (.ans r blks)=>avB 40 r e.r&&listB blkB blks e.blks|_=>false
noncomputable def linesB[Adr](P:Program)(con:Cons)(f:FuncId):List Line->Bool|[]=>true|e::l=>match lineB P con f e with|true=>linesB P con f l|false=>false
theorem lineB_ok[Adr]{P:Program}(hP:POk P){con:Cons}(hc:COk P (evC con).con){f:FuncId}{e:Line}(h:lineB P con f e=true):PCall P f e.args e.r e.blks:=by
 unfold lineB at h;split at h;.rename_i r blks hr;simp only[Bool.and_eq_true]at h;rw[<-avB_ok 40 _ _ h.1,<-listB_ok blkB_ok _ _ h.2];exact run_pcall hP hc hr
 .cases h
theorem linesB_ok[Adr]{P:Program}(hP:POk P){con:Cons}(hc:COk P (evC con).con){f:FuncId}:∀(l:List Line),linesB P con f l=true->∀e∈l,PCall P f e.args e.r e.blks
 |[],_,e,he=>by cases he
 |x::l,h,e,he=>by
  simp only[linesB]at h;split at h
  .rename_i hx;rcases List.mem_cons.1 he with rfl|he;.exact lineB_ok hP hc hx
   .exact linesB_ok hP hc l h e he
  .cases h
def conT(f:FuncId)(l:List Line)(con:Cons):Cons:=λg=>match Nat.beq g f with|true=>some (.pure (look l))|false=>con g
def CKOk[Adr](P:Program)(f:FuncId):CK->Prop|.pure g=>∀args r blks,g args=some (r,blks)->PCall P f args r blks|.inp g=>∀(args:List AV)(s s':Cs)(v:AV),g args s=some (v,s')->EWP P f args (λr s2=>r=v/\Sim s2 s'.st) s.st|.ext g=>∀(args:List AV)(r:AV),g args=some r->∀(w:World)(F:Nat->Prop)(φ:Emb)(vs:List Value),VRels w F φ args vs->∃v,(callFunc f ⟨vs⟩).run P w=.ok (.value v) w/\VRel w F φ r v|.opn arg g res=>∀args x y,arg args=some x->g x=some y->PCall P f args (res y) []/\ ∀n,((res y).shift n).Le (res y)|.opi arg g res=>∀args s x eq y,arg args s=some (x,eq)->(∀q∈eq,q.1=q.2)->g x=some y->EWP P f args (λr s2=>r=(res args s y).1/\Sim s2 (res args s y).2.st) s.st|.opw arg n g=>∀args x xs,arg args=some x->g x=some xs->PCall P f args (.sl 0 0 (szU n) 0 xs.length) [(CB.t 0 true n xs).a]
theorem COk.of[Adr]{P:Program}{con:Nat->FuncId->Option CK}(h:∀fu f k,con fu f=some k->CKOk P f k):COk P con:=⟨λfu f _ e=>h fu f _ e,λfu f _ e=>h fu f _ e,λfu f _ e=>h fu f _ e,λfu f _ _ _ e=>h fu f _ e,λfu f _ _ _ e=>h fu f _ e,λfu f _ _ _ e=>h fu f _ e⟩
theorem COk.get[Adr]{P:Program}{con:Nat->FuncId->Option CK}(h:COk P con){fu:Nat}{f:FuncId}{k:CK}(e:con fu f=some k):CKOk P f k:=by cases k with|pure g=>exact h.pure fu f g e|inp g=>exact h.inp fu f g e|ext g=>exact h.ext fu f g e|opn arg g res=>exact h.opn fu f arg g res e|opw arg n g=>exact h.opw fu f arg n g e|opi arg g res=>exact h.opi fu f arg g res e
theorem conT_ok[Adr]{P:Program}{con:Cons}(hc:COk P (evC con).con){f:FuncId}{l:List Line}(hl:∀e∈l,PCall P f e.args e.r e.blks):COk P (evC (conT f l con)).con:=by
 refine COk.of λfu g k hk=>?_;change conT f l con g=some k at hk;unfold conT at hk;split at hk;.rename_i q;cases hk;rw[Nat.eq_of_beq_eq_true q];exact λargs r blks h=>look_ok l hl h
 .exact hc.get (fu:=fu) (f:=g) hk
theorem conT_run[Adr]{P:Program}(hP:POk P){con:Cons}(hc:COk P (evC con).con){f:FuncId}{l:List Line}(h:linesB P con f l=true):COk P (evC (conT f l con)).con:=conT_ok hc (linesB_ok hP hc l h)
noncomputable def conN:List (FuncId×(Nat->CK))->Nat->FuncId->Option CK|[],_,_=>none|(g,k)::l,fu,f=>match Nat.beq f g with|true=>some (k fu)|false=>conN l fu f
def conNOk[Adr](P:Program):List (FuncId×(Nat->CK))->Prop|[]=>True|(f,k)::l=>(∀fu,CKOk P f (k fu))/\conNOk P l
theorem conN_ok[Adr]{P:Program}{l:List (FuncId×(Nat->CK))}(h:conNOk P l):COk P (conN l):=by
 refine COk.of λfu f k hk=>?_
 induction l with
  |nil=>cases hk
  |cons p l ih=>
   obtain⟨g,q⟩:=p;unfold conN at hk;split at hk;.rename_i e;cases hk;rw[Nat.eq_of_beq_eq_true e];exact h.1 fu
   .exact ih h.2 hk
end Go.AM
end
section
set_option linter.unusedSimpArgs false
set_option linter.unusedVariables false
namespace Go.AM
open Go Go.RowKit
inductive DT where|k(q:CT)|g(n:Nat)|p(n:Nat)
def DT.T:DT->Type|.k q=>q.T|.g n=>U n|.p n=>U n
def DT.av:(d:DT)->d.T->AV|.k q,x=>q.av x|.g n,x=>.agg (encU n x)|.p n,x=>.pp (encU n x)
def DT.dec:(d:DT)->AV->Option d.T
 |.k q,v=>q.dec v
 |.g n,v=>match v with|.agg cs=>decU n cs|_=>none
 |.p n,v=>match v with|.pp cs=>decU n cs|_=>none
def ArgT:List DT->Type|[]=>Unit|[d]=>d.T|d::d'::ds=>d.T×ArgT (d'::ds)
def encA:(ds:List DT)->ArgT ds->List AV|[],_=>[]|[d],x=>[d.av x]|d::d'::ds,x=>d.av x.1::encA (d'::ds) x.2
def decA:(ds:List DT)->List AV->Option (ArgT ds)
 |[],vs=>match vs with|[]=>some ()|_=>none
 |[d],vs=>match vs with|[v]=>d.dec v|_=>none
 |d::d'::ds,vs=>match vs with
  |v::vs=>match d.dec v,decA (d'::ds) vs with|some x,some y=>some (x,y)|_,_=>none
  |[]=>none
def encR(ds:List DT)(x:ArgT ds):AV:=resV (encA ds x)
def decR(ds:List DT)(v:AV):Option (ArgT ds):=match ds with
 |[]=>match v with|.tup []=>some ()|_=>none
 |[d]=>d.dec v
 |d::d'::ds=>match v with|.tup vs=>decA (d::d'::ds) vs|_=>none
theorem le_agg_dec[Adr]{cs:List AV}{n:Nat}{x:U n}(h:decU n cs=some x):(AV.agg cs).Le (.agg (encU n x)):=by generalize he:encU n x=es;intro w F φ u hu;simp only[VRel]at hu⊢;obtain⟨cs',h1,h2,h3⟩:=hu;exact⟨cs',h1,by rw[<-he];exact decU_ok h h2,h3⟩
theorem le_pp_dec[Adr]{cs:List AV}{n:Nat}{x:U n}(h:decU n cs=some x):(AV.pp cs).Le (.pp (encU n x)):=by
 intro w F φ u hu;have key:∀(b o:Nat),CRel w F Emb.zero cs b o->CRel w F Emb.zero (encU n x) b o:=λb o hc=>by have :=decAll_rel (n:=n) (es:=[cs]) (xs:=[x]) (ω:=Emb.zero) (w:=w) (F:=F) (χ:=Emb.zero) (b:=b) (o:=o) (by unfold decAll;rw[h];rfl) (λe he=>by rw[List.mem_singleton.1 he];exact decU_len h) (by simp only[ERel];exact⟨hc,trivial⟩);rw[List.map_cons,List.map_nil]at this;generalize encU n x=es at this⊢;simp only[ERel]at this;exact this.1
 generalize encU n x=es at key⊢;simp only[VRel]at hu⊢;obtain⟨b,o,h1,h2,h3⟩:=hu;exact⟨b,o,h1,h2,key b o h3⟩
theorem DT.dec_ok[Adr](d:DT){v:AV}{x:d.T}(h:d.dec v=some x):v.Le (d.av x):=by
 cases d with
  |k q=>exact λw F φ u hu=>dec_cell q x h hu
  |g n=>cases v with|agg cs=>exact le_agg_dec h|_=>cases h
  |p n=>cases v with|pp cs=>exact le_pp_dec h|_=>cases h
theorem decA_ok[Adr]:∀(ds:List DT){vs:List AV}{x:ArgT ds},decA ds vs=some x->ALes vs (encA ds x)
 |[],vs,x,h=>by
  unfold decA at h;split at h;.trivial
  .cases h
 |[d],vs,x,h=>by unfold decA at h;cases vs with|nil=>cases h|cons v vs=>cases vs with|nil=>exact⟨DT.dec_ok d h,trivial⟩|cons w vs=>cases h
 |d::d'::ds,vs,x,h=>by
  unfold decA at h;split at h
  .split at h;.rename_i a b h1 h2;cases h;exact⟨DT.dec_ok d h1,decA_ok (d'::ds) h2⟩
   .cases h
  .cases h
theorem encR_tup(d d':DT)(ds:List DT)(x:ArgT (d::d'::ds)):encR (d::d'::ds) x=.tup (encA (d::d'::ds) x):=by unfold encR;cases ds<;>rfl
theorem decR_ok[Adr](ds:List DT){v:AV}{x:ArgT ds}(h:decR ds v=some x):v.Le (encR ds x):=by
 unfold decR at h;split at h
 .split at h;.exact AV.Le.refl _
  .cases h
 .exact DT.dec_ok _ h
 .split at h;.rw[encR_tup];exact AV.Le.tup (decA_ok _ h)
  .cases h
theorem tupA0_shift(k:Nat):∀(cs:List CT)(t:Tup cs),AV.shift.shifts k (tupA0 cs t)=tupA0 cs t|[],_=>rfl|c::cs,t=>by simp only[tupA0,AV.shift.shifts,tupA0_shift k cs];cases c<;>rfl
theorem ak_shift(k t:Nat):∀(a:AK)(x:a.T),(akAV t a x).shift k=akAV t a x|.l n,x=>rfl|.g n,x=>by simp only[akAV,AV.shift,tupA0_shift]
theorem wAV_shift(k:Nat):∀(l:List (Nat×AK))(x:SumA l),(wAV l x).shift k=wAV l x|[],x=>nomatch(show Empty from x)|[a],x=>ak_shift k a.1 a.2 x|a::b::l,x=>by cases(show Sum a.2.T (SumA (b::l))from x)with|inl y=>exact ak_shift k a.1 a.2 y|inr z=>exact wAV_shift k (b::l) z
theorem tupA_shift(k:Nat):∀(cs:List CT)(t:Tup cs),AV.shift.shifts k (tupA cs t)=tupA cs t|[],_=>rfl|c::cs,t=>by simp only[tupA,AV.shift.shifts,tupA_shift k cs];cases c with|w m=>exact congrArg (·::tupA cs t.2) (wAV_shift k (alts m) t.1)|_=>rfl
theorem DT.shift(j:Nat):∀(d:DT)(x:d.T),(d.av x).shift j=d.av x
 |.k q,x=>by cases q with|w m=>exact wAV_shift j (alts m) x|_=>rfl
 |.g n,x=>by simp only[DT.av,AV.shift,encU,tupA_shift]
 |.p n,x=>rfl
theorem encA_shift(k:Nat):∀(ds:List DT)(x:ArgT ds),AV.shift.shifts k (encA ds x)=encA ds x|[],_=>rfl|[d],x=>congrArg (λz=>[z]) (DT.shift k d x)|d::d'::ds,x=>by have h1:=DT.shift k d x.1;have h2:=encA_shift k (d'::ds) x.2;show(d.av x.1).shift k::AV.shift.shifts k (encA (d'::ds) x.2)=d.av x.1::encA (d'::ds) x.2;rw[h1,h2]
theorem encR_shift(k:Nat)(ds:List DT)(x:ArgT ds):(encR ds x).shift k=encR ds x:=by cases ds with|nil=>rfl|cons d ds=>cases ds with|nil=>exact DT.shift k d x|cons d' ds=>rw[encR_tup];simp only[AV.shift,encA_shift]
def hintL:List (Nat×Nat×Hint)->Nat->Nat->Option Hint|[],_,_=>none|(a,b,h)::l,nt,r=>match Nat.beq a nt&&Nat.beq b r with|true=>some h|false=>hintL l nt r
def mkCK(ds rs:List DT)(f:ArgT ds->Option (ArgT rs)):CK:=.opn (decA ds) f (encR rs)
theorem ck_of[Adr]{P:Program}(hP:POk P){ev:Ev}(hc:COk P ev.con){n fu:Nat}{f:FuncId}{ds rs:List DT}{g:ArgT ds->Option (ArgT rs)}(m:Bool)(hn:∀x,nrm m (opnT ev P n fu f (encA ds x) (decR rs))=opnT ev P n fu f (encA ds x) (decR rs))(he:∀x,eval m (opnT ev P n fu f (encA ds x) (decR rs)) (ArgT rs) some=g x):CKOk P f (mkCK ds rs g):=by intro args x y h1 h2;refine⟨PCall_args (opn_of hP hc (λv z hz=>decR_ok rs hz) (hn x) (he x) y h2) (decA_ok ds h1),λk=>?_⟩;rw[encR_shift];exact AV.Le.refl _
def mkCW(ds:List DT)(n:Nat)(f:ArgT ds->Option (List (U n))):CK:=.opw (decA ds) n f
theorem cw_of[Adr]{P:Program}(hP:POk P){ev:Ev}(hc:COk P ev.con){m fu:Nat}{f:FuncId}{ds:List DT}{n:Nat}{g:ArgT ds->Option (List (U n))}(b:Bool)(hn:∀x,nrm b (opwT ev P m fu f (encA ds x) n)=opwT ev P m fu f (encA ds x) n)(he:∀x,eval b (opwT ev P m fu f (encA ds x) n) _ some=g x):CKOk P f (mkCW ds n g):=by intro args x y h1 h2;exact PCall_args (opw_of hP hc (hn x) (he x) y h2) (decA_ok ds h1)
end Go.AM
end
