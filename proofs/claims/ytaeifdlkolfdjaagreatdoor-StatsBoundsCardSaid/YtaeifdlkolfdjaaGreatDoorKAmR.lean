/- Texts of the proof, joined by program. -/
import Derived.Test.YtaeifdlkolfdjaaGreatDoorKAmQ
set_option linter.unusedSimpArgs false
set_option linter.unusedVariables false
namespace Go.AM
open Go Go.RowKit
variable{ε:Bool}
def alg{α:Type}:List (Nat×α)->Nat->Option α|[],_=>none|(k,v)::l,n=>if n=k then some v else alg l n
def frGet(fr:List (Nat×AV))(t:Nat):AV:=match alg fr t with|some v=>v|none=>.top
def hset{α:Type}:List (Nat×α)->Nat->α->List (Nat×α)|[],b,x=>[(b,x)]|(k,y)::l,b,x=>if b=k then(k,x)::l else(k,y)::hset l b x
def hsets:List (Nat×ABlk)->List (Nat×ABlk)->List (Nat×ABlk)|hp,[]=>hp|hp,(b,x)::l=>hsets (hset hp b x) l
theorem alg_hset{α:Type}(b:Nat)(x:α):∀(hp:List (Nat×α)),alg (hset hp b x)=fupd (alg hp) b (some x)
 |[]=>by funext c;simp[hset,alg,fupd]
 |(k,y)::l=>by
  funext c;simp only[hset];split;.rename_i e;subst e;simp only[alg,fupd];split<;>simp_all
  .rename_i e;simp only[alg,alg_hset b x l,fupd];split;.rename_i h;subst h;rw[if_neg (λh=>e h.symm)]
   .rfl
theorem alg_hsets[Adr]:∀(l hp:List (Nat×ABlk)),alg (hsets hp l)=apWr (alg hp) l|[],hp=>rfl|(b,x)::l,hp=>by simp only[hsets,apWr,alg_hsets l,alg_hset]
theorem frGet_cons(k:Nat)(v:AV)(l:List (Nat×AV))(t:Nat):frGet ((k,v)::l) t=if t=k then v else frGet l t:=by
 simp only[frGet,alg];by_cases h:t=k;.rw[if_pos h,if_pos h]
 .rw[if_neg h,if_neg h]
theorem frGet_nil(t:Nat):frGet [] t=.top:=rfl
def frPut(fr:List (Nat×AV))(d:Option Nat)(v:AV):List (Nat×AV):=match d with|some d=>(d,v)::fr|none=>fr
theorem frGet_put[Adr](fr:List (Nat×AV))(d:Option Nat)(v:AV):frGet (frPut fr d v)=putT (frGet fr) d v:=by cases d with|none=>rfl|some d=>funext t;simp only[frPut,frGet_cons,putT,fupd]
inductive ML where|l(xs:List (AV×AV))|d(k:CT)(v:VT)(xs:List (k.T×v.T))
def ML.a:ML->List (AV×AV)|.l xs=>xs|.d k v xs=>encM k v xs
inductive Ob where|map(m:List (AV×AV))|sit(s:List UInt8)(p:Nat)|mit(l0:Nat)(left:ML)(cur:Option (AV×AV))|md(k:CT)(v:VT)(xs:List (k.T×v.T))
structure LBlk where
 fr:List (Nat×AV)
 nt:Nat
 ps:List Nat
 assign:Code
 body:Code
 st:LoopState
 pend:Option Code
 mp:Option Ob
structure St where
 fr:List (Nat×AV)
 hp:List (Nat×ABlk)
 nx:Nat
 lp:List (Nat×LBlk)
def Opened(w:World)(k:Nat):Prop:=w.heap[k]?=some (.deferred (some []))
def MRel[Adr](w:World)(F:Nat->Prop):List (AV×AV)->List MapEntry->Prop|[],es=>es=[]|(k,v)::m,es=>∃e es',es=e::es'/\VRel w F Emb.zero k e.key/\VRel w F Emb.zero v e.val/\MRel w F m es'
theorem MRel.mono[Adr]{w w':World}{F F':Nat->Prop}(hx:Ext0 F w w')(hF:∀b,F b->F' b):∀{m:List (AV×AV)}{es:List MapEntry},MRel w F m es->MRel w' F' m es|[],_,h=>h|(k,v)::m,_,⟨e,es',h1,h2,h3,h4⟩=>⟨e,es',h1,VRel.mono hx hF (Emb.le_refl _) _ _ h2,VRel.mono hx hF (Emb.le_refl _) _ _ h3,MRel.mono hx hF h4⟩
def BornOk(es:List MapEntry)(c:Nat):Prop:=(es.map (·.born)).Nodup/\ ∀e∈es,e.born<c
def RecM[Adr](w0 w:World)(F:Nat->Prop)(φ:Emb)(l:Nat)(m:List (AV×AV)):Prop:=∃(k:Nat) (es:Array MapEntry) (c:Nat),φ.loop l=some k/\w0.heap.size<=k/\w.heap[k]?=some (.map es c)/\MRel w F m es.toList/\BornOk es.toList c
def RecL[Adr](w0 w:World)(F:Nat->Prop)(φ:Emb)(l:Nat)(x:LBlk):Prop:=∃(k:Nat) (rec:Loop),φ.loop l=some k/\w0.heap.size<=k/\w.heap[k]?=some (.loop rec)/\rec.state=x.st/\rec.pending=x.pend/\rec.params.toList=x.ps/\rec.assign=x.assign/\rec.body=x.body/\TRel w F φ (frGet x.fr) x.nt rec.tmps/\Opened w rec.defers
def RecS(w0 w:World)(φ:Emb)(l:Nat)(u:List UInt8)(p:Nat):Prop:=∃k:Nat,φ.loop l=some k/\w0.heap.size<=k/\w.heap[k]?=some (.stringIter ⟨u.toArray⟩ p)
def RecI[Adr](w0 w:World)(F:Nat->Prop)(φ:Emb)(l l0:Nat)(left:List (AV×AV))(cur:Option (AV×AV)):Prop:=∃(k bm:Nat) (es:Array MapEntry) (c since:Nat) (seen:Array Nat) (last:Nat),φ.loop l=some k/\w0.heap.size<=k/\w.heap[k]?=some (.mapIter (some bm) since seen last)/\φ.loop l0=some bm/\w.heap[bm]?=some (.map es c)/\BornOk es.toList since/\since<=last/\since<=c/\MRel w F left (es.toList.filter λe=>!seen.contains e.born)/\(∀kv,cur=some kv->last=c/\ ∃e,e∈es.toList/\seen.back?=some e.born/\VRel w F Emb.zero kv.1 e.key/\VRel w F Emb.zero kv.2 e.val)
def RecO[Adr](w0 w:World)(F:Nat->Prop)(φ:Emb)(l:Nat):Ob->Prop|.map m=>RecM w0 w F φ l m|.sit u p=>RecS w0 w φ l u p|.mit l0 left cur=>RecI w0 w F φ l l0 left.a cur|.md k v xs=>RecM w0 w F φ l (encM k v xs)
def obMp:Ob->Option (List (AV×AV))|.map m=>some m|.md k v xs=>some (encM k v xs)|_=>none
theorem RecO.mp[Adr]{w0 w:World}{F:Nat->Prop}{φ:Emb}{l:Nat}{o:Ob}{m:List (AV×AV)}(h:obMp o=some m)(hr:RecO w0 w F φ l o):RecM w0 w F φ l m:=by cases o<;>cases h<;>exact hr
def isMp:Obj->Bool|.map .. =>true|.stringIter .. =>true|.mapIter .. =>true|_=>false
theorem decM_rel[Adr]{w:World}{F:Nat->Prop}(k:CT)(v:VT):∀{m:List (AV×AV)}{xs:List (k.T×v.T)}{es:List MapEntry},decM k v m=some xs->MRel w F m es->MRel w F (encM k v xs) es
 |[],xs,es,h,hm=>by cases h;exact hm
 |(a,b)::m,xs,es,h,⟨e,es',h1,h2,h3,h4⟩=>by
  simp only[decM]at h;split at h;.rename_i x y l q1 q2 q3;cases h;exact⟨e,es',h1,dec_cell k x q1 h2,v.dec_rel q2 h3,decM_rel k v q3 h4⟩
  .cases h
def castM{k k':CT}{v v':VT}(h:k'=k/\v'=v)(xs:List (k'.T×v'.T)):List (k.T×v.T):=match h with|⟨rfl,rfl⟩=>xs
def obM(k:CT)(v:VT):Ob->Option (List (k.T×v.T))|.md k' v' xs=>if h:k'=k/\v'=v then some (castM h xs)else none|.map m=>decM k v m|_=>none
theorem obM_ok[Adr]{w0 w:World}{F:Nat->Prop}{φ:Emb}{l:Nat}{k:CT}{v:VT}{o:Ob}{xs:List (k.T×v.T)}(h:obM k v o=some xs)(hr:RecO w0 w F φ l o):RecO w0 w F φ l (.md k v xs):=by
 cases o with
  |map m=>obtain⟨q,es,c,h1,h2,h3,h4,h5⟩:=hr;exact⟨q,es,c,h1,h2,h3,decM_rel k v h h4,h5⟩
  |md k' v' ys=>
   simp only[obM]at h;split at h;.rename_i e;obtain⟨rfl,rfl⟩:=e;cases h;exact hr
   .cases h
  |_=>cases h
theorem RecO.at[Adr]{w0 w:World}{F:Nat->Prop}{φ:Emb}{l:Nat}{o:Ob}(h:RecO w0 w F φ l o):∃k p,φ.loop l=some k/\w0.heap.size<=k/\w.heap[k]?=some p/\isMp p=true:=by cases o with|map m=>obtain⟨k,es,c,h1,h2,h3,-⟩:=h;exact⟨k,_,h1,h2,h3,rfl⟩|sit u p=>obtain⟨k,h1,h2,h3⟩:=h;exact⟨k,_,h1,h2,h3,rfl⟩|mit l0 left cur=>obtain⟨k,bm,es,c,si,se,la,h1,h2,h3,-⟩:=h;exact⟨k,_,h1,h2,h3,rfl⟩|md k v xs=>obtain⟨k,es,c,h1,h2,h3,-⟩:=h;exact⟨k,_,h1,h2,h3,rfl⟩
def Recd[Adr](w0 w:World)(F:Nat->Prop)(φ:Emb)(l:Nat)(x:LBlk):Prop:=(x.mp=none->RecL w0 w F φ l x)/\(∀m,x.mp=some m->RecO w0 w F φ l m)
theorem Recd.loop[Adr]{w0 w:World}{F:Nat->Prop}{φ:Emb}{l:Nat}{x:LBlk}(h:Recd w0 w F φ l x)(hm:x.mp=none):RecL w0 w F φ l x:=h.1 hm
theorem Recd.at[Adr]{w0 w:World}{F:Nat->Prop}{φ:Emb}{l:Nat}{x:LBlk}(h:Recd w0 w F φ l x):∃k,φ.loop l=some k/\w0.heap.size<=k:=by cases hm:x.mp with|none=>obtain⟨k,rec,h1,h2,-⟩:=h.1 hm;exact⟨k,h1,h2⟩|some m=>obtain⟨k,p,h1,h2,-⟩:=(h.2 m hm).at;exact⟨k,h1,h2⟩
theorem Recd.isLoop[Adr]{w0 w:World}{F:Nat->Prop}{φ:Emb}{l k:Nat}{x:LBlk}{rec:Loop}(h:Recd w0 w F φ l x)(hk:φ.loop l=some k)(hr:w.heap[k]?=some (.loop rec)):x.mp=none:=by cases hm:x.mp with|none=>rfl|some m=>obtain⟨k',p,h1,-,h3,h4⟩:=(h.2 m hm).at;rw[hk]at h1;cases h1;rw[hr]at h3;cases h3;cases h4
theorem RecL.recd[Adr]{w0 w:World}{F:Nat->Prop}{φ:Emb}{l:Nat}{x:LBlk}(h:RecL w0 w F φ l x)(hm:x.mp=none):Recd w0 w F φ l x:=⟨λ_=>h,λm e=>by rw[hm]at e;cases e⟩
theorem RecO.recd[Adr]{w0 w:World}{F:Nat->Prop}{φ:Emb}{l:Nat}{x:LBlk}{m:Ob}(h:RecO w0 w F φ l m)(hm:x.mp=some m):Recd w0 w F φ l x:=⟨λe=>(by rw[hm]at e;cases e),λm' e=>by rw[hm]at e;cases e;exact h⟩
theorem RecM.recd[Adr]{w0 w:World}{F:Nat->Prop}{φ:Emb}{l:Nat}{x:LBlk}{m:List (AV×AV)}(h:RecM w0 w F φ l m)(hm:x.mp=some (.map m)):Recd w0 w F φ l x:=RecO.recd (m:=.map m) h hm
def markOf(D:Nat):Deferred:={target:=.collected D,args:=#[]}
structure Mem[Adr](w0 w:World)(F:Nat->Prop)(φ:Emb)(s:St):Prop where
 heap:HRel w0 w F φ (λb=>b<s.nx) (alg s.hp)
 lps:∀l x,alg s.lp l=some x->Recd w0 w F φ l x
 lused:∀l k,φ.loop l=some k->l<s.nx/\k<w.heap.size
 linj:∀l l' k,φ.loop l=some k->φ.loop l'=some k->l=l'
structure Cx where
 r:Option Nat
 B:Nat
 ds:List Deferred
structure Env(x:Cx)(w0 w:World)(a:Act):Prop where
 dfr:∃Ds:List Nat,a.defers=Ds.map markOf++x.ds/\Ds.Nodup/\ ∀D,D∈Ds->x.B<=D/\Opened w D
 rnd:∀l0,x.r=some l0->∃rec:Loop,w.heap[l0]?=some (.loop rec)/\Opened w rec.defers
 lo:w0.heap.size<=x.B/\x.B<=w.heap.size
structure Fits[Adr](x:Cx)(w0 w:World)(F:Nat->Prop)(φ:Emb)(nt:Nat)(a:Act)(s:St):Prop where
 mem:Mem w0 w F φ s
 tmps:TRel w F φ (frGet s.fr) nt a.tmps
 env:Env x w0 w a
structure GrowW(w0 w:World)(F:Nat->Prop)(φ:Emb)(w':World)(F':Nat->Prop)(φ':Emb):Prop where
 le:φ.le φ'
 sub:∀b,F b->F' b
 new:∀b,F' b->F b\/w0.heap.size<=b
 ext:Ext0 F w w'
 opn:∀k,Opened w k->Opened w' k
 lps:∀(k:Nat)(rec:Loop),w.heap[k]?=some (.loop rec)->∃rec':Loop,w'.heap[k]?=some (.loop rec')/\rec'.defers=rec.defers
 mps:∀(k:Nat)(o:Obj),w.heap[k]?=some o->isMp o=true->∃o',w'.heap[k]?=some o'/\isMp o'=true
section
variable{w0 w w' w'':World}{F F' F'':Nat->Prop}{φ φ' φ'':Emb}
theorem GrowW.refl[Adr](w0 w:World)(F:Nat->Prop)(φ:Emb):GrowW w0 w F φ w F φ:=⟨Emb.le_refl φ,λ_ h=>h,λ_ h=>.inl h,Ext0.refl F w,λ_ h=>h,λ_ rec h=>⟨rec,h,rfl⟩,λ_ o h e=>⟨o,h,e⟩⟩
theorem GrowW.trans[Adr](h:GrowW w0 w F φ w' F' φ')(k:GrowW w0 w' F' φ' w'' F'' φ''):GrowW w0 w F φ w'' F'' φ'':=⟨Emb.le_trans h.le k.le,λb hb=>k.sub b (h.sub b hb),λb hb=>by
 rcases k.new b hb with q|q;.exact h.new b q
 .exact .inr q,h.ext.trans k.ext h.sub,λx hx=>k.opn x (h.opn x hx),λx rec hx=>by obtain⟨r1,h1,e1⟩:=h.lps x rec hx;obtain⟨r2,h2,e2⟩:=k.lps x r1 h1;exact⟨r2,h2,e2.trans e1⟩,λx o hx e=>by obtain⟨o',h1,e1⟩:=h.mps x o hx e;exact k.mps x o' h1 e1⟩
theorem Grow.weak[Adr](h:Grow w0 w F φ w' F' φ'):GrowW w0 w F φ w' F' φ':=⟨h.le,h.sub,h.new,h.ext.toExt0,λk hk=>h.ext.objs k _ hk (by intros;simp),λk rec hk=>⟨rec,h.ext.objs k _ hk (by intros;simp),rfl⟩,λk o hk e=>⟨o,h.ext.objs k _ hk (by intro c el fz q;subst q;cases e),e⟩⟩
theorem TRel.monoW[Adr]{τ:Nat->AV}{nt:Nat}{tmps:Array Value}(h:TRel w F φ τ nt tmps)(g:GrowW w0 w F φ w' F' φ'):TRel w' F' φ' τ nt tmps:=⟨h.size,λt=>VRel.mono g.ext g.sub g.le _ _ (h.val t),h.glob.mono g.ext g.sub⟩
theorem Recd.mono[Adr]{l:Nat}{x:LBlk}(h:Recd w0 w F φ l x)(g:GrowW w0 w F φ w' F' φ')(hk:∀(k:Nat)(o:Obj),(φ.loop l=some k\/((∃es c,o=.map es c)/\ ∃l0 left cur,x.mp=some (.mit l0 left cur)/\φ.loop l0=some k))->(∀c el fz,o≠.cells c el fz)->w.heap[k]?=some o->w'.heap[k]?=some o):Recd w0 w' F' φ' l x:=by
 refine⟨λhm=>?_,λm hm=>?_⟩;.obtain⟨k,rec,h1,h2,h3,h4,h5,h6,h7,h8,h9,h10⟩:=h.1 hm;exact⟨k,rec,g.le.2 _ _ h1,h2,hk k _ (.inl h1) (by intros;simp) h3,h4,h5,h6,h7,h8,h9.monoW g,g.opn _ h10⟩
 .have :=h.2 m hm;cases m with|map m=>obtain⟨k,es,c,h1,h2,h3,h4,h5⟩:=this;exact⟨k,es,c,g.le.2 _ _ h1,h2,hk k _ (.inl h1) (by intros;simp) h3,h4.mono g.ext g.sub,h5⟩|md mk mv xs=>obtain⟨k,es,c,h1,h2,h3,h4,h5⟩:=this;exact⟨k,es,c,g.le.2 _ _ h1,h2,hk k _ (.inl h1) (by intros;simp) h3,h4.mono g.ext g.sub,h5⟩|sit u p=>obtain⟨k,h1,h2,h3⟩:=this;exact⟨k,g.le.2 _ _ h1,h2,hk k _ (.inl h1) (by intros;simp) h3⟩|mit l0 left cur=>obtain⟨k,bm,es,c,si,se,la,h1,h2,h3,h4,h5,h6,h7,h7',h8,h9⟩:=this;exact⟨k,bm,es,c,si,se,la,g.le.2 _ _ h1,h2,hk k _ (.inl h1) (by intros;simp) h3,g.le.2 _ _ h4,hk bm _ (.inr ⟨⟨es,c,rfl⟩,l0,left,cur,hm,h4⟩) (by intros;simp) h5,h6,h7,h7',h8.mono g.ext g.sub,λkv e=>let⟨q1,e0,q2,q3,q4,q5⟩:=h9 kv e;⟨q1,e0,q2,q3,VRel.mono g.ext g.sub (Emb.le_refl _) _ _ q4,VRel.mono g.ext g.sub (Emb.le_refl _) _ _ q5⟩⟩
theorem Env.mono{x:Cx}{a a':Act}(h:Env x w0 w a)(g:GrowW w0 w F φ w' F' φ')(ha:a'.defers=a.defers):Env x w0 w' a':=by
 refine⟨?_,λl0 hl=>?_,h.lo.1,Nat.le_trans h.lo.2 g.ext.size⟩;.obtain⟨Ds,h1,h2,h3⟩:=h.dfr;exact⟨Ds,ha.trans h1,h2,λD hD=>⟨(h3 D hD).1,g.opn D (h3 D hD).2⟩⟩
 .obtain⟨rec,h1,h2⟩:=h.rnd l0 hl;obtain⟨rec',k1,k2⟩:=g.lps l0 rec h1;exact⟨rec',k1,by rw[k2];exact g.opn _ h2⟩
theorem Mem.step[Adr]{s s':St}(h:Mem w0 w F φ s)(g:Grow w0 w F φ w' F' φ')(hh:HRel w0 w' F' φ' (λb=>b<s'.nx) (alg s'.hp))(hl:s'.lp=s.lp)(hn:s.nx<=s'.nx):Mem w0 w' F' φ' s':=by
 refine⟨hh,λl x hx=>?_,λl k hk=>?_,λl l' k h1 h2=>?_⟩;.rw[hl]at hx;exact(h.lps l x hx).mono g.weak λk o _ ho hk=>g.ext.objs k _ hk ho
 .rw[g.sle.lp]at hk;have :=h.lused l k hk;exact⟨by omega,Nat.lt_of_lt_of_le this.2 g.ext.toExt0.size⟩
 .rw[g.sle.lp]at h1 h2;exact h.linj l l' k h1 h2
end
def AWP[Adr](P:Program)(nt:Nat)(c:Code)(K:Exit->St->Prop)(s:St):Prop:=∀(x:Cx)(w0 w:World)(F:Nat->Prop)(φ:Emb)(a:Act),Fits x w0 w F φ nt a s->c.wpIn (fen x.r) 0 P (λe a' w'=>∃s' φ' F',Fits x w0 w' F' φ' nt a' s'/\GrowW w0 w F φ w' F' φ'/\K e s') a w
section
variable{P:Program}{nt:Nat}{K:Exit->St->Prop}{s:St}
theorem awp_mono[Adr]{c:Code}{K':Exit->St->Prop}(h:AWP P nt c K s)(hk:∀e s,K e s->K' e s):AWP P nt c K' s:=λx w0 w F φ a hf=>wpIn_mono (h x w0 w F φ a hf) λ_ _ _ ⟨s',φ',F',h1,h2,h3⟩=>⟨s',φ',F',h1,h2,hk _ _ h3⟩
theorem awp_skip[Adr](h:K .normal s):AWP P nt .skip K s:=λ_ _ _ F φ _ hf=>wpIn_skip ⟨s,φ,F,hf,GrowW.refl _ _ _ _,h⟩
theorem awp_label[Adr]{l:Nat}(h:K .normal s):AWP P nt (.label l) K s:=λ_ _ _ F φ _ hf=>wpIn_label ⟨s,φ,F,hf,GrowW.refl _ _ _ _,h⟩
theorem awp_exit[Adr]{id:Nat}(h:K (.exit id) s):AWP P nt (.exit id) K s:=λ_ _ _ F φ _ hf=>wpIn_exit ⟨s,φ,F,hf,GrowW.refl _ _ _ _,h⟩
theorem awp_ret[Adr](h:K .ret s):AWP P nt .ret K s:=λ_ _ _ F φ _ hf=>wpIn_ret ⟨s,φ,F,hf,GrowW.refl _ _ _ _,h⟩
def thenK(next:St->Prop)(K:Exit->St->Prop):Exit->St->Prop|.normal,s=>next s|e,s=>K e s
def blockK(id:Nat)(K:Exit->St->Prop):Exit->St->Prop|.exit id',s=>if id'=id then K .normal s else K (.exit id') s|e,s=>K e s
theorem awp_seq[Adr]{x y:Code}(h:AWP P nt x (thenK (AWP P nt y K) K) s):AWP P nt (.seq x y) K s:=by intro cx w0 w F φ a hf;refine wpIn_seq (wpIn_mono (h cx w0 w F φ a hf) ?_);rintro e a1 w1 ⟨s1,φ1,F1,h1,h2,h3⟩;cases e with|normal=>refine wpIn_mono (h3 cx w0 w1 F1 φ1 a1 h1) ?_;rintro e a2 w2 ⟨s2,φ2,F2,k1,k2,k3⟩;exact⟨s2,φ2,F2,k1,h2.trans k2,k3⟩|exit id=>exact⟨s1,φ1,F1,h1,h2,h3⟩|goto l=>exact⟨s1,φ1,F1,h1,h2,h3⟩|ret=>exact⟨s1,φ1,F1,h1,h2,h3⟩|panic c=>exact⟨s1,φ1,F1,h1,h2,h3⟩|outgrown=>exact⟨s1,φ1,F1,h1,h2,h3⟩
theorem awp_block[Adr]{id:Nat}{c:Code}(h:AWP P nt c (blockK id K) s):AWP P nt (.block id c) K s:=by
 intro cx w0 w F φ a hf;refine wpIn_block (wpIn_mono (h cx w0 w F φ a hf) ?_);rintro e a1 w1 ⟨s1,φ1,F1,h1,h2,h3⟩
 cases e with
  |exit id'=>
   simp only[Exit.inBlock,blockK]at h3⊢;split;.rename_i e;rw[if_pos e]at h3;exact⟨s1,φ1,F1,h1,h2,h3⟩
   .rename_i e;rw[if_neg e]at h3;exact⟨s1,φ1,F1,h1,h2,h3⟩
  |normal=>exact⟨s1,φ1,F1,h1,h2,h3⟩
  |goto l=>exact⟨s1,φ1,F1,h1,h2,h3⟩
  |ret=>exact⟨s1,φ1,F1,h1,h2,h3⟩
  |panic c=>exact⟨s1,φ1,F1,h1,h2,h3⟩
  |outgrown=>exact⟨s1,φ1,F1,h1,h2,h3⟩
theorem awp_cond[Adr]{c:Operand}{x y:Code}{b:Bool}(hc:evalO (frGet s.fr) c=.bool b)(h:AWP P nt (if b then x else y) K s):AWP P nt (.cond c x y) K s:=by intro cx w0 w F φ a hf;have :=eval_rel hf.tmps c;rw[hc]at this;simp only[VRel]at this;exact wpIn_cond this (h cx w0 w F φ a hf)
theorem awp_cond_any[Adr]{c:Operand}{x y:Code}(hc:evalO (frGet s.fr) c=.anyb)(h1:AWP P nt x K s)(h2:AWP P nt y K s):AWP P nt (.cond c x y) K s:=by
 intro cx w0 w F φ a hf;have :=eval_rel hf.tmps c;rw[hc]at this;simp only[VRel]at this;obtain⟨b,hb⟩:=this;refine wpIn_cond hb ?_;cases b;.exact h2 cx w0 w F φ a hf
 .exact h1 cx w0 w F φ a hf
def AV.Le[Adr](a b:AV):Prop:=∀(w:World)(F:Nat->Prop)(φ:Emb)(v:Value),VRel w F φ a v->VRel w F φ b v
theorem AV.Le.refl[Adr](a:AV):a.Le a:=λ_ _ _ _ h=>h
theorem AV.Le.top[Adr](a:AV):a.Le .top:=λ_ _ _ _ _=>by simp[VRel]
theorem AV.Le.nils[Adr](sz:Nat):AV.nils.Le (.psl sz []):=λw F φ v h=>by simp only[VRel]at h⊢;subst h;exact⟨none,0,by simp,by simp,by simp,by simp⟩
theorem AV.Le.bool[Adr](b:Bool):(AV.bool b).Le .anyb:=λw F φ v h=>by simp only[VRel]at h⊢;exact⟨b,h⟩
def ALes[Adr]:List AV->List AV->Prop|[],[]=>True|a::as,b::bs=>a.Le b/\ALes as bs|_,_=>False
theorem ALes.rel[Adr]{w:World}{F:Nat->Prop}{φ:Emb}:∀{as bs:List AV}{vs:List Value},ALes as bs->VRels w F φ as vs->VRels w F φ bs vs|[],[],_,_,h=>h|a::as,b::bs,vs,hl,h=>by simp only[VRels]at h⊢;obtain⟨v,vs',h1,h2,h3⟩:=h;exact⟨v,vs',h1,hl.1 _ _ _ _ h2,hl.2.rel h3⟩|[],_::_,_,hl,_=>hl.elim|_::_,[],_,hl,_=>hl.elim
theorem AV.Le.agg[Adr]{as bs:List AV}(h:ALes as bs):(AV.agg as).Le (.agg bs):=λw F φ v hv=>by simp only[VRel]at hv⊢;obtain⟨cs,h1,h2,h3⟩:=hv;exact⟨cs,h1,h.rel h2,h3⟩
theorem AV.Le.tup[Adr]{as bs:List AV}(h:ALes as bs):(AV.tup as).Le (.tup bs):=λw F φ v hv=>by simp only[VRel]at hv⊢;obtain⟨cs,h1,h2⟩:=hv;exact⟨cs,h1,h.rel h2⟩
def FrLe[Adr](fr:List (Nat×AV)):List (Nat×AV)->Prop|[]=>True|(t,v)::l=>(frGet fr t).Le v/\FrLe fr l
theorem FrLe.get[Adr]{fr:List (Nat×AV)}:∀{l:List (Nat×AV)},FrLe fr l->∀t,(frGet fr t).Le (frGet l t)
 |[],_,t=>by rw[frGet_nil];exact AV.Le.top _
 |(k,v)::l,h,t=>by
  rw[frGet_cons];split;.rename_i q;subst q;exact h.1
  .exact h.2.get t
def keepHp{α:Type}(N:List Nat)(hp:List (Nat×α)):List (Nat×α):=hp.filter λp=>N.contains p.1
theorem alg_keepHp{α:Type}(N:List Nat)(b:Nat)(x:α):∀hp:List (Nat×α),alg (keepHp N hp) b=some x->alg hp b=some x
 |[],h=>by simp[keepHp,alg]at h
 |(k,y)::hp,h=>by
  simp only[keepHp,List.filter_cons]at h;simp only[alg];split at h
  .simp only[alg]at h;split at h;.rename_i e;rw[if_pos e];exact h
   .rename_i e;rw[if_neg e];exact alg_keepHp N b x hp h
  .rename_i hk;by_cases e:b=k
   .subst e
    have :∀hp:List (Nat×α),alg (keepHp N hp) b=none:=by
     intro hp
     induction hp with
      |nil=>rfl
      |cons q hp ih=>
       obtain⟨k,y⟩:=q;simp only[keepHp,List.filter_cons];split;.rename_i hk2;simp only[alg];rw[if_neg (by intro e;subst e;exact hk hk2)];exact ih
       .exact ih
    have :=this hp;simp only[keepHp]at this;rw[this]at h;cases h
   .rw[if_neg e];exact alg_keepHp N b x hp h
theorem alg_keep_in{α:Type}(N:List Nat)(b:Nat)(x:α):∀hp:List (Nat×α),alg (keepHp N hp) b=some x->b∈N
 |[],h=>by simp[keepHp,alg]at h
 |(k,y)::hp,h=>by
  simp only[keepHp,List.filter_cons]at h;split at h
  .rename_i hk;simp only[alg]at h;split at h;.rename_i e;subst e;simpa using hk
   .exact alg_keep_in N b x hp h
  .exact alg_keep_in N b x hp h
theorem alg_mem{α:Type}(b:Nat):∀l:List (Nat×α),b∈l.map (·.1)->∃x,alg l b=some x
 |[],h=>by simp at h
 |(k,y)::l,h=>by
  simp only[alg];by_cases e:b=k;.exact⟨y,by rw[if_pos e]⟩
  .rw[if_neg e];exact alg_mem b l (by simpa[e]using h)
def oblsHold[Adr](P:Program):List SE->Prop|[]=>True|se::l=>(match se.ob with|some ob=>ob.holds P|none=>True)/\oblsHold P l
theorem oblsHold.get[Adr]:∀{l:List SE},oblsHold P l->∀se,se∈l->∀ob,se.ob=some ob->ob.holds P
 |[],_,se,hm=>by simp at hm
 |x::l,h,se,hm=>by
  intro ob e;rcases List.mem_cons.1 hm with q|q;.subst q;have :=h.1;rw[e]at this;exact this
  .exact h.2.get se q ob e
end
end Go.AM
