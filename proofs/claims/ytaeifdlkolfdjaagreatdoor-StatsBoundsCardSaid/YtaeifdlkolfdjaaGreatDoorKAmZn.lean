/- Texts of the proof, joined by program. -/
import Derived.Test.YtaeifdlkolfdjaaGreatDoorKAmZm
set_option linter.unusedSimpArgs false
set_option linter.unusedVariables false
namespace Go.AM
open Go Go.RowKit
def plainKey:TypeDesc->Bool|.int _=>true|.string=>true|.bool=>true|_=>false
def keyB:TypeDesc->AV->AV->Option Bool|.int _,.int k a,.int k' b=>if k=k' then some (decide (a=b))else none|.string,.str a,.str b=>some (a==b)|.bool,.bool a,.bool b=>some (a==b)|_,_,_=>none
def afind(d:TypeDesc)(n:AV):List (AV×AV)->Nat->Option (Option (Nat×AV))|[],_=>some none|(k,v)::l,i=>match keyB d n k with|some true=>some (some (i,v))|some false=>afind d n l (i+1)|none=>none
def setAt{α:Type}:List α->Nat->α->List α|[],_,_=>[]|_::l,0,x=>x::l|a::l,i+1,x=>a::setAt l i x
def dropAt{α:Type}:List α->Nat->List α|[],_=>[]|_::l,0=>l|a::l,i+1=>a::dropAt l i
section
variable{P:Program}{w:World}{F:Nat->Prop}{φ:Emb}
theorem keyB_rel[Adr]{ψ:Emb}{d:TypeDesc}{a b:AV}{q:Bool}{v u:Value}(h:keyB d a b=some q)(ha:VRel w F φ a v)(hb:VRel w F ψ b u):Instr.sameNow d v u=some q/\(q=true->∀m,Instr.sameBits m u v=true):=by
 unfold keyB at h;split at h
 .split at h;.rename_i e;subst e;cases h;simp only[VRel]at ha hb;subst ha;subst hb;refine⟨by simp only[Instr.sameNow,if_true];rfl,λe m=>?_⟩;simp only[decide_eq_true_eq]at e;subst e;cases m<;>simp[Instr.sameBits]
  .cases h
 .cases h;simp only[VRel]at ha hb;subst ha;subst hb;have hbe:∀x y:List UInt8,((⟨x.toArray⟩:ByteArray)==⟨y.toArray⟩)=(x==y):=λx y=>by show(x.toArray==y.toArray)=(x==y);rw[Bool.eq_iff_iff,beq_iff_eq,beq_iff_eq];exact⟨λe=>by simpa using congrArg Array.toList e,λe=>by rw[e]⟩
  refine⟨by simp only[Instr.sameNow,hbe],λe m=>?_⟩;rw[beq_iff_eq]at e;subst e;cases m<;>simp only[Instr.sameBits,hbe,beq_self_eq_true]
 .cases h;simp only[VRel]at ha hb;subst ha;subst hb;refine⟨by simp only[Instr.sameNow],λe m=>?_⟩;rw[beq_iff_eq]at e;subst e;cases m<;>simp[Instr.sameBits]
 .cases h
theorem afind_rel[Adr]{d:TypeDesc}{n:AV}{kv:Value}(hn:VRel w F φ n kv):∀(l:List (AV×AV))(es:List MapEntry)(i:Nat)(r:Option (Nat×AV)),MRel w F l es->afind d n l i=some r->match r with|none=>Instr.findNow d kv es i=some none|some (j,a)=>∃(t:Nat) (v:Value) (e:MapEntry),j=i+t/\Instr.findNow d kv es i=some (some (j,v))/\VRel w F Emb.zero a v/\es[t]?=some e/\Instr.sameBits 10000 e.key kv=true
 |[],es,i,r,hm,h=>by simp only[afind,Option.some.injEq]at h;subst h;simp only[MRel]at hm;subst hm;rfl
 |(k,x)::l,es,i,r,hm,h=>by
  simp only[MRel]at hm;obtain⟨e,es',rfl,h1,h2,h3⟩:=hm;simp only[afind]at h;split at h;.rename_i hq;cases h;obtain⟨q1,q2⟩:=keyB_rel hq hn h1;exact⟨0,e.val,e,rfl,by simp only[Instr.findNow,q1],h2,rfl,q2 rfl _⟩
  .rename_i hq;obtain⟨q1,-⟩:=keyB_rel hq hn h1;have :=afind_rel hn l es' (i+1) r h3 h;cases r with|none=>simp only[Instr.findNow,q1];exact this|some p=>obtain⟨j,a⟩:=p;obtain⟨t,v,e',rfl,k1,k2,k3,k4⟩:=this;exact⟨t+1,v,e',by omega,by simp only[Instr.findNow,q1];exact k1,k2,by simpa using k3,k4⟩
  .cases h
theorem checkKey_plain{kt:TypeId}{d:TypeDesc}(hd:P.underlying kt=some d)(hp:plainKey d=true)(b:Bool)(v:Value)(w:World):(Instr.checkKey b 10000 kt v).run P w=.ok () w:=by
 have :∀m:Nat,(Instr.checkKey b (m+1) kt v).run P w=.ok () w:=λm=>by cases d<;>simp[plainKey]at hp<;>simp[Instr.checkKey,run_underlying hd]
 exact this 9999
theorem MRel.set[Adr]{kv yv:Value}{n y:AV}(hn:VRel w F Emb.zero n kv)(hy:VRel w F Emb.zero y yv):∀(l:List (AV×AV))(es:List MapEntry)(t:Nat),MRel w F l es->MRel w F (setAt l t (n,y)) (es.modify t λe=>{e with key:=kv,val:=yv})|[],es,t,h=>by simp only[MRel]at h;subst h;simp[setAt,MRel,List.modify_nil]|(k,x)::l,es,0,h=>by simp only[MRel]at h;obtain⟨e,es',rfl,h1,h2,h3⟩:=h;simp only[setAt,MRel];exact⟨{e with key:=kv,val:=yv},es',by simp[List.modify],hn,hy,h3⟩|(k,x)::l,es,t+1,h=>by simp only[MRel]at h;obtain⟨e,es',rfl,h1,h2,h3⟩:=h;simp only[setAt,MRel];exact⟨e,es'.modify t λe=>{e with key:=kv,val:=yv},by simp[List.modify],h1,h2,MRel.set hn hy l es' t h3⟩
theorem MRel.push[Adr]{kv yv:Value}{n y:AV}{c:Nat}(hn:VRel w F Emb.zero n kv)(hy:VRel w F Emb.zero y yv):∀(l:List (AV×AV))(es:List MapEntry),MRel w F l es->MRel w F (l++[(n,y)]) (es++[{key:=kv,val:=yv,born:=c}])|[],es,h=>by simp only[MRel]at h;subst h;simp only[List.nil_append,MRel];exact⟨_,_,rfl,hn,hy,rfl⟩|(k,x)::l,es,h=>by simp only[MRel]at h;obtain⟨e,es',rfl,h1,h2,h3⟩:=h;simp only[List.cons_append,MRel];exact⟨e,_,rfl,h1,h2,MRel.push hn hy l es' h3⟩
theorem MRel.drop[Adr]:∀(l:List (AV×AV))(es:List MapEntry)(t:Nat),MRel w F l es->MRel w F (dropAt l t) (es.eraseIdx t)|[],es,t,h=>by simp only[MRel]at h;subst h;simp[dropAt,MRel]|(k,x)::l,es,0,h=>by simp only[MRel]at h;obtain⟨e,es',rfl,h1,h2,h3⟩:=h;simpa[dropAt]using h3|(k,x)::l,es,t+1,h=>by simp only[MRel]at h;obtain⟨e,es',rfl,h1,h2,h3⟩:=h;simp only[dropAt,List.eraseIdx_cons_succ,MRel];exact⟨e,_,rfl,h1,h2,MRel.drop l es' t h3⟩
theorem MRel.length[Adr]:∀(l:List (AV×AV))(es:List MapEntry),MRel w F l es->es.length=l.length|[],es,h=>by simp only[MRel]at h;subst h;rfl|(k,x)::l,es,h=>by simp only[MRel]at h;obtain⟨e,es',rfl,h1,h2,h3⟩:=h;simp[MRel.length l es' h3]
end
def mapGet(P:Program)(t:TypeId)(m:List (AV×AV))(n:AV)(ok:Bool):Option AV:=match P.underlying t with
 |some (.map kt et)=>match P.underlying kt,tZeroV P et with|some d,some z=>if plainKey d then match afind d n m 0 with|some (some (_,v))=>some (if ok then .tup [v,.bool true]else v)|some none=>some (if ok then .tup [z,.bool false]else z)|none=>none else none|_,_=>none
 |_=>none
def mapPut(P:Program)(t:TypeId)(m:List (AV×AV))(n y:AV):Option (List (AV×AV)):=match P.underlying t with
 |some (.map kt _)=>match P.underlying kt with|some d=>if plainKey d&&n.isP&&y.isP then match afind d n m 0 with|some (some (j,_))=>some (setAt m j (n,y))|some none=>some (m++[(n,y)])|none=>none else none|none=>none
 |_=>none
def mapDel(P:Program)(t:TypeId)(m:List (AV×AV))(n:AV):Option (List (AV×AV)):=match P.underlying t with
 |some (.map kt _)=>match P.underlying kt with|some d=>if plainKey d then match afind d n m 0 with|some (some (j,_))=>some (dropAt m j)|some none=>some m|none=>none else none|none=>none
 |_=>none
section
variable{P:Program}{nt:Nat}{K:Exit->St->Prop}{s:St}{ops:Array Oper}
theorem awpo_value[Adr]{i:Nat}{o:Oper}{rest:List Nat}{v:AV}(hi:ops[i]?=some o)(hnd:∀c,o.op≠.defer c)(hw:wants nt ops o (frGet s.fr)=true)(hd:dstOk nt o=true)(hrun:∀(w0 w:World)(F:Nat->Prop)(φ:Emb)(a:Act),Mem w0 w F φ s->(∀x,VRel w F φ (evalO (frGet s.fr) x) (a.eval x))->∃r,(execOp a.eval o).run P w=.ok (.value r) w/\VRel w F φ v r)(h:AWPO P nt ops rest K ⟨frPut s.fr o.dst v,s.hp,s.nx+8,s.lp⟩):AWPO P nt ops (i::rest) K s:=by intro cx w0 w F φ a hf Q hQ;rw[wpOpsIn_cons];unfold wpOpIn;simp only[hi];rw[if_pos (wanted_of hf hw)];refine⟨λ_ _=>trivial,?_⟩;rw[show(fen cx.r).round=cx.r from rfl,Oper.semAt_eq cx.r _ _ hnd];obtain⟨r,hrv,hrr⟩:=hrun w0 w F φ a hf.mem (eval_rel hf.tmps);rw[hrv,Oper.uponIn_value];refine h cx w0 _ F _ _ ⟨⟨hf.mem.heap.weakenU λb hb=>Nat.lt_of_lt_of_le hb (Nat.le_add_right _ _),hf.mem.lps,λl k e=>⟨Nat.lt_of_lt_of_le (hf.mem.lused l k e).1 (Nat.le_add_right _ _),(hf.mem.lused l k e).2⟩,hf.mem.linj⟩,?_,hf.env.mono (GrowW.refl w0 w F φ) (put_defers _ _ _)⟩ Q hQ;rw[frGet_put];exact hf.tmps.put (ds_lt hd) hrr
theorem awpo_ext[Adr]{i:Nat}{o:Oper}{rest:List Nat}{f:Operand}{args:List Operand}{fid:FuncId}{first cap:List AV}{v:AV}(hi:ops[i]?=some o)(hc:isCall o.op=some (f,args))(hw:wants nt ops o (frGet s.fr)=true)(hd:dstOk nt o=true)(hfv:evalO (frGet s.fr) f=.fn fid first cap)(hx:∀(w:World)(F:Nat->Prop)(φ:Emb)(vs:List Value),VRels w F φ (first++args.map (evalO (frGet s.fr))++cap) vs->∃r,(callFunc fid ⟨vs⟩).run P w=.ok (.value r) w/\VRel w F φ v r)(h:AWPO P nt ops rest K ⟨frPut s.fr o.dst v,s.hp,s.nx+8,s.lp⟩):AWPO P nt ops (i::rest) K s:=by
 unfold isCall at hc;split at hc;rotate_left;.cases hc
 rename_i c hop;split at hc;rotate_left;.cases hc
 rename_i f' hcal;simp only[Option.some.injEq,Prod.mk.injEq]at hc;obtain⟨rfl,rfl⟩:=hc;refine awpo_value hi (by rw[hop];intro c;simp) hw hd (λw0 w F φ a hmem he=>?_) h;have hargs:=rels_map he c.args.toList;have hv:=he f';rw[hfv]at hv;simp only[VRel]at hv;obtain⟨fs,cs,hvf,h1,h2⟩:=hv;obtain⟨r,hr,hrr⟩:=hx w F φ (fs++c.args.toList.map a.eval++cs) ((h1.append hargs).append h2);refine⟨r,?_,hrr⟩;have hr':(callFunc fid (⟨fs⟩++c.args.map a.eval++⟨cs⟩)).run P w=.ok (.value r) w:=by rw[<-hr];congr 2;apply Array.ext';simp
 unfold execOp;simp only[hop,Sem.run_bind,resolve,hcal,hvf,Deferred.ofValue,Sem.run_pure,Result.andThen_ok,invoke];exact hr'
theorem awpo_mapGet[Adr]{i:Nat}{o:Oper}{rest:List Nat}{t:TypeId}{x ix:Operand}{l:Nat}{y:LBlk}{m:List (AV×AV)}{ok:Bool}{v:AV}(hi:ops[i]?=some o)(hop:o.op=.lookup t x ix ok)(hw:wants nt ops o (frGet s.fr)=true)(hd:dstOk nt o=true)(hx:evalO (frGet s.fr) x=.mp l)(hl:alg s.lp l=some y){ob:Ob}(hm:y.mp=some ob)(hob:∀w0 w F φ,RecO w0 w F φ l ob->RecM w0 w F φ l m)(hv:mapGet P t m (evalO (frGet s.fr) ix) ok=some v)(h:AWPO P nt ops rest K ⟨frPut s.fr o.dst v,s.hp,s.nx+8,s.lp⟩):AWPO P nt ops (i::rest) K s:=by
 refine awpo_value hi (by rw[hop];intro c;simp) hw hd (λw0 w F φ a hmem he=>?_) h;have e1:=he x;rw[hx]at e1;simp only[VRel]at e1;obtain⟨k,hk1,e1⟩:=e1;have e2:=he ix;obtain⟨k',es,c,hk2,h0,hr,hmr,-⟩:=hob _ _ _ _ ((hmem.lps l y hl).2 _ hm);rw[hk1]at hk2;cases hk2;unfold mapGet at hv;split at hv;rotate_left;.cases hv
 rename_i kt et hu;split at hv;rotate_left;.cases hv
 rename_i d z hd1 hz;split at hv;rotate_left;.cases hv
 rename_i hp;have hc:=checkKey_plain hd1 hp es.isEmpty (a.eval ix) w;split at hv
 .rename_i j b hfd;cases hv;obtain⟨t',v',e,-,q1,q2,-⟩:=afind_rel e2 m es.toList 0 _ hmr hfd;have hr2:VRel w F φ b v':=VRel.mono (Ext0.refl F w) (λ_ h=>h) (Emb.zero_le φ) _ _ q2
  cases ok with
   |false=>refine⟨v',?_,hr2⟩;unfold execOp;simp only[hop,Instr.lookup,e1,Sem.run_bind,run_underlying hu,Result.andThen_ok,run_getObj_mp hr,Sem.run_pure,hc,Instr.findKey,run_underlying hd1,q1];rfl
   |true=>
    refine⟨.tuple #[v',.bool true],?_,?_⟩;.unfold execOp;simp only[hop,Instr.lookup,e1,Sem.run_bind,run_underlying hu,Result.andThen_ok,run_getObj_mp hr,Sem.run_pure,hc,Instr.findKey,run_underlying hd1,q1];rfl
    .simp only[if_true,VRel];exact⟨[v',.bool true],rfl,by simp only[VRels];exact⟨_,_,rfl,hr2,_,_,rfl,by simp only[VRel],rfl⟩⟩
 .rename_i hfd;cases hv;have q1:=afind_rel e2 m es.toList 0 _ hmr hfd;obtain⟨zv,hz1,hz2⟩:=run_zeroV_of (P:=P) hz w
  cases ok with
   |false=>refine⟨zv,?_,hz2 w F φ⟩;unfold execOp;simp only[hop,Instr.lookup,e1,Sem.run_bind,run_underlying hu,Result.andThen_ok,run_getObj_mp hr,Sem.run_pure,hc,Instr.findKey,run_underlying hd1,q1,hz1];rfl
   |true=>
    refine⟨.tuple #[zv,.bool false],?_,?_⟩;.unfold execOp;simp only[hop,Instr.lookup,e1,Sem.run_bind,run_underlying hu,Result.andThen_ok,run_getObj_mp hr,Sem.run_pure,hc,Instr.findKey,run_underlying hd1,q1,hz1];rfl
    .simp only[if_true,VRel];exact⟨[zv,.bool false],rfl,by simp only[VRels];exact⟨_,_,rfl,hz2 w F φ,_,_,rfl,by simp only[VRel],rfl⟩⟩
 .cases hv
theorem awpo_mapW[Adr]{i:Nat}{o:Oper}{rest:List Nat}{l:Nat}{y:LBlk}{m m':List (AV×AV)}{v:AV}(hi:ops[i]?=some o)(hnd:∀c,o.op≠.defer c)(hw:wants nt ops o (frGet s.fr)=true)(hd:dstOk nt o=true)(hl:alg s.lp l=some y)(hm:y.mp=some (.map m))(hni:noItB l s.lp=true)(hrun:∀(w:World)(F:Nat->Prop)(φ:Emb)(a:Act)(k:Nat)(es:Array MapEntry)(c:Nat),(∀x,VRel w F φ (evalO (frGet s.fr) x) (a.eval x))->φ.loop l=some k->w.heap[k]?=some (.map es c)->MRel w F m es.toList->BornOk es.toList c->∃es' c' r,((execOp a.eval o).run P w=.ok (.value r) (w.putObj k (.map es' c'))\/((execOp a.eval o).run P w=.ok .skip (w.putObj k (.map es' c'))/\r=undef))/\MRel w F m' es'.toList/\BornOk es'.toList c'/\ ∀w' F' φ',VRel w' F' φ' v r)(h:AWPO P nt ops rest K ⟨frPut s.fr o.dst v,s.hp,s.nx+8,hset s.lp l {y with mp:=some (.map m')}⟩):AWPO P nt ops (i::rest) K s:=by
 intro cx w0 w F φ a hf Q hQ;rw[wpOpsIn_cons];unfold wpOpIn;simp only[hi];rw[if_pos (wanted_of hf hw)];refine⟨λ_ _=>trivial,?_⟩;rw[show(fen cx.r).round=cx.r from rfl,Oper.semAt_eq cx.r _ _ hnd];obtain⟨k,es,c,hk,h0,hr,hmr,hbo⟩:=(hf.mem.lps l y hl).2 _ hm;obtain⟨es',c',r,hrv,hrr,hbo',hvr⟩:=hrun w F φ a k es c (eval_rel hf.tmps) hk hr hmr hbo;obtain⟨m1,m2⟩:=hf.mem.putMap hl hk hr h0 hrr hbo' (noItB_ok hni) (c':=c') (m:=m);have fin:wpOpsIn (fen cx.r) 0 P ops Q rest (a.put o.dst r) (w.putObj k (.map es' c')):=by refine h cx w0 _ F _ _ ⟨⟨m1.heap.weakenU λb hb=>Nat.lt_of_lt_of_le hb (Nat.le_add_right _ _),m1.lps,λl k e=>⟨Nat.lt_of_lt_of_le (m1.lused l k e).1 (Nat.le_add_right _ _),(m1.lused l k e).2⟩,m1.linj⟩,?_,hf.env.mono m2 (put_defers _ _ _)⟩ Q λe a2 w2 s2 φ2 F2 g1 g2 g3=>hQ e a2 w2 s2 φ2 F2 g1 (m2.trans g2) g3;rw[frGet_put];exact(hf.tmps.monoW m2).put (ds_lt hd) (hvr _ _ _)
 rcases hrv with hrv|⟨hrv,rfl⟩;.rw[hrv,Oper.uponIn_value];exact fin
 .rw[hrv,Oper.uponIn_skip];exact fin
theorem awpo_mapPut[Adr]{i:Nat}{o:Oper}{rest:List Nat}{t:TypeId}{x ix vx:Operand}{l:Nat}{y:LBlk}{m m':List (AV×AV)}(hi:ops[i]?=some o)(hop:o.op=.mapUpdate t x ix vx)(hw:wants nt ops o (frGet s.fr)=true)(hd:dstOk nt o=true)(hx:evalO (frGet s.fr) x=.mp l)(hl:alg s.lp l=some y)(hm:y.mp=some (.map m))(hni:noItB l s.lp=true)(hv:mapPut P t m (evalO (frGet s.fr) ix) (evalO (frGet s.fr) vx)=some m')(h:AWPO P nt ops rest K ⟨frPut s.fr o.dst .top,s.hp,s.nx+8,hset s.lp l {y with mp:=some (.map m')}⟩):AWPO P nt ops (i::rest) K s:=by
 refine awpo_mapW hi (by rw[hop];intro c;simp) hw hd hl hm hni (λw F φ a k es c he hk hr hmr hbo=>?_) h;have e1:=he x;rw[hx]at e1;simp only[VRel]at e1;obtain⟨k',hk1,e1⟩:=e1;rw[hk]at hk1;cases hk1;have e2:=he ix;have e3:=he vx;unfold mapPut at hv;split at hv;rotate_left;.cases hv
 rename_i kt et hu;split at hv;rotate_left;.cases hv
 rename_i d hd1;split at hv;rotate_left;.cases hv
 rename_i hp;simp only[Bool.and_eq_true]at hp;obtain⟨⟨hp,hp2⟩,hp3⟩:=hp;have e2':=isP_rel (ψ:=Emb.zero) _ _ hp2 e2;have e3':=isP_rel (ψ:=Emb.zero) _ _ hp3 e3;have hc:=checkKey_plain hd1 hp false (a.eval ix) w;split at hv
 .rename_i j b hfd;cases hv;obtain⟨t',v',e,rfl,q1,q2,q3,q4⟩:=afind_rel e2 m es.toList 0 _ hmr hfd;refine⟨es.modify t' λe=>{e with key:=a.eval ix,val:=a.eval vx},c,undef,.inr ⟨?_,rfl⟩,?_,by rw[Array.toList_modify];exact hbo.map (by rw[born_modify];intro _;rfl),λ_ _ _=>by simp only[VRel]⟩
  .have q3':es[t']?=some e:=by rw[<-Array.getElem?_toList];exact q3
   unfold execOp;simp only[hop,Instr.mapUpdate,e1,Sem.run_bind,run_underlying hu,Result.andThen_ok,run_getObj_mp hr,hc,Instr.findKey,run_underlying hd1,q1,Sem.run_pure,Nat.zero_add,q3',Option.map_some,Option.getD_some,Instr.keyThatStays,q4,if_true,run_setObj_mp _ hr]
  .rw[Array.toList_modify,Nat.zero_add];exact MRel.set e2' e3' _ _ _ hmr
 .rename_i hfd;cases hv;have q1:=afind_rel e2 m es.toList 0 _ hmr hfd;refine⟨es.push {key:=a.eval ix,val:=a.eval vx,born:=c},c+1,undef,.inr ⟨?_,rfl⟩,?_,by rw[Array.toList_push];exact hbo.push rfl,λ_ _ _=>by simp only[VRel]⟩;.unfold execOp;simp only[hop,Instr.mapUpdate,e1,Sem.run_bind,run_underlying hu,Result.andThen_ok,run_getObj_mp hr,hc,Instr.findKey,run_underlying hd1,q1,Sem.run_pure,run_setObj_mp _ hr]
  .rw[Array.toList_push];exact MRel.push e2' e3' _ _ hmr
 .cases hv
theorem awpo_mapIns[Adr]{i:Nat}{o:Oper}{rest:List Nat}{t:TypeId}{x ix vx:Operand}{l:Nat}{y:LBlk}{m m':List (AV×AV)}(hi:ops[i]?=some o)(hop:o.op=.insert t x ix vx)(hw:wants nt ops o (frGet s.fr)=true)(hd:dstOk nt o=true)(hx:evalO (frGet s.fr) x=.mp l)(hl:alg s.lp l=some y)(hm:y.mp=some (.map m))(hni:noItB l s.lp=true)(hv:mapPut P t m (evalO (frGet s.fr) ix) (evalO (frGet s.fr) vx)=some m')(h:AWPO P nt ops rest K ⟨frPut s.fr o.dst .top,s.hp,s.nx+8,hset s.lp l {y with mp:=some (.map m')}⟩):AWPO P nt ops (i::rest) K s:=by
 refine awpo_mapW hi (by rw[hop];intro c;simp) hw hd hl hm hni (λw F φ a k es c he hk hr hmr hbo=>?_) h;have e1:=he x;rw[hx]at e1;simp only[VRel]at e1;obtain⟨k',hk1,e1⟩:=e1;rw[hk]at hk1;cases hk1;have e2:=he ix;have e3:=he vx;unfold mapPut at hv;split at hv;rotate_left;.cases hv
 rename_i kt et hu;split at hv;rotate_left;.cases hv
 rename_i d hd1;split at hv;rotate_left;.cases hv
 rename_i hp;simp only[Bool.and_eq_true]at hp;obtain⟨⟨hp,hp2⟩,hp3⟩:=hp;have e2':=isP_rel (ψ:=Emb.zero) _ _ hp2 e2;have e3':=isP_rel (ψ:=Emb.zero) _ _ hp3 e3;have hc:=checkKey_plain hd1 hp false (a.eval ix) w;split at hv
 .rename_i j b hfd;cases hv;obtain⟨t',v',e,rfl,q1,q2,q3,q4⟩:=afind_rel e2 m es.toList 0 _ hmr hfd;refine⟨es.modify t' λe=>{e with key:=a.eval ix,val:=a.eval vx},c,undef,.inr ⟨?_,rfl⟩,?_,by rw[Array.toList_modify];exact hbo.map (by rw[born_modify];intro _;rfl),λ_ _ _=>by simp only[VRel]⟩
  .have q3':es[t']?=some e:=by rw[<-Array.getElem?_toList];exact q3
   unfold execOp;simp only[hop,Instr.mapUpdate,e1,Sem.run_bind,run_underlying hu,Result.andThen_ok,run_getObj_mp hr,hc,Instr.findKey,run_underlying hd1,q1,Sem.run_pure,Nat.zero_add,q3',Option.map_some,Option.getD_some,Instr.keyThatStays,q4,if_true,run_setObj_mp _ hr]
  .rw[Array.toList_modify,Nat.zero_add];exact MRel.set e2' e3' _ _ _ hmr
 .rename_i hfd;cases hv;have q1:=afind_rel e2 m es.toList 0 _ hmr hfd;refine⟨es.push {key:=a.eval ix,val:=a.eval vx,born:=c},c+1,undef,.inr ⟨?_,rfl⟩,?_,by rw[Array.toList_push];exact hbo.push rfl,λ_ _ _=>by simp only[VRel]⟩;.unfold execOp;simp only[hop,Instr.mapUpdate,e1,Sem.run_bind,run_underlying hu,Result.andThen_ok,run_getObj_mp hr,hc,Instr.findKey,run_underlying hd1,q1,Sem.run_pure,run_setObj_mp _ hr]
  .rw[Array.toList_push];exact MRel.push e2' e3' _ _ hmr
 .cases hv
theorem awpo_mapDel[Adr]{i:Nat}{o:Oper}{rest:List Nat}{t:TypeId}{ts:List TypeId}{c:Call}{x ix:Operand}{l:Nat}{y:LBlk}{m m':List (AV×AV)}(hi:ops[i]?=some o)(hop:o.op=.call c)(hc:c.callee=.builtin .delete)(ha:c.args.toList=[x,ix])(ht:c.argTypes.toList=t::ts)(hw:wants nt ops o (frGet s.fr)=true)(hd:dstOk nt o=true)(hx:evalO (frGet s.fr) x=.mp l)(hl:alg s.lp l=some y)(hm:y.mp=some (.map m))(hni:noItB l s.lp=true)(hv:mapDel P t m (evalO (frGet s.fr) ix)=some m')(h:AWPO P nt ops rest K ⟨frPut s.fr o.dst (.tup []),s.hp,s.nx+8,hset s.lp l {y with mp:=some (.map m')}⟩):AWPO P nt ops (i::rest) K s:=by
 refine awpo_mapW hi (by rw[hop];intro c;simp) hw hd hl hm hni (λw F φ a k es cl he hk hr hmr hbo=>?_) h;have e1:=he x;rw[hx]at e1;simp only[VRel]at e1;obtain⟨k',hk1,e1⟩:=e1;rw[hk]at hk1;cases hk1;have e2:=he ix;unfold mapDel at hv;split at hv;rotate_left;.cases hv
 rename_i kt et hu;split at hv;rotate_left;.cases hv
 rename_i d hd1;split at hv;rotate_left;.cases hv
 rename_i hp;have hck:=checkKey_plain hd1 hp es.isEmpty (a.eval ix) w;have hargs:c.args.map a.eval=#[a.eval x,a.eval ix]:=by apply Array.ext';simp[ha]
 have htt:c.argTypes[0]?=some t:=by rw[<-Array.getElem?_toList,ht];rfl
 have hun:∀w' F' φ',VRel w' F' φ' (.tup []) (.tuple #[]):=λw' F' φ'=>by simp only[VRel];exact⟨[],rfl,by simp only[VRels]⟩
 split at hv
 .rename_i j b hfd;cases hv;obtain⟨t',v',e,rfl,q1,q2,q3,q4⟩:=afind_rel e2 m es.toList 0 _ hmr hfd;refine⟨es.eraseIdxIfInBounds t',cl,.tuple #[],.inl ?_,?_,by rw[Array.toList_eraseIdxIfInBounds];exact hbo.sub (List.eraseIdx_sublist _ _),hun⟩;.unfold execOp;simp only[hop,Sem.run_bind,resolve,hc,Sem.run_pure,Result.andThen_ok,invoke,builtin,hargs,Builtin.delete_,htt,List.getElem?_toArray,List.getElem?_cons_zero,List.getElem?_cons_succ,run_underlying hu,e1,run_getObj_mp hr,hck,Instr.findKey,run_underlying hd1,q1,Nat.zero_add,run_setObj_mp _ hr]
  .rw[Nat.zero_add,Array.toList_eraseIdxIfInBounds];exact MRel.drop _ _ _ hmr
 .rename_i hfd;cases hv;have q1:=afind_rel e2 m es.toList 0 _ hmr hfd;refine⟨es,cl,.tuple #[],.inl ?_,hmr,hbo,hun⟩;unfold execOp;simp only[hop,Sem.run_bind,resolve,hc,Sem.run_pure,Result.andThen_ok,invoke,builtin,hargs,Builtin.delete_,htt,List.getElem?_toArray,List.getElem?_cons_zero,List.getElem?_cons_succ,run_underlying hu,e1,run_getObj_mp hr,hck,Instr.findKey,run_underlying hd1,q1,run_setObj_mp _ hr]
 .cases hv
end
end Go.AM
