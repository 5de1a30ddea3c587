/- Texts of the proof, joined by program. -/
import Derived.Test.YtaeifdlkolfdjaaGreatDoorKBa
section
set_option linter.unusedSimpArgs false
set_option linter.unusedVariables false
namespace Go.AM
open Go Go.RowKit
def frc{L:Type}(n:Nat)(x:R L):R L:=match Nat.ble 0 n with|true=>x|false=>.bad
def tops(η:Heap):Nat->AV->List Nat->List Nat
 |0,_,acc=>acc
 |d+1,v,acc=>match v with
  |.sl b .. =>match η b with|some x=>if x.own&&!acc.contains b then b::acc else acc|none=>acc
  |.slk b .. =>match η b with|some x=>if x.own&&!acc.contains b then b::acc else acc|none=>acc
  |.iface _ v=>tops η d v acc
  |.ref b .. =>match η b with|some x=>if x.own&&!acc.contains b then(if x.pure then b::acc else x.es.foldl (λacc e=>e.foldl (λacc v=>tops η d v acc) acc) (b::acc))else acc|none=>acc
  |.agg cs=>cs.foldl (λacc v=>tops η d v acc) acc
  |.tup cs=>cs.foldl (λacc v=>tops η d v acc) acc
  |.fn _ a c=>c.foldl (λacc v=>tops η d v acc) (a.foldl (λacc v=>tops η d v acc) acc)
  |_=>acc
def nodupB:List Nat->Bool|[]=>true|x::l=>!l.contains x&&nodupB l
theorem nodupB_ok:∀{l:List Nat},nodupB l=true->l.Nodup|[],_=>List.nodup_nil|x::l,h=>by simp only[nodupB,Bool.and_eq_true,Bool.not_eq_true',List.contains_eq_mem,decide_eq_false_iff_not]at h;exact List.nodup_cons.2 ⟨h.1,nodupB_ok h.2⟩
def expo(ns:List Nat)(v:AV)(η:Heap):Option (AV×List ABlk):=match exp ns η 60 v,expB ns η ns with|some (r,rd),some (blks,rd')=>if Nat.ble ns.length 8&&nodupB ns&&ns.all (λb=>!(rd++rd').contains b)then some (r,blks)else none|_,_=>none
inductive Job where|code(nt:Nat)(c:Code)(s:Cs)|loop(nt:Nat)(c:Code)(s:Cs)|inscope(nt:Nat)(c r:Code)(s:Cs)|ops(nt:Nat)(ops:Array Oper)(l:List Nat)(s:Cs)|draw(nt:Nat)(ops:Array Oper)(c:Nat)(l:List Nat)(s:Cs)|every(nt:Nat)(ops:Array Oper)(fuel:Nat)(listed:Array Bool)(s:Cs)|call(f:FuncId)(args:List AV)(s:Cs)|pcall(fu:Nat)(f:FuncId)(args:List AV)|fcode(fn:Func)(N:List Nat)(c:Code)(s:Cs)|fops(fn:Func)(N:List Nat)(ops:Array Oper)(l:List Nat)(y:Code)(s:Cs)|dcall(f:FuncId)(args:List AV)(md:Option AV)(s:Cs)|dcode(nt:Nat)(c:Code)(s:Cs)|dops(nt:Nat)(ops:Array Oper)(l:List Nat)(s:Cs)
inductive Out where|ex(e:Exit)(s:Cs)|pan(a:AV)(s:Cs)|val(v:AV)(s:Cs)|ans(r:AV)(blks:List ABlk)|rec'(b:Bool)(s:Cs)
def one(o:Out):R Out:=.lf o
inductive CK:Type 1 where|pure(g:List AV->Option (AV×List ABlk))|inp(g:List AV->Cs->Option (AV×Cs))|ext(g:List AV->Option AV)|opn{A B:Type}(arg:List AV->Option A)(f:A->Option B)(res:B->AV)|opw{A:Type}(arg:List AV->Option A)(n:Nat)(f:A->Option (List (U n)))|opi{A B:Type}(arg:List AV->Cs->Option (A×List (Nat×Nat)))(f:A->Option B)(res:List AV->Cs->B->AV×Cs)
inductive Place where|t(t:Nat)|c(b j:Nat)
inductive Slot where|v(p:Place)(c:CT)|g(t n:Nat)|o(p:Place)(ps:List Place)(n:Nat)|m(l:Nat)(k:CT)(v:VT)|i(l l0:Nat)(k:CT)(v:VT)
def Slot.isI:Slot->Bool|.i .. =>true|_=>false
def Slot.T:Slot->Type|.v _ c=>c.T|.g _ n=>U n|.o _ _ n=>List (U n)|.m _ k w=>List (k.T×w.T)|.i _ _ k w=>List (k.T×w.T)
def SlT:List Slot->Type|[]=>Unit|[s]=>s.T|s::s'::ss=>s.T×SlT (s'::ss)
def OutT:List (Nat×List Slot)->Type|[]=>Empty|[o]=>SlT o.2|o::o'::os=>Sum (SlT o.2) (OutT (o'::os))
structure Hint where
 keep:List Nat
 sl:List Slot
 outs:List (Nat×List Slot)
structure Ev where
 md:Bool
 cd:TypeId->Option Nat
 con:Nat->FuncId->Option CK
 hint:Nat->Nat->Option Hint
def ekey:Exit->Option Nat|.normal=>some 0|.ret=>some 1|.exit id=>some (id+2)|_=>none
def keyx:Nat->Exit|0=>.normal|1=>.ret|i+2=>.exit i
noncomputable def getP(s:Cs):Place->AV
 |.t t=>tau s.fr t
 |.c b j=>match s.hp.get b with
  |some (.u x)=>match x.es with
   |[cs]=>match cs[j]? with|some v=>v|none=>.top
   |_=>.top
  |_=>.top
noncomputable def setP(s:Cs)(v:AV):Place->Cs
 |.t t=>{s with fr:=s.fr.put t v}
 |.c b j=>match s.hp.get b with
  |some (.u x)=>match x.es with|[cs]=>{s with hp:=s.hp.put b (.u {x with es:=[cs.set j v],pure:=false})}|_=>s
  |_=>s
noncomputable def setPs(s:Cs)(v:AV):List Place->Cs|[]=>s|p::ps=>setPs (setP s v p) v ps
structure Got(T:Type)where
 x:T
 eq:List (Nat×Nat)
 bd:List Nat
def decAll(n:Nat):List (List AV)->Option (List (U n))|[]=>some []|e::es=>match decU n e,decAll n es with|some x,some l=>some (x::l)|_,_=>none
noncomputable def ownSl(s:Cs)(n:Nat):AV->Option (Got (List (U n)))
 |.nils=>some ⟨[],[],[]⟩
 |.sl b g z off len=>match s.hp.get b with
  |some (.t g' own m xs)=>if h:m=n then(match Nat.beq g g'&&(own&&(Nat.beq z (szU n)&&Nat.beq off 0))with|true=>some ⟨h▸xs,[(len,(h▸xs:List (U n)).length)],[b]⟩|false=>none)else none
  |some (.u x)=>match Nat.beq g x.g&&(x.own&&(Nat.beq z (szU n)&&(Nat.beq x.sz z&&Nat.beq off 0)))with
   |true=>match decAll n x.es with|some xs=>some ⟨xs,[(len,x.es.length)],[b]⟩|none=>none
   |false=>none
  |none=>none
 |_=>none
noncomputable def sameSl(s:Cs)(v:AV):List Place->Option (List (Nat×Nat))
 |[]=>some []
 |p::ps=>match v,getP s p,sameSl s v ps with
  |.nils,.nils,some l=>some l
  |.sl b g z _ len,.sl b' g' z' off' len',some l=>match Nat.beq b b'&&(Nat.beq g g'&&(Nat.beq z z'&&Nat.beq off' 0))with|true=>some ((len',len)::l)|false=>none
  |_,_,_=>none
noncomputable def getSl(s:Cs):(o:Slot)->Option (Got o.T)
 |.v p c=>match c.dec (getP s p)with|some x=>some ⟨x,[],[]⟩|none=>none
 |.g t n=>match tau s.fr t with
  |.agg cs=>match decU n cs with|some x=>some ⟨x,[],[]⟩|none=>none
  |_=>none
 |.o p ps n=>match ownSl s n (getP s p),sameSl s (getP s p) ps with|some g,some l=>some ⟨g.x,g.eq++l,g.bd⟩|_,_=>none
 |.m l k v=>match alg s.lp l with
  |some y=>match y.mp with
   |some o=>match obM k v o with|some xs=>some ⟨xs,[],[]⟩|none=>none
   |none=>none
  |none=>none
 |.i l l0 k v=>match alg s.lp l with
  |some y=>match y.mp with|some (.mit l1 (.d k' v' xs) _)=>if h:k'=k/\v'=v then(match Nat.beq l1 l0 with|true=>some ⟨castM h xs,[],[]⟩|false=>none)else none|_=>none
  |none=>none
noncomputable def getSls(s:Cs):(o:List Slot)->Option (Got (SlT o))|[]=>some ⟨(),[],[]⟩|[o]=>getSl s o|o::o'::os=>match getSl s o,getSls s (o'::os)with|some g,some h=>some ⟨(g.x,h.x),g.eq++h.eq,g.bd++h.bd⟩|_,_=>none
noncomputable def putSl(s:Cs)(i:Nat):(o:Slot)->o.T->Cs|.v p c,x=>setP s (c.av x) p|.g t n,x=>setP s (.agg (encU n x)) (.t t)|.o p ps n,xs=>setPs {s with hp:=s.hp.put i (.t 0 true n xs)} (.sl i 0 (szU n) 0 xs.length) (p::ps)|.m l k v,xs=>{s with lp:=(l,mapRec (.md k v xs))::s.lp}|.i l l0 k v,xs=>{s with lp:=(l,mapRec (.mit l0 (.d k v xs) none))::s.lp}
noncomputable def putSls(s:Cs)(i:Nat):(o:List Slot)->SlT o->Cs|[],_=>s|[o],x=>putSl s i o x|o::o'::os,x=>putSls (putSl s i o x.1) (i+1) (o'::os) x.2
def slT(sl:List Slot)(t:Nat):Bool:=sl.any λ
 |.v (.t u) _=>Nat.beq t u
 |.g u _=>Nat.beq t u
 |.o p ps _=>(p::ps).any λ |.t u=>Nat.beq t u|_=>false
 |_=>false
def slC(sl:List Slot)(b j:Nat):Bool:=sl.any λ
 |.v (.c c k) _=>Nat.beq b c&&Nat.beq j k
 |.o p ps _=>(p::ps).any λ |.c c k=>Nat.beq b c&&Nat.beq j k|_=>false
 |_=>false
def stripC(sk:Nat->Bool):Nat->List AV->List AV|_,[]=>[]|j,v::l=>(match sk j with|true=>.top|false=>v)::stripC sk (j+1) l
def stripB(sk:Nat->Bool):CB->CB
 |.u x=>match x.es with
  |[cs]=>match(List.range cs.length).any sk with|true=>.u {x with es:=[stripC sk 0 cs],pure:=false}|false=>.u x
  |_=>.u x
 |x=>x
def slM:List Slot->List Nat|[]=>[]|.m l _ _::sl=>l::slM sl|.i l _ _ _::sl=>l::slM sl|_::sl=>slM sl
def slN:List Slot->List Nat|[]=>[]|.m l _ _::sl=>l::slN sl|.i l l0 _ _::sl=>l::l0::slN sl|_::sl=>slN sl
structure Rest where
 fr:List (Nat×AV)
 hp:List (Nat×Option CB)
 lp:List (Nat×LB)
 ms:List Nat
noncomputable def rest(keep ns:List Nat)(sl:List Slot)(s:Cs):Rest:=⟨(keep.filter λt=>!slT sl t).map λt=>(t,tau s.fr t),ns.map λb=>(b,match s.hp.get b with|some x=>some (stripB (slC sl b) x)|none=>none),s.lp.filter (λp=>!(slM sl).any (Nat.beq p.1)),slN sl⟩
noncomputable def putFr:List (Nat×AV)->Tr AV|[]=>.e|(t,v)::l=>(putFr l).put t v
noncomputable def putHp:List (Nat×Option CB)->Tr CB|[]=>.e|(b,some x)::l=>(putHp l).put b x|(_,none)::l=>putHp l
noncomputable def mkS(r:Rest)(n0:Nat)(fu:Fu)(sl:List Slot)(x:SlT sl):Cs:={putSls ⟨putFr r.fr,putHp r.hp,n0,r.lp,fu⟩ n0 sl x with nx:=n0+sl.length}
def eqns{L:Type}:List (Nat×Nat)->R L->R L|[],x=>x|(a,b)::l,x=>.len a b (eqns l x)
noncomputable def names(s:Cs)(bd:List Nat):List Nat:=s.hp.keys.filter λb=>Nat.blt b s.nx&&!bd.contains b
def cbOk(n:Nat):CB->Bool|.u x=>x.pure||x.es.all (AV.under.belows n)|.t .. =>true
noncomputable def recOk(n:Nat)(p:Nat×LB):Bool:=Nat.blt p.1 n&&(p.2.fr.keys.all (λt=>(tau p.2.fr t).under n)&&match p.2.mp with|some (.mit l _ _)=>Nat.blt l n|_=>true)
noncomputable def restOk(n:Nat)(r:Rest):Bool:=r.fr.all (λp=>p.2.under n)&&(r.hp.all (λp=>Nat.blt p.1 n&&match p.2 with|some x=>cbOk n x|none=>true)&&(r.lp.all (recOk n)&&r.ms.all λl=>Nat.blt l n))
def dropLp(n:Nat)(s:Cs):Cs:={s with lp:=s.lp.filter λp=>Nat.blt p.1 n}
noncomputable def noteI{T:Type}(s0:Cs)(keep ns:List Nat)(sl o:List Slot)(f:SlT o->T)(s:Cs):R T:=match getSls (dropLp s0.nx s) o with
 |some g=>match nodupB g.bd&&(g.bd.all (λb=>!ns.contains b)&&restOk s0.nx (rest keep ns (sl++o) (dropLp s0.nx s)))with|true=>eqns g.eq (.eqn (rest keep ns (sl++o) (dropLp s0.nx s)) (rest keep ns (sl++o) s0) (.lf (f g.x)))|false=>.bad
 |none=>.bad
noncomputable def outI(s0:Cs)(keep ns:List Nat)(sl:List Slot)(k:Nat)(s:Cs):(os:List (Nat×List Slot))->R (OutT os)
 |[]=>.bad
 |[o]=>match Nat.beq k o.1 with|true=>noteI s0 keep ns sl o.2 (λx=>x) s|false=>.bad
 |o::o'::os=>match Nat.beq k o.1 with|true=>noteI s0 keep ns sl o.2 .inl s|false=>bnd (outI s0 keep ns sl k s (o'::os)) λz=>.lf (.inr z)
noncomputable def outE(s0:Cs)(keep ns:List Nat)(sl:List Slot):(os:List (Nat×List Slot))->OutT os->R Out|[],_=>.bad|[o],y=>.lf (.ex (keyx o.1) (mkS (rest keep ns (sl++o.2) s0) s0.nx s0.fu o.2 y))|o::o'::os,y=>.alt y (λx=>.lf (.ex (keyx o.1) (mkS (rest keep ns (sl++o.2) s0) s0.nx s0.fu o.2 x))) λz=>outE s0 keep ns sl (o'::os) z
noncomputable def roundI(s0:Cs)(ns:List Nat)(h:Hint):Out->R (Sum (SlT h.sl) (OutT h.outs))
 |.ex e s=>match ekey e with
  |some k=>match Nat.beq k 0 with|true=>noteI s0 h.keep ns [] h.sl .inl s|false=>bnd (outI s0 h.keep ns h.sl k s h.outs) λy=>.lf (.inr y)
  |none=>.bad
 |_=>.bad
noncomputable def loopR(rec:Job->R Out)(nt:Nat)(c:Code)(h:Hint)(s0:Cs):R Out:=match getSls s0 h.sl with
 |some g=>match nodupB g.bd&&restOk s0.nx (rest h.keep (names s0 g.bd) h.sl s0)with|true=>eqns g.eq (match h.sl.any Slot.isI with|true=>.loopC s0.fu.n (λn x=>bnd (rec (.code nt c (mkS (rest h.keep (names s0 g.bd) h.sl s0) s0.nx ⟨n,[]⟩ h.sl x))) (roundI s0 (names s0 g.bd) h)) g.x (outE s0 h.keep (names s0 g.bd) h.sl h.outs)|false=>.loop s0.fu.n (λn x=>bnd (rec (.code nt c (mkS (rest h.keep (names s0 g.bd) h.sl s0) s0.nx ⟨n,[]⟩ h.sl x))) (roundI s0 (names s0 g.bd) h)) g.x (outE s0 h.keep (names s0 g.bd) h.sl h.outs))|false=>.bad
 |none=>.bad
noncomputable def joinI(s0:Cs)(ns:List Nat)(h:Hint):Out->R (OutT h.outs)
 |.ex e s=>match ekey e with|some k=>outI s0 h.keep ns [] k s h.outs|none=>.bad
 |_=>.bad
noncomputable def bdP(s:Cs):List Slot->List Nat
 |[]=>[]
 |.o p _ _::l=>match getP s p with|.sl b .. =>b::bdP s l|_=>bdP s l
 |_::l=>bdP s l
noncomputable def joinR(rec:Job->R Out)(nt:Nat)(c:Code)(h:Hint)(s0:Cs):R Out:=.sub (bnd (rec (.code nt c s0)) (joinI s0 (names s0 (h.outs.flatMap λo=>bdP s0 o.2)) h)) (outE s0 h.keep (names s0 (h.outs.flatMap λo=>bdP s0 o.2)) [] h.outs)
end Go.AM
end
section
set_option linter.unusedSimpArgs false
set_option linter.unusedVariables false
namespace Go.AM
open Go Go.RowKit
structure Pu(T:Type)where
 v:T
 eq:List (Nat×Nat)
 rd:List Nat
mutual
noncomputable def purC(hp:Tr CB):Nat->AV->Option (Pu AV)
 |0,_=>none
 |d+1,v=>match v with
  |.ref b g i j=>match hp.get b with
   |some (.u x)=>match Nat.beq x.g g with
    |true=>match x.es[i]? with
     |some e=>match Nat.ble j e.length with
      |true=>match x.pure with|true=>some ⟨.pp (e.drop j),[],[b]⟩|false=>match pursC hp d (e.drop j)with|some p=>some ⟨.pp p.v,p.eq,b::p.rd⟩|none=>none
      |false=>none
     |none=>none
    |false=>none
   |_=>none
  |.sl b g z off len=>match hp.get b with
   |some (.u x)=>match pur (vw hp) (d+1) (.sl b g z off len)with|some (v',rd)=>some ⟨v',[],rd⟩|none=>none
   |some (.t g' _ n xs)=>match Nat.beq g' g&&(Nat.beq (szU n) z&&Nat.beq off 0)with|true=>some ⟨.dl n xs,[(len,xs.length)],[b]⟩|false=>none
   |none=>none
  |.fn f a c=>match pursC hp d a,pursC hp d c with|some p,some q=>some ⟨.fn f p.v q.v,p.eq++q.eq,p.rd++q.rd⟩|_,_=>none
  |.iface t v=>match purC hp d v with|some p=>some ⟨.iface t p.v,p.eq,p.rd⟩|none=>none
  |.agg cs=>match pursC hp d cs with|some p=>some ⟨.agg p.v,p.eq,p.rd⟩|none=>none
  |.tup cs=>match pursC hp d cs with|some p=>some ⟨.tup p.v,p.eq,p.rd⟩|none=>none
  |v=>match pur (vw hp) (d+1) v with|some (v',rd)=>some ⟨v',[],rd⟩|none=>none termination_by structural d=>d
noncomputable def pursC(hp:Tr CB):Nat->List AV->Option (Pu (List AV))|0,_=>none|d+1,vs=>match vs with|[]=>some ⟨[],[],[]⟩|v::vs=>match purC hp d v,pursC hp d vs with|some p,some q=>some ⟨p.v::q.v,p.eq++q.eq,p.rd++q.rd⟩|_,_=>none termination_by structural d=>d
end
noncomputable def freezeC(hp:Tr CB):List Nat->List (Nat×CB)|[]=>[]|b::l=>match hp.get b with|some x=>(b,x.frz)::freezeC hp l|none=>freezeC hp l
def tyN(ev:Ev)(P:Program)(e:TypeId):Option Nat:=match ev.cd e,tSize P e with
 |some n,some z=>match Nat.beq z (szU n)&&Nat.blt 0 z with|true=>some n|false=>none
 |_,_=>none
noncomputable def elemsT(hp:Tr CB)(n:Nat):AV->Option (Pu (List (U n)))
 |.nils=>some ⟨[],[],[]⟩
 |.emp=>some ⟨[],[],[]⟩
 |.dl m ys=>if h:m=n then some ⟨h▸ys,[],[]⟩else none
 |.sl b g z off len=>match hp.get b with
  |some (.t g' _ m xs)=>if h:m=n then(match Nat.beq g' g&&(Nat.beq z (szU n)&&Nat.beq off 0)with|true=>some ⟨h▸xs,[(len,(h▸xs:List (U n)).length)],[b]⟩|false=>none)else none
  |some (.u x)=>match Nat.beq x.g g&&(Nat.beq z (szU n)&&(Nat.beq x.sz z&&Nat.beq off 0))with
   |true=>match decAll n x.es with|some xs=>some ⟨xs,[(len,x.es.length)],[b]⟩|none=>none
   |false=>none
  |none=>none
 |_=>none
def splW{L:Type}:(l:List (Nat×AK))->SumA l->(AV->R L)->R L|[],x,_=>nomatch(show Empty from x)|[a],x,k=>k (akAV a.1 a.2 x)|a::b::l,x,k=>.alt (show Sum a.2.T (SumA (b::l))from x) (λy=>k (akAV a.1 a.2 y)) λz=>splW (b::l) z k
def splT{L:Type}:(cs:List CT)->Tup cs->(List AV->R L)->R L|[],_,k=>k []|.w m::cs,t,k=>splW (alts m) t.1 λv=>splT cs t.2 λl=>k (v::l)|.b::cs,t,k=>splT cs t.2 λl=>k (.bool t.1::l)|.i q::cs,t,k=>splT cs t.2 λl=>k (.int q t.1::l)|.s::cs,t,k=>splT cs t.2 λl=>k (.str t.1::l)|.l m::cs,t,k=>splT cs t.2 λl=>k (.dl m t.1::l)
def splU{L:Type}(n:Nat)(x:U n)(k:List AV->R L):R L:=splT (lay n) (ofU n x) k
theorem splW_iff{L:Type}{Q:L->Prop}:∀(l:List (Nat×AK))(x:SumA l)(k:AV->R L),holds (splW l x k) Q↔holds (k (wAV l x)) Q|[],x,_=>nomatch(show Empty from x)|[a],x,k=>Iff.rfl|a::b::l,x,k=>by cases(show Sum a.2.T (SumA (b::l))from x)with|inl y=>exact Iff.rfl|inr z=>exact splW_iff (b::l) z k
theorem splT_iff{L:Type}{Q:L->Prop}:∀(cs:List CT)(t:Tup cs)(k:List AV->R L),holds (splT cs t k) Q↔holds (k (tupA cs t)) Q|[],_,k=>Iff.rfl|.w m::cs,t,k=>(splW_iff (alts m) t.1 _).trans (splT_iff cs t.2 _)|.b::cs,t,k=>splT_iff cs t.2 (λl=>k (.bool t.1::l))|.i q::cs,t,k=>splT_iff cs t.2 (λl=>k (.int q t.1::l))|.s::cs,t,k=>splT_iff cs t.2 (λl=>k (.str t.1::l))|.l m::cs,t,k=>splT_iff cs t.2 (λl=>k (.dl m t.1::l))
theorem splU_iff{L:Type}{Q:L->Prop}{n:Nat}{x:U n}{k:List AV->R L}:holds (splU n x k) Q↔holds (k (encU n x)) Q:=splT_iff _ _ k
abbrev TR:=R (AV×List (Nat×CB))
def tv(v:AV):TR:=.lf (v,[])
noncomputable def tIndexAddr(P:Program)(t:TypeId)(x i:AV)(hp:Tr CB):Option TR:=match tSlice P t,i with
 |some e,.int _ k=>match tSize P e with
  |some z=>match x with
   |.dl n xs=>match Nat.beq (szU n) z with|true=>some (.ask (ix xs k) λa=>splU n a λcs=>tv (.pp cs))|false=>none
   |.sl b g z' off len=>match hp.get b with
    |some (.t g' _ n xs)=>match Nat.beq g' g&&(Nat.beq z' z&&(Nat.beq (szU n) z&&Nat.beq off 0))with|true=>some (.len len xs.length (.ask (ix xs k) λ_=>tv (.ref b g k.toNat 0)))|false=>none
    |_=>none
   |_=>none
  |none=>none
 |_,_=>none
noncomputable def tLoad(P:Program)(t:TypeId)(a:AV)(hp:Tr CB):Option TR:=match a with
 |.ref b g i j=>match hp.get b with
  |some (.t g' _ n xs)=>match tAgg P t,tSize P t with
   |some ag,some z=>match Nat.beq g' g&&Nat.ble (j+z) (szU n)with|true=>some (.ask (xs[i]?) λe=>splU n e λcs=>match AV.ofCells ag ((cs.drop j).take z)with|some v=>tv v|none=>.bad)|false=>none
   |_,_=>none
  |_=>none
 |_=>none
noncomputable def tStore(P:Program)(t:TypeId)(a v:AV)(hp:Tr CB):Option TR:=match a with
 |.ref b g i j=>match hp.get b with
  |some (.t g' true n xs)=>match tSize P t,v.cells with
   |some z,some cs=>match Nat.beq g' g&&(Nat.beq cs.length z&&Nat.ble (j+z) (szU n))with
    |true=>match Nat.beq z (szU n)with
     |true=>match decU n cs with|some e=>some (.gd (i<xs.length) inferInstance (.lf (.tup [],[(b,.t g true n (xs.set i e))])))|none=>none
     |false=>some (.ask (xs[i]?) λe0=>match decU n ((encU n e0).take j++cs++(encU n e0).drop (j+z))with|some e=>.lf (.tup [],[(b,.t g true n (xs.set i e))])|none=>.bad)
    |false=>none
   |_,_=>none
  |_=>none
 |_=>none
def cutL{α:Type}(l:List α)(lo hi:Option Int)(k:List α->TR):TR:=match lo,hi with|none,none=>k l|some a,none=>.gd (0<=a/\a<=(l.length:Int)) inferInstance (k (l.drop a.toNat))|none,some b=>.gd (0<=b/\b<=(l.length:Int)) inferInstance (k (l.take b.toNat))|some a,some b=>.gd (0<=a/\a<=b/\b<=(l.length:Int)) inferInstance (k ((l.drop a.toNat).take (b.toNat-a.toNat)))
def intO:Option AV->Option (Option Int)|none=>some none|some (.int _ n)=>some (some n)|some _=>none
def tSliceOp(P:Program)(t:TypeId)(x:AV)(lo hi mx:Option AV):Option TR:=match intO lo,intO hi,mx with
 |some l,some h,none=>match P.underlying t,x with
  |some .string,.str s=>some (cutL s l h λs'=>tv (.str s'))
  |some (.slice e),.dl n xs=>match tSize P e with
   |some z=>match Nat.beq z (szU n)with|true=>some (cutL xs l h λxs'=>tv (.dl n xs'))|false=>none
   |none=>none
  |_,_=>none
 |some l,some (some b),some (.int _ c)=>match P.underlying t,x with
  |some (.slice e),.dl n xs=>match tSize P e with
   |some z=>match Nat.beq z (szU n)with|true=>some (.gd (l.getD 0=0/\b=0/\c=0) inferInstance (tv .emp))|false=>none
   |none=>none
  |_,_=>none
 |_,_,_=>none
noncomputable def tAppend(ev:Ev)(P:Program)(t t':TypeId)(s x:AV)(hp:Tr CB)(nm:Nat):Option TR:=match tSlice P t,tSlice P t' with
 |some e,some e'=>match tyN ev P e,tBytes P e,tSize P e',tZero P e with
  |some n,some bs,some z',some zs=>match Nat.beq z' (szU n)&&(Nat.blt 0 bs&&Nat.beq zs.length (szU n))with
   |true=>match elemsT hp n x with
    |some p=>match s with
     |.nils=>some (eqns p.eq (.gd (2*(p.v.length*bs)<=281474976710656) inferInstance (.lf (.sl nm 0 (szU n) 0 p.v.length,[(nm,.t 0 true n p.v)]))))
     |.emp=>some (eqns p.eq (.gd (2*(p.v.length*bs)<=281474976710656) inferInstance (.lf (.sl nm 0 (szU n) 0 p.v.length,[(nm,.t 0 true n p.v)]))))
     |.sl b g z off len=>match hp.get b with|some (.t g' true m xs)=>if h:m=n then(match Nat.beq g' g&&(Nat.beq z (szU n)&&Nat.beq off 0)with|true=>some (eqns ((len,xs.length)::p.eq) (.gd (2*((xs.length+p.v.length)*bs)<=281474976710656) inferInstance (.lf (.sl b (g+1) (szU n) 0 ((h▸xs:List (U n))++p.v).length,[(b,.t (g+1) true n ((h▸xs:List (U n))++p.v))]))))|false=>none)else none|_=>none
     |_=>none
    |none=>none
   |false=>none
  |_,_,_,_=>none
 |_,_=>none
noncomputable def tMake(ev:Ev)(P:Program)(t:TypeId)(l c:AV)(nm:Nat):Option TR:=match tSlice P t,l,c with
 |some e,.int _ l,.int _ c=>match tyN ev P e,tBytes P e,tZero P e with
  |some n,some bs,some zs=>match decU n zs with|some z=>some (.gd (0<=l/\l<=c/\c<=9223372036854775807/\(bs:Int)*c<=281474976710656) inferInstance (.lf (.sl nm 0 (szU n) 0 (List.replicate l.toNat z).length,[(nm,.t 0 true n (List.replicate l.toNat z))])))|none=>none
  |_,_,_=>none
 |_,_,_=>none
noncomputable def tBuildSlice(ev:Ev)(P:Program)(t:TypeId)(len:Nat)(parts:List (Nat×AV))(nm:Nat):Option TR:=match aBuildSlice P t len parts nm,tSlice P t with
 |some (v,_,blk),some e=>match tyN ev P e with
  |some n=>match Nat.beq blk.sz (szU n)with
   |true=>match decAll n blk.es with|some xs=>some (.lf (v,[(nm,.t 0 true n xs)]))|none=>none
   |false=>none
  |none=>none
 |_,_=>none
def tNil(P:Program)(t:TypeId)(b:Bool)(v:AV):Option TR:=match tSlice P t with|some _=>some (.br b (tv .anyb) (tv v))|none=>none
def tBin(P:Program)(op:BinOp)(t:TypeId)(x y:AV):Option TR:=match op,x,y with|.quo,.int k a,.int k' b=>if k=k' then some (.gd (b≠0) inferInstance (tv (.int k (k.wrap (a.tdiv b)))))else none|.rem,.int k a,.int k' b=>if k=k' then some (.gd (b≠0) inferInstance (tv (.int k (a.tmod b))))else none|.shl,.int k a,.int k' b=>if k=k' then some (.gd (0<=b) inferInstance (tv (.int k (k.wrap (a*2^(min b.toNat k.bits))))))else none|.eql,.dl _ xs,.nils=>tNil P t xs.isEmpty (.bool false)|.neq,.dl _ xs,.nils=>tNil P t xs.isEmpty (.bool true)|.eql,.sl _ _ _ _ len,.nils=>tNil P t (Nat.beq len 0) (.bool false)|.neq,.sl _ _ _ _ len,.nils=>tNil P t (Nat.beq len 0) (.bool true)|.add,.str a,.str b=>some (.gd (((a.length+b.length:Nat):Int)<=9223372036854775807) inferInstance (tv (.str (a++b))))|_,_,_=>none
def tLen(P:Program)(t:TypeId)(x:AV):Option TR:=match tSlice P t,x with|some _,.dl _ xs=>some (tv (.int .i64 xs.length))|_,_=>none
def tIndex(P:Program)(t:TypeId)(x i:AV):Option TR:=match P.underlying t,x,i with|some .string,.str s,.int _ k=>some (.ask (ix s k) λc=>tv (.int .u8 c.toNat))|_,_,_=>none
def tPick(c x y:AV):Option TR:=match c,x,y with|.bool t,.bool a,.bool b=>some (tv (.bool (if t=true then a else b)))|.bool t,.int k a,.int k' b=>if k=k' then some (tv (.int k (if t=true then a else b)))else none|.bool t,.str a,.str b=>some (tv (.str (if t=true then a else b)))|_,_,_=>none
def evalT(τ:Nat->AV):Operand->AV|.tmp t=>τ t|.const v=>avC v|.global _=>.top|.func f=>.fn f [] []
noncomputable def isOwnT(hp:Tr CB):AV->Bool
 |.sl b _ _ _ _=>match hp.get b with|some (.t _ _ _ _)=>true|_=>false
 |_=>false
noncomputable def tOp(ev:Ev)(P:Program)(o:Op)(ρ:Operand->AV)(hp:Tr CB)(nm:Nat):Option TR:=match o with
 |.indexAddr t x i=>tIndexAddr P t (ρ x) (ρ i) hp
 |.load t a=>tLoad P t (ρ a) hp
 |.store t a x=>tStore P t (ρ a) (ρ x) hp
 |.slice t x lo hi mx=>match isOwnT hp (ρ x)&&(lo.isSome||hi.isSome)with|true=>some .bad|false=>tSliceOp P t (ρ x) (lo.map ρ) (hi.map ρ) (mx.map ρ)
 |.makeSlice t l c=>tMake ev P t (ρ l) (ρ c) nm
 |.buildSlice t len parts=>tBuildSlice ev P t len (parts.toList.map λp=>(p.1,ρ p.2)) nm
 |.binOp op t x y _=>tBin P op t (ρ x) (ρ y)
 |.pick c x y=>tPick (ρ c) (ρ x) (ρ y)
 |.index t x i=>tIndex P t (ρ x) (ρ i)
 |.call c=>match c.callee,c.argTypes.toList,c.args.toList with|.builtin .len,[t],[x]=>tLen P t (ρ x)|.builtin .append,[t,t'],[x,y]=>tAppend ev P t t' (ρ x) (ρ y) hp nm|_,_,_=>none
 |_=>none
end Go.AM
end
