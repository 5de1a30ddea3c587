/- Texts of the proof, joined by program. -/
import Derived.Test.YtaeifdlkolfdjaaGreatDoorKBc
section
set_option linter.unusedSimpArgs false
set_option linter.unusedVariables false
namespace Go.AM
open Go Go.RowKit
abbrev Rc:=Job->R Out
noncomputable def resC(P:Program)(τ:Nat->AV)(η:Heap):List ResultVar->Option (List AV)
 |[]=>some []
 |.tmp t::rs=>match resC P τ η rs with|some vs=>some (τ t::vs)|none=>none
 |.cell a t::rs=>match aLoad P t (τ a) η,resC P τ η rs with|some (v,_),some vs=>some (v::vs)|_,_=>none
noncomputable def askF(rec:Rc)(fu:Nat)(f:AV)(args:List AV)(η:Heap):R Out:=match f with
 |.fn fid first cap=>match pur.purs η 60 (first++args++cap)with|some (pargs,_)=>rec (.pcall fu fid pargs)|none=>.bad
 |_=>.bad
noncomputable def askO[Adr](rec:Rc)(fu:Nat)(P:Program)(nt:Nat)(ops:Array Oper)(o:Oper)(τ:Nat->AV)(η:Heap){L:Type}(k:Option (AV×List ABlk)->R L):R L:=match isCall o.op with
 |some (f,args)=>match wants nt ops o τ with
  |true=>bnd (askF rec fu (evalO τ f) (args.map (evalO τ)) η) λa=>match a with|.ans r blks=>k (some (r,blks))|_=>.bad
  |false=>k none
 |none=>match isInv P o.op τ with
  |some (f,args)=>match wants nt ops o τ with
   |true=>bnd (askF rec fu f args η) λa=>match a with|.ans r blks=>k (some (r,blks))|_=>.bad
   |false=>k none
  |none=>k none
def isLook:Op->Bool|.lookup .. =>true|_=>false
def lookF[Adr](P:Program)(nt:Nat)(lk:Nat->Option (List (AV×AV)))(o:Oper)(τ:Nat->AV):Option SE:=match o.op with
 |.lookup t x ix ok=>match o.guard with
  |none=>match dstOk nt o with
   |true=>match evalO τ x with
    |.mp l=>match lk l with
     |some m=>match mapGet P t m (evalO τ ix) ok with|some v=>some ⟨o.dst,v,[],opTmps [x,ix],[],none⟩|none=>none
     |none=>none
    |_=>none
   |false=>none
  |some _=>none
 |_=>none
def stepX[Adr](lk:Nat->Option (List (AV×AV)))(ε:Bool)(P:Program)(nt:Nat)(ops:Array Oper)(o:Oper)(ans:Option (AV×List ABlk))(nm:Nat)(τ:Nat->AV)(η:Heap):Option SE:=match isLook o.op with|true=>lookF P nt lk o τ|false=>stepF ε P nt ops o ans nm τ η
def lkC(lp:List (Nat×LB))(l:Nat):Option (List (AV×AV)):=match alg lp l with
 |some y=>match y.mp with|some (.map m)=>some m|_=>none
 |none=>none
def isPick(d:Nat)(o:Oper):Bool:=match o.op with|.pick (.tmp t) _ _=>Nat.beq t d|_=>false
def dsts:List (Nat×Oper)->List Nat|[]=>[]|(_,o)::l=>match o.dst with|some d=>d::dsts l|none=>dsts l
def segP(d:Nat):List (Nat×Oper)->List (Nat×Oper)->Option (List (Nat×Oper)×Nat×List (Nat×Oper))
 |_,[]=>none
 |acc,(i,o)::l=>match isPick d o with
  |true=>match o.dst with|some p=>some (((i,o)::acc).reverse,p,l)|none=>none
  |false=>segP d ((i,o)::acc) l
def gKind(nt:Nat)(ops:Array Oper)(o:Oper):Option (Option (Nat×Bool)):=match dstOk nt o with
 |false=>none
 |true=>match o.guard with
  |none=>some none
  |some (j,want)=>match(ops[j]?).bind (·.dst)with
   |some d=>match Nat.blt d nt with|true=>some (some (d,want))|false=>none
   |none=>none
noncomputable def topsT(fr:Tr AV):List Nat->Tr AV|[]=>fr|t::l=>topsT (fr.put t .top) l
def gtOf(ops:Array Oper)(o:Oper):List Nat:=match o.guard with
 |some (j,_)=>match(ops[j]?).bind (·.dst)with|some d=>[d]|none=>[]
 |none=>[]
def fpSeg(ops:Array Oper)(bs:List Nat):List (Nat×Oper)->List SE|[]=>[]|(_,o)::l=>⟨o.dst,.top,[],gtOf ops o++opTmps o.op.operands.toList,bs,none⟩::fpSeg ops bs l
def fpB:List SE->List SE->Bool|[],[]=>true|x::xs,y::ys=>optB x.d y.d&&(x.wr.isEmpty&&(x.rt.all (λt=>y.rt.any (Nat.beq t))&&(x.rb.all (λt=>y.rb.any (Nat.beq t))&&fpB xs ys)))|_,_=>false
def rdOf(ρ:Operand->AV):Op->Option (List Nat)
 |.indexAddr _ x _=>match ρ x with|.dl .. =>some []|.sl .. =>some []|_=>none
 |.load _ a=>match ρ a with|.ref b _ _ _=>some [b]|_=>none
 |.binOp .. =>some []
 |.pick .. =>some []
 |.index .. =>some []
 |.slice .. =>some []
 |.call c=>match c.callee with|.builtin .len=>some []|_=>none
 |_=>none
noncomputable def tOpU[Adr](ev:Ev)(P:Program)(nt:Nat)(ops:Array Oper)(o:Oper)(τ:Nat->AV)(hp:Tr CB)(nm:Nat):Option (TR×List Nat):=match ev.md with
 |false=>none
 |true=>match wants nt ops o τ,rdOf (evalT τ) o.op with
  |true,some rd=>match tOp ev P o.op (evalT τ) hp nm with|some r=>some (r,rd)|none=>none
  |_,_=>none
def slRd:AV->Option (List Nat)|.nils=>some []|.emp=>some []|.psl _ _=>some []|.dl _ _=>some []|.sl b _ _ _ _=>some [b]|_=>none
def wrOf(ρ:Operand->AV)(nm:Nat):Op->Option (Nat×List Nat)
 |.makeSlice .. =>some (nm,[])
 |.buildSlice .. =>some (nm,[])
 |.store _ a _=>match ρ a with|.ref b _ _ _=>some (b,[b])|_=>none
 |.call c=>match c.callee,c.args.toList with
  |.builtin .append,[s,x]=>match slRd (ρ x),ρ s with|some rd,.nils=>some (nm,rd)|some rd,.emp=>some (nm,rd)|some rd,.sl b _ _ _ _=>some (b,b::rd)|_,_=>none
  |_,_=>none
 |_=>none
noncomputable def tOpA[Adr](ev:Ev)(P:Program)(nt:Nat)(ops:Array Oper)(o:Oper)(τ:Nat->AV)(hp:Tr CB)(nm:Nat):Option (TR×Nat×List Nat):=match ev.md&&wants nt ops o τ with
 |true=>match wrOf (evalT τ) nm o.op,tOp ev P o.op (evalT τ) hp nm with|some p,some r=>some (r,p)|_,_=>none
 |false=>none
noncomputable def frzO(hp:Tr CB)(rd:List Nat)(r:AV):List (Nat×CB):=match rd.isEmpty||r.flatR with|true=>[]|false=>freezeC hp rd
noncomputable def opnO[Adr](ev:Ev)(fu nt:Nat)(ops:Array Oper)(o:Oper)(τ:Nat->AV)(hp:Tr CB)(nm:Nat){L:Type}(k:SE->Tr CB->R L)(bad no:R L):R L:=match isCall o.op with
 |some (f,args)=>match ev.md&&(wants nt ops o τ&&dstOk nt o)with
  |true=>match evalO τ f with
   |.fn fid first cap=>match ev.con fu fid with
    |some (.opn arg g res)=>match pursC hp 60 (first++args.map (evalO τ)++cap)with
     |some p=>match arg p.v with|some x=>eqns p.eq (.ask (g x) λy=>k ⟨o.dst,res y,(frzO hp p.rd (res y)).map λq=>(q.1,q.2.a),gtOf ops o++opTmps (f::args),p.rd,none⟩ (putC hp (frzO hp p.rd (res y))))|none=>bad
     |none=>bad
    |some (.opw arg n g)=>match pursC hp 60 (first++args.map (evalO τ)++cap)with
     |some p=>match arg p.v with|some x=>eqns p.eq (.ask (g x) λxs=>k ⟨o.dst,.sl nm 0 (szU n) 0 xs.length,((freezeC hp p.rd).map λq=>(q.1,q.2.a))++[(nm,(CB.t 0 true n xs).a)],gtOf ops o++opTmps (f::args),p.rd,none⟩ ((putC hp (freezeC hp p.rd)).put nm (.t 0 true n xs)))|none=>bad
     |none=>bad
    |_=>no
   |_=>no
  |false=>no
 |none=>no
noncomputable def runC[Adr](ev:Ev)(lk:Nat->Option (List (AV×AV)))(rec:Rc)(fu:Nat)(P:Program)(nt:Nat)(ops:Array Oper)(nx:Nat):Nat->{L:Type}->List (Nat×Oper)->List Nat->List Nat->Tr AV->Tr CB->(Option (Tr AV×Tr CB×List SE)->R L)->R L
 |0,_,_,_,_,_,_,k=>k none
 |_+1,_,[],_,_,fr,hp,k=>k (some (fr,hp,[]))
 |n+1,L,(i,o)::rest,kn,dr,fr,hp,k=>let next:SE->Tr CB->R L:=λse hp1=>match se.rt.any λt=>dr.any (Nat.beq t)with|true=>k none|false=>runC ev lk rec fu P nt ops nx n rest kn dr (putD fr se.d se.v) hp1 λr=>match r with|some (fr',hp',ses)=>k (some (fr',hp',se::ses))|none=>k none;let plain:R L:=match tOpU ev P nt ops o (tau fr) hp (nx+8*i)with
  |some (r,rd)=>match dstOk nt o with|true=>bnd r λe=>next ⟨o.dst,e.1,[],gtOf ops o++opTmps o.op.operands.toList,rd,none⟩ hp|false=>k none
  |none=>match tOpA ev P nt ops o (tau fr) hp (nx+8*i)with
   |some (r,nb,rd)=>match dstOk nt o with
    |true=>bnd r λe=>match e.2 with
     |[(b,c)]=>match Nat.beq b nb with|true=>next ⟨o.dst,e.1,[(nb,c.a)],gtOf ops o++opTmps o.op.operands.toList,rd,none⟩ (hp.put nb c)|false=>k none
     |_=>k none
    |false=>k none
   |none=>opnO ev fu nt ops o (tau fr) hp (nx+8*i) next (k none) (askO rec fu P nt ops o (tau fr) (vw hp) λa=>match stepX lk true P nt ops o a (nx+8*i) (tau fr) (vw hp)with|some se=>next se (putW hp se.wr)|none=>k none);match ev.md with
  |false=>plain
  |true=>match gKind nt ops o with
   |some (some (d,_))=>match tau fr d with
    |.bool b=>match kn.any (Nat.beq d)with
     |true=>plain
     |false=>match segP d [] ((i,o)::rest)with
      |some (seg,p,rest')=>let half:Bool->R Bool:=λc=>runC ev lk rec fu P nt ops nx n seg (d::kn) dr (fr.put d (.bool c)) hp λr=>match r with
       |some (fr',_,ses)=>match fpB ses (fpSeg ops hp.keys seg)with
        |true=>match tau fr' p with|.bool v=>.lf v|_=>.bad
        |false=>.bad
       |none=>.bad;.sub (.br b (half true) (half false)) λv=>runC ev lk rec fu P nt ops nx n rest' kn (((dsts seg).filter λt=>!Nat.beq t p)++dr) ((topsT fr (dsts seg)).put p (.bool v)) hp λr=>match r with|some (fr',hp',ses)=>k (some (fr',hp',fpSeg ops hp.keys seg++ses))|none=>k none
      |none=>k none
    |_=>plain
   |_=>plain
def round(l:Nat)(e:Exit)(s:Cs):Option (Bool×Cs):=match alg s.lp l with
 |some y=>match e with|.normal=>some (true,{s with lp:=hset s.lp l {y with st:=.ready,pend:=none}})|.ret=>some (false,{s with lp:=hset s.lp l {y with st:=.done,pend:=some .ret}})|.exit id=>some (false,{s with lp:=hset s.lp l {y with st:=.done,pend:=some (.exit id)}})|.goto t=>some (false,{s with lp:=hset s.lp l {y with st:=.done,pend:=some (.goto t)}})|_=>none
 |none=>none
def doneTo(n c:Nat):Array Bool:=(Array.range n).map λi=>Nat.blt i c
def cutB(M:List Nat)(n c:Nat):Bool:=(List.range n).all λj=>Nat.blt j c||Nat.beq (Nat.land (M.getD j 0) (2^c-1)) (2^c-1)
def cuts(M:List Nat)(n:Nat):Nat->Nat->List Nat|0,_=>[]|f+1,c=>match cutB M n c with|true=>c::cuts M n f (c+1)|false=>cuts M n f (c+1)
def pairsS(M:List Nat)(ses:List SE)(c n:Nat):Bool:=(List.range n).all λj=>(List.range j).all λi=>(M.getD (c+j) 0).testBit (c+i)||!confl (ses.getD i seZ) (ses.getD j seZ)
noncomputable def stepDraw[Adr](ev:Ev)(P:Program)(rec:Rc)(nt:Nat)(ops:Array Oper)(c:Nat)(l:List Nat)(s:Cs):R Out:=match l with
 |[]=>match Nat.ble ops.size c with|true=>one (.ex .normal s)|false=>.bad
 |c'::rest=>match Nat.beq c' (c+1)with
  |true=>match Nat.ble c' ops.size&&cutB (masks ops.toList []) ops.size c' with
   |true=>bnd (rec (.ops nt ops [c] s)) λo=>match o with|.ex .normal s1=>rec (.draw nt ops c' rest s1)|o=>one o
   |false=>.bad
  |false=>runC ev (lkC s.lp) rec s.fu.n P nt ops s.nx (2*ops.size+2) (numbered c ((ops.toList.drop c).take (c'-c))) s.fu.kn [] s.fr s.hp λr=>match r with
   |some (fr,hp,ses)=>match Nat.ble c c'&&Nat.ble c' ops.size&&cutB (masks ops.toList []) ops.size c'&&pairsS (masks ops.toList []) ses c (c'-c)with|true=>rec (.draw nt ops c' rest ⟨fr,hp,s.nx+8*c',s.lp,s.fu⟩)|false=>rec (.every nt ops (ops.size-c) (doneTo ops.size c) s)
   |none=>rec (.every nt ops (ops.size-c) (doneTo ops.size c) s)
noncomputable def everyNext(f:Nat->R Out)(i:Nat):List Nat->R Out|[]=>f i|j::l=>.both (f i) (everyNext f j l)
noncomputable def thenEvery(rec:Rc)(nt:Nat)(ops:Array Oper)(fuel:Nat)(listed:Array Bool)(o:Out):R Out:=match o with|.ex .normal s1=>rec (.every nt ops fuel listed s1)|o=>one o
noncomputable def stepEvery(rec:Rc)(nt:Nat)(ops:Array Oper)(fuel:Nat)(listed:Array Bool)(s:Cs):R Out:=match Region.ready .any ops listed with|[]=>one (.ex .normal s)|i::l=>match fuel with|0=>.bad|fuel+1=>everyNext (λi=>bnd (rec (.ops nt ops [i] s)) (thenEvery rec nt ops fuel (listed.setIfInBounds i true))) i l
noncomputable def behindF(rec:Rc)(nt:Nat)(s:Cs):Out->R Out
 |.val _ s2=>match alg s2.lp s.nx with
  |some y=>match y.st with|.busy=>.bad|_=>match y.pend with|none=>one (.ex .normal ⟨s.fr,s2.hp,s2.nx,keepHp (s.lp.map (·.1)) s2.lp,s.fu⟩)|some c=>rec (.code nt c ⟨s.fr,s2.hp,s2.nx,keepHp (s.lp.map (·.1)) s2.lp,s.fu⟩)
  |none=>.bad
 |_=>.bad
noncomputable def thenC(rec:Rc)(nt:Nat)(y:Code)(o:Out):R Out:=match o with|.ex .normal s1=>rec (.code nt y s1)|o=>one o
def firstR:Code->Nat
 |.region id _ _=>id
 |.seq a b=>match Nat.beq (firstR a) 1000000007 with|true=>firstR b|false=>firstR a
 |.cond _ a b=>match Nat.beq (firstR a) 1000000007 with|true=>firstR b|false=>firstR a
 |.block _ a=>firstR a
 |.loop a=>firstR a
 |.scope a=>firstR a
 |_=>1000000007
def sizeC:Code->Nat|.seq a b=>sizeC a+sizeC b+1|.cond _ a b=>sizeC a+sizeC b+1|.block _ a=>sizeC a+1|.loop a=>sizeC a+1|.scope a=>sizeC a+1|.rangeFunc _ _ a b=>sizeC a+sizeC b+1|_=>1
noncomputable def cSeq(x y:Code)(ev:Ev)(_:Program)(rec:Rc)(nt:Nat)(s:Cs):R Out:=match ev.md with|false=>bnd (rec (.code nt x s)) (thenC rec nt y)|true=>match ev.hint nt (firstR x+1000*sizeC x)with|none=>bnd (rec (.code nt x s)) (thenC rec nt y)|some h=>bnd (joinR rec nt x h s) (thenC rec nt y)
noncomputable def cCond[Adr](c:Operand)(x y:Code)(ev:Ev)(_:Program)(rec:Rc)(nt:Nat)(s:Cs):R Out:=match evalO (tau s.fr) c with
 |.bool b=>match ev.md with|true=>.br b (rec (.code nt x s)) (rec (.code nt y s))|false=>match b with|true=>rec (.code nt x s)|false=>rec (.code nt y s)
 |.anyb=>.both (rec (.code nt x s)) (rec (.code nt y s))
 |_=>.bad
noncomputable def outB(id:Nat)(o:Out):R Out:=match o with
 |.ex (.exit i) s1=>match Nat.beq i id with|true=>one (.ex .normal s1)|false=>one (.ex (.exit i) s1)
 |o=>one o
noncomputable def cBlock(id:Nat)(c:Code)(_:Ev)(_:Program)(rec:Rc)(nt:Nat)(s:Cs):R Out:=bnd (rec (.code nt c s)) (outB id)
def pickAt(d:Nat):List Oper->Nat->Nat|[],k=>k|o::l,k=>match isPick d o with|true=>k|false=>pickAt d l (k+1)
def okCut(ops:Array Oper)(c:Nat):Bool:=(List.range c).all λi=>match(ops[i]?).bind (·.guard)with
 |some (j,_)=>match(ops[j]?).bind (·.dst)with|some d=>Nat.blt (pickAt d ops.toList 0) c|none=>true
 |none=>true
noncomputable def cDraw(ops:Array Oper)(ev:Ev)(P:Program)(rec:Rc)(nt:Nat)(s:Cs):R Out:=match P.follows .mixedOrders&&backs 0 ops.toList with|true=>rec (.draw nt ops 0 (match ev.md with|true=>(cuts (masks ops.toList []) ops.size ops.size 1).filter (okCut ops)|false=>cuts (masks ops.toList []) ops.size ops.size 1) s)|false=>.bad
noncomputable def cRange[Adr](g:Operand)(ps:Array Tmp)(assign body:Code)(_:Ev)(_:Program)(rec:Rc)(nt:Nat)(s:Cs):R Out:=match evalO (tau s.fr) g with|.fn fid first cap=>bnd (rec (.call fid (first++[.yld s.nx]++cap) ⟨.e,s.hp,s.nx+1,(s.nx,⟨s.fr,nt,ps.toList,assign,body,.ready,none,none⟩)::s.lp,⟨s.fu.n,[]⟩⟩)) (behindF rec nt s)|_=>.bad
noncomputable def stepCode[Adr](ev:Ev)(P:Program)(rec:Rc)(nt:Nat)(c:Code)(s:Cs):R Out:=match c with|.skip=>one (.ex .normal s)|.label _=>one (.ex .normal s)|.exit id=>one (.ex (.exit id) s)|.ret=>one (.ex .ret s)|.seq x y=>cSeq x y ev P rec nt s|.cond c x y=>cCond c x y ev P rec nt s|.block id c=>cBlock id c ev P rec nt s|.loop c=>rec (.loop nt c s)|.scope c=>rec (.inscope nt c c s)|.goto l=>one (.ex (.goto l) s)|.region _ ops false=>rec (.ops nt ops (List.range ops.size) s)|.region _ ops true=>cDraw ops ev P rec nt s|.rangeFunc g ps assign body=>cRange g ps assign body ev P rec nt s|_=>.bad
noncomputable def afterC(rec:Rc)(nt:Nat)(ops:Array Oper)(rest:List Nat)(d:Option Nat)(s:Cs):Out->R Out|.val r s'=>rec (.ops nt ops rest ⟨putD s.fr d r,s'.hp,s'.nx,s'.lp,s.fu⟩)|.pan a s'=>one (.pan a ⟨s.fr,s'.hp,s'.nx,s'.lp,s.fu⟩)|_=>.bad
noncomputable def roundC(rec:Rc)(nt:Nat)(ops:Array Oper)(rest:List Nat)(d:Option Nat)(s:Cs)(l:Nat):Out->R Out
 |.ex e s2=>match round l e s2 with|some (b,s3)=>rec (.ops nt ops rest ⟨putD s.fr d (.bool b),s3.hp,s3.nx,s3.lp,s.fu⟩)|none=>.bad
 |_=>.bad
noncomputable def assignC(rec:Rc)(nt:Nat)(ops:Array Oper)(rest:List Nat)(d:Option Nat)(s:Cs)(l:Nat)(x:LB):Out->R Out
 |.ex .normal s1=>match alg s1.lp l with
  |some y=>match y.st with|.ready=>bnd (rec (.code x.nt x.body {s1 with lp:=hset s1.lp l {y with st:=.busy}})) (roundC rec nt ops rest d s l)|_=>.bad
  |none=>.bad
 |_=>.bad
noncomputable def plainC[Adr](P:Program)(rec:Rc)(nt:Nat)(ops:Array Oper)(o:Oper)(rest:List Nat)(s:Cs)(a:Option (AV×List ABlk)):R Out:=match stepF true P nt ops o a s.nx (tau s.fr) (vw s.hp)with|some se=>rec (.ops nt ops rest ⟨putD s.fr se.d se.v,putW s.hp se.wr,s.nx+8,s.lp,s.fu⟩)|none=>.bad
noncomputable def exeX[Adr](P:Program)(rec:Rc)(nt:Nat)(ops:Array Oper)(o:Oper)(rest:List Nat)(s:Cs):R Out:=match opFn o.op P (evalO (tau s.fr)) (vw s.hp) s.nx with|some e=>rec (.ops nt ops rest ⟨putD s.fr o.dst e.v,putW s.hp e.wr,s.nx+8,s.lp,s.fu⟩)|none=>.bad
def isLd(ops:Array Oper)(j d:Nat):Option (Oper×TypeId):=match ops[j]? with
 |some o=>match o.op,o.guard with
  |.load t (.tmp e),none=>match Nat.beq d e with|true=>some (o,t)|false=>none
  |_,_=>none
 |none=>none
noncomputable def tFetch[Adr](P:Program)(nt:Nat)(ops:Array Oper)(o:Oper)(rest:List Nat)(s:Cs)(k:Tr AV->List Nat->R Out):Option (R Out):=match o.op,o.dst,rest with
 |.indexAddr t x i,some d,j::rest=>match isLd ops j d,tSlice P t with
  |some (o2,t2),some e=>match evalT (tau s.fr) x,evalT (tau s.fr) i,tSize P e,o2.dst with
   |.sl b g z off len,.int _ k0,some z',some d2=>match s.hp.get b,tAgg P t2,tSize P t2 with
    |some (.t g' _ n xs),some ag,some z2=>match Nat.beq g' g&&(Nat.beq z z'&&(Nat.beq (szU n) z'&&(Nat.beq off 0&&(Nat.ble z2 (szU n)&&Nat.blt d2 nt))))with|true=>some (.len len xs.length (.ask (ix xs k0) λa=>splU n a λcs=>match AV.ofCells ag (cs.take z2)with|some v=>k ((s.fr.put d (.ref b g k0.toNat 0)).put d2 v) rest|none=>.bad))|false=>none
    |_,_,_=>none
   |_,_,_,_=>none
  |_,_=>none
 |_,_,_=>none
noncomputable def exeT[Adr](ev:Ev)(P:Program)(rec:Rc)(nt:Nat)(ops:Array Oper)(o:Oper)(rest:List Nat)(s:Cs):R Out:=match tFetch P nt ops o rest s λfr rest=>rec (.ops nt ops rest ⟨fr,s.hp,s.nx+16,s.lp,s.fu⟩)with|some r=>r|none=>match tOp ev P o.op (evalT (tau s.fr)) s.hp s.nx with|some r=>bnd r λe=>rec (.ops nt ops rest ⟨putD s.fr o.dst e.1,putC s.hp e.2,s.nx+8,s.lp,s.fu⟩)|none=>exeX P rec nt ops o rest s
noncomputable def skipX(rec:Rc)(nt:Nat)(ops:Array Oper)(o:Oper)(rest:List Nat)(s:Cs):R Out:=rec (.ops nt ops rest ⟨putD s.fr o.dst (.tup []),s.hp,s.nx+8,s.lp,s.fu⟩)
noncomputable def guardX[Adr](ev:Ev)(P:Program)(rec:Rc)(nt:Nat)(ops:Array Oper)(o:Oper)(rest:List Nat)(s:Cs)(d:Nat)(want:Bool):R Out:=match tau s.fr d with
 |.bool b=>match b==want with
  |true=>match ev.md with|true=>exeT ev P rec nt ops o rest s|false=>exeX P rec nt ops o rest s
  |false=>skipX rec nt ops o rest s
 |.tup _=>skipX rec nt ops o rest s
 |_=>.bad
noncomputable def plainX[Adr](ev:Ev)(P:Program)(rec:Rc)(nt:Nat)(ops:Array Oper)(o:Oper)(rest:List Nat)(s:Cs):R Out:=match gKind nt ops o with
 |none=>.bad
 |some none=>match ev.md with|true=>exeT ev P rec nt ops o rest s|false=>exeX P rec nt ops o rest s
 |some (some (d,want))=>guardX ev P rec nt ops o rest s d want
noncomputable def opnC{A B:Type}(rec:Rc)(nt:Nat)(ops:Array Oper)(o:Oper)(rest:List Nat)(s:Cs)(args:List AV)(arg:List AV->Option A)(f:A->Option B)(res:B->AV):R Out:=match pursC s.hp 60 args with
 |some p=>match arg p.v with|some x=>eqns p.eq (.ask (f x) λy=>rec (.ops nt ops rest ⟨putD s.fr o.dst (res y),putC s.hp (match p.rd.isEmpty||(res y).flatR with|true=>[]|false=>freezeC s.hp p.rd),s.nx+8,s.lp,s.fu⟩))|none=>.bad
 |none=>.bad
noncomputable def opwC{A:Type}(rec:Rc)(nt:Nat)(ops:Array Oper)(o:Oper)(rest:List Nat)(s:Cs)(args:List AV)(arg:List AV->Option A)(n:Nat)(f:A->Option (List (U n))):R Out:=match pursC s.hp 60 args with
 |some p=>match arg p.v with|some x=>eqns p.eq (.ask (f x) λxs=>rec (.ops nt ops rest ⟨putD s.fr o.dst (.sl s.nx 0 (szU n) 0 xs.length),(putC s.hp (freezeC s.hp p.rd)).put s.nx (.t 0 true n xs),s.nx+8,s.lp,s.fu⟩))|none=>.bad
 |none=>.bad
noncomputable def callC[Adr](ev:Ev)(P:Program)(rec:Rc)(nt:Nat)(ops:Array Oper)(o:Oper)(rest:List Nat)(s:Cs)(f:AV)(args:List AV):R Out:=match dstOk nt o with
 |false=>.bad
 |true=>match f with
  |.fn fid first cap=>match ev.con s.fu.n fid with
   |some (.inp g)=>match g (first++args++cap) s with|some (r,s')=>rec (.ops nt ops rest ⟨putD s.fr o.dst r,s'.hp,s'.nx,s'.lp,s.fu⟩)|none=>bnd (rec (.call fid (first++args++cap) s)) (afterC rec nt ops rest o.dst s)
   |some (.pure _)=>bnd (askF rec s.fu.n (.fn fid first cap) args (vw s.hp)) λa=>match a with|.ans r blks=>plainC P rec nt ops o rest s (some (r,blks))|_=>.bad
   |some (.ext g)=>match g (first++args++cap)with|some r=>rec (.ops nt ops rest ⟨putD s.fr o.dst r,s.hp,s.nx+8,s.lp,s.fu⟩)|none=>.bad
   |some (.opn arg f res)=>opnC rec nt ops o rest s (first++args++cap) arg f res
   |some (.opw arg n f)=>opwC rec nt ops o rest s (first++args++cap) arg n f
   |some (.opi arg f res)=>match arg (first++args++cap) s with|some p=>eqns p.2 (.ask (f p.1) λy=>rec (.ops nt ops rest ⟨putD s.fr o.dst (res (first++args++cap) s y).1,(res (first++args++cap) s y).2.hp,(res (first++args++cap) s y).2.nx,(res (first++args++cap) s y).2.lp,s.fu⟩))|none=>bnd (rec (.call fid (first++args++cap) s)) (afterC rec nt ops rest o.dst s)
   |none=>bnd (rec (.call fid (first++args++cap) s)) (afterC rec nt ops rest o.dst s)
  |.yld l=>match alg s.lp l with
   |some x=>match x.mp with
    |none=>match decide (args.length=x.ps.length)&&x.ps.all (λp=>decide (p<x.nt))with|true=>bnd (rec (.code x.nt x.assign ⟨putsT x.fr x.ps args,s.hp,s.nx,s.lp,⟨s.fu.n,[]⟩⟩)) (assignC rec nt ops rest o.dst s l x)|false=>.bad
    |some _=>.bad
   |none=>.bad
  |_=>.bad
noncomputable def invC[Adr](ev:Ev)(P:Program)(rec:Rc)(nt:Nat)(ops:Array Oper)(o:Oper)(rest:List Nat)(s:Cs):R Out:=match dstOk nt o with
 |false=>.bad
 |true=>match isInv P o.op (tau s.fr)with
  |some (f,args)=>match f with
   |.fn fid [] []=>match ev.con s.fu.n fid with
    |some (.inp _)=>.bad
    |some (.pure _)=>bnd (askF rec s.fu.n (.fn fid [] []) args (vw s.hp)) λa=>match a with|.ans r blks=>plainC P rec nt ops o rest s (some (r,blks))|_=>.bad
    |some (.ext _)=>.bad
    |some (.opn arg f res)=>.bad
    |some (.opw ..)=>.bad
    |some (.opi ..)=>.bad
    |none=>bnd (rec (.call fid args s)) (afterC rec nt ops rest o.dst s)
   |_=>.bad
  |none=>.bad
noncomputable def purS(s:Cs)(x:Operand):Option Cs:=match x with
 |.tmp t=>match(tau s.fr t).isP with|true=>some s|false=>match pur (vw s.hp) 60 (tau s.fr t)with|some (v,rd)=>some ⟨s.fr.put t v,putW s.hp (freezeAll (vw s.hp) rd),s.nx,s.lp,s.fu⟩|none=>none
 |_=>some s
noncomputable def nextAll(f:AV×AV->List (AV×AV)->R Out)(all:List (AV×AV))(j:Nat)(kv:AV×AV):List (AV×AV)->R Out|[]=>f kv (dropAt all j)|kv'::l=>.both (f kv (dropAt all j)) (nextAll f all (j+1) kv' l)
def keyCT:TypeDesc->Option CT|.int k=>some (.i k)|.string=>some .s|.bool=>some .b|_=>none
def valVT(ev:Ev)(et:TypeId):TypeDesc->Option VT
 |.int k=>some (.k (.i k))
 |.string=>some (.k .s)
 |.bool=>some (.k .b)
 |.slice e=>match ev.cd e with|some n=>some (.k (.l n))|none=>none
 |.struct _=>match ev.cd et with|some n=>some (.g n)|none=>none
 |_=>none
def mapTy(ev:Ev)(P:Program)(t:TypeId):Option (CT×VT×TypeId):=match P.underlying t with
 |some (.map kt et)=>match P.underlying kt,P.underlying et with
  |some kd,some vd=>match keyCT kd,valVT ev et vd with|some k,some v=>some (k,v,et)|_,_=>none
  |_,_=>none
 |_=>none
def okV(ok:Bool)(a b:AV):AV:=match ok with|true=>a|false=>b
def tLookup(ev:Ev)(P:Program)(t:TypeId)(o:Ob)(n:AV)(ok:Bool):Option AV:=match ev.md with
 |false=>none
 |true=>match mapTy ev P t with
  |some (k,v,et)=>match obM k v o,k.dec n,tZeroV P et with
   |some xs,some a,some zv=>match v.dec zv with|some z=>some (okV ok (.tup [v.av ((mfind k xs a).getD z),.bool (mfind k xs a).isSome]) (v.av ((mfind k xs a).getD z)))|none=>none
   |_,_,_=>none
  |none=>none
def tPut(ev:Ev)(P:Program)(t:TypeId)(o:Ob)(n y:AV):Option Ob:=match ev.md with
 |false=>none
 |true=>match mapTy ev P t with
  |some (k,v,_)=>match obM k v o,k.dec n,v.dec y with
   |some xs,some a,some c=>match y.isP with|true=>some (.md k v (mput k xs a c))|false=>none
   |_,_,_=>none
  |none=>none
noncomputable def specC[Adr](ev:Ev)(P:Program)(rec:Rc)(nt:Nat)(ops:Array Oper)(o:Oper)(rest:List Nat)(s:Cs):R Out:=match dstOk nt o with
 |false=>.bad
 |true=>match o.op with
  |.panic x=>match evalO (tau s.fr) x with
   |.iface t a=>match conc (.iface t a)with|some _=>one (.pan (.iface t a) s)|none=>.bad
   |_=>.bad
  |.makeMap _ none=>rec (.ops nt ops rest ⟨putD s.fr o.dst (.mp s.nx),s.hp,s.nx+8,(s.nx,mapRec (.map []))::s.lp,s.fu⟩)
  |.lookup t x ix ok=>match evalO (tau s.fr) x with
   |.mp l=>match alg s.lp l with
    |some y=>match y.mp with
     |some ob=>match tLookup ev P t ob (evalO (tau s.fr) ix) ok with
      |some v=>rec (.ops nt ops rest ⟨putD s.fr o.dst v,s.hp,s.nx+8,s.lp,s.fu⟩)
      |none=>match ob with
       |.map m=>match mapGet P t m (evalO (tau s.fr) ix) ok with|some v=>rec (.ops nt ops rest ⟨putD s.fr o.dst v,s.hp,s.nx+8,s.lp,s.fu⟩)|none=>.bad
       |_=>.bad
     |none=>.bad
    |none=>.bad
   |_=>.bad
  |.mapUpdate t x ix vx=>match purS s vx with
   |some s2=>match wants nt ops o (tau s2.fr)with
    |false=>.bad
    |true=>match evalO (tau s2.fr) x with
     |.mp l=>match alg s2.lp l with
      |some y=>match y.mp with
       |some ob=>match noItC l s2.lp with
        |true=>match tPut ev P t ob (evalO (tau s2.fr) ix) (evalO (tau s2.fr) vx)with
         |some ob'=>rec (.ops nt ops rest ⟨putD s2.fr o.dst .top,s2.hp,s2.nx+8,hset s2.lp l {y with mp:=some ob'},s.fu⟩)
         |none=>match ob with
          |.map m=>match mapPut P t m (evalO (tau s2.fr) ix) (evalO (tau s2.fr) vx)with|some m'=>rec (.ops nt ops rest ⟨putD s2.fr o.dst .top,s2.hp,s2.nx+8,hset s2.lp l {y with mp:=some (.map m')},s.fu⟩)|none=>.bad
          |_=>.bad
        |false=>.bad
       |none=>.bad
      |none=>.bad
     |_=>.bad
   |none=>.bad
  |.insert t x ix vx=>match purS s vx with
   |some s2=>match wants nt ops o (tau s2.fr)with
    |false=>.bad
    |true=>match evalO (tau s2.fr) x with
     |.mp l=>match alg s2.lp l with
      |some y=>match y.mp with
       |some (.map m)=>match noItC l s2.lp with
        |true=>match mapPut P t m (evalO (tau s2.fr) ix) (evalO (tau s2.fr) vx)with|some m'=>rec (.ops nt ops rest ⟨putD s2.fr o.dst .top,s2.hp,s2.nx+8,hset s2.lp l {y with mp:=some (.map m')},s.fu⟩)|none=>.bad
        |false=>.bad
       |_=>.bad
      |none=>.bad
     |_=>.bad
   |none=>.bad
  |.range t x=>match P.underlying t,evalO (tau s.fr) x with
   |some .string,.str u=>rec (.ops nt ops rest ⟨putD s.fr o.dst (.itr s.nx),s.hp,s.nx+8,(s.nx,mapRec (.sit u 0))::s.lp,s.fu⟩)
   |some (.map _ _),.mp l=>match alg s.lp l with
    |some y=>match y.mp with|some (.map m)=>rec (.ops nt ops rest ⟨putD s.fr o.dst (.itr s.nx),s.hp,s.nx+8,(s.nx,mapRec (.mit l (.l m) none))::s.lp,s.fu⟩)|some (.md k v xs)=>rec (.ops nt ops rest ⟨putD s.fr o.dst (.itr s.nx),s.hp,s.nx+8,(s.nx,mapRec (.mit l (.d k v xs) none))::s.lp,s.fu⟩)|_=>.bad
    |none=>.bad
   |_,_=>.bad
  |.next x false=>match evalO (tau s.fr) x with
   |.itr l=>match alg s.lp l with
    |some y=>match y.mp with
     |some (.mit l0 left _)=>match left with|.l []=>rec (.ops nt ops rest ⟨putD s.fr o.dst (.tup [.bool false]),s.hp,s.nx+8,s.lp,s.fu⟩)|.l (p::q)=>nextAll (λkv left'=>rec (.ops nt ops rest ⟨putD s.fr o.dst (.tup [.bool true,kv.1,kv.2]),s.hp,s.nx+8,hset s.lp l {y with mp:=some (.mit l0 (.l left') (some kv))},s.fu⟩)) (p::q) 0 p q|.d k v xs=>.pk xs (rec (.ops nt ops rest ⟨putD s.fr o.dst (.tup [.bool false]),s.hp,s.nx+8,s.lp,s.fu⟩)) λa xs'=>rec (.ops nt ops rest ⟨putD s.fr o.dst (.tup [.bool true,k.av a.1,v.av a.2]),s.hp,s.nx+8,hset s.lp l {y with mp:=some (.mit l0 (.d k v xs') (some (k.av a.1,v.av a.2)))},s.fu⟩)
     |_=>.bad
    |none=>.bad
   |_=>.bad
  |.entry x=>match evalO (tau s.fr) x with
   |.itr l=>match alg s.lp l with
    |some y=>match y.mp with
     |some (.mit _ _ cur)=>match cur with|some kv=>rec (.ops nt ops rest ⟨putD s.fr o.dst (.tup [kv.1,kv.2]),s.hp,s.nx+8,s.lp,s.fu⟩)|none=>.bad
     |_=>.bad
    |none=>.bad
   |_=>.bad
  |.next x true=>match evalO (tau s.fr) x with
   |.itr l=>match alg s.lp l with
    |some y=>match y.mp with
     |some (.sit u p)=>match sitNext u p with|some (v,p')=>rec (.ops nt ops rest ⟨putD s.fr o.dst v,s.hp,s.nx+8,hset s.lp l {y with mp:=some (.sit u p')},s.fu⟩)|none=>.bad
     |_=>.bad
    |none=>.bad
   |_=>.bad
  |.call c=>match c.argTypes.toList,c.args.toList with
   |t::_,[x,ix]=>match evalO (tau s.fr) x with
    |.mp l=>match alg s.lp l with
     |some y=>match y.mp with
      |some (.map m)=>match noItC l s.lp with
       |true=>match mapDel P t m (evalO (tau s.fr) ix)with|some m'=>rec (.ops nt ops rest ⟨putD s.fr o.dst (.tup []),s.hp,s.nx+8,hset s.lp l {y with mp:=some (.map m')},s.fu⟩)|none=>.bad
       |false=>.bad
      |_=>.bad
     |none=>.bad
    |_=>.bad
   |_,_=>.bad
  |_=>.bad
inductive Kind where|plain|call(f:Operand)(args:Array Operand)|inv|spec
def kindOf(o:Op):Kind:=match o with
 |.call c=>match c.callee with|.value f=>.call f c.args|.invoke _ _=>.inv|.builtin .delete=>.spec|_=>.plain
 |.panic _=>.spec
 |.makeMap _ _=>.spec
 |.lookup _ _ _ _=>.spec
 |.mapUpdate _ _ _ _=>.spec
 |.insert _ _ _ _=>.spec
 |.range _ _=>.spec
 |.next _ _=>.spec
 |.entry _=>.spec
 |_=>.plain
noncomputable def stepCallO[Adr](ev:Ev)(P:Program)(rec:Rc)(nt:Nat)(ops:Array Oper)(o:Oper)(rest:List Nat)(s:Cs)(f:Operand)(args:Array Operand):R Out:=match wants nt ops o (tau s.fr)with|true=>callC ev P rec nt ops o rest s (evalO (tau s.fr) f) (args.toList.map (evalO (tau s.fr)))|false=>plainC P rec nt ops o rest s none
noncomputable def stepInvO[Adr](ev:Ev)(P:Program)(rec:Rc)(nt:Nat)(ops:Array Oper)(o:Oper)(rest:List Nat)(s:Cs):R Out:=match wants nt ops o (tau s.fr)with|true=>invC ev P rec nt ops o rest s|false=>plainC P rec nt ops o rest s none
noncomputable def stepSpecO[Adr](ev:Ev)(P:Program)(rec:Rc)(nt:Nat)(ops:Array Oper)(o:Oper)(rest:List Nat)(s:Cs):R Out:=match wants nt ops o (tau s.fr)with|true=>specC ev P rec nt ops o rest s|false=>plainC P rec nt ops o rest s none
noncomputable def stepOp[Adr](ev:Ev)(P:Program)(rec:Rc)(nt:Nat)(ops:Array Oper)(o:Oper)(rest:List Nat)(s:Cs):R Out:=match kindOf o.op with|.plain=>plainX ev P rec nt ops o rest s|.call f args=>stepCallO ev P rec nt ops o rest s f args|.inv=>stepInvO ev P rec nt ops o rest s|.spec=>stepSpecO ev P rec nt ops o rest s
def segOf(ops:Array Oper)(d:Nat):List Nat->List Nat->Option (List Nat×Nat×List Nat)
 |_,[]=>none
 |acc,i::l=>match ops[i]? with
  |some o=>match isPick d o with
   |true=>match o.dst with|some p=>some ((i::acc).reverse,p,l)|none=>none
   |false=>segOf ops d (i::acc) l
  |none=>none
def dstsOf(ops:Array Oper):List Nat->List Nat|[]=>[]|i::l=>match(ops[i]?).bind (·.dst)with|some d=>d::dstsOf ops l|none=>dstsOf ops l
noncomputable def same(ks ns:List Nat)(s:Cs):List AV×List (Option CB)×List (Nat×LB):=(ks.map (tau s.fr),ns.map s.hp.get,s.lp)
noncomputable def segR(rec:Rc)(nt:Nat)(ops:Array Oper)(seg ks:List Nat)(d p m:Nat)(s:Cs)(b:Bool):R Bool:=bnd (rec (.ops nt ops seg {s with fr:=s.fr.put d (.bool b),fu:=⟨s.fu.n,d::s.fu.kn⟩})) λo=>match o with
 |.ex .normal s'=>match tau s'.fr p with
  |.bool v=>match Nat.ble s'.nx (s.nx+m)with|true=>.eqn (same (d::ks) s.hp.keys s') (same (d::ks) s.hp.keys {s with fr:=s.fr.put d (.bool b)}) (.lf v)|false=>.bad
  |_=>.bad
 |_=>.bad
noncomputable def joinG(rec:Rc)(nt:Nat)(ops:Array Oper)(l:List Nat)(d:Nat)(b:Bool)(s:Cs):R Out:=match segOf ops d [] l with|some (seg,p,rest)=>let ks:=s.fr.keys.filter λt=>!(d::dstsOf ops seg).contains t;.sub (.br b (segR rec nt ops seg ks d p (8*seg.length) s true) (segR rec nt ops seg ks d p (8*seg.length) s false)) λv=>rec (.ops nt ops rest {s with fr:=((putFr (ks.map λt=>(t,tau s.fr t))).put d (.bool b)).put p (.bool v),nx:=s.nx+8*seg.length})|none=>.bad
def segYld[Adr](ops:Array Oper)(d:Nat):List Nat->(Nat->AV)->Bool
 |[],_=>false
 |i::l,τ=>match ops[i]? with
  |some o=>match isPick d o with
   |true=>false
   |false=>match o.op,o.dst with
    |.call c,_=>match c.callee with
     |.value f=>match evalO τ f with|.yld _=>true|_=>segYld ops d l τ
     |_=>segYld ops d l τ
    |.move x,some t=>segYld ops d l (fupd τ t (evalO τ x))
    |_,_=>segYld ops d l τ
  |none=>false
noncomputable def stepOps[Adr](ev:Ev)(P:Program)(rec:Rc)(nt:Nat)(ops:Array Oper)(i:Nat)(rest:List Nat)(s:Cs):R Out:=frc s.nx (match ops[i]? with
 |none=>.bad
 |some o=>match ev.md with
  |false=>stepOp ev P rec nt ops o rest s
  |true=>match gKind nt ops o with
   |some (some (d,want))=>match tau s.fr d with
    |.bool b=>match s.fu.kn.any (Nat.beq d)with|true=>stepOp ev P rec nt ops o rest s|false=>match segYld ops d (i::rest) (tau s.fr)with|true=>.br b (rec (.ops nt ops (i::rest) {s with fr:=s.fr.put d (.bool true),fu:=⟨s.fu.n,d::s.fu.kn⟩})) (rec (.ops nt ops (i::rest) {s with fr:=s.fr.put d (.bool false),fu:=⟨s.fu.n,d::s.fu.kn⟩}))|false=>joinG rec nt ops (i::rest) d b s
    |_=>stepOp ev P rec nt ops o rest s
   |_=>stepOp ev P rec nt ops o rest s)
end Go.AM
end
section
set_option linter.unusedSimpArgs false
set_option linter.unusedVariables false
namespace Go.AM
open Go Go.RowKit
def isDefer(o:Oper):Bool:=match o.op with|.defer _=>true|_=>false
def spineDef:Code->Bool|.seq (.region _ ops false) y=>ops.toList.any isDefer||spineDef y|.seq _ y=>spineDef y|.scope c=>spineDef c|_=>false
def defReg:Code->Option (Array Oper)
 |.region _ ops false=>match ops.toList.any isDefer with|true=>some ops|false=>none
 |_=>none
noncomputable def mapsIn(η:Heap):Nat->AV->List Nat
 |0,_=>[]
 |d+1,v=>match v with
  |.mp l=>[l]
  |.tup cs=>cs.flatMap (mapsIn η d)
  |.ref b _ _ _=>match η b with
   |some x=>match x.es with|e::_=>e.flatMap (mapsIn η d)|[]=>[]
   |none=>[]
  |_=>[]
def hasRec(lp:List (Nat×LB))(l:Nat):Bool:=match alg lp l with|some x=>x.mp.isSome|none=>false
noncomputable def keepC(N:List Nat)(vs:List AV)(η:Heap)(lp:List (Nat×LB)):List Nat:=match lp with|[]=>N|_=>match vs.flatMap (mapsIn η 2)with|[]=>N|ls=>N++ls.filter (hasRec lp)
noncomputable def finV(P:Program)(rs:List ResultVar)(N:List Nat)(s:Cs):R Out:=match resC P (tau s.fr) (vw s.hp) rs with|some vs=>one (.val (resV vs) ⟨s.fr,s.hp,s.nx,keepHp (keepC N vs (vw s.hp) s.lp) s.lp,s.fu⟩)|none=>.bad
noncomputable def finish(P:Program)(rs:List ResultVar)(N:List Nat):Out->R Out|.ex .normal s=>finV P rs N s|.ex .ret s=>finV P rs N s|.pan a s=>one (.pan a ⟨s.fr,s.hp,s.nx,keepHp N s.lp,s.fu⟩)|_=>.bad
noncomputable def thenF(P:Program)(rec:Rc)(fn:Func)(N:List Nat)(y:Code):Out->R Out|.ex .normal s1=>rec (.fcode fn N y s1)|o=>finish P fn.results.toList N o
noncomputable def stepFcode(P:Program)(rec:Rc)(fn:Func)(N:List Nat)(c:Code)(s:Cs):R Out:=match spineDef c with
 |false=>bnd (rec (.code fn.ntmps c s)) (finish P fn.results.toList N)
 |true=>match c with
  |.seq x y=>match defReg x with|some ops=>rec (.fops fn N ops (List.range ops.size) y s)|none=>bnd (rec (.code fn.ntmps x s)) (thenF P rec fn N y)
  |.scope c=>rec (.fcode fn N c s)
  |_=>.bad
noncomputable def behV(P:Program)(rs:List ResultVar)(N:List Nat)(fr:Tr AV)(s:Cs):R Out:=match resC P (tau fr) (vw s.hp) rs with|some vs=>one (.val (resV vs) ⟨fr,s.hp,s.nx,keepHp N s.lp,s.fu⟩)|none=>.bad
noncomputable def behindC(P:Program)(rs:List ResultVar)(N:List Nat)(fr:Tr AV)(md:Option AV):Out->R Out
 |.rec' b s=>match md,b with|some a,false=>one (.pan a ⟨fr,s.hp,s.nx,keepHp N s.lp,s.fu⟩)|_,_=>behV P rs N fr s
 |_=>.bad
noncomputable def leaveC(P:Program)(rec:Rc)(rs:List ResultVar)(N:List Nat)(f:FuncId)(avs:List AV):Out->R Out|.ex .normal s=>bnd (rec (.dcall f avs none ⟨s.fr,s.hp,s.nx,keepHp N s.lp,s.fu⟩)) (behindC P rs N s.fr none)|.ex .ret s=>bnd (rec (.dcall f avs none ⟨s.fr,s.hp,s.nx,keepHp N s.lp,s.fu⟩)) (behindC P rs N s.fr none)|.pan a s=>bnd (rec (.dcall f avs (some a) ⟨s.fr,s.hp,s.nx,keepHp N s.lp,s.fu⟩)) (behindC P rs N s.fr (some a))|_=>.bad
def entB(P:Program)(f:FuncId):Bool:=match P.funcs[f]? with|some fn=>fn.body.isSome|none=>false
def nilOr:Option AV->AV|some a=>a|none=>.nili
noncomputable def clrLpC(N:List Nat)(l:Nat)(y:LB)(lp:List (Nat×LB)):List (Nat×LB):=keepHp N (hset (keepHp (l::N) lp) l {y with mp:=some (.map [])})
noncomputable def clrV(P:Program)(rs:List ResultVar)(N:List Nat)(l:Nat)(s:Cs):R Out:=match alg s.lp l with
 |some y=>match y.mp.bind obMp,resC P (tau s.fr) (vw s.hp) rs with
  |some _,some vs=>match noItC l s.lp with|true=>one (.val (resV vs) ⟨s.fr,s.hp,s.nx,clrLpC N l y s.lp,s.fu⟩)|false=>.bad
  |_,_=>.bad
 |none=>.bad
noncomputable def leaveBC(P:Program)(rs:List ResultVar)(N:List Nat)(l:Nat):Out->R Out
 |.ex .normal s=>clrV P rs N l s
 |.ex .ret s=>clrV P rs N l s
 |.pan a s=>match alg s.lp l with
  |some y=>match y.mp.bind obMp with
   |some _=>match noItC l s.lp with|true=>one (.pan a ⟨s.fr,s.hp,s.nx,clrLpC N l y s.lp,s.fu⟩)|false=>.bad
   |_=>.bad
  |none=>.bad
 |_=>.bad
noncomputable def thenB(P:Program)(rec:Rc)(fn:Func)(N:List Nat)(y:Code)(l:Nat)(o1:Out):R Out:=match o1 with|.ex .normal s1=>bnd (rec (.code fn.ntmps y s1)) (leaveBC P fn.results.toList N l)|o1=>leaveBC P fn.results.toList N l o1
noncomputable def thenL(P:Program)(rec:Rc)(fn:Func)(N:List Nat)(y:Code)(f:FuncId)(avs:List AV):Out->R Out|.ex .normal s1=>bnd (rec (.code fn.ntmps y s1)) (leaveC P rec fn.results.toList N f avs)|o1=>leaveC P rec fn.results.toList N f avs o1
noncomputable def clearC[Adr](P:Program)(rec:Rc)(fn:Func)(N:List Nat)(ops:Array Oper)(rest:List Nat)(y:Code)(s:Cs)(c:Call):R Out:=match c.args.toList,c.argTypes[0]? with
 |[x],some t=>match P.underlying t,evalO (tau s.fr) x with
  |some (.map _ _),.mp l=>match alg s.lp l with
   |some y0=>match y0.mp with|some (.map _)=>bnd (rec (.ops fn.ntmps ops rest s)) (thenB P rec fn N y l)|_=>.bad
   |none=>.bad
  |_,_=>.bad
 |_,_=>.bad
noncomputable def stepFops[Adr](P:Program)(rec:Rc)(fn:Func)(N:List Nat)(ops:Array Oper)(l:List Nat)(y:Code)(s:Cs):R Out:=match l with
 |[]=>rec (.fcode fn N y s)
 |i::rest=>match ops[i]? with
  |none=>.bad
  |some o=>match o.op with
   |.defer c=>match c.callee,o.guard,o.dst with
    |.value f,none,none=>match evalO (tau s.fr) f with
     |.fn fid first cap=>match entB P fid with|true=>bnd (rec (.ops fn.ntmps ops rest s)) (thenL P rec fn N y fid (first++c.args.toList.map (evalO (tau s.fr))++cap))|false=>.bad
     |_=>.bad
    |.builtin .clear,none,none=>clearC P rec fn N ops rest y s c
    |_,_,_=>.bad
   |_=>match stepF true P fn.ntmps ops o none s.nx (tau s.fr) (vw s.hp)with|some se=>rec (.fops fn N ops rest y ⟨putD s.fr se.d se.v,putW s.hp se.wr,s.nx+8,s.lp,s.fu⟩)|none=>.bad
noncomputable def stepCall(P:Program)(rec:Rc)(f:FuncId)(args:List AV)(s:Cs):R Out:=match P.funcs[f]? with|none=>.bad|some fn=>match fn.body with|none=>.bad|some c=>match Nat.ble args.length fn.ntmps with|true=>rec (.fcode fn (s.lp.map (·.1)) c ⟨enumT 0 args,s.hp,s.nx,s.lp,⟨s.fu.n,[]⟩⟩)|false=>.bad
def recOf(c:Code):Option (Nat×Code):=match c with
 |.seq (.region _ ops false) y=>match ops.toList with
  |[o]=>match o.op,o.guard,o.dst with
   |.call k,none,some d=>match k.callee,k.args.toList with|.builtin .recover,[]=>some (d,y)|_,_=>none
   |_,_,_=>none
  |_=>none
 |_=>none
noncomputable def endV(P:Program)(rs:List ResultVar)(b:Bool)(s:Cs):R Out:=match resC P (tau s.fr) (vw s.hp) rs with|some _=>one (.rec' b s)|none=>.bad
noncomputable def endC(P:Program)(rs:List ResultVar)(b:Bool):Out->R Out|.ex .normal s=>endV P rs b s|.ex .ret s=>endV P rs b s|_=>.bad
noncomputable def stepDcall(P:Program)(rec:Rc)(f:FuncId)(args:List AV)(md:Option AV)(s:Cs):R Out:=match P.funcs[f]? with
 |none=>.bad
 |some fn=>match fn.body with
  |none=>.bad
  |some c=>match Nat.ble args.length fn.ntmps with
   |true=>match recOf c with
    |some (d,y)=>match Nat.ble (d+1) fn.ntmps with|true=>bnd (rec (.dcode fn.ntmps y ⟨(enumT 0 args).put d (nilOr md),s.hp,s.nx,s.lp,⟨s.fu.n,[]⟩⟩)) (endC P fn.results.toList md.isSome)|false=>.bad
    |none=>bnd (rec (.dcode fn.ntmps c ⟨enumT 0 args,s.hp,s.nx,s.lp,⟨s.fu.n,[]⟩⟩)) (endC P fn.results.toList false)
   |false=>.bad
noncomputable def thenD(rec:Rc)(nt:Nat)(y:Code):Out->R Out|.ex .normal s1=>rec (.dcode nt y s1)|o=>one o
noncomputable def stepDcode[Adr](ev:Ev)(rec:Rc)(nt:Nat)(c:Code)(s:Cs):R Out:=match c with
 |.skip=>one (.ex .normal s)
 |.exit id=>one (.ex (.exit id) s)
 |.ret=>one (.ex .ret s)
 |.seq x y=>bnd (rec (.dcode nt x s)) (thenD rec nt y)
 |.cond c x y=>match evalO (tau s.fr) c with
  |.bool b=>match ev.md with|true=>.br b (rec (.dcode nt x s)) (rec (.dcode nt y s))|false=>match b with|true=>rec (.dcode nt x s)|false=>rec (.dcode nt y s)
  |_=>.bad
 |.block id c=>bnd (rec (.dcode nt c s)) (outB id)
 |.region _ ops false=>rec (.dops nt ops (List.range ops.size) s)
 |_=>.bad
noncomputable def thenDo[Adr](rec:Rc)(nt:Nat)(ops:Array Oper)(o:Oper)(rest:List Nat)(s:Cs):Out->R Out|.val r s'=>rec (.dops nt ops rest ⟨putD s.fr o.dst r,s'.hp,s'.nx,s'.lp,s.fu⟩)|_=>.bad
noncomputable def stepDops[Adr](P:Program)(rec:Rc)(nt:Nat)(ops:Array Oper)(l:List Nat)(s:Cs):R Out:=match l with
 |[]=>one (.ex .normal s)
 |i::rest=>match ops[i]? with
  |none=>.bad
  |some o=>match isCall o.op with
   |none=>match stepF true P nt ops o none s.nx (tau s.fr) (vw s.hp)with|some se=>rec (.dops nt ops rest ⟨putD s.fr se.d se.v,putW s.hp se.wr,s.nx+8,s.lp,s.fu⟩)|none=>.bad
   |some (f,args)=>match wants nt ops o (tau s.fr)&&dstOk nt o with
    |true=>match evalO (tau s.fr) f with|.fn fid first cap=>bnd (rec (.call fid (first++args.map (evalO (tau s.fr))++cap) s)) (thenDo rec nt ops o rest s)|_=>.bad
    |false=>.bad
noncomputable def againC(rec:Rc)(nt:Nat)(c:Code)(o:Out):R Out:=match o with|.ex .normal s1=>rec (.loop nt c s1)|o=>one o
noncomputable def jumpC(rec:Rc)(nt:Nat)(c:Code)(o:Out):R Out:=match o with
 |.ex (.goto l) s1=>match findLabel c l with|some rest=>rec (.inscope nt c rest s1)|none=>one (.ex (.goto l) s1)
 |o=>one o
noncomputable def stepScoped(rec:Rc)(nt:Nat)(c r:Code)(s:Cs):R Out:=bnd (rec (.code nt r s)) (jumpC rec nt c)
noncomputable def stepLoop(ev:Ev)(rec:Rc)(nt:Nat)(c:Code)(s:Cs):R Out:=match ev.md with|false=>bnd (rec (.code nt c s)) (againC rec nt c)|true=>match ev.hint nt (firstR c)with|none=>bnd (rec (.code nt c s)) (againC rec nt c)|some h=>match getSls s h.sl with|some _=>loopR rec nt c h s|none=>match s.fu.kn.any (Nat.beq (1000000000+firstR c))with|true=>.bad|false=>bnd (rec (.code nt c {s with fu:=⟨s.fu.n,(1000000000+firstR c)::s.fu.kn⟩})) (againC rec nt c)
noncomputable def stepOpsJ[Adr](ev:Ev)(P:Program)(rec:Rc)(nt:Nat)(ops:Array Oper)(l:List Nat)(s:Cs):R Out:=match l with|[]=>one (.ex .normal s)|i::rest=>stepOps ev P rec nt ops i rest s
noncomputable def expX(v:AV)(s:Cs):Option (AV×List ABlk):=match expo (tops (vw s.hp) 9 v []) v (vw s.hp)with|some p=>some p|none=>expo [] v (vw s.hp)
noncomputable def agreeX(r:AV)(blks:List ABlk):List Out->Bool
 |[]=>true
 |.val v s::os=>match expX v s with
  |some (r',blks')=>match avB 40 r r' with
   |true=>match listB blkB blks blks' with|true=>agreeX r blks os|false=>false
   |false=>false
  |none=>false
 |_=>false
noncomputable def ansX:Out->R Out
 |.val v s=>match expX v s with|some (r,blks)=>one (.ans r blks)|none=>.bad
 |_=>.bad
noncomputable def stepPcall(ev:Ev)(rec:Rc)(fu:Nat)(f:FuncId)(args:List AV):R Out:=match ev.con fu f with
 |some (.pure g)=>match g args with|some (r,blks)=>one (.ans r blks)|none=>.bad
 |some (.inp _)=>.bad
 |some (.ext _)=>.bad
 |some (.opi ..)=>.bad
 |some (.opn arg g res)=>match arg args with|some x=>.ask (g x) λy=>one (.ans (res y) [])|none=>.bad
 |some (.opw arg n g)=>match arg args with|some x=>.ask (g x) λxs=>one (.ans (.sl 0 0 (szU n) 0 xs.length) [(CB.t 0 true n xs).a])|none=>.bad
 |none=>match ev.md with
  |true=>bnd (dets (rec (.call f args ⟨.e,.e,0,[],⟨fu,[]⟩⟩))) ansX
  |false=>match leaves (rec (.call f args ⟨.e,.e,0,[],⟨fu,[]⟩⟩))with
   |some (.val v s::os)=>match expX v s with
    |some (r,blks)=>match agreeX r blks os with|true=>one (.ans r blks)|false=>.bad
    |none=>.bad
   |_=>.bad
noncomputable def stepJ[Adr](ev:Ev)(P:Program)(rec:Rc)(j:Job):R Out:=match j with|.code nt c s=>stepCode ev P rec nt c s|.loop nt c s=>stepLoop ev rec nt c s|.inscope nt c r s=>stepScoped rec nt c r s|.ops nt ops l s=>stepOpsJ ev P rec nt ops l s|.draw nt ops c l s=>stepDraw ev P rec nt ops c l s|.every nt ops fuel listed s=>stepEvery rec nt ops fuel listed s|.call f args s=>stepCall P rec f args s|.pcall fu f args=>stepPcall ev rec fu f args|.fcode fn N c s=>stepFcode P rec fn N c s|.fops fn N ops l y s=>stepFops P rec fn N ops l y s|.dcall f args md s=>stepDcall P rec f args md s|.dcode nt c s=>stepDcode ev rec nt c s|.dops nt ops l s=>stepDops P rec nt ops l s
noncomputable def run[Adr](ev:Ev)(P:Program):Nat->Rc:=Nat.rec (motive:=λ_=>Rc) (λ_=>.bad) (λ_ ih j=>stepJ ev P ih j)
theorem run_zero[Adr](ev:Ev)(P:Program)(j:Job):run ev P 0 j=.bad:=rfl
theorem run_succ[Adr](ev:Ev)(P:Program)(n:Nat)(j:Job):run ev P (n+1) j=stepJ ev P (run ev P n) j:=rfl
end Go.AM
end
