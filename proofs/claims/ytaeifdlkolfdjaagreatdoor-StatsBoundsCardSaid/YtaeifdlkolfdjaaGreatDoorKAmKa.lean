/- Texts of the proof, joined by program. -/
import Derived.Test.YtaeifdlkolfdjaaGreatDoorKBv
section
set_option linter.unusedSimpArgs false
set_option linter.unusedVariables false
namespace Go.AM
open Go
structure KS where
 b:Nat
 g:Nat
 z:Nat
 off:Nat
 len:Nat
 lo:Nat
 ex:Bool
def asK:AV->Option KS|.slk b g z off len lo ex=>some ⟨b,g,z,off,len,lo,ex⟩|.sl b g z off len=>if len=0 then none else some ⟨b,g,z,off,len,len,false⟩|_=>none
def KS.av(k:KS):AV:=.slk k.b k.g k.z k.off k.len k.lo k.ex
def wk:AV->AV|.slk b g z off len _ _=>.sl b g z off len|.psx z es=>.psl z es|v=>v
def kSlice(P:Program)(t:TypeId)(x:AV)(lo hi mx:Option AV):Option AV:=match tSlice P t,asK x with
 |some e,some k=>match tSize P e,sliceBd lo 0,sliceBd hi k.len with|some sz,some l,some h=>if k.z=sz/\l<=h/\h<=k.lo then match mx with|none=>if l<k.lo\/l=0 then some (.slk k.b k.g k.z (k.off+l) (h-l) (k.lo-l) k.ex)else some (.psl k.z [])|some (.int _ m)=>if 0<=m/\hi.isSome=true/\h<=m.toNat/\m.toNat<=k.lo then(if l<m.toNat\/l=0 then some (.slk k.b k.g k.z (k.off+l) (h-l) (m.toNat-l) true)else some (.psl k.z []))else none|_=>none else none|_,_,_=>none
 |_,_=>none
def kSliceX(P:Program)(t:TypeId)(x:AV)(lo hi mx:Option AV):Option AV:=match tSlice P t,x,mx with
 |some e,.psl sz es,some (.int _ m)=>match tSize P e,sliceBd lo 0,sliceBd hi es.length with|some sz',some l,some h=>if sz'=sz/\l<=h/\hi.isSome=true/\m=(h:Int)/\h<=es.length/\(l<h\/l=0)/\0<sz then some (.psx sz ((es.drop l).take (h-l)))else none|_,_,_=>none
 |_,_,_=>none
def wkx:AV->AV|.psx z es=>.psl z es|.dl n xs=>.psl (szU n) (xs.map (encU n))|v=>v
def kAppX(P:Program)(t t':TypeId)(s x:AV)(η:Heap)(nm:Nat):Option (AV×(Nat×ABlk)×List Nat):=match s,tSlice P t,tSlice P t' with
 |.psx z es,some e,some e'=>match tSize P e,tBytes P e,tSize P e',tZero P e with|some sz,some bs,some sz',some zs=>if sz=sz'/\0<sz/\0<bs/\zs.length=sz/\z=sz then match aElems η sz (wk (wkx x))with|some (xs,rd)=>if 0<xs.length/\2*((es.length+xs.length)*bs)<=2^48 then some (.sl nm 0 sz 0 (es.length+xs.length),(nm,{g:=0,own:=true,pure:=(es++xs).all AV.isP.isPs,sz:=sz,es:=es++xs}),rd)else none|none=>none else none|_,_,_,_=>none
 |_,_,_=>none
def kMake(P:Program)(t:TypeId)(len cap:AV)(nm:Nat):Option (AV×(Nat×ABlk)):=match tSlice P t,len,cap with
 |some e,.int _ l,.int _ c=>match tSize P e,tBytes P e,tZero P e with|some sz,some bs,some z=>if 0<=l/\l<=c/\c<=IntKind.i64.max/\(bs:Int)*c<=2^48/\z.length=sz/\0<sz then some (.slk nm 0 sz 0 l.toNat c.toNat true,(nm,{g:=0,own:=true,pure:=true,sz:=sz,es:=List.replicate c.toNat z}))else none|_,_,_=>none
 |_,_,_=>none
def kIndexAddr(P:Program)(t:TypeId)(x ix:AV):Option AV:=match tSlice P t,x,ix with
 |some e,.slk b g z off len _ _,.int _ n=>match tSize P e with|some sz=>if z=sz/\0<=n/\n<len then some (.ref b g (off+n.toNat) 0)else none|none=>none
 |none,.gp k o cs,.int _ n=>match tArr P t with
  |some (len,e)=>match tSize P e with|some sz=>if 0<=n/\n<len/\n.toNat*sz<=cs.length then some (.gp k (o+n.toNat*sz) (cs.drop (n.toNat*sz)))else none|none=>none
  |none=>none
 |_,_,_=>none
def kFieldAddr(P:Program)(t:TypeId)(x:AV)(f:Nat):Option AV:=match tField P t f,x with|some (off,_),.gp k o cs=>if off<=cs.length then some (.gp k (o+off) (cs.drop off))else none|_,_=>none
def kLoad(P:Program)(t:TypeId)(a:AV):Option AV:=match tAgg P t,tSize P t,a with|some ag,some n,.gp _ _ cs=>if 0<n/\n<=cs.length then AV.ofCells ag (cs.take n)else none|_,_,_=>none
def splice(es:List (List AV))(i:Nat)(xs:List (List AV)):List (List AV):=es.take i++xs++es.drop (i+xs.length)
def kAppend(P:Program)(t t':TypeId)(s x:AV)(η:Heap)(nm:Nat):Option (AV×(Nat×ABlk)×List Nat):=match s with
 |.slk b g z off len lo ex=>match tSlice P t,tSlice P t' with
  |some e,some e'=>match tSize P e,tBytes P e,tSize P e',tZero P e with|some sz,some bs,some sz',some zs=>if sz=sz'/\0<sz/\0<bs/\zs.length=sz/\z=sz then match aElems η sz (wk x),η b with|some (xs,rd),some blk=>if blk.g=g/\blk.sz=sz then if len+xs.length<=lo then if blk.own=true/\off+len+xs.length<=blk.es.length then some (.slk b g z off (len+xs.length) lo ex,(b,{blk with es:=splice blk.es (off+len) xs,pure:=blk.pure&&xs.all AV.isP.isPs}),b::rd)else none else if ex=true/\off+len<=blk.es.length/\2*((len+xs.length)*bs)<=2^48 then some (.sl nm 0 sz 0 (len+xs.length),(nm,{g:=0,own:=true,pure:=((blk.es.drop off).take len++xs).all AV.isP.isPs,sz:=sz,es:=(blk.es.drop off).take len++xs}),b::rd)else none else none|_,_=>none else none|_,_,_,_=>none
  |_,_=>none
 |_=>none
def kZeros(P:Program)(t t':TypeId)(k:IntKind)(n:Int)(nm:Nat):Option (AV×(Nat×ABlk)):=match tSlice P t,P.underlying t',k with
 |some e,some (.int _),.i64=>match tSize P e,tBytes P e,tZero P e with|some sz,some bs,some z=>if 0<n/\n<=65536/\0<bs/\(2:Int)*(n*bs)<=2^48/\z.length=sz/\0<sz then some (.sl nm 0 sz 0 n.toNat,(nm,{g:=0,own:=true,pure:=true,sz:=sz,es:=List.replicate n.toNat z}))else none|_,_,_=>none
 |_,_,_=>none
def kCopy(P:Program)(t t':TypeId)(d x:AV)(η:Heap):Option (AV×(Nat×ABlk)×List Nat):=match asK d,tSlice P t,tSlice P t' with
 |some k,some e,some _=>match tSize P e with
  |some sz=>match aElems η sz (wk x),η k.b with|some (xs,rd),some blk=>if k.z=sz/\0<sz/\blk.g=k.g/\blk.sz=sz/\blk.own=true/\k.off+min xs.length k.len<=blk.es.length then some (.int .i64 (min xs.length k.len:Nat),(k.b,{blk with es:=splice blk.es k.off (xs.take (min xs.length k.len)),pure:=blk.pure&&xs.all AV.isP.isPs}),k.b::rd)else none|_,_=>none
  |none=>none
 |_,_,_=>none
def kIfEq(P:Program)(x y:AV):Option Bool:=match x,y with
 |.nili,.nili=>some true
 |.nili,.iface .. =>some false
 |.iface ..,.nili=>some false
 |.iface t u,.iface t' u'=>if t=t' then match(P.info? t).map (·.comparable),u,u' with
  |some true,.gp k o _,.gp k' o' _=>match P.underlying t with
   |some (.pointer e)=>match tSize P e with|some (_+1)=>if k=k'/\o=o' then some true else none|_=>none
   |_=>none
  |some true,u,u'=>aEq P 9999 t u u'
  |_,_,_=>none else some false
 |_,_=>none
def isConst:Operand->Bool|.const _=>true|_=>false
def isNili:AV->Bool|.nili=>true|_=>false
def lenZ:AV->Bool|.slk _ _ _ _ len _ _=>Nat.beq len 0|.sl _ _ _ _ len=>Nat.beq len 0|.nils=>true|.emp=>true|.psl _ es=>es.isEmpty|_=>false
def kClear(P:Program)(t:TypeId)(d:AV)(η:Heap):Option (AV×(Nat×ABlk)×List Nat):=match asK d,tSlice P t with
 |some k,some e=>match tSize P e,tZero P e,η k.b with|some sz,some z,some blk=>if 0<k.len/\z.length=sz/\k.z=sz/\0<sz/\blk.g=k.g/\blk.sz=sz/\blk.own=true/\k.off+k.len<=blk.es.length then some (.tup [],(k.b,{blk with es:=splice blk.es k.off (List.replicate k.len z),pure:=blk.pure&&true}),[k.b])else none|_,_,_=>none
 |_,_=>none
def isNilp:AV->Option Bool|.nilp=>some true|.ref .. =>some false|.pp _=>some false|.gp .. =>some false|_=>none
def kPtrEq(a b:AV):Option Bool:=match isNilp a,isNilp b with|some p,some q=>if p||q then some (p&&q)else none|_,_=>none
def isNilm:AV->Option Bool|.nilm=>some true|.mp _=>some false|_=>none
def kMapEq(a b:AV):Option Bool:=match isNilm a,isNilm b with|some p,some q=>if p||q then some (p&&q)else none|_,_=>none
def refEq(a b:AV):Option Bool:=match a,b with|.ref b g i j,.ref b' g' i' j'=>if b=b'/\g=g'/\i=i'/\j=j' then some true else none|_,_=>none
def kPtrE(P:Program)(e:TypeId)(a b:AV):Option Bool:=match kPtrEq a b with|some q=>some q|none=>match tSize P e with|some _=>refEq a b|none=>none
def kBin(P:Program)(op:BinOp)(t:TypeId)(x y:Operand)(a b:AV):Option AV:=match op,P.underlying t with
 |.eql,some (.interface _)=>if isNili a&&isNili b&&!isConst x&&!isConst y then none else(kIfEq P a b).map .bool
 |.neq,some (.interface _)=>if isNili a&&isNili b&&!isConst x&&!isConst y then none else(kIfEq P a b).map λq=>.bool !q
 |.eql,some (.slice _)=>match a,b with|.slk ..,.nils=>some (.bool false)|_,_=>none
 |.neq,some (.slice _)=>match a,b with|.slk ..,.nils=>some (.bool true)|_,_=>none
 |.eql,some (.pointer e)=>(kPtrE P e a b).map .bool
 |.neq,some (.pointer e)=>(kPtrE P e a b).map λq=>.bool !q
 |.eql,some (.map ..)=>(kMapEq a b).map .bool
 |.neq,some (.map ..)=>(kMapEq a b).map λq=>.bool !q
 |.eql,some (.func ..)=>match a,b with|.nilf,.nilf=>some (.bool true)|.fn ..,.nilf=>some (.bool false)|_,_=>none
 |.neq,some (.func ..)=>match a,b with|.nilf,.nilf=>some (.bool false)|.fn ..,.nilf=>some (.bool true)|_,_=>none
 |.shr,some (.int _)=>match a,b with|.int k a,.int _ b=>if 0<=b then some (.int k (a.fdiv (2^(min b.toNat k.bits))))else none|_,_=>none
 |_,_=>none
def kBuild(P:Program)(t:TypeId)(parts:List (Nat×AV)):Option AV:=match tArr P t,tZero P t with
 |some (_,e),some z=>match tSize P e with|some sz=>(aFill (λi=>some (i*sz,sz)) z parts).map .agg|none=>none
 |_,_=>none
def kIndex(P:Program)(t:TypeId)(x ix:AV):Option AV:=match tArr P t,x,ix with
 |some (n,e),.agg cs,.int _ i=>match tSize P e with|some sz=>if 0<=i/\i<n then aPart P e cs (i.toNat*sz)else none|none=>none
 |_,_,_=>none
def kConv(P:Program)(s d:TypeId)(x:AV)(nm:Nat):Option (AV×(Nat×ABlk)):=match P.underlying s,tSlice P d,x with
 |some .string,some e,.str l=>match P.underlying e with|some (.int .u8)=>some (.sl nm 0 1 0 l.length,(nm,{g:=0,own:=false,pure:=true,sz:=1,es:=l.map λc=>[.int .u8 c.toNat]}))|_=>none
 |_,_,_=>none
def avBytes:List (List AV)->Option (List UInt8)
 |[]=>some []
 |[.int .u8 n]::l=>match avBytes l with|some r=>some (UInt8.ofNat n.toNat::r)|none=>none
 |_=>none
def kConvS(P:Program)(s d:TypeId)(x:AV)(η:Heap):Option (AV×List Nat):=match tSlice P s,P.underlying d with
 |some e,some .string=>match P.underlying e with
  |some (.int .u8)=>match aElems η 1 (wk (wkx x))with
   |some (es,rd)=>match avBytes es with|some l=>some (.str l,rd)|none=>none
   |none=>none
  |_=>none
 |_,_=>none
def isSelf(P:Program)(t:TypeId):Bool:=match P.underlying t with
 |some (.struct fs)=>match fs.toList with
  |[f,_]=>match P.underlying f.type with|some (.pointer u)=>Nat.beq u t|_=>false
  |_=>false
 |_=>false
def kAlloc(P:Program)(t:TypeId)(nm:Nat):Option (AV×(Nat×ABlk)):=match isSelf P t with
 |true=>match tSize P t,tZero P t with|some n,some z=>if z.length=n then some (.ref nm 0 0 0,(nm,{g:=0,own:=true,pure:=AV.isP.isPs z,sz:=n,es:=[z],ty:=some t}))else none|_,_=>none
 |false=>match tArr P t with
  |some (_,e)=>match P.underlying e,tZero P t with
   |some (.int .u8),some z=>match AV.isP.isPs z with|true=>some (.ref nm 0 0 0,(nm,{g:=0,own:=true,pure:=true,sz:=1,es:=z.map λc=>[c]}))|false=>none
   |_,_=>none
  |none=>none
def kArrSl(P:Program)(t:TypeId)(x:AV)(lo hi mx:Option AV)(η:Heap):Option (AV×List Nat):=match tArr P t,x,mx with
 |some (n,e),.ref b g 0 0,none=>match η b,tSize P e with
  |some blk,some 1=>match lo,hi with|some (.int .i64 l),some (.int .i64 h)=>if blk.g=g/\blk.sz=1/\blk.es.length=n/\0<=l/\l<h/\h<=n then some (.sl b g 1 l.toNat (h.toNat-l.toNat),[b])else none|_,_=>none
  |_,_=>none
 |_,_,_=>none
def kConvP(P:Program)(s d:TypeId)(x:AV)(η:Heap):Option (AV×List Nat):=match x with
 |.ref b g i j=>match η b with
  |some blk=>match P.underlying s,P.underlying d with
   |some (.pointer t),some .unsafePointer=>match tSize P t with|some (_+1)=>if blk.g=g/\i<blk.es.length/\j<blk.sz then some (.ref b g i j,[b])else none|_=>none
   |some .unsafePointer,some (.pointer u)=>match tSize P u with|some _=>if i=0/\j=0/\blk.g=g/\blk.ty=some u/\0<blk.es.length/\0<blk.sz/\P.cellsOf u=blk.sz then some (.ref b g i j,[b])else none|none=>none
   |_,_=>none
  |none=>none
 |_=>none
def kSlData(x:AV):Option AV:=match x with|.nils=>some .nilp|.sl b g _ off len=>if 0<len then some (.ref b g off 0)else none|.slk b g _ off _ lo _=>if 0<lo then some (.ref b g off 0)else none|_=>none
def avB8:List (List AV)->Option (List UInt8)
 |[]=>some []
 |[.int .u8 n]::l=>match decide (0<=n)&&decide (n<256)with
  |true=>match avB8 l with|some r=>some (UInt8.ofNat n.toNat::r)|none=>none
  |false=>none
 |_=>none
def kUStr(P:Program)(t:TypeId)(x n:AV)(η:Heap):Option (AV×List (Nat×ABlk)×List Nat):=match x,n with
 |.ref b g 0 0,.int .i64 m=>match η b,P.underlying t with|some blk,some (.pointer e)=>if blk.g=g/\blk.own=true/\blk.ty=some e/\blk.sz=1/\P.cellsOf e=1/\0<m/\m<=9223372036854775807/\m.toNat<=blk.es.length then match avB8 (blk.es.take m.toNat)with|some l=>some (.str l,[(b,{blk with own:=false})],[b])|none=>none else none|_,_=>none
 |.nilp,.int .i64 0=>some (.str [],[],[])
 |_,_=>none
def kAppStr(P:Program)(t t':TypeId)(s:AV)(l:List UInt8)(η:Heap)(nm:Nat):Option (AV×(Nat×ABlk)×List Nat):=match tSlice P t,P.underlying t' with
 |some e,some .string=>match P.info? e with
  |some i=>match i.zero with
   |some (.int .u8 0)=>if i.size=1/\i.bytes=1/\0<l.length then match s with
    |.nils=>if 2*l.length<=2^47 then some (.sl nm 0 1 0 l.length,(nm,{g:=0,own:=true,pure:=true,sz:=1,es:=l.map λc=>[.int .u8 c.toNat],ty:=some e}),[])else none
    |.sl b g z off len=>match η b with|some blk=>if z=1/\blk.g=g/\blk.sz=1/\off=0/\len=blk.es.length/\0<len/\blk.own=true/\blk.ty=some e/\2*(len+l.length)<=2^47 then some (.sl b (g+1) 1 0 (len+l.length),(b,{blk with g:=g+1,es:=blk.es++l.map λc=>[.int .u8 c.toNat],pure:=blk.pure&&true}),[b])else none|none=>none
    |_=>none else none
   |_=>none
  |none=>none
 |_,_=>none
def foldO(f:AV->AV->Option AV):AV->List AV->Option AV|a,[]=>some a|a,x::l=>match f a x with|some b=>foldO f b l|none=>none
end Go.AM
end
section
set_option linter.unusedSimpArgs false
set_option linter.unusedVariables false
namespace Go.AM
open Go
structure Eff where
 v:AV
 wr:List (Nat×ABlk)
 rd:List Nat
structure Obl where
 f:FuncId
 args:List AV
 r:AV
 blks:List ABlk
def avC:Value->AV|.string s=>.str s.data.toList|v=>(avZ v).getD .top
def evalO[Adr](τ:Nat->AV):Operand->AV|.tmp t=>τ t|.const v=>avC v|.global g=>Adr.gl g|.func f=>.fn f [] []
def aMin:AV->AV->Option AV|.int k x,.int k' y=>if k=k' then some (.int k (if y<x then y else x))else none|_,_=>none
def aMax:AV->AV->Option AV|.int k x,.int k' y=>if k=k' then some (.int k (if y>x then y else x))else none|_,_=>none
def semBuiltin(P:Program)(b:Builtin)(ts:List TypeId)(args:List AV)(η:Heap)(nm:Nat):Option Eff:=match b,ts,args with|.len,[t],[x]=>(aLen P t x).map λv=>⟨v,[],[]⟩|.append,[t,t'],[s,x]=>(aAppend P t t' s x η nm).map λr=>⟨r.1,[r.2.1],r.2.2⟩|.min,_,[x,y]=>(aMin x y).map λv=>⟨v,[],[]⟩|.max,_,[x,y]=>(aMax x y).map λv=>⟨v,[],[]⟩|_,_,_=>none
def freezeAll(η:Heap):List Nat->List (Nat×ABlk)|[]=>[]|b::bs=>match η b with|some blk=>(b,{blk with own:=false})::freezeAll η bs|none=>freezeAll η bs
def imports(nm:Nat):Nat->List ABlk->List (Nat×ABlk)|_,[]=>[]|m,b::bs=>(nm+m,b.shift nm)::imports nm (m+1) bs
def ABlk.flat(b:ABlk):Bool:=b.es.all AV.flatR.flatRs
def semCall(η:Heap)(nm:Nat)(f:AV)(args:List AV)(ans:AV×List ABlk):Option (Eff×Obl):=match f with
 |.fn fid first cap=>match pur.purs η 60 (first++args++cap)with|some (pargs,rd)=>if ans.2.length<=8 then let fz:=if rd.isEmpty||(ans.1.flatR&&ans.2.all ABlk.flat)then[]else freezeAll η rd;some (⟨ans.1.shift nm,fz++imports nm 0 ans.2,rd⟩,⟨fid,pargs,ans.1,ans.2⟩)else none|none=>none
 |_=>none
def opSem(P:Program)(o:Op)(ρ:Operand->AV)(η:Heap)(nm:Nat):Option Eff:=match o with
 |.move x=>some ⟨ρ x,[],[]⟩
 |.assign x=>some ⟨ρ x,[],[]⟩
 |.pick c a b=>match ρ c with|.bool t=>some ⟨if t then ρ a else ρ b,[],[]⟩|_=>none
 |.alloc t=>match tSize P t,tZero P t with|some n,some z=>if z.length=n then some ⟨.ref nm 0 0 0,[(nm,{g:=0,own:=true,pure:=AV.isP.isPs z,sz:=n,es:=[z]})],[]⟩else none|_,_=>none
 |.box _ x=>match(ρ x).cells with|some cs=>some ⟨.ref nm 0 0 0,[(nm,{g:=0,own:=true,pure:=AV.isP.isPs cs,sz:=cs.length,es:=[cs]})],[]⟩|none=>none
 |.build t parts=>(aBuild P t (parts.toList.map λp=>(p.1,ρ p.2))).map λv=>⟨v,[],[]⟩
 |.buildSlice t len parts=>(aBuildSlice P t len (parts.toList.map λp=>(p.1,ρ p.2)) nm).map λr=>⟨r.1,[r.2],[]⟩
 |.load t a=>(aLoad P t (ρ a) η).map λr=>⟨r.1,[],r.2⟩
 |.store t a x=>(aStore P t (ρ a) (ρ x) η).map λr=>⟨.tup [],[r],[r.1]⟩
 |.nilCheck x=>match ρ x with|.ref b g i j=>some ⟨.ref b g i j,[],[]⟩|.pp cs=>some ⟨.pp cs,[],[]⟩|.fn f a c=>some ⟨.fn f a c,[],[]⟩|_=>none
 |.binOp op t x y _=>(aBin P op t (ρ x) (ρ y)).map λv=>⟨v,[],[]⟩
 |.makeInterface t x=>if tConc P t then some ⟨.iface t (ρ x),[],[]⟩else none
 |.typeAssert x _ t ok=>if tConc P t then match ok,ρ x with|true,.iface u v=>if u=t then some ⟨.tup [v,.bool true],[],[]⟩else(tZeroV P t).map λz=>⟨.tup [z,.bool false],[],[]⟩|true,.nili=>(tZeroV P t).map λz=>⟨.tup [z,.bool false],[],[]⟩|false,.iface u v=>if u=t then some ⟨v,[],[]⟩else none|_,_=>none else none
 |.unOp op _ x=>(aUn op (ρ x)).map λv=>⟨v,[],[]⟩
 |.convert s d x=>(aConv P s d (ρ x)).map λv=>⟨v,[],[]⟩
 |.makeFunc fn first cap=>match fn with|.func f=>some ⟨.fn f (first.toList.map ρ) (cap.toList.map ρ),[],[]⟩|_=>none
 |.makeSlice t l c=>(aMakeSlice P t (ρ l) (ρ c) nm).map λr=>⟨r.1,[r.2],[]⟩
 |.slice t x lo hi mx=>(aSlice P t (ρ x) (lo.map ρ) (hi.map ρ) (mx.map ρ)).map λv=>⟨v,[],[]⟩
 |.fieldAddr t x f=>(aFieldAddr P t (ρ x) f).map λv=>⟨v,[],[]⟩
 |.field t x f=>match tField P t f,ρ x with|some (off,ty),.agg cs=>(aPart P ty cs off).map λv=>⟨v,[],[]⟩|_,_=>none
 |.indexAddr t x i=>(aIndexAddr P t (ρ x) (ρ i)).map λv=>⟨v,[],[]⟩
 |.index t x i=>match P.underlying t,ρ x,ρ i with|some .string,.str s,.int _ n=>if 0<=n then(s[n.toNat]?).map λc=>⟨.int .u8 c.toNat,[],[]⟩else none|_,_,_=>none
 |.extract x i=>match ρ x with|.tup vs=>(vs[i]?).map λv=>⟨v,[],[]⟩|_=>none
 |.call c=>match c.callee with|.builtin b=>semBuiltin P b c.argTypes.toList (c.args.toList.map ρ) η nm|_=>none
 |_=>none
def semB2(P:Program)(b:Builtin)(ts:List TypeId)(args:List AV)(η:Heap)(nm:Nat):Option Eff:=match b with
 |.len=>match ts,args with
  |[t],[.slk _ _ _ _ len _ _]=>(tSlice P t).map λ_=>⟨.int .i64 len,[],[]⟩
  |[t],[.strb _ _]=>match P.underlying t with|some .string=>some ⟨.inty .i64,[],[]⟩|_=>none
  |_,_=>none
 |.cap=>match ts,args with|[t],[.slk _ _ _ _ _ lo true]=>(tSlice P t).map λ_=>⟨.int .i64 lo,[],[]⟩|[t],[.nils]=>(tSlice P t).map λ_=>⟨.int .i64 0,[],[]⟩|_,_=>none
 |.append=>match ts,args with
  |[t,t'],[s,x]=>match s with
   |.slk .. =>(kAppend P t t' s x η nm).map λr=>⟨r.1,[r.2.1],r.2.2⟩
   |.psx .. =>(kAppX P t t' s x η nm).map λr=>⟨r.1,[r.2.1],r.2.2⟩
   |s=>match x with
    |.str l=>(kAppStr P t t' s l η nm).map λr=>⟨r.1,[r.2.1],r.2.2⟩
    |.slk b g z off len _ _=>(aAppend P t t' s (.sl b g z off len) η nm).map λr=>⟨r.1,[r.2.1],r.2.2⟩
    |.int k n=>match s with|.nils=>(kZeros P t t' k n nm).map λr=>⟨r.1,[r.2],[]⟩|_=>none
    |_=>none
  |_,_=>none
 |.unsafeSliceData=>match args with|[x]=>(kSlData x).map λv=>⟨v,[],[]⟩|_=>none
 |.unsafeString=>match ts,args with|[t,_],[x,n]=>(kUStr P t x n η).map λr=>⟨r.1,r.2.1,r.2.2⟩|_,_=>none
 |.copy=>match ts,args with|[t,t'],[d,x]=>(kCopy P t t' d x η).map λr=>⟨r.1,[r.2.1],r.2.2⟩|_,_=>none
 |.clear=>match ts,args with|[t],[d]=>if lenZ d then(tSlice P t).map λ_=>⟨.tup [],[],[]⟩else(kClear P t d η).map λr=>⟨r.1,[r.2.1],r.2.2⟩|_,_=>none
 |.min=>match args with|a::b::c::l=>(foldO aMin a (b::c::l)).map λv=>⟨v,[],[]⟩|_=>none
 |.max=>match args with|a::b::c::l=>(foldO aMax a (b::c::l)).map λv=>⟨v,[],[]⟩|_=>none
 |_=>none
def opSem2(P:Program)(o:Op)(ρ:Operand->AV)(η:Heap)(nm:Nat):Option Eff:=match o with
 |.binOp op t x y _=>(kBin P op t x y (ρ x) (ρ y)).map λv=>⟨v,[],[]⟩
 |.load t a=>(kLoad P t (ρ a)).map λv=>⟨v,[],[]⟩
 |.fieldAddr t x f=>(kFieldAddr P t (ρ x) f).map λv=>⟨v,[],[]⟩
 |.indexAddr t x i=>(kIndexAddr P t (ρ x) (ρ i)).map λv=>⟨v,[],[]⟩
 |.slice t x lo hi mx=>match kSlice P t (ρ x) (lo.map ρ) (hi.map ρ) (mx.map ρ)with|some v=>some ⟨v,[],[]⟩|none=>match kSliceX P t (wkx (ρ x)) (lo.map ρ) (hi.map ρ) (mx.map ρ)with|some v=>some ⟨v,[],[]⟩|none=>(kArrSl P t (ρ x) (lo.map ρ) (hi.map ρ) (mx.map ρ) η).map λr=>⟨r.1,[],r.2⟩
 |.makeSlice t l c=>(kMake P t (ρ l) (ρ c) nm).map λr=>⟨r.1,[r.2],[]⟩
 |.convert s d x=>match kConv P s d (ρ x) nm with|some r=>some ⟨r.1,[r.2],[]⟩|none=>match kConvS P s d (ρ x) η with|some r=>some ⟨r.1,[],r.2⟩|none=>(kConvP P s d (ρ x) η).map λr=>⟨r.1,[],r.2⟩
 |.alloc t=>(kAlloc P t nm).map λr=>⟨r.1,[r.2],[]⟩
 |.build t parts=>(kBuild P t (parts.toList.map λp=>(p.1,ρ p.2))).map λv=>⟨v,[],[]⟩
 |.index t x i=>(kIndex P t (ρ x) (ρ i)).map λv=>⟨v,[],[]⟩
 |.call c=>match c.callee with|.builtin b=>semB2 P b c.argTypes.toList (c.args.toList.map ρ) η nm|_=>none
 |_=>none
def isX:AV->Bool|.psx .. =>true|.dl .. =>true|_=>false
def hasX(o:Op)(ρ:Operand->AV):Bool:=match o with
 |.indexAddr _ x _=>isX (ρ x)
 |.slice _ x _ _ _=>isX (ρ x)
 |.binOp _ _ x y _=>isX (ρ x)||isX (ρ y)
 |.call c=>match c.callee with|.builtin _=>c.args.toList.any λx=>isX (ρ x)|_=>false
 |_=>false
def opSemE(ε:Bool)(P:Program)(o:Op)(ρ:Operand->AV)(η:Heap)(nm:Nat):Option Eff:=match ε with|false=>opSem P o ρ η nm|true=>match opSem2 P o ρ η nm with|some e=>some e|none=>match hasX o ρ with|true=>opSem P o (λx=>wkx (ρ x)) η nm|false=>opSem P o ρ η nm
structure SE where
 d:Option Nat
 v:AV
 wr:List (Nat×ABlk)
 rt:List Nat
 rb:List Nat
 ob:Option Obl
def opTmps:List Operand->List Nat|[]=>[]|.tmp t::xs=>t::opTmps xs|_::xs=>opTmps xs
def isCall:Op->Option (Operand×List Operand)
 |.call c=>match c.callee with|.value f=>some (f,c.args.toList)|_=>none
 |_=>none
def isInv[Adr](P:Program)(o:Op)(τ:Nat->AV):Option (AV×List AV):=match o with
 |.call c=>match c.callee with
  |.invoke r name=>match recvO P (evalO τ r) name with|some (f,x)=>some (.fn f [] [],x::c.args.toList.map (evalO τ))|none=>none
  |_=>none
 |_=>none
def runO[Adr](ε:Bool)(P:Program)(o:Oper)(ans:Option (AV×List ABlk))(nm:Nat)(gt:List Nat)(τ:Nat->AV)(η:Heap):Option SE:=match isCall o.op with
 |some (f,args)=>match ans with
  |some a=>match semCall η nm (evalO τ f) (args.map (evalO τ)) a with|some (e,ob)=>some {d:=o.dst,v:=e.v,wr:=e.wr,rt:=gt++opTmps (f::args),rb:=e.rd,ob:=some ob}|none=>none
  |none=>none
 |none=>match isInv P o.op τ with
  |some (f,args)=>match ans with
   |some a=>match semCall η nm f args a with|some (e,ob)=>some {d:=o.dst,v:=e.v,wr:=e.wr,rt:=gt++opTmps o.op.operands.toList,rb:=e.rd,ob:=some ob}|none=>none
   |none=>none
  |none=>match opSemE ε P o.op (evalO τ) η nm with|some e=>some {d:=o.dst,v:=e.v,wr:=e.wr,rt:=gt++opTmps o.op.operands.toList,rb:=e.rd,ob:=none}|none=>none
def skipO(o:Oper)(gt:List Nat):SE:={d:=o.dst,v:=.tup [],wr:=[],rt:=gt,rb:=[],ob:=none}
def dstOk(nt:Nat)(o:Oper):Bool:=match o.dst with|some d=>d<nt|none=>true
def stepF[Adr](ε:Bool)(P:Program)(nt:Nat)(ops:Array Oper)(o:Oper)(ans:Option (AV×List ABlk))(nm:Nat)(τ:Nat->AV)(η:Heap):Option SE:=if dstOk nt o then match o.guard with|none=>runO ε P o ans nm [] τ η|some (j,want)=>match(ops[j]?).bind (·.dst)with|some d=>if d<nt then match τ d with|.bool b=>if b=want then runO ε P o ans nm [d] τ η else some (skipO o [d])|.tup _=>some (skipO o [d])|_=>none else none|none=>none else none
def putT(τ:Nat->AV)(d:Option Nat)(v:AV):Nat->AV:=match d with|some d=>fupd τ d v|none=>τ
def apT(τ:Nat->AV)(se:SE):Nat->AV:=putT τ se.d se.v
def apWr(η:Heap):List (Nat×ABlk)->Heap|[]=>η|(b,x)::rest=>apWr (fupd η b (some x)) rest
def apH(η:Heap)(se:SE):Heap:=apWr η se.wr
end Go.AM
end
