/- A text of the proof. -/
import Derived.Test.YtnlggkiekcpahaaGreatAAmC
set_option linter.unusedSimpArgs false
set_option linter.unusedVariables false
namespace Go.AM
open Go
structure cO where
  v : AV
  wr : List (Nat × pA)
  rd : List Nat
structure Obl where
  f : FuncId
  args : List AV
  r : AV
  blks : List pA
def zM : Value → AV
  | .string s=>.str s.data.toList
  | v=>(avZ v).getD .top
def yB (τ : Nat → AV) : Operand → AV
  | .tmp t=>τ t
  | .const v=>zM v
  | .global _=>.top
  | .func f=>.fn f [] []
def aMin : AV → AV → Option AV
  | .int k x,.int k' y=>if k = k' then some (.int k (if y < x then y else x)) else none
  | _,_=>none
def aMax : AV → AV → Option AV
  | .int k x,.int k' y=>if k = k' then some (.int k (if y > x then y else x)) else none
  | _,_=>none
def lL (P : Program) (b : Builtin) (ts : List TypeId) (args : List AV) (η : kB) (nm : Nat) : Option cO :=
  match b,ts,args with
  | .len,[t],[x]=>(zan P t x).map fun v=>⟨v,[],[]⟩
  | .append,[t,t'],[s,x]=>(jJ P t t' s x η nm).map fun r=>⟨r.1,[r.2.1],r.2.2⟩
  | .min,_,[x,y]=>(aMin x y).map fun v=>⟨v,[],[]⟩
  | .max,_,[x,y]=>(aMax x y).map fun v=>⟨v,[],[]⟩
  | _,_,_=>none
def bH (η : kB) : List Nat → List (Nat × pA)
  | []=>[]
  | b::bs=>match η b with
    | some blk=>(b,{ blk with own:=false })::bH η bs
    | none=>bH η bs
def pP (nm : Nat) : Nat → List pA → List (Nat × pA)
  | _,[]=>[]
  | m,b::bs=>(nm + m,b.shift nm)::pP nm (m + 1) bs
def pA.flat (b : pA) : Bool:=b.es.all AV.flatR.flatRs
def sJ (η : kB) (nm : Nat) (f : AV) (args : List AV) (ans : AV × List pA) : Option (cO × Obl) :=
  match f with
  | .fn fid first cap =>
    match aC.purs η 60 (first++args++cap) with
    | some (pargs,rd) =>
      if ans.2.length ≤ 8 then
        let fz:=if rd.isEmpty || (ans.1.flatR && ans.2.all pA.flat) then [] else bH η rd
        some (⟨ans.1.shift nm,fz++pP nm 0 ans.2,rd⟩,⟨fid,pargs,ans.1,ans.2⟩)
      else none
    | none=>none
  | _=>none
def cC (P : Program) (o : Op) (ρ : Operand → AV) (η : kB) (nm : Nat) : Option cO :=
  match o with
  | .move x=>some ⟨ρ x,[],[]⟩
  | .assign x=>some ⟨ρ x,[],[]⟩
  | .pick c a b=>match ρ c with
    | .bool t=>some ⟨if t then ρ a else ρ b,[],[]⟩
    | _=>none
  | .alloc t=>match sB P t,zC P t with
    | some n,some z=>if z.length = n then some ⟨.ref nm 0 0 0,[(nm,{ g:=0,own:=true,pure:=AV.isP.isPs z,sz:=n,es:=[z] })],[]⟩ else none
    | _,_=>none
  | .box _ x=>match (ρ x).cells with
    | some cs=>some ⟨.ref nm 0 0 0,[(nm,{ g:=0,own:=true,pure:=AV.isP.isPs cs,sz:=cs.length,es:=[cs] })],[]⟩
    | none=>none
  | .build t parts=>(iY P t (parts.toList.map fun p=>(p.1,ρ p.2))).map fun v=>⟨v,[],[]⟩
  | .buildSlice t len parts=>(kZ P t len (parts.toList.map fun p=>(p.1,ρ p.2)) nm).map fun r=>⟨r.1,[r.2],[]⟩
  | .load t a=>(kO P t (ρ a) η).map fun r=>⟨r.1,[],r.2⟩
  | .store t a x=>(vN P t (ρ a) (ρ x) η).map fun r=>⟨.tup [],[r],[r.1]⟩
  | .nilCheck x=>match ρ x with
    | .ref b g i j=>some ⟨.ref b g i j,[],[]⟩
    | .pp cs=>some ⟨.pp cs,[],[]⟩
    | .fn f a c=>some ⟨.fn f a c,[],[]⟩
    | _=>none
  | .binOp op t x y _=>(eD P op t (ρ x) (ρ y)).map fun v=>⟨v,[],[]⟩
  | .makeInterface t x=>if fP P t then some ⟨.iface t (ρ x),[],[]⟩ else none
  | .typeAssert x _ t ok =>
    if ok && fP P t then match ρ x with
      | .iface u v=>if u = t then some ⟨.tup [v,.bool true],[],[]⟩ else (sI P t).map fun z=>⟨.tup [z,.bool false],[],[]⟩
      | .nili=>(sI P t).map fun z=>⟨.tup [z,.bool false],[],[]⟩
      | _=>none
    else none
  | .unOp op _ x=>(aUn op (ρ x)).map fun v=>⟨v,[],[]⟩
  | .convert s d x=>(tW P s d (ρ x)).map fun v=>⟨v,[],[]⟩
  | .makeFunc fn first cap=>match fn with
    | .func f=>some ⟨.fn f (first.toList.map ρ) (cap.toList.map ρ),[],[]⟩
    | _=>none
  | .makeSlice t l c=>(pT P t (ρ l) (ρ c) nm).map fun r=>⟨r.1,[r.2],[]⟩
  | .slice t x lo hi mx=>(sL P t (ρ x) (lo.map ρ) (hi.map ρ) (mx.map ρ)).map fun v=>⟨v,[],[]⟩
  | .fieldAddr t x f=>(zap P t (ρ x) f).map fun v=>⟨v,[],[]⟩
  | .field t x f=>match kD P t f,ρ x with
    | some (off,ty),.agg cs=>(tM P ty cs off).map fun v=>⟨v,[],[]⟩
    | _,_=>none
  | .indexAddr t x i=>(rK P t (ρ x) (ρ i)).map fun v=>⟨v,[],[]⟩
  | .index t x i=>match P.underlying t,ρ x,ρ i with
    | some .string,.str s,.int _ n=>if 0 ≤ n then (s[n.toNat]?).map fun c=>⟨.int .u8 c.toNat,[],[]⟩ else none
    | _,_,_=>none
  | .extract x i=>match ρ x with
    | .tup vs=>(vs[i]?).map fun v=>⟨v,[],[]⟩
    | _=>none
  | .call c=>match c.callee with
    | .builtin b=>lL P b c.argTypes.toList (c.args.toList.map ρ) η nm
    | _=>none
  | _=>none
structure SE where
  d : Option Nat
  v : AV
  wr : List (Nat × pA)
  rt : List Nat
  rb : List Nat
  ob : Option Obl
def bE : List Operand → List Nat
  | []=>[]
  | .tmp t::xs=>t::bE xs
  | _::xs=>bE xs
def mM : Op → Option (Operand × List Operand)
  | .call c=>match c.callee with
    | .value f=>some (f,c.args.toList)
    | _=>none
  | _=>none
def mT (P : Program) (o : Op) (τ : Nat → AV) : Option (AV × List AV) :=
  match o with
  | .call c=>match c.callee with
    | .invoke r name=>match uU P (yB τ r) name with
      | some (f,x)=>some (.fn f [] [],x::c.args.toList.map (yB τ))
      | none=>none
    | _=>none
  | _=>none
def nD (P : Program) (o : Oper) (ans : Option (AV × List pA)) (nm : Nat) (gt : List Nat) (τ : Nat → AV) (η : kB) : Option SE :=
  match mM o.op with
  | some (f,args)=>match ans with
    | some a=>match sJ η nm (yB τ f) (args.map (yB τ)) a with
      | some (e,ob)=>some { d:=o.dst,v:=e.v,wr:=e.wr,rt:=gt++bE (f::args),rb:=e.rd,ob:=some ob }
      | none=>none
    | none=>none
  | none=>match mT P o.op τ with
    | some (f,args)=>match ans with
      | some a=>match sJ η nm f args a with
        | some (e,ob)=>some { d:=o.dst,v:=e.v,wr:=e.wr,rt:=gt++bE o.op.operands.toList,rb:=e.rd,ob:=some ob }
        | none=>none
      | none=>none
    | none=>match cC P o.op (yB τ) η nm with
      | some e=>some { d:=o.dst,v:=e.v,wr:=e.wr,rt:=gt++bE o.op.operands.toList,rb:=e.rd,ob:=none }
      | none=>none
def kP (o : Oper) (gt : List Nat) : SE:={ d:=o.dst,v:=.tup [],wr:=[],rt:=gt,rb:=[],ob:=none }
def xG (nt : Nat) (o : Oper) : Bool:=match o.dst with | some d=>d < nt | none=>true
def yK (P : Program) (nt : Nat) (ops : Array Oper) (o : Oper) (ans : Option (AV × List pA)) (nm : Nat) (τ : Nat → AV) (η : kB) : Option SE :=
  if xG nt o then
    match o.guard with
    | none=>nD P o ans nm [] τ η
    | some (j,want)=>match (ops[j]?).bind (·.dst) with
      | some d => if d < nt then
          match τ d with
          | .bool b=>if b = want then nD P o ans nm [d] τ η else some (kP o [d])
          | .tup _=>some (kP o [d])
          | _=>none
        else none
      | none=>none
  else none
def yR (τ : Nat → AV) (d : Option Nat) (v : AV) : Nat → AV:=match d with | some d=>rD τ d v | none=>τ
def yL (τ : Nat → AV) (se : SE) : Nat → AV:=yR τ se.d se.v
def iE (η : kB) : List (Nat × pA) → kB
  | []=>η
  | (b,x)::jB=>iE (rD η b (some x)) jB
def yO (η : kB) (se : SE) : kB:=iE η se.wr
end Go.AM
