/- A text of the proof. -/
import Derived.Test.YtbinmepkdbkffaaGreatDoorKAmKa
set_option linter.unusedSimpArgs false
set_option linter.unusedVariables false
namespace Go.AM
open Go
structure Eff where
  v : AV
  wr : List (Nat × ABlk)
  rd : List Nat
structure Obl where
  f : FuncId
  args : List AV
  r : AV
  blks : List ABlk
def avC : Value → AV
  | .string s => .str s.data.toList
  | v => (avZ v).getD .top
def evalO [Adr] (τ : Nat → AV) : Operand → AV
  | .tmp t => τ t
  | .const v => avC v
  | .global g => Adr.gl g
  | .func f => .fn f [] []
def aMin : AV → AV → Option AV
  | .int k x, .int k' y => if k = k' then some (.int k (if y < x then y else x)) else none
  | _, _ => none
def aMax : AV → AV → Option AV
  | .int k x, .int k' y => if k = k' then some (.int k (if y > x then y else x)) else none
  | _, _ => none
def semBuiltin (P : Program) (b : Builtin) (ts : List TypeId) (args : List AV) (η : Heap) (nm : Nat) : Option Eff :=
  match b, ts, args with
  | .len, [t], [x] => (aLen P t x).map fun v => ⟨v, [], []⟩
  | .append, [t, t'], [s, x] => (aAppend P t t' s x η nm).map fun r => ⟨r.1, [r.2.1], r.2.2⟩
  | .min, _, [x, y] => (aMin x y).map fun v => ⟨v, [], []⟩
  | .max, _, [x, y] => (aMax x y).map fun v => ⟨v, [], []⟩
  | _, _, _ => none
def freezeAll (η : Heap) : List Nat → List (Nat × ABlk)
  | [] => []
  | b :: bs => match η b with
    | some blk => (b, { blk with own := false }) :: freezeAll η bs
    | none => freezeAll η bs
def imports (nm : Nat) : Nat → List ABlk → List (Nat × ABlk)
  | _, [] => []
  | m, b :: bs => (nm + m, b.shift nm) :: imports nm (m + 1) bs
def ABlk.flat (b : ABlk) : Bool := b.es.all AV.flatR.flatRs
def semCall (η : Heap) (nm : Nat) (f : AV) (args : List AV) (ans : AV × List ABlk) : Option (Eff × Obl) :=
  match f with
  | .fn fid first cap =>
    match pur.purs η 60 (first ++ args ++ cap) with
    | some (pargs, rd) =>
      if ans.2.length ≤ 8 then
        let fz := if rd.isEmpty || (ans.1.flatR && ans.2.all ABlk.flat) then [] else freezeAll η rd
        some (⟨ans.1.shift nm, fz ++ imports nm 0 ans.2, rd⟩, ⟨fid, pargs, ans.1, ans.2⟩)
      else none
    | none => none
  | _ => none
def opSem (P : Program) (o : Op) (ρ : Operand → AV) (η : Heap) (nm : Nat) : Option Eff :=
  match o with
  | .move x => some ⟨ρ x, [], []⟩
  | .assign x => some ⟨ρ x, [], []⟩
  | .pick c a b => match ρ c with
    | .bool t => some ⟨if t then ρ a else ρ b, [], []⟩
    | _ => none
  | .alloc t => match tSize P t, tZero P t with
    | some n, some z => if z.length = n then some ⟨.ref nm 0 0 0, [(nm, { g := 0, own := true, pure := AV.isP.isPs z, sz := n, es := [z] })], []⟩ else none
    | _, _ => none
  | .box _ x => match (ρ x).cells with
    | some cs => some ⟨.ref nm 0 0 0, [(nm, { g := 0, own := true, pure := AV.isP.isPs cs, sz := cs.length, es := [cs] })], []⟩
    | none => none
  | .build t parts => (aBuild P t (parts.toList.map fun p => (p.1, ρ p.2))).map fun v => ⟨v, [], []⟩
  | .buildSlice t len parts => (aBuildSlice P t len (parts.toList.map fun p => (p.1, ρ p.2)) nm).map fun r => ⟨r.1, [r.2], []⟩
  | .load t a => (aLoad P t (ρ a) η).map fun r => ⟨r.1, [], r.2⟩
  | .store t a x => (aStore P t (ρ a) (ρ x) η).map fun r => ⟨.tup [], [r], [r.1]⟩
  | .nilCheck x => match ρ x with
    | .ref b g i j => some ⟨.ref b g i j, [], []⟩
    | .pp cs => some ⟨.pp cs, [], []⟩
    | .fn f a c => some ⟨.fn f a c, [], []⟩
    | _ => none
  | .binOp op t x y _ => (aBin P op t (ρ x) (ρ y)).map fun v => ⟨v, [], []⟩
  | .makeInterface t x => if tConc P t then some ⟨.iface t (ρ x), [], []⟩ else none
  | .typeAssert x _ t ok =>
    if ok && tConc P t then match ρ x with
      | .iface u v => if u = t then some ⟨.tup [v, .bool true], [], []⟩ else (tZeroV P t).map fun z => ⟨.tup [z, .bool false], [], []⟩
      | .nili => (tZeroV P t).map fun z => ⟨.tup [z, .bool false], [], []⟩
      | _ => none
    else none
  | .unOp op _ x => (aUn op (ρ x)).map fun v => ⟨v, [], []⟩
  | .convert s d x => (aConv P s d (ρ x)).map fun v => ⟨v, [], []⟩
  | .makeFunc fn first cap => match fn with
    | .func f => some ⟨.fn f (first.toList.map ρ) (cap.toList.map ρ), [], []⟩
    | _ => none
  | .makeSlice t l c => (aMakeSlice P t (ρ l) (ρ c) nm).map fun r => ⟨r.1, [r.2], []⟩
  | .slice t x lo hi mx => (aSlice P t (ρ x) (lo.map ρ) (hi.map ρ) (mx.map ρ)).map fun v => ⟨v, [], []⟩
  | .fieldAddr t x f => (aFieldAddr P t (ρ x) f).map fun v => ⟨v, [], []⟩
  | .field t x f => match tField P t f, ρ x with
    | some (off, ty), .agg cs => (aPart P ty cs off).map fun v => ⟨v, [], []⟩
    | _, _ => none
  | .indexAddr t x i => (aIndexAddr P t (ρ x) (ρ i)).map fun v => ⟨v, [], []⟩
  | .index t x i => match P.underlying t, ρ x, ρ i with
    | some .string, .str s, .int _ n => if 0 ≤ n then (s[n.toNat]?).map fun c => ⟨.int .u8 c.toNat, [], []⟩ else none
    | _, _, _ => none
  | .extract x i => match ρ x with
    | .tup vs => (vs[i]?).map fun v => ⟨v, [], []⟩
    | _ => none
  | .call c => match c.callee with
    | .builtin b => semBuiltin P b c.argTypes.toList (c.args.toList.map ρ) η nm
    | _ => none
  | _ => none
def semB2 (P : Program) (b : Builtin) (ts : List TypeId) (args : List AV) (η : Heap) (nm : Nat) : Option Eff :=
  match b with
  | .len => match ts, args with
    | [t], [.slk _ _ _ _ len _ _] => (tSlice P t).map fun _ => ⟨.int .i64 len, [], []⟩
    | _, _ => none
  | .cap => match ts, args with
    | [t], [.slk _ _ _ _ _ lo true] => (tSlice P t).map fun _ => ⟨.int .i64 lo, [], []⟩
    | [t], [.nils] => (tSlice P t).map fun _ => ⟨.int .i64 0, [], []⟩
    | _, _ => none
  | .append => match ts, args with
    | [t, t'], [s, x] => match s with
      | .slk .. => (kAppend P t t' s x η nm).map fun r => ⟨r.1, [r.2.1], r.2.2⟩
      | .psx .. => (kAppX P t t' s x η nm).map fun r => ⟨r.1, [r.2.1], r.2.2⟩
      | s => match x with
        | .slk b g z off len _ _ => (aAppend P t t' s (.sl b g z off len) η nm).map fun r => ⟨r.1, [r.2.1], r.2.2⟩
        | .int k n => match s with
          | .nils => (kZeros P t t' k n nm).map fun r => ⟨r.1, [r.2], []⟩
          | _ => none
        | _ => none
    | _, _ => none
  | .copy => match ts, args with
    | [t, t'], [d, x] => (kCopy P t t' d x η).map fun r => ⟨r.1, [r.2.1], r.2.2⟩
    | _, _ => none
  | .clear => match ts, args with
    | [t], [d] => if lenZ d then (tSlice P t).map fun _ => ⟨.tup [], [], []⟩ else (kClear P t d η).map fun r => ⟨r.1, [r.2.1], r.2.2⟩
    | _, _ => none
  | .min => match args with
    | a :: b :: c :: l => (foldO aMin a (b :: c :: l)).map fun v => ⟨v, [], []⟩
    | _ => none
  | .max => match args with
    | a :: b :: c :: l => (foldO aMax a (b :: c :: l)).map fun v => ⟨v, [], []⟩
    | _ => none
  | _ => none
def opSem2 (P : Program) (o : Op) (ρ : Operand → AV) (η : Heap) (nm : Nat) : Option Eff :=
  match o with
  | .binOp op t x y _ => (kBin P op t x y (ρ x) (ρ y)).map fun v => ⟨v, [], []⟩
  | .load t a => (kLoad P t (ρ a)).map fun v => ⟨v, [], []⟩
  | .fieldAddr t x f => (kFieldAddr P t (ρ x) f).map fun v => ⟨v, [], []⟩
  | .indexAddr t x i => (kIndexAddr P t (ρ x) (ρ i)).map fun v => ⟨v, [], []⟩
  | .slice t x lo hi mx => match kSlice P t (ρ x) (lo.map ρ) (hi.map ρ) (mx.map ρ) with
    | some v => some ⟨v, [], []⟩
    | none => (kSliceX P t (wkx (ρ x)) (lo.map ρ) (hi.map ρ) (mx.map ρ)).map fun v => ⟨v, [], []⟩
  | .makeSlice t l c => (kMake P t (ρ l) (ρ c) nm).map fun r => ⟨r.1, [r.2], []⟩
  | .convert s d x => match kConv P s d (ρ x) nm with
    | some r => some ⟨r.1, [r.2], []⟩
    | none => (kConvS P s d (ρ x) η).map fun r => ⟨r.1, [], r.2⟩
  | .build t parts => (kBuild P t (parts.toList.map fun p => (p.1, ρ p.2))).map fun v => ⟨v, [], []⟩
  | .index t x i => (kIndex P t (ρ x) (ρ i)).map fun v => ⟨v, [], []⟩
  | .call c => match c.callee with
    | .builtin b => semB2 P b c.argTypes.toList (c.args.toList.map ρ) η nm
    | _ => none
  | _ => none
def isX : AV → Bool
  | .psx .. => true
  | _ => false
def hasX (o : Op) (ρ : Operand → AV) : Bool :=
  match o with
  | .indexAddr _ x _ => isX (ρ x)
  | .slice _ x _ _ _ => isX (ρ x)
  | .binOp _ _ x y _ => isX (ρ x) || isX (ρ y)
  | .call c => match c.callee with
    | .builtin _ => c.args.toList.any fun x => isX (ρ x)
    | _ => false
  | _ => false
def opSemE (ε : Bool) (P : Program) (o : Op) (ρ : Operand → AV) (η : Heap) (nm : Nat) : Option Eff :=
  match ε with
  | false => opSem P o ρ η nm
  | true => match opSem2 P o ρ η nm with
    | some e => some e
    | none => match hasX o ρ with
      | true => opSem P o (fun x => wkx (ρ x)) η nm
      | false => opSem P o ρ η nm
structure SE where
  d : Option Nat
  v : AV
  wr : List (Nat × ABlk)
  rt : List Nat
  rb : List Nat
  ob : Option Obl
def opTmps : List Operand → List Nat
  | [] => []
  | .tmp t :: xs => t :: opTmps xs
  | _ :: xs => opTmps xs
def isCall : Op → Option (Operand × List Operand)
  | .call c => match c.callee with
    | .value f => some (f, c.args.toList)
    | _ => none
  | _ => none
def isInv [Adr] (P : Program) (o : Op) (τ : Nat → AV) : Option (AV × List AV) :=
  match o with
  | .call c => match c.callee with
    | .invoke r name => match recvO P (evalO τ r) name with
      | some (f, x) => some (.fn f [] [], x :: c.args.toList.map (evalO τ))
      | none => none
    | _ => none
  | _ => none
def runO [Adr] (ε : Bool) (P : Program) (o : Oper) (ans : Option (AV × List ABlk)) (nm : Nat) (gt : List Nat) (τ : Nat → AV) (η : Heap) : Option SE :=
  match isCall o.op with
  | some (f, args) => match ans with
    | some a => match semCall η nm (evalO τ f) (args.map (evalO τ)) a with
      | some (e, ob) => some { d := o.dst, v := e.v, wr := e.wr, rt := gt ++ opTmps (f :: args), rb := e.rd, ob := some ob }
      | none => none
    | none => none
  | none => match isInv P o.op τ with
    | some (f, args) => match ans with
      | some a => match semCall η nm f args a with
        | some (e, ob) => some { d := o.dst, v := e.v, wr := e.wr, rt := gt ++ opTmps o.op.operands.toList, rb := e.rd, ob := some ob }
        | none => none
      | none => none
    | none => match opSemE ε P o.op (evalO τ) η nm with
      | some e => some { d := o.dst, v := e.v, wr := e.wr, rt := gt ++ opTmps o.op.operands.toList, rb := e.rd, ob := none }
      | none => none
def skipO (o : Oper) (gt : List Nat) : SE := { d := o.dst, v := .tup [], wr := [], rt := gt, rb := [], ob := none }
def dstOk (nt : Nat) (o : Oper) : Bool := match o.dst with | some d => d < nt | none => true
def stepF [Adr] (ε : Bool) (P : Program) (nt : Nat) (ops : Array Oper) (o : Oper) (ans : Option (AV × List ABlk)) (nm : Nat) (τ : Nat → AV) (η : Heap) : Option SE :=
  if dstOk nt o then
    match o.guard with
    | none => runO ε P o ans nm [] τ η
    | some (j, want) => match (ops[j]?).bind (·.dst) with
      | some d => if d < nt then
          match τ d with
          | .bool b => if b = want then runO ε P o ans nm [d] τ η else some (skipO o [d])
          | .tup _ => some (skipO o [d])
          | _ => none
        else none
      | none => none
  else none
def putT (τ : Nat → AV) (d : Option Nat) (v : AV) : Nat → AV := match d with | some d => fupd τ d v | none => τ
def apT (τ : Nat → AV) (se : SE) : Nat → AV := putT τ se.d se.v
def apWr (η : Heap) : List (Nat × ABlk) → Heap
  | [] => η
  | (b, x) :: rest => apWr (fupd η b (some x)) rest
def apH (η : Heap) (se : SE) : Heap := apWr η se.wr
end Go.AM
