/- A text of the proof. -/
import Derived.OrdersIn
import Derived.Below
set_option linter.unusedSimpArgs false
set_option linter.unusedVariables false
namespace Go.AM
open Go
inductive AV where
  | top
  | anyb
  | bool (b : Bool)
  | int (k : IntKind) (n : Int)
  | str (s : List UInt8)
  | nilp
  | ref (b g i j : Nat)
  | pp (cells : List AV)
  | nils
  | sl (b g sz off len : Nat)
  | psl (sz : Nat) (es : List (List AV))
  | psx (sz : Nat) (es : List (List AV))
  | fn (f : FuncId) (first captured : List AV)
  | yld (l : Nat)
  | mp (l : Nat)
  | itr (l : Nat)
  | nilf
  | nili
  | emp
  | iface (t : TypeId) (v : AV)
  | agg (cells : List AV)
  | tup (vs : List AV)
  | gp (k o : Nat) (cs : List AV)
  | slk (b g sz off len lo : Nat) (ex : Bool)
  | nilm
  | strb (n : Nat) (s : List UInt8)
  | inty (k : IntKind)
class Adr where
  ad : Nat → Nat
  of : Nat → Nat
  gl : Nat → AV
structure ABlk where
  g : Nat
  own : Bool
  pure : Bool
  sz : Nat
  es : List (List AV)
  ty : Option TypeId := none
def AV.isP : AV → Bool
  | .ref .. | .sl .. | .yld _ | .mp _ | .itr _ | .slk .. => false
  | .fn _ a b => isPs a && isPs b
  | .iface _ v => v.isP
  | .agg cs => isPs cs
  | .tup cs => isPs cs
  | _ => true
where isPs : List AV → Bool
  | [] => true
  | v :: vs => v.isP && isPs vs
def AV.flat : AV → Bool
  | .ref .. | .sl .. | .yld _ | .mp _ | .itr _ | .pp _ | .gp .. | .slk .. => false
  | .psl _ es => es.isEmpty
  | .psx _ es => es.isEmpty
  | .fn _ a b => flats a && flats b
  | .iface _ v => v.flat
  | .agg cs => flats cs
  | .tup cs => flats cs
  | _ => true
where flats : List AV → Bool
  | [] => true
  | v :: vs => v.flat && flats vs
def AV.flatR : AV → Bool
  | .yld _ | .mp _ | .itr _ | .pp _ => false
  | .gp _ _ cs => cs.isEmpty
  | .psl .. => false
  | .psx .. => false
  | .fn _ a b => flatRs a && flatRs b
  | .iface _ v => v.flatR
  | .agg cs => flatRs cs
  | .tup cs => flatRs cs
  | _ => true
where flatRs : List AV → Bool
  | [] => true
  | v :: vs => v.flatR && flatRs vs
def AV.shift (n : Nat) : AV → AV
  | .ref b g i j => .ref (n + b) g i j
  | .sl b g z o l => .sl (n + b) g z o l
  | .slk b g z o l c e => .slk (n + b) g z o l c e
  | .fn f a b => .fn f (shifts n a) (shifts n b)
  | .iface t v => .iface t (v.shift n)
  | .agg cs => .agg (shifts n cs)
  | .tup cs => .tup (shifts n cs)
  | .yld _ => .top
  | .mp _ => .top
  | .itr _ => .top
  | v => v
where shifts (n : Nat) : List AV → List AV
  | [] => []
  | v :: vs => v.shift n :: shifts n vs
def ABlk.shift (n : Nat) (b : ABlk) : ABlk := if b.pure then b else { b with es := b.es.map (AV.shift.shifts n) }
def AV.cells : AV → Option (List AV)
  | .agg cs => some cs
  | .top | .tup _ => none
  | v => some [v]
def AV.ofCells (ag : Bool) (cs : List AV) : Option AV :=
  if ag then some (.agg cs) else match cs with | [c] => some c | _ => none
def avZ : Value → Option AV
  | .bool b => some (.bool b)
  | .int k n => some (.int k n)
  | .string s => if s.size = 0 then some (.str []) else none
  | .pointer none => some .nilp
  | .slice none 0 0 => some .nils
  | .nilFunc => some .nilf
  | .nilIface => some .nili
  | .map none => some .nilm
  | _ => none
def avZs : List Value → Option (List AV)
  | [] => some []
  | v :: vs => match avZ v, avZs vs with | some a, some l => some (a :: l) | _, _ => none
def tSize (P : Program) (t : TypeId) : Option Nat := (P.info? t).map (·.size)
def tBytes (P : Program) (t : TypeId) : Option Nat := (P.info? t).map (·.bytes)
def tAgg (P : Program) (t : TypeId) : Option Bool :=
  match P.underlying t with
  | some (.struct _) | some (.array ..) => some true
  | some _ => some false
  | none => none
def tZero (P : Program) (t : TypeId) : Option (List AV) :=
  match (P.info? t).bind (·.zero) with
  | some v => avZs v.cells.toList
  | none => none
def tSlice (P : Program) (t : TypeId) : Option TypeId := match P.underlying t with | some (.slice e) => some e | _ => none
def tArr (P : Program) (t : TypeId) : Option (Nat × TypeId) := match P.underlying t with | some (.array n e) => some (n, e) | _ => none
def tField (P : Program) (t : TypeId) (f : Nat) : Option (Nat × TypeId) :=
  match P.underlying t with
  | some (.struct fs) => match fs[f]? with
    | some fd => match tSize P fd.type with
      | some (_ + 1) => some (fd.offset, fd.type)
      | _ => none
    | none => none
  | _ => none
def tPlaces (P : Program) (t : TypeId) : Option (List (Nat × Nat)) :=
  match P.underlying t with
  | some (.struct fs) => fs.toList.mapM fun f => (tSize P f.type).map fun n => (f.offset, n)
  | _ => none
def tConc (P : Program) (t : TypeId) : Bool := match P.underlying t with | some (.interface _) => false | some _ => true | none => false
def tZeroV (P : Program) (t : TypeId) : Option AV :=
  match (P.info? t).bind (·.zero) with
  | some (.agg cs) => (avZs cs.toList).map .agg
  | some v => avZ v
  | none => none
def aMethod (P : Program) (t : TypeId) (name : String) : Option FuncId :=
  match P.info? t, P.underlying t with
  | some i, some u => match i.methods.find? (·.name == name) with
    | some m => if m.path.toList.isEmpty then match m.func, u with
        | some (f, true), .pointer _ => some f
        | some (_, false), .pointer _ => none
        | some (_, false), .interface _ => none
        | some (f, false), _ => some f
        | _, _ => none
      else none
    | none => none
  | _, _ => none
def recvO (P : Program) (v : AV) (name : String) : Option (FuncId × AV) :=
  match v with
  | .iface t x => match aMethod P t name with | some f => some (f, x) | none => none
  | _ => none
def aPart (P : Program) (t : TypeId) (cs : List AV) (off : Nat) : Option AV :=
  match tAgg P t, tSize P t with
  | some true, some n => some (.agg ((cs.drop off).take n))
  | some false, some _ => cs[off]?
  | _, _ => none
abbrev Heap := Nat → Option ABlk
def rdElem (η : Heap) (b g i : Nat) : Option (List AV) :=
  match η b with
  | some blk => if blk.g = g then blk.es[i]? else none
  | none => none
def aLoad (P : Program) (t : TypeId) (a : AV) (η : Heap) : Option (AV × List Nat) :=
  match tAgg P t, tSize P t with
  | some ag, some n =>
    match a with
    | .ref b g i j =>
      match rdElem η b g i with
      | some e => if j + n ≤ e.length then (AV.ofCells ag ((e.drop j).take n)).map fun v => (v, [b]) else none
      | none => none
    | .pp cs => if n ≤ cs.length then (AV.ofCells ag (cs.take n)).map fun v => (v, []) else none
    | _ => none
  | _, _ => none
def aStore (P : Program) (t : TypeId) (a v : AV) (η : Heap) : Option (Nat × ABlk) :=
  match tSize P t, a, v.cells with
  | some n, .ref b g i j, some cs =>
    match η b with
    | some blk =>
      if blk.g = g ∧ blk.own = true ∧ cs.length = n then
        match blk.es[i]? with
        | some e => if j + n ≤ e.length then
            some (b, { blk with es := blk.es.set i (e.take j ++ cs ++ e.drop (j + n)), pure := blk.pure && AV.isP.isPs cs })
          else none
        | none => none
      else none
    | none => none
  | _, _, _ => none
def aFieldAddr (P : Program) (t : TypeId) (a : AV) (f : Nat) : Option AV :=
  match tField P t f, a with
  | some (off, _), .ref b g i j => some (.ref b g i (j + off))
  | some (off, _), .pp cs => if off ≤ cs.length then some (.pp (cs.drop off)) else none
  | _, _ => none
def aIndexAddr (P : Program) (t : TypeId) (x ix : AV) : Option AV :=
  match tSlice P t, ix with
  | some e, .int _ n =>
    match tSize P e, x with
    | some sz, .sl b g sz' off len => if sz' = sz ∧ 0 ≤ n ∧ n < len then some (.ref b g (off + n.toNat) 0) else none
    | some sz, .psl sz' es => if sz' = sz ∧ 0 ≤ n then match es[n.toNat]? with | some e => some (.pp e) | none => none else none
    | _, _ => none
  | none, .int _ n =>
    match tArr P t with
    | some (len, e) =>
      match tSize P e, x with
      | some sz, .ref b g i j => if 0 ≤ n ∧ n < len then some (.ref b g i (j + n.toNat * sz)) else none
      | some sz, .pp cs => if 0 ≤ n ∧ n < len ∧ n.toNat * sz ≤ cs.length then some (.pp (cs.drop (n.toNat * sz))) else none
      | _, _ => none
    | none => none
  | _, _ => none
def aFill (place : Nat → Option (Nat × Nat)) : List AV → List (Nat × AV) → Option (List AV)
  | cs, [] => some cs
  | cs, (i, v) :: rest =>
    match place i, v.cells with
    | some (off, n), some vs => if vs.length = n ∧ off + n ≤ cs.length then aFill place (cs.take off ++ vs ++ cs.drop (off + n)) rest else none
    | _, _ => none
def aBuild (P : Program) (t : TypeId) (parts : List (Nat × AV)) : Option AV :=
  match tPlaces P t, tZero P t with
  | some pl, some z => (aFill (fun i => pl[i]?) z parts).map .agg
  | _, _ => none
def setAll (es : List (List AV)) : List (Nat × AV) → Nat → Option (List (List AV))
  | [], _ => some es
  | (i, v) :: rest, n => match v.cells with
    | some cs => if cs.length = n ∧ i < es.length then setAll (es.set i cs) rest n else none
    | none => none
def aBuildSlice (P : Program) (t : TypeId) (len : Nat) (parts : List (Nat × AV)) (nm : Nat) : Option (AV × (Nat × ABlk)) :=
  match tSlice P t with
  | some e => match tSize P e, tZero P e with
    | some sz, some z =>
      if len * sz ≤ 2 ^ 24 ∧ z.length = sz ∧ 0 < sz then
        (setAll (List.replicate len z) parts sz).map fun es => (.sl nm 0 sz 0 len, (nm, { g := 0, own := true, pure := es.all AV.isP.isPs, sz := sz, es := es }))
      else none
    | _, _ => none
  | none => none
def aMakeSlice (P : Program) (t : TypeId) (len cap : AV) (nm : Nat) : Option (AV × (Nat × ABlk)) :=
  match tSlice P t, len, cap with
  | some e, .int _ l, .int _ c =>
    match tSize P e, tBytes P e, tZero P e with
    | some sz, some bs, some z =>
      if 0 ≤ l ∧ l ≤ c ∧ c ≤ IntKind.i64.max ∧ (bs : Int) * c ≤ 2 ^ 48 ∧ z.length = sz ∧ 0 < sz then
        some (.sl nm 0 sz 0 l.toNat, (nm, { g := 0, own := true, pure := true, sz := sz, es := List.replicate l.toNat z }))
      else none
    | _, _, _ => none
  | _, _, _ => none
def sliceBd (x : Option AV) (dflt : Nat) : Option Nat :=
  match x with
  | none => some dflt
  | some (.int _ n) => if 0 ≤ n then some n.toNat else none
  | some _ => none
def aSlice (P : Program) (t : TypeId) (x : AV) (lo hi mx : Option AV) : Option AV :=
  match P.underlying t, x with
  | some .string, .str s =>
    if mx.isSome then none else
    match sliceBd lo 0, sliceBd hi s.length with
    | some l, some h => if l ≤ h ∧ h ≤ s.length then some (.str ((s.drop l).take (h - l))) else none
    | _, _ => none
  | some (.slice e), .sl b g z off len =>
    match tSize P e, sliceBd lo 0, sliceBd hi len, sliceBd mx len with
    | some sz, some l, some h, some m =>
      if z = sz ∧ (mx.isSome = true → hi.isSome = true) ∧ l ≤ h ∧ h ≤ m ∧ m ≤ len then (if l < h ∨ l = 0 then some (.sl b g z (off + l) (h - l)) else some (.psl sz [])) else none
    | _, _, _, _ => none
  | some (.slice e), .psl sz es =>
    match tSize P e, sliceBd lo 0, sliceBd hi es.length, sliceBd mx es.length with
    | some sz', some l, some h, some m =>
      if mx.isSome = true ∧ hi.isSome = true ∧ l = 0 ∧ h = 0 ∧ m = 0 then some .emp else
      if sz' = sz ∧ (mx.isSome = true → hi.isSome = true) ∧ l ≤ h ∧ h ≤ m ∧ m ≤ es.length then some (.psl sz ((es.drop l).take (h - l))) else none
    | _, _, _, _ => none
  | some (.slice e), .nils =>
    match tSize P e, sliceBd lo 0, sliceBd hi 0, sliceBd mx 0 with
    | some _, some l, some h, some m => if (mx.isSome = true → hi.isSome = true) ∧ l ≤ h ∧ h ≤ m ∧ m ≤ 0 then some .nils else none
    | _, _, _, _ => none
  | _, _ => none
def aEq (P : Program) : Nat → TypeId → AV → AV → Option Bool
  | 0, _, _, _ => none
  | d + 1, t, x, y =>
    match P.underlying t, x, y with
    | some .bool, .bool a, .bool b => some (a == b)
    | some (.int _), .int k a, .int k' b => if k = k' then some (a == b) else none
    | some .string, .str a, .str b => some (a == b)
    | some (.struct fs), .agg xs, .agg ys =>
      if P.stoodInHeld t then none else
      fs.toList.foldr (fun f acc =>
        if f.name ≠ "_" then
          match aPart P f.type xs f.offset, aPart P f.type ys f.offset with
          | some u, some v => match aEq P d f.type u v, acc with
            | some p, some q => some (p && q)
            | _, _ => none
          | _, _ => none
        else acc) (some true)
    | _, _, _ => none
def ubool : Option Bool → AV
  | some b => .bool b
  | none => .anyb
def aNilCmp (P : Program) (op : BinOp) (t : TypeId) (b : Option Bool) : Option AV :=
  match op, P.underlying t with
  | .eql, some (.slice _) => some (ubool b)
  | .neq, some (.slice _) => some (ubool (b.map (!·)))
  | _, _ => none
def aBin (P : Program) (op : BinOp) (t : TypeId) (x y : AV) : Option AV :=
  match x, y with
  | .int k a, .int k' b =>
    if k = k' then
      match op with
      | .add => some (.int k (k.wrap (a + b)))
      | .sub => some (.int k (k.wrap (a - b)))
      | .mul => some (.int k (k.wrap (a * b)))
      | .quo => if b = 0 then none else some (.int k (k.wrap (a.tdiv b)))
      | .rem => if b = 0 then none else some (.int k (a.tmod b))
      | .shl => if b < 0 then none else some (.int k (k.wrap (a * 2 ^ (min b.toNat k.bits))))
      | .eql => some (.bool (a == b))
      | .neq => some (.bool (a != b))
      | .lss => some (.bool (a < b))
      | .leq => some (.bool (a ≤ b))
      | .gtr => some (.bool (a > b))
      | .geq => some (.bool (a ≥ b))
      | _ => none
    else none
  | .str a, .str b =>
    match op with
    | .add => if ((a.length + b.length : Nat) : Int) ≤ IntKind.i64.max then some (.str (a ++ b)) else none
    | .eql => some (.bool (a == b))
    | .neq => some (.bool !(a == b))
    | .lss => some (.bool (Op.bytesLess a b))
    | .leq => some (.bool (Op.bytesLess a b || a == b))
    | .gtr => some (.bool !(Op.bytesLess a b || a == b))
    | .geq => some (.bool !(Op.bytesLess a b))
    | _ => none
  | .inty k, .int k' _ =>
    if k = k' then
      match op with
      | .eql => some .anyb
      | .neq => some .anyb
      | .lss => some .anyb
      | .leq => some .anyb
      | .gtr => some .anyb
      | .geq => some .anyb
      | _ => none
    else none
  | .strb n a, .strb m b =>
    match op with
    | .add => if ((n + m : Nat) : Int) ≤ IntKind.i64.max then some (.strb (n + m) (a ++ b)) else none
    | _ => none
  | .str a, .strb m b =>
    match op with
    | .add => if ((a.length + m : Nat) : Int) ≤ IntKind.i64.max then some (.strb (a.length + m) (a ++ b)) else none
    | _ => none
  | .strb n a, .str b =>
    match op with
    | .add => if ((n + b.length : Nat) : Int) ≤ IntKind.i64.max then some (.strb (n + b.length) (a ++ b)) else none
    | .eql => some (.bool (a == b))
    | .neq => some (.bool !(a == b))
    | _ => none
  | .bool a, .bool b =>
    match op, P.underlying t with
    | .eql, some .bool => some (.bool (a == b))
    | .neq, some .bool => some (.bool !(a == b))
    | _, _ => none
  | .agg xs, .agg ys =>
    if P.eqGuardType P.depth t then none else
    match op with
    | .eql => (aEq P 10000 t (.agg xs) (.agg ys)).map .bool
    | .neq => (aEq P 10000 t (.agg xs) (.agg ys)).map fun b => .bool !b
    | _ => none
  | .nils, .nils => aNilCmp P op t (some true)
  | .psl _ es, .nils => aNilCmp P op t (if es.isEmpty then none else some false)
  | .emp, .nils => aNilCmp P op t none
  | .sl _ _ _ _ len, .nils => aNilCmp P op t (if len = 0 then none else some false)
  | _, _ => none
def aUn (op : UnOp) (x : AV) : Option AV :=
  match op, x with
  | .neg, .int k n => some (.int k (k.wrap (0 - n)))
  | .not, .bool b => some (.bool !b)
  | _, _ => none
def aConv (P : Program) (s d : TypeId) (x : AV) : Option AV :=
  match P.underlying s, P.underlying d, x with
  | some _, some (.int k), .int _ n => some (.int k (k.wrap n))
  | some .string, some .string, .str b => some (.str b)
  | _, _, _ => none
def aLen (P : Program) (t : TypeId) (x : AV) : Option AV :=
  match P.underlying t, x with
  | some .string, .str s => some (.int .i64 s.length)
  | some (.slice _), .nils => some (.int .i64 0)
  | some (.slice _), .sl _ _ _ _ n => some (.int .i64 n)
  | some (.slice _), .psl _ es => some (.int .i64 es.length)
  | some (.slice _), .emp => some (.int .i64 0)
  | _, _ => none
def aElems (η : Heap) (sz : Nat) : AV → Option (List (List AV) × List Nat)
  | .nils => some ([], [])
  | .emp => some ([], [])
  | .psl sz' es => if sz' = sz ∨ es = [] then some (es, []) else none
  | .sl b g z off len =>
    match η b with
    | some blk => if z = sz ∧ blk.g = g ∧ blk.sz = sz ∧ off + len ≤ blk.es.length then some ((blk.es.drop off).take len, [b]) else none
    | none => none
  | _ => none
def aAppend (P : Program) (t t' : TypeId) (s x : AV) (η : Heap) (nm : Nat) : Option (AV × (Nat × ABlk) × List Nat) :=
  match tSlice P t, tSlice P t' with
  | some e, some e' =>
    match tSize P e, tBytes P e, tSize P e', tZero P e with
    | some sz, some bs, some sz', some z =>
      if sz = sz' ∧ 0 < sz ∧ 0 < bs ∧ z.length = sz then
        match aElems η sz x with
        | some (xs, rd) =>
          match s with
          | .nils =>
            if 2 * (xs.length * bs) ≤ 2 ^ 48 then
              some (.sl nm 0 sz 0 xs.length, (nm, { g := 0, own := true, pure := xs.all AV.isP.isPs, sz := sz, es := xs }), rd)
            else none
          | .emp =>
            if 2 * (xs.length * bs) ≤ 2 ^ 48 then
              some (.sl nm 0 sz 0 xs.length, (nm, { g := 0, own := true, pure := xs.all AV.isP.isPs, sz := sz, es := xs }), rd)
            else none
          | .sl b g z off len =>
            match η b with
            | some blk =>
              if z = sz ∧ blk.g = g ∧ blk.sz = sz ∧ off = 0 ∧ len = blk.es.length ∧ blk.own = true ∧
                  2 * ((len + xs.length) * bs) ≤ 2 ^ 48 then
                some (.sl b (g + 1) sz 0 (len + xs.length), (b, { blk with g := g + 1, es := blk.es ++ xs, pure := blk.pure && xs.all AV.isP.isPs, ty := none }), b :: rd)
              else none
            | none => none
          | _ => none
        | none => none
      else none
    | _, _, _, _ => none
  | _, _ => none
def mapE (f : List AV → Option (List AV × List Nat)) : List (List AV) → Option (List (List AV) × List Nat)
  | [] => some ([], [])
  | e :: es => match f e, mapE f es with
    | some (e', r), some (es', r') => some (e' :: es', r ++ r')
    | _, _ => none
def pur (η : Heap) : Nat → AV → Option (AV × List Nat)
  | 0, _ => none
  | d + 1, v =>
    match v with
    | .ref b g i j =>
      match rdElem η b g i, η b with
      | some e, some blk =>
        if e.length < j then none else
        if blk.pure then some (.pp (e.drop j), [b]) else
        match purs η d (e.drop j) with
        | some (cs, rd) => some (.pp cs, b :: rd)
        | none => none
      | _, _ => none
    | .sl b g z off len =>
      match η b with
      | some blk =>
        if blk.sz = z ∧ blk.g = g ∧ off + len ≤ blk.es.length then
          if blk.pure then some (.psl blk.sz ((blk.es.drop off).take len), [b]) else
          match mapE (purs η d) ((blk.es.drop off).take len) with
          | some (es, rd) => some (.psl blk.sz es, b :: rd)
          | none => none
        else none
      | none => none
    | .slk b g z off len _ _ => pur η d (.sl b g z off len)
    | .fn f a c =>
      match purs η d a, purs η d c with
      | some (a', r), some (c', r') => some (.fn f a' c', r ++ r')
      | _, _ => none
    | .iface t v => match pur η d v with | some (v', r) => some (.iface t v', r) | none => none
    | .agg cs => match purs η d cs with | some (cs', r) => some (.agg cs', r) | none => none
    | .tup cs => match purs η d cs with | some (cs', r) => some (.tup cs', r) | none => none
    | .yld _ => none
    | .mp _ => none
    | .itr _ => none
    | .psx z es => some (.psl z es, [])
    | v => some (v, [])
where purs (η : Heap) : Nat → List AV → Option (List AV × List Nat)
  | 0, _ => none
  | _ + 1, [] => some ([], [])
  | d + 1, v :: vs =>
    match pur η d v, purs η d vs with
    | some (v', r), some (vs', r') => some (v' :: vs', r ++ r')
    | _, _ => none
end Go.AM
