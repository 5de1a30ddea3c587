/- A text of the proof. -/
import Derived.Test.YtbinmepkdbkffaaGreatDoorKAmC
set_option linter.unusedSimpArgs false
set_option linter.unusedVariables false
namespace Go.AM
open Go
structure KS where
  b : Nat
  g : Nat
  z : Nat
  off : Nat
  len : Nat
  lo : Nat
  ex : Bool
def asK : AV → Option KS
  | .slk b g z off len lo ex => some ⟨b, g, z, off, len, lo, ex⟩
  | .sl b g z off len => if len = 0 then none else some ⟨b, g, z, off, len, len, false⟩
  | _ => none
def wk : AV → AV
  | .slk b g z off len _ _ => .sl b g z off len
  | .psx z es => .psl z es
  | v => v
def kSlice (P : Program) (t : TypeId) (x : AV) (lo hi mx : Option AV) : Option AV :=
  match tSlice P t, asK x with
  | some e, some k =>
    match tSize P e, sliceBd lo 0, sliceBd hi k.len with
    | some sz, some l, some h =>
      if k.z = sz ∧ l ≤ h ∧ h ≤ k.lo then
        match mx with
        | none => if l < k.lo ∨ l = 0 then some (.slk k.b k.g k.z (k.off + l) (h - l) (k.lo - l) k.ex) else some (.psl k.z [])
        | some (.int _ m) => if 0 ≤ m ∧ hi.isSome = true ∧ h ≤ m.toNat ∧ m.toNat ≤ k.lo then (if l < m.toNat ∨ l = 0 then some (.slk k.b k.g k.z (k.off + l) (h - l) (m.toNat - l) true) else some (.psl k.z [])) else none
        | _ => none
      else none
    | _, _, _ => none
  | _, _ => none
def kSliceX (P : Program) (t : TypeId) (x : AV) (lo hi mx : Option AV) : Option AV :=
  match tSlice P t, x, mx with
  | some e, .psl sz es, some (.int _ m) => match tSize P e, sliceBd lo 0, sliceBd hi es.length with
    | some sz', some l, some h => if sz' = sz ∧ l ≤ h ∧ hi.isSome = true ∧ m = (h : Int) ∧ h ≤ es.length ∧ (l < h ∨ l = 0) ∧ 0 < sz then some (.psx sz ((es.drop l).take (h - l))) else none
    | _, _, _ => none
  | _, _, _ => none
def wkx : AV → AV
  | .psx z es => .psl z es
  | v => v
def kAppX (P : Program) (t t' : TypeId) (s x : AV) (η : Heap) (nm : Nat) : Option (AV × (Nat × ABlk) × List Nat) :=
  match s, tSlice P t, tSlice P t' with
  | .psx z es, some e, some e' =>
    match tSize P e, tBytes P e, tSize P e', tZero P e with
    | some sz, some bs, some sz', some zs =>
      if sz = sz' ∧ 0 < sz ∧ 0 < bs ∧ zs.length = sz ∧ z = sz then
        match aElems η sz (wk (wkx x)) with
        | some (xs, rd) =>
          if 0 < xs.length ∧ 2 * ((es.length + xs.length) * bs) ≤ 2 ^ 48 then
            some (.sl nm 0 sz 0 (es.length + xs.length), (nm, { g := 0, own := true, pure := (es ++ xs).all AV.isP.isPs, sz := sz, es := es ++ xs }), rd)
          else none
        | none => none
      else none
    | _, _, _, _ => none
  | _, _, _ => none
def kMake (P : Program) (t : TypeId) (len cap : AV) (nm : Nat) : Option (AV × (Nat × ABlk)) :=
  match tSlice P t, len, cap with
  | some e, .int _ l, .int _ c =>
    match tSize P e, tBytes P e, tZero P e with
    | some sz, some bs, some z =>
      if 0 ≤ l ∧ l ≤ c ∧ c ≤ IntKind.i64.max ∧ (bs : Int) * c ≤ 2 ^ 48 ∧ z.length = sz ∧ 0 < sz then
        some (.slk nm 0 sz 0 l.toNat c.toNat true, (nm, { g := 0, own := true, pure := true, sz := sz, es := List.replicate c.toNat z }))
      else none
    | _, _, _ => none
  | _, _, _ => none
def kIndexAddr (P : Program) (t : TypeId) (x ix : AV) : Option AV :=
  match tSlice P t, x, ix with
  | some e, .slk b g z off len _ _, .int _ n => match tSize P e with
    | some sz => if z = sz ∧ 0 ≤ n ∧ n < len then some (.ref b g (off + n.toNat) 0) else none
    | none => none
  | none, .gp k o cs, .int _ n => match tArr P t with
    | some (len, e) => match tSize P e with
      | some sz => if 0 ≤ n ∧ n < len ∧ n.toNat * sz ≤ cs.length then some (.gp k (o + n.toNat * sz) (cs.drop (n.toNat * sz))) else none
      | none => none
    | none => none
  | _, _, _ => none
def kFieldAddr (P : Program) (t : TypeId) (x : AV) (f : Nat) : Option AV :=
  match tField P t f, x with
  | some (off, _), .gp k o cs => if off ≤ cs.length then some (.gp k (o + off) (cs.drop off)) else none
  | _, _ => none
def kLoad (P : Program) (t : TypeId) (a : AV) : Option AV :=
  match tAgg P t, tSize P t, a with
  | some ag, some n, .gp _ _ cs => if 0 < n ∧ n ≤ cs.length then AV.ofCells ag (cs.take n) else none
  | _, _, _ => none
def splice (es : List (List AV)) (i : Nat) (xs : List (List AV)) : List (List AV) := es.take i ++ xs ++ es.drop (i + xs.length)
def kAppend (P : Program) (t t' : TypeId) (s x : AV) (η : Heap) (nm : Nat) : Option (AV × (Nat × ABlk) × List Nat) :=
  match s with
  | .slk b g z off len lo ex =>
    match tSlice P t, tSlice P t' with
    | some e, some e' =>
      match tSize P e, tBytes P e, tSize P e', tZero P e with
      | some sz, some bs, some sz', some zs =>
        if sz = sz' ∧ 0 < sz ∧ 0 < bs ∧ zs.length = sz ∧ z = sz then
          match aElems η sz (wk x), η b with
          | some (xs, rd), some blk =>
            if blk.g = g ∧ blk.sz = sz then
              if len + xs.length ≤ lo then
                if blk.own = true ∧ off + len + xs.length ≤ blk.es.length then
                  some (.slk b g z off (len + xs.length) lo ex, (b, { blk with es := splice blk.es (off + len) xs, pure := blk.pure && xs.all AV.isP.isPs }), b :: rd)
                else none
              else if ex = true ∧ off + len ≤ blk.es.length ∧ 2 * ((len + xs.length) * bs) ≤ 2 ^ 48 then
                some (.sl nm 0 sz 0 (len + xs.length), (nm, { g := 0, own := true, pure := ((blk.es.drop off).take len ++ xs).all AV.isP.isPs, sz := sz, es := (blk.es.drop off).take len ++ xs }), b :: rd)
              else none
            else none
          | _, _ => none
        else none
      | _, _, _, _ => none
    | _, _ => none
  | _ => none
def kZeros (P : Program) (t t' : TypeId) (k : IntKind) (n : Int) (nm : Nat) : Option (AV × (Nat × ABlk)) :=
  match tSlice P t, P.underlying t', k with
  | some e, some (.int _), .i64 =>
    match tSize P e, tBytes P e, tZero P e with
    | some sz, some bs, some z =>
      if 0 < n ∧ n ≤ 65536 ∧ 0 < bs ∧ (2 : Int) * (n * bs) ≤ 2 ^ 48 ∧ z.length = sz ∧ 0 < sz then
        some (.sl nm 0 sz 0 n.toNat, (nm, { g := 0, own := true, pure := true, sz := sz, es := List.replicate n.toNat z }))
      else none
    | _, _, _ => none
  | _, _, _ => none
def kCopy (P : Program) (t t' : TypeId) (d x : AV) (η : Heap) : Option (AV × (Nat × ABlk) × List Nat) :=
  match asK d, tSlice P t, tSlice P t' with
  | some k, some e, some _ =>
    match tSize P e with
    | some sz =>
      match aElems η sz (wk x), η k.b with
      | some (xs, rd), some blk =>
        if k.z = sz ∧ 0 < sz ∧ blk.g = k.g ∧ blk.sz = sz ∧ blk.own = true ∧ k.off + min xs.length k.len ≤ blk.es.length then
          some (.int .i64 (min xs.length k.len : Nat), (k.b, { blk with es := splice blk.es k.off (xs.take (min xs.length k.len)), pure := blk.pure && xs.all AV.isP.isPs }), k.b :: rd)
        else none
      | _, _ => none
    | none => none
  | _, _, _ => none
def kIfEq (P : Program) (x y : AV) : Option Bool :=
  match x, y with
  | .nili, .nili => some true
  | .nili, .iface .. => some false
  | .iface .., .nili => some false
  | .iface t u, .iface t' u' =>
    if t = t' then
      match (P.info? t).map (·.comparable), u, u' with
      | some true, .gp k o _, .gp k' o' _ =>
        match P.underlying t with
        | some (.pointer e) => match tSize P e with
          | some (_ + 1) => if k = k' ∧ o = o' then some true else none
          | _ => none
        | _ => none
      | some true, u, u' => aEq P 9999 t u u'
      | _, _, _ => none
    else some false
  | _, _ => none
def isConst : Operand → Bool
  | .const _ => true
  | _ => false
def isNili : AV → Bool
  | .nili => true
  | _ => false
def lenZ : AV → Bool
  | .slk _ _ _ _ len _ _ => Nat.beq len 0
  | .sl _ _ _ _ len => Nat.beq len 0
  | .nils => true
  | .emp => true
  | .psl _ es => es.isEmpty
  | _ => false
def kClear (P : Program) (t : TypeId) (d : AV) (η : Heap) : Option (AV × (Nat × ABlk) × List Nat) :=
  match asK d, tSlice P t with
  | some k, some e =>
    match tSize P e, tZero P e, η k.b with
    | some sz, some z, some blk =>
      if 0 < k.len ∧ z.length = sz ∧ k.z = sz ∧ 0 < sz ∧ blk.g = k.g ∧ blk.sz = sz ∧ blk.own = true ∧ k.off + k.len ≤ blk.es.length then
        some (.tup [], (k.b, { blk with es := splice blk.es k.off (List.replicate k.len z), pure := blk.pure && true }), [k.b])
      else none
    | _, _, _ => none
  | _, _ => none
def isNilp : AV → Option Bool
  | .nilp => some true
  | .ref .. => some false
  | .pp _ => some false
  | .gp .. => some false
  | _ => none
def kPtrEq (a b : AV) : Option Bool :=
  match isNilp a, isNilp b with
  | some p, some q => if p || q then some (p && q) else none
  | _, _ => none
def isNilm : AV → Option Bool
  | .nilm => some true
  | .mp _ => some false
  | _ => none
def kMapEq (a b : AV) : Option Bool :=
  match isNilm a, isNilm b with
  | some p, some q => if p || q then some (p && q) else none
  | _, _ => none
def kBin (P : Program) (op : BinOp) (t : TypeId) (x y : Operand) (a b : AV) : Option AV :=
  match op, P.underlying t with
  | .eql, some (.interface _) => if isNili a && isNili b && !isConst x && !isConst y then none else (kIfEq P a b).map .bool
  | .neq, some (.interface _) => if isNili a && isNili b && !isConst x && !isConst y then none else (kIfEq P a b).map fun q => .bool !q
  | .eql, some (.slice _) => match a, b with
    | .slk .., .nils => some (.bool false)
    | _, _ => none
  | .neq, some (.slice _) => match a, b with
    | .slk .., .nils => some (.bool true)
    | _, _ => none
  | .eql, some (.pointer _) => (kPtrEq a b).map .bool
  | .neq, some (.pointer _) => (kPtrEq a b).map fun q => .bool !q
  | .eql, some (.map ..) => (kMapEq a b).map .bool
  | .neq, some (.map ..) => (kMapEq a b).map fun q => .bool !q
  | .eql, some (.func ..) => match a, b with
    | .nilf, .nilf => some (.bool true)
    | .fn .., .nilf => some (.bool false)
    | _, _ => none
  | .neq, some (.func ..) => match a, b with
    | .nilf, .nilf => some (.bool false)
    | .fn .., .nilf => some (.bool true)
    | _, _ => none
  | .shr, some (.int _) => match a, b with
    | .int k a, .int _ b => if 0 ≤ b then some (.int k (a.fdiv (2 ^ (min b.toNat k.bits)))) else none
    | _, _ => none
  | _, _ => none
def kBuild (P : Program) (t : TypeId) (parts : List (Nat × AV)) : Option AV :=
  match tArr P t, tZero P t with
  | some (_, e), some z => match tSize P e with
    | some sz => (aFill (fun i => some (i * sz, sz)) z parts).map .agg
    | none => none
  | _, _ => none
def kIndex (P : Program) (t : TypeId) (x ix : AV) : Option AV :=
  match tArr P t, x, ix with
  | some (n, e), .agg cs, .int _ i => match tSize P e with
    | some sz => if 0 ≤ i ∧ i < n then aPart P e cs (i.toNat * sz) else none
    | none => none
  | _, _, _ => none
def kConv (P : Program) (s d : TypeId) (x : AV) (nm : Nat) : Option (AV × (Nat × ABlk)) :=
  match P.underlying s, tSlice P d, x with
  | some .string, some e, .str l => match P.underlying e with
    | some (.int .u8) => some (.sl nm 0 1 0 l.length, (nm, { g := 0, own := false, pure := true, sz := 1, es := l.map fun c => [.int .u8 c.toNat] }))
    | _ => none
  | _, _, _ => none
def avBytes : List (List AV) → Option (List UInt8)
  | [] => some []
  | [.int .u8 n] :: l => match avBytes l with
    | some r => some (UInt8.ofNat n.toNat :: r)
    | none => none
  | _ => none
def kConvS (P : Program) (s d : TypeId) (x : AV) (η : Heap) : Option (AV × List Nat) :=
  match tSlice P s, P.underlying d with
  | some e, some .string => match P.underlying e with
    | some (.int .u8) => match aElems η 1 (wk (wkx x)) with
      | some (es, rd) => match avBytes es with
        | some l => some (.str l, rd)
        | none => none
      | none => none
    | _ => none
  | _, _ => none
def foldO (f : AV → AV → Option AV) : AV → List AV → Option AV
  | a, [] => some a
  | a, x :: l => match f a x with | some b => foldO f b l | none => none
end Go.AM
