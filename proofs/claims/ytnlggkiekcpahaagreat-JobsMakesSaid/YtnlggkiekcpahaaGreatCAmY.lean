/- A text of the proof. -/
import Derived.Test.YtnlggkiekcpahaaGreatCAmX
set_option linter.unusedSimpArgs false
set_option linter.unusedVariables false
namespace Go.AM
open Go Go.RowKit
def Bd {α β : Type} (x : Option α) (f : α → Option β) : Option β := match x with | some a => f a | none => none
@[congr] theorem Bd_congr {α β : Type} {x y : Option α} {f : α → Option β} (h : x = y) : Bd x f = Bd y f := by rw [h]
theorem zkB {α β : Type} (a : α) (f : α → Option β) : Bd (some a) f = f a := rfl
theorem zfN {α β : Type} (f : α → Option β) : Bd none f = none := rfl
def lC {α : Type} (c : Prop) [Decidable c] (x : Option α) : Option α := if c then x else none
@[congr] theorem IfO_congr {α : Type} {c : Prop} [Decidable c] {x : Option α} : lC c x = lC c x := rfl
theorem Bd_IfO {α β : Type} (c : Prop) [Decidable c] (x : Option α) (f : α → Option β) : Bd (lC c x) f = lC c (Bd x f) := by
  unfold lC; split <;> rfl
theorem zih {α : Type} (c : Prop) [Decidable c] (x : Option α) (k : α → Prop) : xB (lC c x) k = (c ∧ xB (Xa x) k) := zis c x k
theorem zkz {α β : Type} (x : Option α) (f : α → Option β) (k : β → Prop) : xB (Bd x f) k = xB (Xa x) fun a => xB (Xa (f a)) k := by cases x <;> rfl
def zcj : AV → Option Bool | .bool b => some b | _ => none
theorem zme (b : Bool) : zcj (.bool b) = some b := rfl
section
variable {P : Program} {ρ : Operand → AV} {η : fB} {nm : Nat}
theorem tE {d : Option Tmp} {op : Op} {ty : TypeId} {pos : String} {after : Array Edge} {g : Option (Nat × Bool)} {ans : Option (AV × List oA)} {gt : List Nat} {τ : Nat → AV} {k : SE → Prop} (h : oK op = none) (h2 : fQ P op τ = none := by rfl) :
    xB (bD P ⟨d, op, ty, pos, after, g⟩ ans nm gt τ η) k = xB (Xa (zB P op (vB τ) η nm)) fun e => k ⟨d, e.v, e.wr, gt ++ nD op.operands.toList, e.rd, none⟩ := by
  simp only [bD, h, h2]
  cases zB P op (vB τ) η nm <;> rfl
theorem H_call {d : Option Tmp} {f : Operand} {args : Array Operand} {ats : Array TypeId} {ty : TypeId} {pos : String} {after : Array Edge} {g : Option (Nat × Bool)} {ans : Option (AV × List oA)} {gt : List Nat} {τ : Nat → AV} {k : SE → Prop} :
    xB (bD P ⟨d, .call { callee := .value f, args := args, argTypes := ats }, ty, pos, after, g⟩ ans nm gt τ η) k =
      xB (Bd ans fun a => kI η nm (vB τ f) (args.toList.map (vB τ)) a) fun r => k ⟨d, r.1.v, r.1.wr, gt ++ nD (f :: args.toList), r.1.rd, some r.2⟩ := by
  simp only [bD, oK]
  cases ans with
  | none => rfl
  | some a => simp only [Bd, Xa]; cases kI η nm (vB τ f) (args.toList.map (vB τ)) a <;> rfl
theorem zeq {t : TypeId} {x : AV} {name : String} : aS P (.iface t x) name = Bd (Xa (xQ P t name)) fun f => some (f, x) := by
  simp only [aS]; cases xQ P t name <;> rfl
theorem zd1 {d : Option Tmp} {rcv : Operand} {name : String} {args : Array Operand} {ats : Array TypeId} {ty : TypeId} {pos : String} {after : Array Edge} {g : Option (Nat × Bool)} {ans : Option (AV × List oA)} {gt : List Nat} {τ : Nat → AV} {k : SE → Prop} :
    xB (bD P ⟨d, .call { callee := .invoke rcv name, args := args, argTypes := ats }, ty, pos, after, g⟩ ans nm gt τ η) k =
      xB (Bd (Xa (aS P (vB τ rcv) name)) fun p => Bd ans fun a => kI η nm (.fn p.1 [] []) (p.2 :: args.toList.map (vB τ)) a) fun r => k ⟨d, r.1.v, r.1.wr, gt ++ nD (rcv :: args.toList), r.1.rd, some r.2⟩ := by
  have hops : (Op.call { callee := .invoke rcv name, args := args, argTypes := ats }).operands.toList = rcv :: args.toList := by simp [Op.operands, Call.operands]
  simp only [bD, oK, fQ, hops]
  cases aS P (vB τ rcv) name with
  | none => cases ans <;> rfl
  | some p =>
    cases ans with
    | none => rfl
    | some a => simp only [Bd, Xa]; cases kI η nm (.fn p.1 [] []) (p.2 :: args.toList.map (vB τ)) a <;> rfl
theorem zmq {fid : FuncId} {first cap args : List AV} {ans : AV × List oA} : kI η nm (.fn fid first cap) args ans =
    Bd (yB.purs η 60 (first ++ args ++ cap)) fun p => lC (ans.2.length ≤ 8) (some (⟨ans.1.shift nm, (if p.2.isEmpty || (ans.1.flatR && ans.2.all oA.flat) then [] else bG η p.2) ++ sM nm 0 ans.2, p.2⟩, ⟨fid, p.1, ans.1, ans.2⟩)) := by
  simp only [kI]
  cases yB.purs η 60 (first ++ args ++ cap) <;> rfl
theorem S_move {x : Operand} : zB P (.move x) ρ η nm = some ⟨ρ x, [], []⟩ := rfl
theorem zhS {x : Operand} : zB P (.assign x) ρ η nm = some ⟨ρ x, [], []⟩ := rfl
theorem S_pick {c a b : Operand} : zB P (.pick c a b) ρ η nm = Bd (Xa (zcj (ρ c))) fun t => some ⟨if t then ρ a else ρ b, [], []⟩ := by
  simp only [zB]; cases ρ c <;> rfl
theorem zko {t : TypeId} : zB P (.alloc t) ρ η nm = Bd (Xa (nB P t)) fun n => Bd (Xa (qC P t)) fun z => lC (z.length = n) (some ⟨.ref nm 0 0 0, [(nm, { g := 0, own := true, pure := AV.isP.isPs z, sz := n, es := [z] })], []⟩) := by
  simp only [zB]; cases nB P t <;> cases qC P t <;> rfl
theorem S_mkif {t : TypeId} {x : Operand} : zB P (.makeInterface t x) ρ η nm = lC (vM P t = true) (some ⟨.iface t (ρ x), [], []⟩) := by
  simp only [zB, lC]
def dK (P : Program) (t : TypeId) (v : AV) : Option AV := match v with
  | .iface u x => if u = t then some (.tup [x, .bool true]) else (eH P t).map fun z => .tup [z, .bool false]
  | .nili => (eH P t).map fun z => .tup [z, .bool false]
  | _ => none
theorem ziy {x : Operand} {xt t : TypeId} : zB P (.typeAssert x xt t true) ρ η nm = lC (vM P t = true) (Bd (Xa (dK P t (ρ x))) fun v => some ⟨v, [], []⟩) := by
  simp only [zB, lC, dK, Bool.true_and]
  split
  · cases ρ x <;> try rfl
    case iface u v =>
      simp only [Bd, Xa]
      by_cases e : u = t
      · simp only [if_pos e]
      · simp only [if_neg e]; cases eH P t <;> rfl
    case nili => simp only [Bd, Xa]; cases eH P t <;> rfl
  · rfl
theorem zgn {t : TypeId} {x : AV} : dK P t (.iface t x) = some (.tup [x, .bool true]) := by simp [dK]
theorem zik {u t : TypeId} {x : AV} (h : (u == t) = false) : dK P t (.iface u x) = Bd (Xa (eH P t)) fun z => some (.tup [z, .bool false]) := by
  have : u ≠ t := by simpa using h
  simp only [dK, if_neg this]; cases eH P t <;> rfl
theorem zjt {t : TypeId} : dK P t .nili = Bd (Xa (eH P t)) fun z => some (.tup [z, .bool false]) := by
  simp only [dK]; cases eH P t <;> rfl
theorem S_box {t : TypeId} {x : Operand} : zB P (.box t x) ρ η nm = Bd (Xa ((ρ x).cells)) fun cs => some ⟨.ref nm 0 0 0, [(nm, { g := 0, own := true, pure := AV.isP.isPs cs, sz := cs.length, es := [cs] })], []⟩ := by
  simp only [zB]; cases (ρ x).cells <;> rfl
theorem zkq {t : TypeId} {parts : Array (Nat × Operand)} : zB P (.build t parts) ρ η nm = Bd (Xa (yF P t)) fun pl => Bd (Xa (qC P t)) fun z => Bd (Xa (vI (fun i => pl[i]?) z (parts.toList.map fun p => (p.1, ρ p.2)))) fun cs => some ⟨.agg cs, [], []⟩ := by
  simp only [zB, zX]
  cases yF P t with
  | none => cases qC P t <;> rfl
  | some pl => cases qC P t with
    | none => rfl
    | some z => simp only [Bd, Xa]; cases vI (fun i => pl[i]?) z (parts.toList.map fun p => (p.1, ρ p.2)) <;> rfl
theorem zho {place : Nat → Option (Nat × Nat)} {cs : List AV} : vI place cs [] = some cs := rfl
theorem zkZ {place : Nat → Option (Nat × Nat)} {cs : List AV} {i : Nat} {v : AV} {lB : List (Nat × AV)} :
    vI place cs ((i, v) :: lB) = Bd (Xa (place i)) fun p => Bd (Xa (v.cells)) fun vs => lC (vs.length = p.2 ∧ p.1 + p.2 ≤ cs.length) (vI place (cs.take p.1 ++ vs ++ cs.drop (p.1 + p.2)) lB) := by
  simp only [vI]; cases place i <;> cases v.cells <;> rfl
theorem zfD {t : TypeId} {len : Nat} {parts : Array (Nat × Operand)} : zB P (.buildSlice t len parts) ρ η nm = Bd (Xa (wC P t)) fun e => Bd (Xa (nB P e)) fun sz => Bd (Xa (qC P e)) fun z => lC (len * sz ≤ 2 ^ 24 ∧ z.length = sz ∧ 0 < sz) (Bd (Xa (sK (List.replicate len z) (parts.toList.map fun p => (p.1, ρ p.2)) sz)) fun es =>
    some ⟨.sl nm 0 sz 0 len, [(nm, { g := 0, own := true, pure := es.all AV.isP.isPs, sz := sz, es := es })], []⟩) := by
  simp only [zB, oV]
  cases wC P t with
  | none => rfl
  | some e => simp only [Bd, Xa]; cases nB P e with
    | none => cases qC P e <;> rfl
    | some sz => cases qC P e with
      | none => rfl
      | some z => simp only [lC, Xa]; split
                  · cases sK (List.replicate len z) (parts.toList.map fun p => (p.1, ρ p.2)) sz <;> rfl
                  · rfl
theorem zjR {es : List (List AV)} {n : Nat} : sK es [] n = some es := rfl
theorem zjk {es : List (List AV)} {n i : Nat} {v : AV} {lB : List (Nat × AV)} : sK es ((i, v) :: lB) n = Bd (Xa (v.cells)) fun cs => lC (cs.length = n ∧ i < es.length) (sK (es.set i cs) lB n) := by
  simp only [sK]; cases v.cells <;> rfl
def yK (ag : Bool) (n : Nat) (a : AV) (η : fB) : Option (AV × List Nat) := match a with
  | .ref b g i j => match qG η b g i with
    | some e => if j + n ≤ e.length then (AV.ofCells ag ((e.drop j).take n)).map fun v => (v, [b]) else none
    | none => none
  | .pp cs => if n ≤ cs.length then (AV.ofCells ag (cs.take n)).map fun v => (v, []) else none
  | _ => none
theorem S_load {t : TypeId} {a : Operand} : zB P (.load t a) ρ η nm = Bd (Xa (iD P t)) fun ag => Bd (Xa (nB P t)) fun n => Bd (Xa (yK ag n (ρ a) η)) fun r => some ⟨r.1, [], r.2⟩ := by
  simp only [zB, aM]
  cases iD P t with
  | none => rfl
  | some ag => cases nB P t with
    | none => rfl
    | some n => show Option.map _ (yK ag n (ρ a) η) = _; simp only [Bd, Xa]; cases yK ag n (ρ a) η <;> rfl
theorem zdJ {ag : Bool} {n b g i j : Nat} : yK ag n (.ref b g i j) η = Bd (Xa (qG η b g i)) fun e => lC (j + n ≤ e.length) (Bd (Xa (AV.ofCells ag ((e.drop j).take n))) fun v => some (v, [b])) := by
  simp only [yK]; cases qG η b g i with
  | none => rfl
  | some e => simp only [Bd, Xa, lC]; split
              · cases AV.ofCells ag ((e.drop j).take n) <;> rfl
              · rfl
theorem zew {ag : Bool} {n : Nat} {cs : List AV} : yK ag n (.pp cs) η = lC (n ≤ cs.length) (Bd (AV.ofCells ag (cs.take n)) fun v => some (v, [])) := by
  simp only [yK, lC]; split
  · cases AV.ofCells ag (cs.take n) <;> rfl
  · rfl
theorem zeZ {cs : List AV} : AV.ofCells true cs = some (.agg cs) := rfl
theorem zes {c : AV} : AV.ofCells false [c] = some c := rfl
theorem zhc {b g i : Nat} : qG η b g i = Bd (Xa (η b)) fun blk => lC (blk.g = g) (blk.es[i]?) := by
  simp only [qG]; cases η b <;> rfl
theorem zel {t : TypeId} {a x : Operand} : zB P (.store t a x) ρ η nm = Bd (Xa (nL P t (ρ a) (ρ x) η)) fun r => some ⟨.tup [], [r], [r.1]⟩ := by
  simp only [zB]; cases nL P t (ρ a) (ρ x) η <;> rfl
theorem zhF {t : TypeId} {b g i j : Nat} {v : AV} : nL P t (.ref b g i j) v η = Bd (Xa (nB P t)) fun n => Bd (Xa (v.cells)) fun cs => Bd (Xa (η b)) fun blk => lC (blk.g = g ∧ blk.own = true ∧ cs.length = n) (Bd (Xa (blk.es[i]?)) fun e => lC (j + n ≤ e.length)
    (some (b, { blk with es := blk.es.set i (e.take j ++ cs ++ e.drop (j + n)), pure := blk.pure && AV.isP.isPs cs }))) := by
  simp only [nL]
  cases nB P t with
  | none => rfl
  | some n => cases v.cells with
    | none => rfl
    | some cs => simp only [Bd, Xa]; cases η b with
      | none => rfl
      | some blk => simp only [lC, Xa]; split
                    · cases blk.es[i]? <;> rfl
                    · rfl
theorem zje {x : Operand} : zB P (.nilCheck x) ρ η nm = Bd (match ρ x with | .ref b g i j => some (AV.ref b g i j) | .pp cs => some (.pp cs) | .fn f a c => some (.fn f a c) | _ => none) fun v => some ⟨v, [], []⟩ := by
  simp only [zB]; cases ρ x <;> rfl
theorem S_bin {op : BinOp} {t yt : TypeId} {x y : Operand} : zB P (.binOp op t x y yt) ρ η nm = Bd (Xa (vC P op t (ρ x) (ρ y))) fun v => some ⟨v, [], []⟩ := by
  simp only [zB]; cases vC P op t (ρ x) (ρ y) <;> rfl
theorem S_un {op : UnOp} {t : TypeId} {x : Operand} : zB P (.unOp op t x) ρ η nm = Bd (Xa (aUn op (ρ x))) fun v => some ⟨v, [], []⟩ := by
  simp only [zB]; cases aUn op (ρ x) <;> rfl
theorem S_conv {s d : TypeId} {x : Operand} : zB P (.convert s d x) ρ η nm = Bd (Xa (eV P s d (ρ x))) fun v => some ⟨v, [], []⟩ := by
  simp only [zB]; cases eV P s d (ρ x) <;> rfl
theorem zmV {b : Bool} : aUn .not (.bool b) = some (.bool !b) := rfl
theorem zhi {k : IntKind} {n : Int} : aUn .neg (.int k n) = some (.int k (k.wrap (0 - n))) := rfl
theorem zdY {f : FuncId} {first cap : Array Operand} : zB P (.makeFunc (.func f) first cap) ρ η nm = some ⟨.fn f (first.toList.map ρ) (cap.toList.map ρ), [], []⟩ := rfl
theorem zmc {t : TypeId} {l c : Operand} : zB P (.makeSlice t l c) ρ η nm = Bd (Xa (qP P t (ρ l) (ρ c) nm)) fun r => some ⟨r.1, [r.2], []⟩ := by
  simp only [zB]; cases qP P t (ρ l) (ρ c) nm <;> rfl
theorem ze4 {t : TypeId} {k k' : IntKind} {l c : Int} : qP P t (.int k l) (.int k' c) nm = Bd (Xa (wC P t)) fun e => Bd (Xa (nB P e)) fun sz => Bd (Xa (fD P e)) fun bs => Bd (Xa (qC P e)) fun z => lC (0 ≤ l ∧ l ≤ c ∧ c ≤ IntKind.i64.max ∧ (bs : Int) * c ≤ 2 ^ 48 ∧ z.length = sz ∧ 0 < sz)
    (some (.sl nm 0 sz 0 l.toNat, (nm, { g := 0, own := true, pure := true, sz := sz, es := List.replicate l.toNat z }))) := by
  simp only [qP]
  cases wC P t with
  | none => rfl
  | some e => simp only [Bd, Xa]; cases nB P e with
    | none => rfl
    | some sz => cases fD P e with
      | none => rfl
      | some bs => cases qC P e <;> rfl
theorem zdC {t : TypeId} {x : Operand} {lo hi mx : Option Operand} : zB P (.slice t x lo hi mx) ρ η nm = Bd (Xa (eK P t (ρ x) (lo.map ρ) (hi.map ρ) (mx.map ρ))) fun v => some ⟨v, [], []⟩ := by
  simp only [zB]; cases eK P t (ρ x) (lo.map ρ) (hi.map ρ) (mx.map ρ) <;> rfl
theorem zl1 {t : TypeId} {x : Operand} {f : Nat} : zB P (.fieldAddr t x f) ρ η nm = Bd (Xa (xC P t f)) fun p => Bd (match ρ x with | .ref b g i j => some (AV.ref b g i (j + p.1)) | .pp cs => lC (p.1 ≤ cs.length) (some (.pp (cs.drop p.1))) | _ => none) fun v => some ⟨v, [], []⟩ := by
  simp only [zB, lW]
  cases xC P t f with
  | none => rfl
  | some p => simp only [Bd, Xa]; cases ρ x <;> first | rfl | (simp only [lC, Xa]; split <;> rfl)
theorem zkx {t : TypeId} {x : Operand} {f : Nat} : zB P (.field t x f) ρ η nm = Bd (Xa (xC P t f)) fun p => Bd (match ρ x with | .agg cs => gK P p.2 cs p.1 | _ => none) fun v => some ⟨v, [], []⟩ := by
  simp only [zB]
  cases xC P t f with
  | none => rfl
  | some p => cases ρ x <;> first | rfl | (rename_i cs; simp only [Bd, Xa]; cases gK P p.2 cs p.1 <;> rfl)
theorem zeW {t : TypeId} {cs : List AV} {off : Nat} : gK P t cs off = Bd (Xa (iD P t)) fun ag => Bd (Xa (nB P t)) fun n => if ag then some (.agg ((cs.drop off).take n)) else cs[off]? := by
  simp only [gK]
  cases iD P t with
  | none => rfl
  | some ag => cases nB P t with
    | none => cases ag <;> rfl
    | some n => cases ag <;> rfl
theorem zlQ {t : TypeId} {x i : Operand} : zB P (.indexAddr t x i) ρ η nm = Bd (Xa (jI P t (ρ x) (ρ i))) fun v => some ⟨v, [], []⟩ := by
  simp only [zB]; cases jI P t (ρ x) (ρ i) <;> rfl
theorem zjV {t : TypeId} {b g z off len : Nat} {k : IntKind} {n : Int} : jI P t (.sl b g z off len) (.int k n) = Bd (Xa (wC P t)) fun e => Bd (Xa (nB P e)) fun sz => lC (z = sz ∧ 0 ≤ n ∧ n < len) (some (.ref b g (off + n.toNat) 0)) := by
  simp only [jI]
  cases wC P t with
  | none =>
    cases iN P t with
    | none => rfl
    | some a => obtain ⟨l, e⟩ := a; simp only [Bd, Xa]; cases nB P e <;> rfl
  | some e => simp only [Bd, Xa]; cases nB P e <;> rfl
theorem zex {t : TypeId} {z : Nat} {es : List (List AV)} {k : IntKind} {n : Int} : jI P t (.psl z es) (.int k n) = Bd (Xa (wC P t)) fun e => Bd (Xa (nB P e)) fun sz => lC (z = sz ∧ 0 ≤ n) (Bd (Xa (es[n.toNat]?)) fun e => some (.pp e)) := by
  simp only [jI]
  cases wC P t with
  | none =>
    cases iN P t with
    | none => rfl
    | some a => obtain ⟨l, e⟩ := a; simp only [Bd, Xa]; cases nB P e <;> rfl
  | some e => simp only [Bd, Xa]; cases nB P e with
    | none => rfl
    | some sz => simp only [lC, Xa]; split
                 · cases es[n.toNat]? <;> rfl
                 · rfl
theorem ziX {t : TypeId} {b g i j : Nat} {k : IntKind} {n : Int} : jI P t (.ref b g i j) (.int k n) = Bd (Xa (iN P t)) fun a => Bd (Xa (nB P a.2)) fun sz => lC (0 ≤ n ∧ n < a.1) (some (.ref b g i (j + n.toNat * sz))) := by
  simp only [jI, wC, iN, Xa]
  cases P.underlying t with
  | none => rfl
  | some u =>
    cases u with
    | slice e => dsimp only; cases nB P e <;> rfl
    | array l e => dsimp only [Bd]; cases nB P e <;> rfl
    | _ => rfl
theorem zhP {t : TypeId} {cs : List AV} {k : IntKind} {n : Int} : jI P t (.pp cs) (.int k n) = Bd (Xa (iN P t)) fun a => Bd (Xa (nB P a.2)) fun sz => lC (0 ≤ n ∧ n < a.1 ∧ n.toNat * sz ≤ cs.length) (some (.pp (cs.drop (n.toNat * sz)))) := by
  simp only [jI, wC, iN, Xa]
  cases P.underlying t with
  | none => rfl
  | some u =>
    cases u with
    | slice e => dsimp only; cases nB P e <;> rfl
    | array l e => dsimp only [Bd]; cases nB P e <;> rfl
    | _ => rfl
theorem zeS {t : TypeId} {x i : Operand} : zB P (.index t x i) ρ η nm = Bd (Xa (P.underlying t)) fun u => Bd (match u, ρ x, ρ i with | .string, .str s, .int _ n => lC (0 ≤ n) (Bd (s[n.toNat]?) fun c => some (AV.int .u8 c.toNat)) | _, _, _ => none) fun v => some ⟨v, [], []⟩ := by
  simp only [zB]
  cases P.underlying t with
  | none => rfl
  | some u => cases u <;> try rfl
              cases ρ x <;> try rfl
              cases ρ i <;> try rfl
              rename_i s k n
              simp only [Bd, Xa, lC]
              split
              · cases s[n.toNat]? <;> rfl
              · rfl
theorem zjM {x : Operand} {i : Nat} : zB P (.extract x i) ρ η nm = Bd (match ρ x with | .tup vs => vs[i]? | _ => none) fun v => some ⟨v, [], []⟩ := by
  simp only [zB]
  cases ρ x <;> first | rfl | (rename_i vs; simp only [Bd, Xa]; cases vs[i]? <;> rfl)
theorem S_bi {b : Builtin} {args : Array Operand} {ats : Array TypeId} : zB P (.call { callee := .builtin b, args := args, argTypes := ats }) ρ η nm = fJ P b ats.toList (args.toList.map ρ) η nm := rfl
theorem B_len {t : TypeId} {x : AV} : fJ P .len [t] [x] η nm = Bd (Xa (P.underlying t)) fun u => Bd (match u, x with
    | .string, .str s => some (AV.int .i64 s.length) | .slice _, .nils => some (.int .i64 0) | .slice _, .sl _ _ _ _ n => some (.int .i64 n) | .slice _, .psl _ es => some (.int .i64 es.length) | .slice _, .emp => some (.int .i64 0) | _, _ => none) fun v => some ⟨v, [], []⟩ := by
  simp only [fJ, hX]
  cases P.underlying t with
  | none => rfl
  | some u => cases u <;> first | rfl | (cases x <;> rfl)
theorem zfO {t t' : TypeId} {s x : AV} : fJ P .append [t, t'] [s, x] η nm = Bd (Xa (tH P t t' s x η nm)) fun r => some ⟨r.1, [r.2.1], r.2.2⟩ := by
  simp only [fJ]; cases tH P t t' s x η nm <;> rfl
theorem B_max {ts : List TypeId} {k : IntKind} {x y : Int} : fJ P .max ts [.int k x, .int k y] η nm = some ⟨.int k (if x < y then y else x), [], []⟩ := by
  simp [fJ, aMax]
theorem B_min {ts : List TypeId} {k : IntKind} {x y : Int} : fJ P .min ts [.int k x, .int k y] η nm = some ⟨.int k (if y < x then y else x), [], []⟩ := by
  simp [fJ, aMin]
theorem zmF {t t' : TypeId} {x : AV} : tH P t t' .nils x η nm = Bd (Xa (wC P t)) fun e => Bd (Xa (wC P t')) fun e' => Bd (Xa (nB P e)) fun sz => Bd (Xa (fD P e)) fun bs => Bd (Xa (nB P e')) fun sz' => Bd (Xa (qC P e)) fun z => lC (sz = sz' ∧ 0 < sz ∧ 0 < bs ∧ z.length = sz)
    (Bd (iG η sz x) fun p => lC (2 * (p.1.length * bs) ≤ 2 ^ 48) (some (.sl nm 0 sz 0 p.1.length, (nm, { g := 0, own := true, pure := p.1.all AV.isP.isPs, sz := sz, es := p.1 }), p.2))) := by
  simp only [tH]
  cases wC P t with
  | none => rfl
  | some e => cases wC P t' with
    | none => rfl
    | some e' => simp only [Bd, Xa]; cases nB P e with
      | none => rfl
      | some sz => cases fD P e with
        | none => rfl
        | some bs => cases nB P e' with
          | none => rfl
          | some sz' => cases qC P e with
            | none => rfl
            | some z => simp only [lC, Xa]; split
                        · cases iG η sz x <;> rfl
                        · rfl
theorem zhT {t t' : TypeId} {x : AV} : tH P t t' .emp x η nm = Bd (Xa (wC P t)) fun e => Bd (Xa (wC P t')) fun e' => Bd (Xa (nB P e)) fun sz => Bd (Xa (fD P e)) fun bs => Bd (Xa (nB P e')) fun sz' => Bd (Xa (qC P e)) fun z => lC (sz = sz' ∧ 0 < sz ∧ 0 < bs ∧ z.length = sz)
    (Bd (iG η sz x) fun p => lC (2 * (p.1.length * bs) ≤ 2 ^ 48) (some (.sl nm 0 sz 0 p.1.length, (nm, { g := 0, own := true, pure := p.1.all AV.isP.isPs, sz := sz, es := p.1 }), p.2))) := by
  simp only [tH]
  cases wC P t with
  | none => rfl
  | some e => cases wC P t' with
    | none => rfl
    | some e' => simp only [Bd, Xa]; cases nB P e with
      | none => rfl
      | some sz => cases fD P e with
        | none => rfl
        | some bs => cases nB P e' with
          | none => rfl
          | some sz' => cases qC P e with
            | none => rfl
            | some z => simp only [lC, Xa]; split
                        · cases iG η sz x <;> rfl
                        · rfl
theorem zge {t t' : TypeId} {b g z0 off len : Nat} {x : AV} : tH P t t' (.sl b g z0 off len) x η nm = Bd (Xa (wC P t)) fun e => Bd (Xa (wC P t')) fun e' => Bd (Xa (nB P e)) fun sz => Bd (Xa (fD P e)) fun bs => Bd (Xa (nB P e')) fun sz' => Bd (Xa (qC P e)) fun z => lC (sz = sz' ∧ 0 < sz ∧ 0 < bs ∧ z.length = sz)
    (Bd (iG η sz x) fun p => Bd (η b) fun blk => lC (z0 = sz ∧ blk.g = g ∧ blk.sz = sz ∧ off = 0 ∧ len = blk.es.length ∧ blk.own = true ∧ 2 * ((len + p.1.length) * bs) ≤ 2 ^ 48)
      (some (.sl b (g + 1) sz 0 (len + p.1.length), (b, { blk with g := g + 1, es := blk.es ++ p.1, pure := blk.pure && p.1.all AV.isP.isPs }), b :: p.2))) := by
  simp only [tH]
  cases wC P t with
  | none => rfl
  | some e => cases wC P t' with
    | none => rfl
    | some e' => simp only [Bd, Xa]; cases nB P e with
      | none => rfl
      | some sz => cases fD P e with
        | none => rfl
        | some bs => cases nB P e' with
          | none => rfl
          | some sz' => cases qC P e with
            | none => rfl
            | some z => simp only [lC, Xa]; split
                        · cases iG η sz x with
                          | none => rfl
                          | some p => simp only; cases η b <;> rfl
                        · rfl
theorem zfS {sz : Nat} : iG η sz .nils = some ([], []) := rfl
theorem zkc {sz : Nat} : iG η sz .emp = some ([], []) := rfl
theorem zj6 {sz z : Nat} {es : List (List AV)} : iG η sz (.psl z es) = lC (z = sz ∨ es = []) (some (es, [])) := rfl
theorem zjW {sz b g z off len : Nat} : iG η sz (.sl b g z off len) = Bd (Xa (η b)) fun blk => lC (z = sz ∧ blk.g = g ∧ blk.sz = sz ∧ off + len ≤ blk.es.length) (some ((blk.es.drop off).take len, [b])) := by
  simp only [iG]; cases η b <;> rfl
end
section
variable {x a b c : Operand} {t ty : TypeId} {n : Nat} {pr : Array (Nat × Operand)} {bo : BinOp} {uo : UnOp} {fn : Fn} {ar br : Array Operand} {oa ob oc : Option Operand} {bi : Builtin} {ts : Array TypeId}
theorem H_move {P : Program} {η : fB} {nm : Nat} {d : Option Tmp} {tq : TypeId} {pos : String} {after : Array Edge} {g : Option (Nat × Bool)} {ans : Option (AV × List oA)} {gt : List Nat} {τ : Nat → AV} {k : SE → Prop} :
    xB (bD P ⟨d, (.move x), tq, pos, after, g⟩ ans nm gt τ η) k = xB (Xa (zB P (.move x) (vB τ) η nm)) fun e => k ⟨d, e.v, e.wr, gt ++ nD (Op.operands (.move x)).toList, e.rd, none⟩ := tE rfl
theorem H_mkif {P : Program} {η : fB} {nm : Nat} {d : Option Tmp} {tq : TypeId} {pos : String} {after : Array Edge} {g : Option (Nat × Bool)} {ans : Option (AV × List oA)} {gt : List Nat} {τ : Nat → AV} {k : SE → Prop} :
    xB (bD P ⟨d, (.makeInterface t x), tq, pos, after, g⟩ ans nm gt τ η) k = xB (Xa (zB P (.makeInterface t x) (vB τ) η nm)) fun e => k ⟨d, e.v, e.wr, gt ++ nD (Op.operands (.makeInterface t x)).toList, e.rd, none⟩ := tE rfl
theorem zju {xt : TypeId} {ok : Bool} {P : Program} {η : fB} {nm : Nat} {d : Option Tmp} {tq : TypeId} {pos : String} {after : Array Edge} {g : Option (Nat × Bool)} {ans : Option (AV × List oA)} {gt : List Nat} {τ : Nat → AV} {k : SE → Prop} :
    xB (bD P ⟨d, (.typeAssert x xt t ok), tq, pos, after, g⟩ ans nm gt τ η) k = xB (Xa (zB P (.typeAssert x xt t ok) (vB τ) η nm)) fun e => k ⟨d, e.v, e.wr, gt ++ nD (Op.operands (.typeAssert x xt t ok)).toList, e.rd, none⟩ := tE rfl
theorem zgB {P : Program} {η : fB} {nm : Nat} {d : Option Tmp} {tq : TypeId} {pos : String} {after : Array Edge} {g : Option (Nat × Bool)} {ans : Option (AV × List oA)} {gt : List Nat} {τ : Nat → AV} {k : SE → Prop} :
    xB (bD P ⟨d, (.assign x), tq, pos, after, g⟩ ans nm gt τ η) k = xB (Xa (zB P (.assign x) (vB τ) η nm)) fun e => k ⟨d, e.v, e.wr, gt ++ nD (Op.operands (.assign x)).toList, e.rd, none⟩ := tE rfl
theorem H_pick {P : Program} {η : fB} {nm : Nat} {d : Option Tmp} {tq : TypeId} {pos : String} {after : Array Edge} {g : Option (Nat × Bool)} {ans : Option (AV × List oA)} {gt : List Nat} {τ : Nat → AV} {k : SE → Prop} :
    xB (bD P ⟨d, (.pick c a b), tq, pos, after, g⟩ ans nm gt τ η) k = xB (Xa (zB P (.pick c a b) (vB τ) η nm)) fun e => k ⟨d, e.v, e.wr, gt ++ nD (Op.operands (.pick c a b)).toList, e.rd, none⟩ := tE rfl
theorem zkD {P : Program} {η : fB} {nm : Nat} {d : Option Tmp} {tq : TypeId} {pos : String} {after : Array Edge} {g : Option (Nat × Bool)} {ans : Option (AV × List oA)} {gt : List Nat} {τ : Nat → AV} {k : SE → Prop} :
    xB (bD P ⟨d, (.alloc t), tq, pos, after, g⟩ ans nm gt τ η) k = xB (Xa (zB P (.alloc t) (vB τ) η nm)) fun e => k ⟨d, e.v, e.wr, gt ++ nD (Op.operands (.alloc t)).toList, e.rd, none⟩ := tE rfl
theorem H_box {P : Program} {η : fB} {nm : Nat} {d : Option Tmp} {tq : TypeId} {pos : String} {after : Array Edge} {g : Option (Nat × Bool)} {ans : Option (AV × List oA)} {gt : List Nat} {τ : Nat → AV} {k : SE → Prop} :
    xB (bD P ⟨d, (.box t x), tq, pos, after, g⟩ ans nm gt τ η) k = xB (Xa (zB P (.box t x) (vB τ) η nm)) fun e => k ⟨d, e.v, e.wr, gt ++ nD (Op.operands (.box t x)).toList, e.rd, none⟩ := tE rfl
theorem zmk {P : Program} {η : fB} {nm : Nat} {d : Option Tmp} {tq : TypeId} {pos : String} {after : Array Edge} {g : Option (Nat × Bool)} {ans : Option (AV × List oA)} {gt : List Nat} {τ : Nat → AV} {k : SE → Prop} :
    xB (bD P ⟨d, (.build t pr), tq, pos, after, g⟩ ans nm gt τ η) k = xB (Xa (zB P (.build t pr) (vB τ) η nm)) fun e => k ⟨d, e.v, e.wr, gt ++ nD (Op.operands (.build t pr)).toList, e.rd, none⟩ := tE rfl
theorem zfZ {P : Program} {η : fB} {nm : Nat} {d : Option Tmp} {tq : TypeId} {pos : String} {after : Array Edge} {g : Option (Nat × Bool)} {ans : Option (AV × List oA)} {gt : List Nat} {τ : Nat → AV} {k : SE → Prop} :
    xB (bD P ⟨d, (.buildSlice t n pr), tq, pos, after, g⟩ ans nm gt τ η) k = xB (Xa (zB P (.buildSlice t n pr) (vB τ) η nm)) fun e => k ⟨d, e.v, e.wr, gt ++ nD (Op.operands (.buildSlice t n pr)).toList, e.rd, none⟩ := tE rfl
theorem H_load {P : Program} {η : fB} {nm : Nat} {d : Option Tmp} {tq : TypeId} {pos : String} {after : Array Edge} {g : Option (Nat × Bool)} {ans : Option (AV × List oA)} {gt : List Nat} {τ : Nat → AV} {k : SE → Prop} :
    xB (bD P ⟨d, (.load t a), tq, pos, after, g⟩ ans nm gt τ η) k = xB (Xa (zB P (.load t a) (vB τ) η nm)) fun e => k ⟨d, e.v, e.wr, gt ++ nD (Op.operands (.load t a)).toList, e.rd, none⟩ := tE rfl
theorem zfT {P : Program} {η : fB} {nm : Nat} {d : Option Tmp} {tq : TypeId} {pos : String} {after : Array Edge} {g : Option (Nat × Bool)} {ans : Option (AV × List oA)} {gt : List Nat} {τ : Nat → AV} {k : SE → Prop} :
    xB (bD P ⟨d, (.store t a b), tq, pos, after, g⟩ ans nm gt τ η) k = xB (Xa (zB P (.store t a b) (vB τ) η nm)) fun e => k ⟨d, e.v, e.wr, gt ++ nD (Op.operands (.store t a b)).toList, e.rd, none⟩ := tE rfl
theorem zmr {P : Program} {η : fB} {nm : Nat} {d : Option Tmp} {tq : TypeId} {pos : String} {after : Array Edge} {g : Option (Nat × Bool)} {ans : Option (AV × List oA)} {gt : List Nat} {τ : Nat → AV} {k : SE → Prop} :
    xB (bD P ⟨d, (.nilCheck x), tq, pos, after, g⟩ ans nm gt τ η) k = xB (Xa (zB P (.nilCheck x) (vB τ) η nm)) fun e => k ⟨d, e.v, e.wr, gt ++ nD (Op.operands (.nilCheck x)).toList, e.rd, none⟩ := tE rfl
theorem zlg {P : Program} {η : fB} {nm : Nat} {d : Option Tmp} {tq : TypeId} {pos : String} {after : Array Edge} {g : Option (Nat × Bool)} {ans : Option (AV × List oA)} {gt : List Nat} {τ : Nat → AV} {k : SE → Prop} :
    xB (bD P ⟨d, (.binOp bo t a b ty), tq, pos, after, g⟩ ans nm gt τ η) k = xB (Xa (zB P (.binOp bo t a b ty) (vB τ) η nm)) fun e => k ⟨d, e.v, e.wr, gt ++ nD (Op.operands (.binOp bo t a b ty)).toList, e.rd, none⟩ := tE rfl
theorem H_unOp {P : Program} {η : fB} {nm : Nat} {d : Option Tmp} {tq : TypeId} {pos : String} {after : Array Edge} {g : Option (Nat × Bool)} {ans : Option (AV × List oA)} {gt : List Nat} {τ : Nat → AV} {k : SE → Prop} :
    xB (bD P ⟨d, (.unOp uo t a), tq, pos, after, g⟩ ans nm gt τ η) k = xB (Xa (zB P (.unOp uo t a) (vB τ) η nm)) fun e => k ⟨d, e.v, e.wr, gt ++ nD (Op.operands (.unOp uo t a)).toList, e.rd, none⟩ := tE rfl
theorem H_conv {P : Program} {η : fB} {nm : Nat} {d : Option Tmp} {tq ts td : TypeId} {a : Operand} {pos : String} {after : Array Edge} {g : Option (Nat × Bool)} {ans : Option (AV × List oA)} {gt : List Nat} {τ : Nat → AV} {k : SE → Prop} :
    xB (bD P ⟨d, (.convert ts td a), tq, pos, after, g⟩ ans nm gt τ η) k = xB (Xa (zB P (.convert ts td a) (vB τ) η nm)) fun e => k ⟨d, e.v, e.wr, gt ++ nD (Op.operands (.convert ts td a)).toList, e.rd, none⟩ := tE rfl
theorem zkn {P : Program} {η : fB} {nm : Nat} {d : Option Tmp} {tq : TypeId} {pos : String} {after : Array Edge} {g : Option (Nat × Bool)} {ans : Option (AV × List oA)} {gt : List Nat} {τ : Nat → AV} {k : SE → Prop} :
    xB (bD P ⟨d, (.makeFunc fn ar br), tq, pos, after, g⟩ ans nm gt τ η) k = xB (Xa (zB P (.makeFunc fn ar br) (vB τ) η nm)) fun e => k ⟨d, e.v, e.wr, gt ++ nD (Op.operands (.makeFunc fn ar br)).toList, e.rd, none⟩ := tE rfl
theorem zfn {P : Program} {η : fB} {nm : Nat} {d : Option Tmp} {tq : TypeId} {pos : String} {after : Array Edge} {g : Option (Nat × Bool)} {ans : Option (AV × List oA)} {gt : List Nat} {τ : Nat → AV} {k : SE → Prop} :
    xB (bD P ⟨d, (.makeSlice t a b), tq, pos, after, g⟩ ans nm gt τ η) k = xB (Xa (zB P (.makeSlice t a b) (vB τ) η nm)) fun e => k ⟨d, e.v, e.wr, gt ++ nD (Op.operands (.makeSlice t a b)).toList, e.rd, none⟩ := tE rfl
theorem zli {P : Program} {η : fB} {nm : Nat} {d : Option Tmp} {tq : TypeId} {pos : String} {after : Array Edge} {g : Option (Nat × Bool)} {ans : Option (AV × List oA)} {gt : List Nat} {τ : Nat → AV} {k : SE → Prop} :
    xB (bD P ⟨d, (.slice t a oa ob oc), tq, pos, after, g⟩ ans nm gt τ η) k = xB (Xa (zB P (.slice t a oa ob oc) (vB τ) η nm)) fun e => k ⟨d, e.v, e.wr, gt ++ nD (Op.operands (.slice t a oa ob oc)).toList, e.rd, none⟩ := tE rfl
theorem zgj {P : Program} {η : fB} {nm : Nat} {d : Option Tmp} {tq : TypeId} {pos : String} {after : Array Edge} {g : Option (Nat × Bool)} {ans : Option (AV × List oA)} {gt : List Nat} {τ : Nat → AV} {k : SE → Prop} :
    xB (bD P ⟨d, (.fieldAddr t a n), tq, pos, after, g⟩ ans nm gt τ η) k = xB (Xa (zB P (.fieldAddr t a n) (vB τ) η nm)) fun e => k ⟨d, e.v, e.wr, gt ++ nD (Op.operands (.fieldAddr t a n)).toList, e.rd, none⟩ := tE rfl
theorem zfR {P : Program} {η : fB} {nm : Nat} {d : Option Tmp} {tq : TypeId} {pos : String} {after : Array Edge} {g : Option (Nat × Bool)} {ans : Option (AV × List oA)} {gt : List Nat} {τ : Nat → AV} {k : SE → Prop} :
    xB (bD P ⟨d, (.field t a n), tq, pos, after, g⟩ ans nm gt τ η) k = xB (Xa (zB P (.field t a n) (vB τ) η nm)) fun e => k ⟨d, e.v, e.wr, gt ++ nD (Op.operands (.field t a n)).toList, e.rd, none⟩ := tE rfl
theorem zjr {P : Program} {η : fB} {nm : Nat} {d : Option Tmp} {tq : TypeId} {pos : String} {after : Array Edge} {g : Option (Nat × Bool)} {ans : Option (AV × List oA)} {gt : List Nat} {τ : Nat → AV} {k : SE → Prop} :
    xB (bD P ⟨d, (.indexAddr t a b), tq, pos, after, g⟩ ans nm gt τ η) k = xB (Xa (zB P (.indexAddr t a b) (vB τ) η nm)) fun e => k ⟨d, e.v, e.wr, gt ++ nD (Op.operands (.indexAddr t a b)).toList, e.rd, none⟩ := tE rfl
theorem zd5 {P : Program} {η : fB} {nm : Nat} {d : Option Tmp} {tq : TypeId} {pos : String} {after : Array Edge} {g : Option (Nat × Bool)} {ans : Option (AV × List oA)} {gt : List Nat} {τ : Nat → AV} {k : SE → Prop} :
    xB (bD P ⟨d, (.index t a b), tq, pos, after, g⟩ ans nm gt τ η) k = xB (Xa (zB P (.index t a b) (vB τ) η nm)) fun e => k ⟨d, e.v, e.wr, gt ++ nD (Op.operands (.index t a b)).toList, e.rd, none⟩ := tE rfl
theorem zjq {P : Program} {η : fB} {nm : Nat} {d : Option Tmp} {tq : TypeId} {pos : String} {after : Array Edge} {g : Option (Nat × Bool)} {ans : Option (AV × List oA)} {gt : List Nat} {τ : Nat → AV} {k : SE → Prop} :
    xB (bD P ⟨d, (.extract a n), tq, pos, after, g⟩ ans nm gt τ η) k = xB (Xa (zB P (.extract a n) (vB τ) η nm)) fun e => k ⟨d, e.v, e.wr, gt ++ nD (Op.operands (.extract a n)).toList, e.rd, none⟩ := tE rfl
theorem H_bi {P : Program} {η : fB} {nm : Nat} {d : Option Tmp} {tq : TypeId} {pos : String} {after : Array Edge} {g : Option (Nat × Bool)} {ans : Option (AV × List oA)} {gt : List Nat} {τ : Nat → AV} {k : SE → Prop} :
    xB (bD P ⟨d, (.call { callee := .builtin bi, args := ar, argTypes := ts }), tq, pos, after, g⟩ ans nm gt τ η) k = xB (Xa (zB P (.call { callee := .builtin bi, args := ar, argTypes := ts }) (vB τ) η nm)) fun e => k ⟨d, e.v, e.wr, gt ++ nD (Op.operands (.call { callee := .builtin bi, args := ar, argTypes := ts })).toList, e.rd, none⟩ := tE rfl
theorem eval_t {τ : Nat → AV} {t : Nat} : vB τ (.tmp t) = τ t := rfl
theorem eval_c {τ : Nat → AV} {v : Value} : vB τ (.const v) = kL v := rfl
theorem eval_f {τ : Nat → AV} {f : FuncId} : vB τ (.func f) = .fn f [] [] := rfl
theorem zke {k : IntKind} {n : Int} : kL (.int k n) = .int k n := rfl
theorem ziT {b : Bool} : kL (.bool b) = .bool b := rfl
theorem zgG {s : ByteArray} : kL (.string s) = .str s.data.toList := rfl
theorem zmt : kL (.slice none 0 0) = .nils := rfl
theorem zk3 : kL (.pointer none) = .nilp := rfl
theorem zfE : kL .nilFunc = .nilf := rfl
theorem zhI {k : IntKind} {n : Int} : (AV.int k n).cells = some [.int k n] := rfl
theorem zhv {b : Bool} : (AV.bool b).cells = some [.bool b] := rfl
theorem zkO {s : List UInt8} : (AV.str s).cells = some [.str s] := rfl
theorem zmd {cs : List AV} : (AV.agg cs).cells = some cs := rfl
theorem zeo : AV.nils.cells = some [.nils] := rfl
theorem ze7 : AV.nilp.cells = some [.nilp] := rfl
theorem zgX : AV.nilf.cells = some [.nilf] := rfl
theorem zmB {z : Nat} {es : List (List AV)} : (AV.psl z es).cells = some [.psl z es] := rfl
theorem ze6 {b g z o l : Nat} : (AV.sl b g z o l).cells = some [.sl b g z o l] := rfl
theorem zgl {b g i j : Nat} : (AV.ref b g i j).cells = some [.ref b g i j] := rfl
theorem zhq {cs : List AV} : (AV.pp cs).cells = some [.pp cs] := rfl
theorem zf3 {f : FuncId} {a c : List AV} : (AV.fn f a c).cells = some [.fn f a c] := rfl
theorem zgy {fr : List (Nat × AV)} {d : Nat} {v : AV} : pG fr (some d) v = (d, v) :: fr := rfl
theorem zgT {fr : List (Nat × AV)} {v : AV} : pG fr none v = fr := rfl
theorem zeN {nt : Nat} {op : Op} {pos : String} {after : Array Edge} {g : Option (Nat × Bool)} : aG nt ⟨none, op, ty, pos, after, g⟩ = true := rfl
theorem zjo {nt d : Nat} {op : Op} {pos : String} {after : Array Edge} {g : Option (Nat × Bool)} : aG nt ⟨some d, op, ty, pos, after, g⟩ = decide (d < nt) := rfl
theorem zmM {P : Program} {d : Option Nat} {v : AV} {wr : List (Nat × oA)} {rt rb : List Nat} : nT P ⟨d, v, wr, rt, rb, none⟩ = True := rfl
theorem zkI {P : Program} {d : Option Nat} {v : AV} {wr : List (Nat × oA)} {rt rb : List Nat} {o : Obl} : nT P ⟨d, v, wr, rt, rb, some o⟩ = bB P o.f o.args o.r o.blks := rfl
end
section
variable {P : Program} {t : TypeId} {k : IntKind} {a b : Int} {x y : List UInt8}
theorem I_add : vC P .add t (.int k a) (.int k b) = some (.int k (k.wrap (a + b))) := by simp [vC]
theorem I_sub : vC P .sub t (.int k a) (.int k b) = some (.int k (k.wrap (a - b))) := by simp [vC]
theorem I_mul : vC P .mul t (.int k a) (.int k b) = some (.int k (k.wrap (a * b))) := by simp [vC]
theorem I_quo : vC P .quo t (.int k a) (.int k b) = lC (b ≠ 0) (some (.int k (k.wrap (a.tdiv b)))) := by by_cases h : b = 0 <;> simp [vC, lC, h]
theorem I_rem : vC P .rem t (.int k a) (.int k b) = lC (b ≠ 0) (some (.int k (a.tmod b))) := by by_cases h : b = 0 <;> simp [vC, lC, h]
theorem I_shl : vC P .shl t (.int k a) (.int k b) = lC (0 ≤ b) (some (.int k (k.wrap (a * 2 ^ (min b.toNat k.bits))))) := by by_cases h : b < 0 <;> simp [vC, lC, h]
theorem I_eql : vC P .eql t (.int k a) (.int k b) = some (.bool (decide (a = b))) := by simp only [vC, if_true]; rfl
theorem I_neq : vC P .neq t (.int k a) (.int k b) = some (.bool (!decide (a = b))) := by simp only [vC, if_true]; rfl
theorem I_lss : vC P .lss t (.int k a) (.int k b) = some (.bool (decide (a < b))) := by simp [vC]
theorem I_leq : vC P .leq t (.int k a) (.int k b) = some (.bool (decide (a ≤ b))) := by simp [vC]
theorem I_gtr : vC P .gtr t (.int k a) (.int k b) = some (.bool (decide (b < a))) := by simp [vC]
theorem I_geq : vC P .geq t (.int k a) (.int k b) = some (.bool (decide (b ≤ a))) := by simp [vC]
theorem C_eql : vC P .eql t (.str x) (.str y) = some (.bool (x == y)) := rfl
theorem C_neq : vC P .neq t (.str x) (.str y) = some (.bool (!(x == y))) := rfl
theorem C_lss : vC P .lss t (.str x) (.str y) = some (.bool (Op.bytesLess x y)) := rfl
theorem C_leq : vC P .leq t (.str x) (.str y) = some (.bool (Op.bytesLess x y || x == y)) := rfl
theorem C_gtr : vC P .gtr t (.str x) (.str y) = some (.bool (!(Op.bytesLess x y || x == y))) := rfl
theorem C_geq : vC P .geq t (.str x) (.str y) = some (.bool (!(Op.bytesLess x y))) := rfl
end
section
variable {η : fB} {d : Nat}
theorem zd8 {k : IntKind} {n : Int} : yB η (d + 1) (.int k n) = some (.int k n, []) := rfl
theorem zhm {s : List UInt8} : yB η (d + 1) (.str s) = some (.str s, []) := rfl
theorem zj1 {b : Bool} : yB η (d + 1) (.bool b) = some (.bool b, []) := rfl
theorem pur_pp {cs : List AV} : yB η (d + 1) (.pp cs) = some (.pp cs, []) := rfl
theorem zkW {z : Nat} {es : List (List AV)} : yB η (d + 1) (.psl z es) = some (.psl z es, []) := rfl
theorem zhH : yB η (d + 1) .nils = some (.nils, []) := rfl
theorem zm5 : yB η (d + 1) .nilp = some (.nilp, []) := rfl
theorem zkQ : yB η (d + 1) .nilf = some (.nilf, []) := rfl
theorem zee {cs : List AV} : yB η (d + 1) (.agg cs) = Bd (Xa (yB.purs η d cs)) fun p => some (.agg p.1, p.2) := by
  simp only [yB]; cases yB.purs η d cs <;> rfl
theorem pur_fn {f : FuncId} {a c : List AV} : yB η (d + 1) (.fn f a c) = Bd (Xa (yB.purs η d a)) fun p => Bd (Xa (yB.purs η d c)) fun q => some (.fn f p.1 q.1, p.2 ++ q.2) := by
  simp only [yB]; cases yB.purs η d a <;> cases yB.purs η d c <;> rfl
theorem pur_sl {b g z off len : Nat} : yB η (d + 1) (.sl b g z off len) = Bd (Xa (η b)) fun blk => lC (blk.sz = z ∧ blk.g = g ∧ off + len ≤ blk.es.length) (if blk.pure = true then some (.psl blk.sz ((blk.es.drop off).take len), [b]) else Bd (Xa (kH (yB.purs η d) ((blk.es.drop off).take len))) fun p => some (.psl blk.sz p.1, b :: p.2)) := by
  simp only [yB]
  cases η b with
  | none => rfl
  | some blk => simp only [Bd, Xa, lC]; split
                · split
                  · rfl
                  · cases kH (yB.purs η d) ((blk.es.drop off).take len) <;> rfl
                · rfl
theorem zjB : yB.purs η (d + 1) [] = some ([], []) := rfl
theorem zmx {v : AV} {vs : List AV} : yB.purs η (d + 1) (v :: vs) = Bd (Xa (yB η d v)) fun p => Bd (Xa (yB.purs η d vs)) fun q => some (p.1 :: q.1, p.2 ++ q.2) := by
  simp only [yB.purs]; cases yB η d v <;> cases yB.purs η d vs <;> rfl
end
end Go.AM
