/- A text of the proof. -/
import Derived.Test.YtnlggkiekcpahaaBAmX
set_option linter.unusedSimpArgs false
set_option linter.unusedVariables false
namespace Go.AM
open Go Go.RowKit
def Bd {α β : Type} (x : Option α) (f : α → Option β) : Option β := match x with | some a => f a | none => none
@[congr] theorem Bd_congr {α β : Type} {x y : Option α} {f : α → Option β} (h : x = y) : Bd x f = Bd y f := by rw [h]
theorem zhz {α β : Type} (a : α) (f : α → Option β) : Bd (some a) f = f a := rfl
theorem zoe {α β : Type} (f : α → Option β) : Bd none f = none := rfl
def sC {α : Type} (c : Prop) [Decidable c] (x : Option α) : Option α := if c then x else none
@[congr] theorem IfO_congr {α : Type} {c : Prop} [Decidable c] {x : Option α} : sC c x = sC c x := rfl
theorem Bd_IfO {α β : Type} (c : Prop) [Decidable c] (x : Option α) (f : α → Option β) : Bd (sC c x) f = sC c (Bd x f) := by
  unfold sC; split <;> rfl
theorem zgC {α : Type} (c : Prop) [Decidable c] (x : Option α) (k : α → Prop) : aC (sC c x) k = (c ∧ aC (Xa x) k) := zjh c x k
theorem zlQ {α β : Type} (x : Option α) (f : α → Option β) (k : β → Prop) : aC (Bd x f) k = aC (Xa x) fun a => aC (Xa (f a)) k := by cases x <;> rfl
def zbK : AV → Option Bool | .bool b => some b | _ => none
theorem zjc (b : Bool) : zbK (.bool b) = some b := rfl
section
variable {P : Program} {ρ : Operand → AV} {η : aB} {nm : Nat}
theorem fF {d : Option Tmp} {op : Op} {ty : TypeId} {pos : String} {after : Array Edge} {g : Option (Nat × Bool)} {ans : Option (AV × List lA)} {gt : List Nat} {τ : Nat → AV} {k : SE → Prop} (h : sL op = none) (h2 : oR P op τ = none := by rfl) :
    aC (lD P ⟨d, op, ty, pos, after, g⟩ ans nm gt τ η) k = aC (Xa (bC P op (xB τ) η nm)) fun e => k ⟨d, e.v, e.wr, gt ++ yD op.operands.toList, e.rd, none⟩ := by
  simp only [lD, h, h2]
  cases bC P op (xB τ) η nm <;> rfl
theorem H_call {d : Option Tmp} {f : Operand} {args : Array Operand} {ats : Array TypeId} {ty : TypeId} {pos : String} {after : Array Edge} {g : Option (Nat × Bool)} {ans : Option (AV × List lA)} {gt : List Nat} {τ : Nat → AV} {k : SE → Prop} :
    aC (lD P ⟨d, .call { callee := .value f, args := args, argTypes := ats }, ty, pos, after, g⟩ ans nm gt τ η) k =
      aC (Bd ans fun a => aK η nm (xB τ f) (args.toList.map (xB τ)) a) fun r => k ⟨d, r.1.v, r.1.wr, gt ++ yD (f :: args.toList), r.1.rd, some r.2⟩ := by
  simp only [lD, sL]
  cases ans with
  | none => rfl
  | some a => simp only [Bd, Xa]; cases aK η nm (xB τ f) (args.toList.map (xB τ)) a <;> rfl
theorem zmw {t : TypeId} {x : AV} {name : String} : lT P (.iface t x) name = Bd (Xa (sS P t name)) fun f => some (f, x) := by
  simp only [lT]; cases sS P t name <;> rfl
theorem zk1 {d : Option Tmp} {rcv : Operand} {name : String} {args : Array Operand} {ats : Array TypeId} {ty : TypeId} {pos : String} {after : Array Edge} {g : Option (Nat × Bool)} {ans : Option (AV × List lA)} {gt : List Nat} {τ : Nat → AV} {k : SE → Prop} :
    aC (lD P ⟨d, .call { callee := .invoke rcv name, args := args, argTypes := ats }, ty, pos, after, g⟩ ans nm gt τ η) k =
      aC (Bd (Xa (lT P (xB τ rcv) name)) fun p => Bd ans fun a => aK η nm (.fn p.1 [] []) (p.2 :: args.toList.map (xB τ)) a) fun r => k ⟨d, r.1.v, r.1.wr, gt ++ yD (rcv :: args.toList), r.1.rd, some r.2⟩ := by
  have hops : (Op.call { callee := .invoke rcv name, args := args, argTypes := ats }).operands.toList = rcv :: args.toList := by simp [Op.operands, Call.operands]
  simp only [lD, sL, oR, hops]
  cases lT P (xB τ rcv) name with
  | none => cases ans <;> rfl
  | some p =>
    cases ans with
    | none => rfl
    | some a => simp only [Bd, Xa]; cases aK η nm (.fn p.1 [] []) (p.2 :: args.toList.map (xB τ)) a <;> rfl
theorem zlo {fid : FuncId} {first cap args : List AV} {ans : AV × List lA} : aK η nm (.fn fid first cap) args ans =
    Bd (zB.purs η 60 (first ++ args ++ cap)) fun p => sC (ans.2.length ≤ 8) (some (⟨ans.1.shift nm, (if p.2.isEmpty || (ans.1.flatR && ans.2.all lA.flat) then [] else yG η p.2) ++ jO nm 0 ans.2, p.2⟩, ⟨fid, p.1, ans.1, ans.2⟩)) := by
  simp only [aK]
  cases zB.purs η 60 (first ++ args ++ cap) <;> rfl
theorem S_move {x : Operand} : bC P (.move x) ρ η nm = some ⟨ρ x, [], []⟩ := rfl
theorem zgA {x : Operand} : bC P (.assign x) ρ η nm = some ⟨ρ x, [], []⟩ := rfl
theorem S_pick {c a b : Operand} : bC P (.pick c a b) ρ η nm = Bd (Xa (zbK (ρ c))) fun t => some ⟨if t then ρ a else ρ b, [], []⟩ := by
  simp only [bC]; cases ρ c <;> rfl
theorem znp {t : TypeId} : bC P (.alloc t) ρ η nm = Bd (Xa (nB P t)) fun n => Bd (Xa (tC P t)) fun z => sC (z.length = n) (some ⟨.ref nm 0 0 0, [(nm, { g := 0, own := true, pure := AV.isP.isPs z, sz := n, es := [z] })], []⟩) := by
  simp only [bC]; cases nB P t <;> cases tC P t <;> rfl
theorem S_mkif {t : TypeId} {x : Operand} : bC P (.makeInterface t x) ρ η nm = sC (nN P t = true) (some ⟨.iface t (ρ x), [], []⟩) := by
  simp only [bC, sC]
def cL (P : Program) (t : TypeId) (v : AV) : Option AV := match v with
  | .iface u x => if u = t then some (.tup [x, .bool true]) else (tI P t).map fun z => .tup [z, .bool false]
  | .nili => (tI P t).map fun z => .tup [z, .bool false]
  | _ => none
theorem zgI {x : Operand} {xt t : TypeId} : bC P (.typeAssert x xt t true) ρ η nm = sC (nN P t = true) (Bd (Xa (cL P t (ρ x))) fun v => some ⟨v, [], []⟩) := by
  simp only [bC, sC, cL, Bool.true_and]
  split
  · cases ρ x <;> try rfl
    case iface u v =>
      simp only [Bd, Xa]
      by_cases e : u = t
      · simp only [if_pos e]
      · simp only [if_neg e]; cases tI P t <;> rfl
    case nili => simp only [Bd, Xa]; cases tI P t <;> rfl
  · rfl
theorem zjI {t : TypeId} {x : AV} : cL P t (.iface t x) = some (.tup [x, .bool true]) := by simp [cL]
theorem zn1 {u t : TypeId} {x : AV} (h : (u == t) = false) : cL P t (.iface u x) = Bd (Xa (tI P t)) fun z => some (.tup [z, .bool false]) := by
  have : u ≠ t := by simpa using h
  simp only [cL, if_neg this]; cases tI P t <;> rfl
theorem zm3 {t : TypeId} : cL P t .nili = Bd (Xa (tI P t)) fun z => some (.tup [z, .bool false]) := by
  simp only [cL]; cases tI P t <;> rfl
theorem S_box {t : TypeId} {x : Operand} : bC P (.box t x) ρ η nm = Bd (Xa ((ρ x).cells)) fun cs => some ⟨.ref nm 0 0 0, [(nm, { g := 0, own := true, pure := AV.isP.isPs cs, sz := cs.length, es := [cs] })], []⟩ := by
  simp only [bC]; cases (ρ x).cells <;> rfl
theorem zlV {t : TypeId} {parts : Array (Nat × Operand)} : bC P (.build t parts) ρ η nm = Bd (Xa (uG P t)) fun pl => Bd (Xa (tC P t)) fun z => Bd (Xa (tJ (fun i => pl[i]?) z (parts.toList.map fun p => (p.1, ρ p.2)))) fun cs => some ⟨.agg cs, [], []⟩ := by
  simp only [bC, dX]
  cases uG P t with
  | none => cases tC P t <;> rfl
  | some pl => cases tC P t with
    | none => rfl
    | some z => simp only [Bd, Xa]; cases tJ (fun i => pl[i]?) z (parts.toList.map fun p => (p.1, ρ p.2)) <;> rfl
theorem zna {place : Nat → Option (Nat × Nat)} {cs : List AV} : tJ place cs [] = some cs := rfl
theorem zgD {place : Nat → Option (Nat × Nat)} {cs : List AV} {i : Nat} {v : AV} {zA : List (Nat × AV)} :
    tJ place cs ((i, v) :: zA) = Bd (Xa (place i)) fun p => Bd (Xa (v.cells)) fun vs => sC (vs.length = p.2 ∧ p.1 + p.2 ≤ cs.length) (tJ place (cs.take p.1 ++ vs ++ cs.drop (p.1 + p.2)) zA) := by
  simp only [tJ]; cases place i <;> cases v.cells <;> rfl
theorem zkn {t : TypeId} {len : Nat} {parts : Array (Nat × Operand)} : bC P (.buildSlice t len parts) ρ η nm = Bd (Xa (dD P t)) fun e => Bd (Xa (nB P e)) fun sz => Bd (Xa (tC P e)) fun z => sC (len * sz ≤ 2 ^ 24 ∧ z.length = sz ∧ 0 < sz) (Bd (Xa (tK (List.replicate len z) (parts.toList.map fun p => (p.1, ρ p.2)) sz)) fun es =>
    some ⟨.sl nm 0 sz 0 len, [(nm, { g := 0, own := true, pure := es.all AV.isP.isPs, sz := sz, es := es })], []⟩) := by
  simp only [bC, xX]
  cases dD P t with
  | none => rfl
  | some e => simp only [Bd, Xa]; cases nB P e with
    | none => cases tC P e <;> rfl
    | some sz => cases tC P e with
      | none => rfl
      | some z => simp only [sC, Xa]; split
                  · cases tK (List.replicate len z) (parts.toList.map fun p => (p.1, ρ p.2)) sz <;> rfl
                  · rfl
theorem zmm {es : List (List AV)} {n : Nat} : tK es [] n = some es := rfl
theorem ziI {es : List (List AV)} {n i : Nat} {v : AV} {zA : List (Nat × AV)} : tK es ((i, v) :: zA) n = Bd (Xa (v.cells)) fun cs => sC (cs.length = n ∧ i < es.length) (tK (es.set i cs) zA n) := by
  simp only [tK]; cases v.cells <;> rfl
def jM (ag : Bool) (n : Nat) (a : AV) (η : aB) : Option (AV × List Nat) := match a with
  | .ref b g i j => match eH η b g i with
    | some e => if j + n ≤ e.length then (AV.ofCells ag ((e.drop j).take n)).map fun v => (v, [b]) else none
    | none => none
  | .pp cs => if n ≤ cs.length then (AV.ofCells ag (cs.take n)).map fun v => (v, []) else none
  | _ => none
theorem S_load {t : TypeId} {a : Operand} : bC P (.load t a) ρ η nm = Bd (Xa (rD P t)) fun ag => Bd (Xa (nB P t)) fun n => Bd (Xa (jM ag n (ρ a) η)) fun r => some ⟨r.1, [], r.2⟩ := by
  simp only [bC, fM]
  cases rD P t with
  | none => rfl
  | some ag => cases nB P t with
    | none => rfl
    | some n => show Option.map _ (jM ag n (ρ a) η) = _; simp only [Bd, Xa]; cases jM ag n (ρ a) η <;> rfl
theorem zjn {ag : Bool} {n b g i j : Nat} : jM ag n (.ref b g i j) η = Bd (Xa (eH η b g i)) fun e => sC (j + n ≤ e.length) (Bd (Xa (AV.ofCells ag ((e.drop j).take n))) fun v => some (v, [b])) := by
  simp only [jM]; cases eH η b g i with
  | none => rfl
  | some e => simp only [Bd, Xa, sC]; split
              · cases AV.ofCells ag ((e.drop j).take n) <;> rfl
              · rfl
theorem zlR {ag : Bool} {n : Nat} {cs : List AV} : jM ag n (.pp cs) η = sC (n ≤ cs.length) (Bd (AV.ofCells ag (cs.take n)) fun v => some (v, [])) := by
  simp only [jM, sC]; split
  · cases AV.ofCells ag (cs.take n) <;> rfl
  · rfl
theorem ziv {cs : List AV} : AV.ofCells true cs = some (.agg cs) := rfl
theorem zkC {c : AV} : AV.ofCells false [c] = some c := rfl
theorem zov {b g i : Nat} : eH η b g i = Bd (Xa (η b)) fun blk => sC (blk.g = g) (blk.es[i]?) := by
  simp only [eH]; cases η b <;> rfl
theorem zma {t : TypeId} {a x : Operand} : bC P (.store t a x) ρ η nm = Bd (Xa (iN P t (ρ a) (ρ x) η)) fun r => some ⟨.tup [], [r], [r.1]⟩ := by
  simp only [bC]; cases iN P t (ρ a) (ρ x) η <;> rfl
theorem zjB {t : TypeId} {b g i j : Nat} {v : AV} : iN P t (.ref b g i j) v η = Bd (Xa (nB P t)) fun n => Bd (Xa (v.cells)) fun cs => Bd (Xa (η b)) fun blk => sC (blk.g = g ∧ blk.own = true ∧ cs.length = n) (Bd (Xa (blk.es[i]?)) fun e => sC (j + n ≤ e.length)
    (some (b, { blk with es := blk.es.set i (e.take j ++ cs ++ e.drop (j + n)), pure := blk.pure && AV.isP.isPs cs }))) := by
  simp only [iN]
  cases nB P t with
  | none => rfl
  | some n => cases v.cells with
    | none => rfl
    | some cs => simp only [Bd, Xa]; cases η b with
      | none => rfl
      | some blk => simp only [sC, Xa]; split
                    · cases blk.es[i]? <;> rfl
                    · rfl
theorem zmA {x : Operand} : bC P (.nilCheck x) ρ η nm = Bd (match ρ x with | .ref b g i j => some (AV.ref b g i j) | .pp cs => some (.pp cs) | .fn f a c => some (.fn f a c) | _ => none) fun v => some ⟨v, [], []⟩ := by
  simp only [bC]; cases ρ x <;> rfl
theorem S_bin {op : BinOp} {t yt : TypeId} {x y : Operand} : bC P (.binOp op t x y yt) ρ η nm = Bd (Xa (zC P op t (ρ x) (ρ y))) fun v => some ⟨v, [], []⟩ := by
  simp only [bC]; cases zC P op t (ρ x) (ρ y) <;> rfl
theorem S_un {op : UnOp} {t : TypeId} {x : Operand} : bC P (.unOp op t x) ρ η nm = Bd (Xa (aUn op (ρ x))) fun v => some ⟨v, [], []⟩ := by
  simp only [bC]; cases aUn op (ρ x) <;> rfl
theorem S_conv {s d : TypeId} {x : Operand} : bC P (.convert s d x) ρ η nm = Bd (Xa (nS P s d (ρ x))) fun v => some ⟨v, [], []⟩ := by
  simp only [bC]; cases nS P s d (ρ x) <;> rfl
theorem znt {b : Bool} : aUn .not (.bool b) = some (.bool !b) := rfl
theorem zlN {k : IntKind} {n : Int} : aUn .neg (.int k n) = some (.int k (k.wrap (0 - n))) := rfl
theorem zft {f : FuncId} {first cap : Array Operand} : bC P (.makeFunc (.func f) first cap) ρ η nm = some ⟨.fn f (first.toList.map ρ) (cap.toList.map ρ), [], []⟩ := rfl
theorem zja {t : TypeId} {l c : Operand} : bC P (.makeSlice t l c) ρ η nm = Bd (Xa (tQ P t (ρ l) (ρ c) nm)) fun r => some ⟨r.1, [r.2], []⟩ := by
  simp only [bC]; cases tQ P t (ρ l) (ρ c) nm <;> rfl
theorem znX {t : TypeId} {k k' : IntKind} {l c : Int} : tQ P t (.int k l) (.int k' c) nm = Bd (Xa (dD P t)) fun e => Bd (Xa (nB P e)) fun sz => Bd (Xa (mD P e)) fun bs => Bd (Xa (tC P e)) fun z => sC (0 ≤ l ∧ l ≤ c ∧ c ≤ IntKind.i64.max ∧ (bs : Int) * c ≤ 2 ^ 48 ∧ z.length = sz ∧ 0 < sz)
    (some (.sl nm 0 sz 0 l.toNat, (nm, { g := 0, own := true, pure := true, sz := sz, es := List.replicate l.toNat z }))) := by
  simp only [tQ]
  cases dD P t with
  | none => rfl
  | some e => simp only [Bd, Xa]; cases nB P e with
    | none => rfl
    | some sz => cases mD P e with
      | none => rfl
      | some bs => cases tC P e <;> rfl
theorem zmF {t : TypeId} {x : Operand} {lo hi mx : Option Operand} : bC P (.slice t x lo hi mx) ρ η nm = Bd (Xa (fL P t (ρ x) (lo.map ρ) (hi.map ρ) (mx.map ρ))) fun v => some ⟨v, [], []⟩ := by
  simp only [bC]; cases fL P t (ρ x) (lo.map ρ) (hi.map ρ) (mx.map ρ) <;> rfl
theorem znh {t : TypeId} {x : Operand} {f : Nat} : bC P (.fieldAddr t x f) ρ η nm = Bd (Xa (jD P t f)) fun p => Bd (match ρ x with | .ref b g i j => some (AV.ref b g i (j + p.1)) | .pp cs => sC (p.1 ≤ cs.length) (some (.pp (cs.drop p.1))) | _ => none) fun v => some ⟨v, [], []⟩ := by
  simp only [bC, tX]
  cases jD P t f with
  | none => rfl
  | some p => simp only [Bd, Xa]; cases ρ x <;> first | rfl | (simp only [sC, Xa]; split <;> rfl)
theorem zjk {t : TypeId} {x : Operand} {f : Nat} : bC P (.field t x f) ρ η nm = Bd (Xa (jD P t f)) fun p => Bd (match ρ x with | .agg cs => uL P p.2 cs p.1 | _ => none) fun v => some ⟨v, [], []⟩ := by
  simp only [bC]
  cases jD P t f with
  | none => rfl
  | some p => cases ρ x <;> first | rfl | (rename_i cs; simp only [Bd, Xa]; cases uL P p.2 cs p.1 <;> rfl)
theorem zlv {t : TypeId} {cs : List AV} {off : Nat} : uL P t cs off = Bd (Xa (rD P t)) fun ag => Bd (Xa (nB P t)) fun n => if ag then some (.agg ((cs.drop off).take n)) else cs[off]? := by
  simp only [uL]
  cases rD P t with
  | none => rfl
  | some ag => cases nB P t with
    | none => cases ag <;> rfl
    | some n => cases ag <;> rfl
theorem zgW {t : TypeId} {x i : Operand} : bC P (.indexAddr t x i) ρ η nm = Bd (Xa (nJ P t (ρ x) (ρ i))) fun v => some ⟨v, [], []⟩ := by
  simp only [bC]; cases nJ P t (ρ x) (ρ i) <;> rfl
theorem zhm {t : TypeId} {b g z off len : Nat} {k : IntKind} {n : Int} : nJ P t (.sl b g z off len) (.int k n) = Bd (Xa (dD P t)) fun e => Bd (Xa (nB P e)) fun sz => sC (z = sz ∧ 0 ≤ n ∧ n < len) (some (.ref b g (off + n.toNat) 0)) := by
  simp only [nJ]
  cases dD P t with
  | none =>
    cases hM P t with
    | none => rfl
    | some a => obtain ⟨l, e⟩ := a; simp only [Bd, Xa]; cases nB P e <;> rfl
  | some e => simp only [Bd, Xa]; cases nB P e <;> rfl
theorem zgU {t : TypeId} {z : Nat} {es : List (List AV)} {k : IntKind} {n : Int} : nJ P t (.psl z es) (.int k n) = Bd (Xa (dD P t)) fun e => Bd (Xa (nB P e)) fun sz => sC (z = sz ∧ 0 ≤ n) (Bd (Xa (es[n.toNat]?)) fun e => some (.pp e)) := by
  simp only [nJ]
  cases dD P t with
  | none =>
    cases hM P t with
    | none => rfl
    | some a => obtain ⟨l, e⟩ := a; simp only [Bd, Xa]; cases nB P e <;> rfl
  | some e => simp only [Bd, Xa]; cases nB P e with
    | none => rfl
    | some sz => simp only [sC, Xa]; split
                 · cases es[n.toNat]? <;> rfl
                 · rfl
theorem zgh {t : TypeId} {b g i j : Nat} {k : IntKind} {n : Int} : nJ P t (.ref b g i j) (.int k n) = Bd (Xa (hM P t)) fun a => Bd (Xa (nB P a.2)) fun sz => sC (0 ≤ n ∧ n < a.1) (some (.ref b g i (j + n.toNat * sz))) := by
  simp only [nJ, dD, hM, Xa]
  cases P.underlying t with
  | none => rfl
  | some u =>
    cases u with
    | slice e => dsimp only; cases nB P e <;> rfl
    | array l e => dsimp only [Bd]; cases nB P e <;> rfl
    | _ => rfl
theorem zfa {t : TypeId} {cs : List AV} {k : IntKind} {n : Int} : nJ P t (.pp cs) (.int k n) = Bd (Xa (hM P t)) fun a => Bd (Xa (nB P a.2)) fun sz => sC (0 ≤ n ∧ n < a.1 ∧ n.toNat * sz ≤ cs.length) (some (.pp (cs.drop (n.toNat * sz)))) := by
  simp only [nJ, dD, hM, Xa]
  cases P.underlying t with
  | none => rfl
  | some u =>
    cases u with
    | slice e => dsimp only; cases nB P e <;> rfl
    | array l e => dsimp only [Bd]; cases nB P e <;> rfl
    | _ => rfl
theorem zjv {t : TypeId} {x i : Operand} : bC P (.index t x i) ρ η nm = Bd (Xa (P.underlying t)) fun u => Bd (match u, ρ x, ρ i with | .string, .str s, .int _ n => sC (0 ≤ n) (Bd (s[n.toNat]?) fun c => some (AV.int .u8 c.toNat)) | _, _, _ => none) fun v => some ⟨v, [], []⟩ := by
  simp only [bC]
  cases P.underlying t with
  | none => rfl
  | some u => cases u <;> try rfl
              cases ρ x <;> try rfl
              cases ρ i <;> try rfl
              rename_i s k n
              simp only [Bd, Xa, sC]
              split
              · cases s[n.toNat]? <;> rfl
              · rfl
theorem zld {x : Operand} {i : Nat} : bC P (.extract x i) ρ η nm = Bd (match ρ x with | .tup vs => vs[i]? | _ => none) fun v => some ⟨v, [], []⟩ := by
  simp only [bC]
  cases ρ x <;> first | rfl | (rename_i vs; simp only [Bd, Xa]; cases vs[i]? <;> rfl)
theorem S_bi {b : Builtin} {args : Array Operand} {ats : Array TypeId} : bC P (.call { callee := .builtin b, args := args, argTypes := ats }) ρ η nm = lK P b ats.toList (args.toList.map ρ) η nm := rfl
theorem B_len {t : TypeId} {x : AV} : lK P .len [t] [x] η nm = Bd (Xa (P.underlying t)) fun u => Bd (match u, x with
    | .string, .str s => some (AV.int .i64 s.length) | .slice _, .nils => some (.int .i64 0) | .slice _, .sl _ _ _ _ n => some (.int .i64 n) | .slice _, .psl _ es => some (.int .i64 es.length) | .slice _, .emp => some (.int .i64 0) | _, _ => none) fun v => some ⟨v, [], []⟩ := by
  simp only [lK, kW]
  cases P.underlying t with
  | none => rfl
  | some u => cases u <;> first | rfl | (cases x <;> rfl)
theorem ziX {t t' : TypeId} {s x : AV} : lK P .append [t, t'] [s, x] η nm = Bd (Xa (bJ P t t' s x η nm)) fun r => some ⟨r.1, [r.2.1], r.2.2⟩ := by
  simp only [lK]; cases bJ P t t' s x η nm <;> rfl
theorem B_max {ts : List TypeId} {k : IntKind} {x y : Int} : lK P .max ts [.int k x, .int k y] η nm = some ⟨.int k (if x < y then y else x), [], []⟩ := by
  simp [lK, aMax]
theorem B_min {ts : List TypeId} {k : IntKind} {x y : Int} : lK P .min ts [.int k x, .int k y] η nm = some ⟨.int k (if y < x then y else x), [], []⟩ := by
  simp [lK, aMin]
theorem zh4 {t t' : TypeId} {x : AV} : bJ P t t' .nils x η nm = Bd (Xa (dD P t)) fun e => Bd (Xa (dD P t')) fun e' => Bd (Xa (nB P e)) fun sz => Bd (Xa (mD P e)) fun bs => Bd (Xa (nB P e')) fun sz' => Bd (Xa (tC P e)) fun z => sC (sz = sz' ∧ 0 < sz ∧ 0 < bs ∧ z.length = sz)
    (Bd (pH η sz x) fun p => sC (2 * (p.1.length * bs) ≤ 2 ^ 48) (some (.sl nm 0 sz 0 p.1.length, (nm, { g := 0, own := true, pure := p.1.all AV.isP.isPs, sz := sz, es := p.1 }), p.2))) := by
  simp only [bJ]
  cases dD P t with
  | none => rfl
  | some e => cases dD P t' with
    | none => rfl
    | some e' => simp only [Bd, Xa]; cases nB P e with
      | none => rfl
      | some sz => cases mD P e with
        | none => rfl
        | some bs => cases nB P e' with
          | none => rfl
          | some sz' => cases tC P e with
            | none => rfl
            | some z => simp only [sC, Xa]; split
                        · cases pH η sz x <;> rfl
                        · rfl
theorem zjl {t t' : TypeId} {x : AV} : bJ P t t' .emp x η nm = Bd (Xa (dD P t)) fun e => Bd (Xa (dD P t')) fun e' => Bd (Xa (nB P e)) fun sz => Bd (Xa (mD P e)) fun bs => Bd (Xa (nB P e')) fun sz' => Bd (Xa (tC P e)) fun z => sC (sz = sz' ∧ 0 < sz ∧ 0 < bs ∧ z.length = sz)
    (Bd (pH η sz x) fun p => sC (2 * (p.1.length * bs) ≤ 2 ^ 48) (some (.sl nm 0 sz 0 p.1.length, (nm, { g := 0, own := true, pure := p.1.all AV.isP.isPs, sz := sz, es := p.1 }), p.2))) := by
  simp only [bJ]
  cases dD P t with
  | none => rfl
  | some e => cases dD P t' with
    | none => rfl
    | some e' => simp only [Bd, Xa]; cases nB P e with
      | none => rfl
      | some sz => cases mD P e with
        | none => rfl
        | some bs => cases nB P e' with
          | none => rfl
          | some sz' => cases tC P e with
            | none => rfl
            | some z => simp only [sC, Xa]; split
                        · cases pH η sz x <;> rfl
                        · rfl
theorem zfZ {t t' : TypeId} {b g z0 off len : Nat} {x : AV} : bJ P t t' (.sl b g z0 off len) x η nm = Bd (Xa (dD P t)) fun e => Bd (Xa (dD P t')) fun e' => Bd (Xa (nB P e)) fun sz => Bd (Xa (mD P e)) fun bs => Bd (Xa (nB P e')) fun sz' => Bd (Xa (tC P e)) fun z => sC (sz = sz' ∧ 0 < sz ∧ 0 < bs ∧ z.length = sz)
    (Bd (pH η sz x) fun p => Bd (η b) fun blk => sC (z0 = sz ∧ blk.g = g ∧ blk.sz = sz ∧ off = 0 ∧ len = blk.es.length ∧ blk.own = true ∧ 2 * ((len + p.1.length) * bs) ≤ 2 ^ 48)
      (some (.sl b (g + 1) sz 0 (len + p.1.length), (b, { blk with g := g + 1, es := blk.es ++ p.1, pure := blk.pure && p.1.all AV.isP.isPs }), b :: p.2))) := by
  simp only [bJ]
  cases dD P t with
  | none => rfl
  | some e => cases dD P t' with
    | none => rfl
    | some e' => simp only [Bd, Xa]; cases nB P e with
      | none => rfl
      | some sz => cases mD P e with
        | none => rfl
        | some bs => cases nB P e' with
          | none => rfl
          | some sz' => cases tC P e with
            | none => rfl
            | some z => simp only [sC, Xa]; split
                        · cases pH η sz x with
                          | none => rfl
                          | some p => simp only; cases η b <;> rfl
                        · rfl
theorem zlm {sz : Nat} : pH η sz .nils = some ([], []) := rfl
theorem zjG {sz : Nat} : pH η sz .emp = some ([], []) := rfl
theorem znK {sz z : Nat} {es : List (List AV)} : pH η sz (.psl z es) = sC (z = sz ∨ es = []) (some (es, [])) := rfl
theorem zge {sz b g z off len : Nat} : pH η sz (.sl b g z off len) = Bd (Xa (η b)) fun blk => sC (z = sz ∧ blk.g = g ∧ blk.sz = sz ∧ off + len ≤ blk.es.length) (some ((blk.es.drop off).take len, [b])) := by
  simp only [pH]; cases η b <;> rfl
end
section
variable {x a b c : Operand} {t ty : TypeId} {n : Nat} {pr : Array (Nat × Operand)} {bo : BinOp} {uo : UnOp} {fn : Fn} {ar br : Array Operand} {oa ob oc : Option Operand} {bi : Builtin} {ts : Array TypeId}
theorem H_move {P : Program} {η : aB} {nm : Nat} {d : Option Tmp} {tq : TypeId} {pos : String} {after : Array Edge} {g : Option (Nat × Bool)} {ans : Option (AV × List lA)} {gt : List Nat} {τ : Nat → AV} {k : SE → Prop} :
    aC (lD P ⟨d, (.move x), tq, pos, after, g⟩ ans nm gt τ η) k = aC (Xa (bC P (.move x) (xB τ) η nm)) fun e => k ⟨d, e.v, e.wr, gt ++ yD (Op.operands (.move x)).toList, e.rd, none⟩ := fF rfl
theorem H_mkif {P : Program} {η : aB} {nm : Nat} {d : Option Tmp} {tq : TypeId} {pos : String} {after : Array Edge} {g : Option (Nat × Bool)} {ans : Option (AV × List lA)} {gt : List Nat} {τ : Nat → AV} {k : SE → Prop} :
    aC (lD P ⟨d, (.makeInterface t x), tq, pos, after, g⟩ ans nm gt τ η) k = aC (Xa (bC P (.makeInterface t x) (xB τ) η nm)) fun e => k ⟨d, e.v, e.wr, gt ++ yD (Op.operands (.makeInterface t x)).toList, e.rd, none⟩ := fF rfl
theorem zh9 {xt : TypeId} {ok : Bool} {P : Program} {η : aB} {nm : Nat} {d : Option Tmp} {tq : TypeId} {pos : String} {after : Array Edge} {g : Option (Nat × Bool)} {ans : Option (AV × List lA)} {gt : List Nat} {τ : Nat → AV} {k : SE → Prop} :
    aC (lD P ⟨d, (.typeAssert x xt t ok), tq, pos, after, g⟩ ans nm gt τ η) k = aC (Xa (bC P (.typeAssert x xt t ok) (xB τ) η nm)) fun e => k ⟨d, e.v, e.wr, gt ++ yD (Op.operands (.typeAssert x xt t ok)).toList, e.rd, none⟩ := fF rfl
theorem zlY {P : Program} {η : aB} {nm : Nat} {d : Option Tmp} {tq : TypeId} {pos : String} {after : Array Edge} {g : Option (Nat × Bool)} {ans : Option (AV × List lA)} {gt : List Nat} {τ : Nat → AV} {k : SE → Prop} :
    aC (lD P ⟨d, (.assign x), tq, pos, after, g⟩ ans nm gt τ η) k = aC (Xa (bC P (.assign x) (xB τ) η nm)) fun e => k ⟨d, e.v, e.wr, gt ++ yD (Op.operands (.assign x)).toList, e.rd, none⟩ := fF rfl
theorem H_pick {P : Program} {η : aB} {nm : Nat} {d : Option Tmp} {tq : TypeId} {pos : String} {after : Array Edge} {g : Option (Nat × Bool)} {ans : Option (AV × List lA)} {gt : List Nat} {τ : Nat → AV} {k : SE → Prop} :
    aC (lD P ⟨d, (.pick c a b), tq, pos, after, g⟩ ans nm gt τ η) k = aC (Xa (bC P (.pick c a b) (xB τ) η nm)) fun e => k ⟨d, e.v, e.wr, gt ++ yD (Op.operands (.pick c a b)).toList, e.rd, none⟩ := fF rfl
theorem znJ {P : Program} {η : aB} {nm : Nat} {d : Option Tmp} {tq : TypeId} {pos : String} {after : Array Edge} {g : Option (Nat × Bool)} {ans : Option (AV × List lA)} {gt : List Nat} {τ : Nat → AV} {k : SE → Prop} :
    aC (lD P ⟨d, (.alloc t), tq, pos, after, g⟩ ans nm gt τ η) k = aC (Xa (bC P (.alloc t) (xB τ) η nm)) fun e => k ⟨d, e.v, e.wr, gt ++ yD (Op.operands (.alloc t)).toList, e.rd, none⟩ := fF rfl
theorem H_box {P : Program} {η : aB} {nm : Nat} {d : Option Tmp} {tq : TypeId} {pos : String} {after : Array Edge} {g : Option (Nat × Bool)} {ans : Option (AV × List lA)} {gt : List Nat} {τ : Nat → AV} {k : SE → Prop} :
    aC (lD P ⟨d, (.box t x), tq, pos, after, g⟩ ans nm gt τ η) k = aC (Xa (bC P (.box t x) (xB τ) η nm)) fun e => k ⟨d, e.v, e.wr, gt ++ yD (Op.operands (.box t x)).toList, e.rd, none⟩ := fF rfl
theorem ziE {P : Program} {η : aB} {nm : Nat} {d : Option Tmp} {tq : TypeId} {pos : String} {after : Array Edge} {g : Option (Nat × Bool)} {ans : Option (AV × List lA)} {gt : List Nat} {τ : Nat → AV} {k : SE → Prop} :
    aC (lD P ⟨d, (.build t pr), tq, pos, after, g⟩ ans nm gt τ η) k = aC (Xa (bC P (.build t pr) (xB τ) η nm)) fun e => k ⟨d, e.v, e.wr, gt ++ yD (Op.operands (.build t pr)).toList, e.rd, none⟩ := fF rfl
theorem zm6 {P : Program} {η : aB} {nm : Nat} {d : Option Tmp} {tq : TypeId} {pos : String} {after : Array Edge} {g : Option (Nat × Bool)} {ans : Option (AV × List lA)} {gt : List Nat} {τ : Nat → AV} {k : SE → Prop} :
    aC (lD P ⟨d, (.buildSlice t n pr), tq, pos, after, g⟩ ans nm gt τ η) k = aC (Xa (bC P (.buildSlice t n pr) (xB τ) η nm)) fun e => k ⟨d, e.v, e.wr, gt ++ yD (Op.operands (.buildSlice t n pr)).toList, e.rd, none⟩ := fF rfl
theorem H_load {P : Program} {η : aB} {nm : Nat} {d : Option Tmp} {tq : TypeId} {pos : String} {after : Array Edge} {g : Option (Nat × Bool)} {ans : Option (AV × List lA)} {gt : List Nat} {τ : Nat → AV} {k : SE → Prop} :
    aC (lD P ⟨d, (.load t a), tq, pos, after, g⟩ ans nm gt τ η) k = aC (Xa (bC P (.load t a) (xB τ) η nm)) fun e => k ⟨d, e.v, e.wr, gt ++ yD (Op.operands (.load t a)).toList, e.rd, none⟩ := fF rfl
theorem zkH {P : Program} {η : aB} {nm : Nat} {d : Option Tmp} {tq : TypeId} {pos : String} {after : Array Edge} {g : Option (Nat × Bool)} {ans : Option (AV × List lA)} {gt : List Nat} {τ : Nat → AV} {k : SE → Prop} :
    aC (lD P ⟨d, (.store t a b), tq, pos, after, g⟩ ans nm gt τ η) k = aC (Xa (bC P (.store t a b) (xB τ) η nm)) fun e => k ⟨d, e.v, e.wr, gt ++ yD (Op.operands (.store t a b)).toList, e.rd, none⟩ := fF rfl
theorem zg6 {P : Program} {η : aB} {nm : Nat} {d : Option Tmp} {tq : TypeId} {pos : String} {after : Array Edge} {g : Option (Nat × Bool)} {ans : Option (AV × List lA)} {gt : List Nat} {τ : Nat → AV} {k : SE → Prop} :
    aC (lD P ⟨d, (.nilCheck x), tq, pos, after, g⟩ ans nm gt τ η) k = aC (Xa (bC P (.nilCheck x) (xB τ) η nm)) fun e => k ⟨d, e.v, e.wr, gt ++ yD (Op.operands (.nilCheck x)).toList, e.rd, none⟩ := fF rfl
theorem zhS {P : Program} {η : aB} {nm : Nat} {d : Option Tmp} {tq : TypeId} {pos : String} {after : Array Edge} {g : Option (Nat × Bool)} {ans : Option (AV × List lA)} {gt : List Nat} {τ : Nat → AV} {k : SE → Prop} :
    aC (lD P ⟨d, (.binOp bo t a b ty), tq, pos, after, g⟩ ans nm gt τ η) k = aC (Xa (bC P (.binOp bo t a b ty) (xB τ) η nm)) fun e => k ⟨d, e.v, e.wr, gt ++ yD (Op.operands (.binOp bo t a b ty)).toList, e.rd, none⟩ := fF rfl
theorem H_unOp {P : Program} {η : aB} {nm : Nat} {d : Option Tmp} {tq : TypeId} {pos : String} {after : Array Edge} {g : Option (Nat × Bool)} {ans : Option (AV × List lA)} {gt : List Nat} {τ : Nat → AV} {k : SE → Prop} :
    aC (lD P ⟨d, (.unOp uo t a), tq, pos, after, g⟩ ans nm gt τ η) k = aC (Xa (bC P (.unOp uo t a) (xB τ) η nm)) fun e => k ⟨d, e.v, e.wr, gt ++ yD (Op.operands (.unOp uo t a)).toList, e.rd, none⟩ := fF rfl
theorem H_conv {P : Program} {η : aB} {nm : Nat} {d : Option Tmp} {tq ts td : TypeId} {a : Operand} {pos : String} {after : Array Edge} {g : Option (Nat × Bool)} {ans : Option (AV × List lA)} {gt : List Nat} {τ : Nat → AV} {k : SE → Prop} :
    aC (lD P ⟨d, (.convert ts td a), tq, pos, after, g⟩ ans nm gt τ η) k = aC (Xa (bC P (.convert ts td a) (xB τ) η nm)) fun e => k ⟨d, e.v, e.wr, gt ++ yD (Op.operands (.convert ts td a)).toList, e.rd, none⟩ := fF rfl
theorem zkl {P : Program} {η : aB} {nm : Nat} {d : Option Tmp} {tq : TypeId} {pos : String} {after : Array Edge} {g : Option (Nat × Bool)} {ans : Option (AV × List lA)} {gt : List Nat} {τ : Nat → AV} {k : SE → Prop} :
    aC (lD P ⟨d, (.makeFunc fn ar br), tq, pos, after, g⟩ ans nm gt τ η) k = aC (Xa (bC P (.makeFunc fn ar br) (xB τ) η nm)) fun e => k ⟨d, e.v, e.wr, gt ++ yD (Op.operands (.makeFunc fn ar br)).toList, e.rd, none⟩ := fF rfl
theorem zfP {P : Program} {η : aB} {nm : Nat} {d : Option Tmp} {tq : TypeId} {pos : String} {after : Array Edge} {g : Option (Nat × Bool)} {ans : Option (AV × List lA)} {gt : List Nat} {τ : Nat → AV} {k : SE → Prop} :
    aC (lD P ⟨d, (.makeSlice t a b), tq, pos, after, g⟩ ans nm gt τ η) k = aC (Xa (bC P (.makeSlice t a b) (xB τ) η nm)) fun e => k ⟨d, e.v, e.wr, gt ++ yD (Op.operands (.makeSlice t a b)).toList, e.rd, none⟩ := fF rfl
theorem zmH {P : Program} {η : aB} {nm : Nat} {d : Option Tmp} {tq : TypeId} {pos : String} {after : Array Edge} {g : Option (Nat × Bool)} {ans : Option (AV × List lA)} {gt : List Nat} {τ : Nat → AV} {k : SE → Prop} :
    aC (lD P ⟨d, (.slice t a oa ob oc), tq, pos, after, g⟩ ans nm gt τ η) k = aC (Xa (bC P (.slice t a oa ob oc) (xB τ) η nm)) fun e => k ⟨d, e.v, e.wr, gt ++ yD (Op.operands (.slice t a oa ob oc)).toList, e.rd, none⟩ := fF rfl
theorem zmf {P : Program} {η : aB} {nm : Nat} {d : Option Tmp} {tq : TypeId} {pos : String} {after : Array Edge} {g : Option (Nat × Bool)} {ans : Option (AV × List lA)} {gt : List Nat} {τ : Nat → AV} {k : SE → Prop} :
    aC (lD P ⟨d, (.fieldAddr t a n), tq, pos, after, g⟩ ans nm gt τ η) k = aC (Xa (bC P (.fieldAddr t a n) (xB τ) η nm)) fun e => k ⟨d, e.v, e.wr, gt ++ yD (Op.operands (.fieldAddr t a n)).toList, e.rd, none⟩ := fF rfl
theorem zgQ {P : Program} {η : aB} {nm : Nat} {d : Option Tmp} {tq : TypeId} {pos : String} {after : Array Edge} {g : Option (Nat × Bool)} {ans : Option (AV × List lA)} {gt : List Nat} {τ : Nat → AV} {k : SE → Prop} :
    aC (lD P ⟨d, (.field t a n), tq, pos, after, g⟩ ans nm gt τ η) k = aC (Xa (bC P (.field t a n) (xB τ) η nm)) fun e => k ⟨d, e.v, e.wr, gt ++ yD (Op.operands (.field t a n)).toList, e.rd, none⟩ := fF rfl
theorem zjr {P : Program} {η : aB} {nm : Nat} {d : Option Tmp} {tq : TypeId} {pos : String} {after : Array Edge} {g : Option (Nat × Bool)} {ans : Option (AV × List lA)} {gt : List Nat} {τ : Nat → AV} {k : SE → Prop} :
    aC (lD P ⟨d, (.indexAddr t a b), tq, pos, after, g⟩ ans nm gt τ η) k = aC (Xa (bC P (.indexAddr t a b) (xB τ) η nm)) fun e => k ⟨d, e.v, e.wr, gt ++ yD (Op.operands (.indexAddr t a b)).toList, e.rd, none⟩ := fF rfl
theorem zn5 {P : Program} {η : aB} {nm : Nat} {d : Option Tmp} {tq : TypeId} {pos : String} {after : Array Edge} {g : Option (Nat × Bool)} {ans : Option (AV × List lA)} {gt : List Nat} {τ : Nat → AV} {k : SE → Prop} :
    aC (lD P ⟨d, (.index t a b), tq, pos, after, g⟩ ans nm gt τ η) k = aC (Xa (bC P (.index t a b) (xB τ) η nm)) fun e => k ⟨d, e.v, e.wr, gt ++ yD (Op.operands (.index t a b)).toList, e.rd, none⟩ := fF rfl
theorem ziB {P : Program} {η : aB} {nm : Nat} {d : Option Tmp} {tq : TypeId} {pos : String} {after : Array Edge} {g : Option (Nat × Bool)} {ans : Option (AV × List lA)} {gt : List Nat} {τ : Nat → AV} {k : SE → Prop} :
    aC (lD P ⟨d, (.extract a n), tq, pos, after, g⟩ ans nm gt τ η) k = aC (Xa (bC P (.extract a n) (xB τ) η nm)) fun e => k ⟨d, e.v, e.wr, gt ++ yD (Op.operands (.extract a n)).toList, e.rd, none⟩ := fF rfl
theorem H_bi {P : Program} {η : aB} {nm : Nat} {d : Option Tmp} {tq : TypeId} {pos : String} {after : Array Edge} {g : Option (Nat × Bool)} {ans : Option (AV × List lA)} {gt : List Nat} {τ : Nat → AV} {k : SE → Prop} :
    aC (lD P ⟨d, (.call { callee := .builtin bi, args := ar, argTypes := ts }), tq, pos, after, g⟩ ans nm gt τ η) k = aC (Xa (bC P (.call { callee := .builtin bi, args := ar, argTypes := ts }) (xB τ) η nm)) fun e => k ⟨d, e.v, e.wr, gt ++ yD (Op.operands (.call { callee := .builtin bi, args := ar, argTypes := ts })).toList, e.rd, none⟩ := fF rfl
theorem eval_t {τ : Nat → AV} {t : Nat} : xB τ (.tmp t) = τ t := rfl
theorem eval_c {τ : Nat → AV} {v : Value} : xB τ (.const v) = yM v := rfl
theorem eval_f {τ : Nat → AV} {f : FuncId} : xB τ (.func f) = .fn f [] [] := rfl
theorem zgZ {k : IntKind} {n : Int} : yM (.int k n) = .int k n := rfl
theorem zh3 {b : Bool} : yM (.bool b) = .bool b := rfl
theorem zkd {s : ByteArray} : yM (.string s) = .str s.data.toList := rfl
theorem zkk : yM (.slice none 0 0) = .nils := rfl
theorem zhU : yM (.pointer none) = .nilp := rfl
theorem zgG : yM .nilFunc = .nilf := rfl
theorem zh6 {k : IntKind} {n : Int} : (AV.int k n).cells = some [.int k n] := rfl
theorem zmp {b : Bool} : (AV.bool b).cells = some [.bool b] := rfl
theorem znY {s : List UInt8} : (AV.str s).cells = some [.str s] := rfl
theorem zjg {cs : List AV} : (AV.agg cs).cells = some cs := rfl
theorem zfY : AV.nils.cells = some [.nils] := rfl
theorem zko : AV.nilp.cells = some [.nilp] := rfl
theorem zlW : AV.nilf.cells = some [.nilf] := rfl
theorem znE {z : Nat} {es : List (List AV)} : (AV.psl z es).cells = some [.psl z es] := rfl
theorem zfO {b g z o l : Nat} : (AV.sl b g z o l).cells = some [.sl b g z o l] := rfl
theorem zk6 {b g i j : Nat} : (AV.ref b g i j).cells = some [.ref b g i j] := rfl
theorem zhR {cs : List AV} : (AV.pp cs).cells = some [.pp cs] := rfl
theorem ziK {f : FuncId} {a c : List AV} : (AV.fn f a c).cells = some [.fn f a c] := rfl
theorem zlL {fr : List (Nat × AV)} {d : Nat} {v : AV} : nH fr (some d) v = (d, v) :: fr := rfl
theorem zmc {fr : List (Nat × AV)} {v : AV} : nH fr none v = fr := rfl
theorem zlB {nt : Nat} {op : Op} {pos : String} {after : Array Edge} {g : Option (Nat × Bool)} : aH nt ⟨none, op, ty, pos, after, g⟩ = true := rfl
theorem znj {nt d : Nat} {op : Op} {pos : String} {after : Array Edge} {g : Option (Nat × Bool)} : aH nt ⟨some d, op, ty, pos, after, g⟩ = decide (d < nt) := rfl
theorem zoc {P : Program} {d : Option Nat} {v : AV} {wr : List (Nat × lA)} {rt rb : List Nat} : jU P ⟨d, v, wr, rt, rb, none⟩ = True := rfl
theorem zgo {P : Program} {d : Option Nat} {v : AV} {wr : List (Nat × lA)} {rt rb : List Nat} {o : Obl} : jU P ⟨d, v, wr, rt, rb, some o⟩ = jB P o.f o.args o.r o.blks := rfl
end
section
variable {P : Program} {t : TypeId} {k : IntKind} {a b : Int} {x y : List UInt8}
theorem I_add : zC P .add t (.int k a) (.int k b) = some (.int k (k.wrap (a + b))) := by simp [zC]
theorem I_sub : zC P .sub t (.int k a) (.int k b) = some (.int k (k.wrap (a - b))) := by simp [zC]
theorem I_mul : zC P .mul t (.int k a) (.int k b) = some (.int k (k.wrap (a * b))) := by simp [zC]
theorem I_quo : zC P .quo t (.int k a) (.int k b) = sC (b ≠ 0) (some (.int k (k.wrap (a.tdiv b)))) := by by_cases h : b = 0 <;> simp [zC, sC, h]
theorem I_rem : zC P .rem t (.int k a) (.int k b) = sC (b ≠ 0) (some (.int k (a.tmod b))) := by by_cases h : b = 0 <;> simp [zC, sC, h]
theorem I_shl : zC P .shl t (.int k a) (.int k b) = sC (0 ≤ b) (some (.int k (k.wrap (a * 2 ^ (min b.toNat k.bits))))) := by by_cases h : b < 0 <;> simp [zC, sC, h]
theorem I_eql : zC P .eql t (.int k a) (.int k b) = some (.bool (decide (a = b))) := by simp only [zC, if_true]; rfl
theorem I_neq : zC P .neq t (.int k a) (.int k b) = some (.bool (!decide (a = b))) := by simp only [zC, if_true]; rfl
theorem I_lss : zC P .lss t (.int k a) (.int k b) = some (.bool (decide (a < b))) := by simp [zC]
theorem I_leq : zC P .leq t (.int k a) (.int k b) = some (.bool (decide (a ≤ b))) := by simp [zC]
theorem I_gtr : zC P .gtr t (.int k a) (.int k b) = some (.bool (decide (b < a))) := by simp [zC]
theorem I_geq : zC P .geq t (.int k a) (.int k b) = some (.bool (decide (b ≤ a))) := by simp [zC]
theorem C_eql : zC P .eql t (.str x) (.str y) = some (.bool (x == y)) := rfl
theorem C_neq : zC P .neq t (.str x) (.str y) = some (.bool (!(x == y))) := rfl
theorem C_lss : zC P .lss t (.str x) (.str y) = some (.bool (Op.bytesLess x y)) := rfl
theorem C_leq : zC P .leq t (.str x) (.str y) = some (.bool (Op.bytesLess x y || x == y)) := rfl
theorem C_gtr : zC P .gtr t (.str x) (.str y) = some (.bool (!(Op.bytesLess x y || x == y))) := rfl
theorem C_geq : zC P .geq t (.str x) (.str y) = some (.bool (!(Op.bytesLess x y))) := rfl
end
section
variable {η : aB} {d : Nat}
theorem zfE {k : IntKind} {n : Int} : zB η (d + 1) (.int k n) = some (.int k n, []) := rfl
theorem zob {s : List UInt8} : zB η (d + 1) (.str s) = some (.str s, []) := rfl
theorem zgR {b : Bool} : zB η (d + 1) (.bool b) = some (.bool b, []) := rfl
theorem pur_pp {cs : List AV} : zB η (d + 1) (.pp cs) = some (.pp cs, []) := rfl
theorem zhE {z : Nat} {es : List (List AV)} : zB η (d + 1) (.psl z es) = some (.psl z es, []) := rfl
theorem zkW : zB η (d + 1) .nils = some (.nils, []) := rfl
theorem zg8 : zB η (d + 1) .nilp = some (.nilp, []) := rfl
theorem zkr : zB η (d + 1) .nilf = some (.nilf, []) := rfl
theorem zm8 {cs : List AV} : zB η (d + 1) (.agg cs) = Bd (Xa (zB.purs η d cs)) fun p => some (.agg p.1, p.2) := by
  simp only [zB]; cases zB.purs η d cs <;> rfl
theorem pur_fn {f : FuncId} {a c : List AV} : zB η (d + 1) (.fn f a c) = Bd (Xa (zB.purs η d a)) fun p => Bd (Xa (zB.purs η d c)) fun q => some (.fn f p.1 q.1, p.2 ++ q.2) := by
  simp only [zB]; cases zB.purs η d a <;> cases zB.purs η d c <;> rfl
theorem pur_sl {b g z off len : Nat} : zB η (d + 1) (.sl b g z off len) = Bd (Xa (η b)) fun blk => sC (blk.sz = z ∧ blk.g = g ∧ off + len ≤ blk.es.length) (if blk.pure = true then some (.psl blk.sz ((blk.es.drop off).take len), [b]) else Bd (Xa (kI (zB.purs η d) ((blk.es.drop off).take len))) fun p => some (.psl blk.sz p.1, b :: p.2)) := by
  simp only [zB]
  cases η b with
  | none => rfl
  | some blk => simp only [Bd, Xa, sC]; split
                · split
                  · rfl
                  · cases kI (zB.purs η d) ((blk.es.drop off).take len) <;> rfl
                · rfl
theorem zkO : zB.purs η (d + 1) [] = some ([], []) := rfl
theorem zod {v : AV} {vs : List AV} : zB.purs η (d + 1) (v :: vs) = Bd (Xa (zB η d v)) fun p => Bd (Xa (zB.purs η d vs)) fun q => some (p.1 :: q.1, p.2 ++ q.2) := by
  simp only [zB.purs]; cases zB η d v <;> cases zB.purs η d vs <;> rfl
end
end Go.AM
