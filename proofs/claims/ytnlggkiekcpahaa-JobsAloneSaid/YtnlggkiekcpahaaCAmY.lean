/- A text of the proof. -/
import Derived.Test.YtnlggkiekcpahaaCAmX
set_option linter.unusedSimpArgs false
set_option linter.unusedVariables false
namespace Go.AM
open Go Go.RowKit
def Bd {α β : Type} (x : Option α) (f : α → Option β) : Option β := match x with | some a => f a | none => none
@[congr] theorem Bd_congr {α β : Type} {x y : Option α} {f : α → Option β} (h : x = y) : Bd x f = Bd y f := by rw [h]
theorem zjE {α β : Type} (a : α) (f : α → Option β) : Bd (some a) f = f a := rfl
theorem zlG {α β : Type} (f : α → Option β) : Bd none f = none := rfl
def sC {α : Type} (c : Prop) [Decidable c] (x : Option α) : Option α := if c then x else none
@[congr] theorem IfO_congr {α : Type} {c : Prop} [Decidable c] {x : Option α} : sC c x = sC c x := rfl
theorem Bd_IfO {α β : Type} (c : Prop) [Decidable c] (x : Option α) (f : α → Option β) : Bd (sC c x) f = sC c (Bd x f) := by
  unfold sC; split <;> rfl
theorem zi9 {α : Type} (c : Prop) [Decidable c] (x : Option α) (k : α → Prop) : xB (sC c x) k = (c ∧ xB (Xa x) k) := zme c x k
theorem zkk {α β : Type} (x : Option α) (f : α → Option β) (k : β → Prop) : xB (Bd x f) k = xB (Xa x) fun a => xB (Xa (f a)) k := by cases x <;> rfl
def zdc : AV → Option Bool | .bool b => some b | _ => none
theorem zhz (b : Bool) : zdc (.bool b) = some b := rfl
section
variable {P : Program} {ρ : Operand → AV} {η : cB} {nm : Nat}
theorem dF {d : Option Tmp} {op : Op} {ty : TypeId} {pos : String} {after : Array Edge} {g : Option (Nat × Bool)} {ans : Option (AV × List lA)} {gt : List Nat} {τ : Nat → AV} {k : SE → Prop} (h : nL op = none) (h2 : bS P op τ = none := by rfl) :
    xB (pD P ⟨d, op, ty, pos, after, g⟩ ans nm gt τ η) k = xB (Xa (yB P op (vB τ) η nm)) fun e => k ⟨d, e.v, e.wr, gt ++ aE op.operands.toList, e.rd, none⟩ := by
  simp only [pD, h, h2]
  cases yB P op (vB τ) η nm <;> rfl
theorem H_call {d : Option Tmp} {f : Operand} {args : Array Operand} {ats : Array TypeId} {ty : TypeId} {pos : String} {after : Array Edge} {g : Option (Nat × Bool)} {ans : Option (AV × List lA)} {gt : List Nat} {τ : Nat → AV} {k : SE → Prop} :
    xB (pD P ⟨d, .call { callee := .value f, args := args, argTypes := ats }, ty, pos, after, g⟩ ans nm gt τ η) k =
      xB (Bd ans fun a => tJ η nm (vB τ f) (args.toList.map (vB τ)) a) fun r => k ⟨d, r.1.v, r.1.wr, gt ++ aE (f :: args.toList), r.1.rd, some r.2⟩ := by
  simp only [pD, nL]
  cases ans with
  | none => rfl
  | some a => simp only [Bd, Xa]; cases tJ η nm (vB τ f) (args.toList.map (vB τ)) a <;> rfl
theorem zku {t : TypeId} {x : AV} {name : String} : pS P (.iface t x) name = Bd (Xa (sS P t name)) fun f => some (f, x) := by
  simp only [pS]; cases sS P t name <;> rfl
theorem zmV {d : Option Tmp} {rcv : Operand} {name : String} {args : Array Operand} {ats : Array TypeId} {ty : TypeId} {pos : String} {after : Array Edge} {g : Option (Nat × Bool)} {ans : Option (AV × List lA)} {gt : List Nat} {τ : Nat → AV} {k : SE → Prop} :
    xB (pD P ⟨d, .call { callee := .invoke rcv name, args := args, argTypes := ats }, ty, pos, after, g⟩ ans nm gt τ η) k =
      xB (Bd (Xa (pS P (vB τ rcv) name)) fun p => Bd ans fun a => tJ η nm (.fn p.1 [] []) (p.2 :: args.toList.map (vB τ)) a) fun r => k ⟨d, r.1.v, r.1.wr, gt ++ aE (rcv :: args.toList), r.1.rd, some r.2⟩ := by
  have hops : (Op.call { callee := .invoke rcv name, args := args, argTypes := ats }).operands.toList = rcv :: args.toList := by simp [Op.operands, Call.operands]
  simp only [pD, nL, bS, hops]
  cases pS P (vB τ rcv) name with
  | none => cases ans <;> rfl
  | some p =>
    cases ans with
    | none => rfl
    | some a => simp only [Bd, Xa]; cases tJ η nm (.fn p.1 [] []) (p.2 :: args.toList.map (vB τ)) a <;> rfl
theorem zn6 {fid : FuncId} {first cap args : List AV} {ans : AV × List lA} : tJ η nm (.fn fid first cap) args ans =
    Bd (wB.purs η 60 (first ++ args ++ cap)) fun p => sC (ans.2.length ≤ 8) (some (⟨ans.1.shift nm, (if p.2.isEmpty || (ans.1.flatR && ans.2.all lA.flat) then [] else oG η p.2) ++ hO nm 0 ans.2, p.2⟩, ⟨fid, p.1, ans.1, ans.2⟩)) := by
  simp only [tJ]
  cases wB.purs η 60 (first ++ args ++ cap) <;> rfl
theorem S_move {x : Operand} : yB P (.move x) ρ η nm = some ⟨ρ x, [], []⟩ := rfl
theorem ziA {x : Operand} : yB P (.assign x) ρ η nm = some ⟨ρ x, [], []⟩ := rfl
theorem S_pick {c a b : Operand} : yB P (.pick c a b) ρ η nm = Bd (Xa (zdc (ρ c))) fun t => some ⟨if t then ρ a else ρ b, [], []⟩ := by
  simp only [yB]; cases ρ c <;> rfl
theorem zi0 {t : TypeId} : yB P (.alloc t) ρ η nm = Bd (Xa (oB P t)) fun n => Bd (Xa (tC P t)) fun z => sC (z.length = n) (some ⟨.ref nm 0 0 0, [(nm, { g := 0, own := true, pure := AV.isP.isPs z, sz := n, es := [z] })], []⟩) := by
  simp only [yB]; cases oB P t <;> cases tC P t <;> rfl
theorem S_mkif {t : TypeId} {x : Operand} : yB P (.makeInterface t x) ρ η nm = sC (aP P t = true) (some ⟨.iface t (ρ x), [], []⟩) := by
  simp only [yB, sC]
def wK (P : Program) (t : TypeId) (v : AV) : Option AV := match v with
  | .iface u x => if u = t then some (.tup [x, .bool true]) else (vH P t).map fun z => .tup [z, .bool false]
  | .nili => (vH P t).map fun z => .tup [z, .bool false]
  | _ => none
theorem zoe {x : Operand} {xt t : TypeId} : yB P (.typeAssert x xt t true) ρ η nm = sC (aP P t = true) (Bd (Xa (wK P t (ρ x))) fun v => some ⟨v, [], []⟩) := by
  simp only [yB, sC, wK, Bool.true_and]
  split
  · cases ρ x <;> try rfl
    case iface u v =>
      simp only [Bd, Xa]
      by_cases e : u = t
      · simp only [if_pos e]
      · simp only [if_neg e]; cases vH P t <;> rfl
    case nili => simp only [Bd, Xa]; cases vH P t <;> rfl
  · rfl
theorem zl6 {t : TypeId} {x : AV} : wK P t (.iface t x) = some (.tup [x, .bool true]) := by simp [wK]
theorem zir {u t : TypeId} {x : AV} (h : (u == t) = false) : wK P t (.iface u x) = Bd (Xa (vH P t)) fun z => some (.tup [z, .bool false]) := by
  have : u ≠ t := by simpa using h
  simp only [wK, if_neg this]; cases vH P t <;> rfl
theorem zgc {t : TypeId} : wK P t .nili = Bd (Xa (vH P t)) fun z => some (.tup [z, .bool false]) := by
  simp only [wK]; cases vH P t <;> rfl
theorem S_box {t : TypeId} {x : Operand} : yB P (.box t x) ρ η nm = Bd (Xa ((ρ x).cells)) fun cs => some ⟨.ref nm 0 0 0, [(nm, { g := 0, own := true, pure := AV.isP.isPs cs, sz := cs.length, es := [cs] })], []⟩ := by
  simp only [yB]; cases (ρ x).cells <;> rfl
theorem zm3 {t : TypeId} {parts : Array (Nat × Operand)} : yB P (.build t parts) ρ η nm = Bd (Xa (sG P t)) fun pl => Bd (Xa (tC P t)) fun z => Bd (Xa (oJ (fun i => pl[i]?) z (parts.toList.map fun p => (p.1, ρ p.2)))) fun cs => some ⟨.agg cs, [], []⟩ := by
  simp only [yB, xX]
  cases sG P t with
  | none => cases tC P t <;> rfl
  | some pl => cases tC P t with
    | none => rfl
    | some z => simp only [Bd, Xa]; cases oJ (fun i => pl[i]?) z (parts.toList.map fun p => (p.1, ρ p.2)) <;> rfl
theorem znu {place : Nat → Option (Nat × Nat)} {cs : List AV} : oJ place cs [] = some cs := rfl
theorem zfT {place : Nat → Option (Nat × Nat)} {cs : List AV} {i : Nat} {v : AV} {aB : List (Nat × AV)} :
    oJ place cs ((i, v) :: aB) = Bd (Xa (place i)) fun p => Bd (Xa (v.cells)) fun vs => sC (vs.length = p.2 ∧ p.1 + p.2 ≤ cs.length) (oJ place (cs.take p.1 ++ vs ++ cs.drop (p.1 + p.2)) aB) := by
  simp only [oJ]; cases place i <;> cases v.cells <;> rfl
theorem zj5 {t : TypeId} {len : Nat} {parts : Array (Nat × Operand)} : yB P (.buildSlice t len parts) ρ η nm = Bd (Xa (iD P t)) fun e => Bd (Xa (oB P e)) fun sz => Bd (Xa (tC P e)) fun z => sC (len * sz ≤ 2 ^ 24 ∧ z.length = sz ∧ 0 < sz) (Bd (Xa (gL (List.replicate len z) (parts.toList.map fun p => (p.1, ρ p.2)) sz)) fun es =>
    some ⟨.sl nm 0 sz 0 len, [(nm, { g := 0, own := true, pure := es.all AV.isP.isPs, sz := sz, es := es })], []⟩) := by
  simp only [yB, eX]
  cases iD P t with
  | none => rfl
  | some e => simp only [Bd, Xa]; cases oB P e with
    | none => cases tC P e <;> rfl
    | some sz => cases tC P e with
      | none => rfl
      | some z => simp only [sC, Xa]; split
                  · cases gL (List.replicate len z) (parts.toList.map fun p => (p.1, ρ p.2)) sz <;> rfl
                  · rfl
theorem zgJ {es : List (List AV)} {n : Nat} : gL es [] n = some es := rfl
theorem zjj {es : List (List AV)} {n i : Nat} {v : AV} {aB : List (Nat × AV)} : gL es ((i, v) :: aB) n = Bd (Xa (v.cells)) fun cs => sC (cs.length = n ∧ i < es.length) (gL (es.set i cs) aB n) := by
  simp only [gL]; cases v.cells <;> rfl
def xM (ag : Bool) (n : Nat) (a : AV) (η : cB) : Option (AV × List Nat) := match a with
  | .ref b g i j => match fH η b g i with
    | some e => if j + n ≤ e.length then (AV.ofCells ag ((e.drop j).take n)).map fun v => (v, [b]) else none
    | none => none
  | .pp cs => if n ≤ cs.length then (AV.ofCells ag (cs.take n)).map fun v => (v, []) else none
  | _ => none
theorem S_load {t : TypeId} {a : Operand} : yB P (.load t a) ρ η nm = Bd (Xa (tD P t)) fun ag => Bd (Xa (oB P t)) fun n => Bd (Xa (xM ag n (ρ a) η)) fun r => some ⟨r.1, [], r.2⟩ := by
  simp only [yB, kN]
  cases tD P t with
  | none => rfl
  | some ag => cases oB P t with
    | none => rfl
    | some n => show Option.map _ (xM ag n (ρ a) η) = _; simp only [Bd, Xa]; cases xM ag n (ρ a) η <;> rfl
theorem zhM {ag : Bool} {n b g i j : Nat} : xM ag n (.ref b g i j) η = Bd (Xa (fH η b g i)) fun e => sC (j + n ≤ e.length) (Bd (Xa (AV.ofCells ag ((e.drop j).take n))) fun v => some (v, [b])) := by
  simp only [xM]; cases fH η b g i with
  | none => rfl
  | some e => simp only [Bd, Xa, sC]; split
              · cases AV.ofCells ag ((e.drop j).take n) <;> rfl
              · rfl
theorem zfW {ag : Bool} {n : Nat} {cs : List AV} : xM ag n (.pp cs) η = sC (n ≤ cs.length) (Bd (AV.ofCells ag (cs.take n)) fun v => some (v, [])) := by
  simp only [xM, sC]; split
  · cases AV.ofCells ag (cs.take n) <;> rfl
  · rfl
theorem zma {cs : List AV} : AV.ofCells true cs = some (.agg cs) := rfl
theorem zfb {c : AV} : AV.ofCells false [c] = some c := rfl
theorem zjw {b g i : Nat} : fH η b g i = Bd (Xa (η b)) fun blk => sC (blk.g = g) (blk.es[i]?) := by
  simp only [fH]; cases η b <;> rfl
theorem zmE {t : TypeId} {a x : Operand} : yB P (.store t a x) ρ η nm = Bd (Xa (dN P t (ρ a) (ρ x) η)) fun r => some ⟨.tup [], [r], [r.1]⟩ := by
  simp only [yB]; cases dN P t (ρ a) (ρ x) η <;> rfl
theorem ziw {t : TypeId} {b g i j : Nat} {v : AV} : dN P t (.ref b g i j) v η = Bd (Xa (oB P t)) fun n => Bd (Xa (v.cells)) fun cs => Bd (Xa (η b)) fun blk => sC (blk.g = g ∧ blk.own = true ∧ cs.length = n) (Bd (Xa (blk.es[i]?)) fun e => sC (j + n ≤ e.length)
    (some (b, { blk with es := blk.es.set i (e.take j ++ cs ++ e.drop (j + n)), pure := blk.pure && AV.isP.isPs cs }))) := by
  simp only [dN]
  cases oB P t with
  | none => rfl
  | some n => cases v.cells with
    | none => rfl
    | some cs => simp only [Bd, Xa]; cases η b with
      | none => rfl
      | some blk => simp only [sC, Xa]; split
                    · cases blk.es[i]? <;> rfl
                    · rfl
theorem zhv {x : Operand} : yB P (.nilCheck x) ρ η nm = Bd (match ρ x with | .ref b g i j => some (AV.ref b g i j) | .pp cs => some (.pp cs) | .fn f a c => some (.fn f a c) | _ => none) fun v => some ⟨v, [], []⟩ := by
  simp only [yB]; cases ρ x <;> rfl
theorem S_bin {op : BinOp} {t yt : TypeId} {x y : Operand} : yB P (.binOp op t x y yt) ρ η nm = Bd (Xa (aD P op t (ρ x) (ρ y))) fun v => some ⟨v, [], []⟩ := by
  simp only [yB]; cases aD P op t (ρ x) (ρ y) <;> rfl
theorem S_un {op : UnOp} {t : TypeId} {x : Operand} : yB P (.unOp op t x) ρ η nm = Bd (Xa (aUn op (ρ x))) fun v => some ⟨v, [], []⟩ := by
  simp only [yB]; cases aUn op (ρ x) <;> rfl
theorem S_conv {s d : TypeId} {x : Operand} : yB P (.convert s d x) ρ η nm = Bd (Xa (pU P s d (ρ x))) fun v => some ⟨v, [], []⟩ := by
  simp only [yB]; cases pU P s d (ρ x) <;> rfl
theorem zkl {b : Bool} : aUn .not (.bool b) = some (.bool !b) := rfl
theorem zkq {k : IntKind} {n : Int} : aUn .neg (.int k n) = some (.int k (k.wrap (0 - n))) := rfl
theorem zjd {f : FuncId} {first cap : Array Operand} : yB P (.makeFunc (.func f) first cap) ρ η nm = some ⟨.fn f (first.toList.map ρ) (cap.toList.map ρ), [], []⟩ := rfl
theorem zf5 {t : TypeId} {l c : Operand} : yB P (.makeSlice t l c) ρ η nm = Bd (Xa (jS P t (ρ l) (ρ c) nm)) fun r => some ⟨r.1, [r.2], []⟩ := by
  simp only [yB]; cases jS P t (ρ l) (ρ c) nm <;> rfl
theorem zm9 {t : TypeId} {k k' : IntKind} {l c : Int} : jS P t (.int k l) (.int k' c) nm = Bd (Xa (iD P t)) fun e => Bd (Xa (oB P e)) fun sz => Bd (Xa (qD P e)) fun bs => Bd (Xa (tC P e)) fun z => sC (0 ≤ l ∧ l ≤ c ∧ c ≤ IntKind.i64.max ∧ (bs : Int) * c ≤ 2 ^ 48 ∧ z.length = sz ∧ 0 < sz)
    (some (.sl nm 0 sz 0 l.toNat, (nm, { g := 0, own := true, pure := true, sz := sz, es := List.replicate l.toNat z }))) := by
  simp only [jS]
  cases iD P t with
  | none => rfl
  | some e => simp only [Bd, Xa]; cases oB P e with
    | none => rfl
    | some sz => cases qD P e with
      | none => rfl
      | some bs => cases tC P e <;> rfl
theorem zjL {t : TypeId} {x : Operand} {lo hi mx : Option Operand} : yB P (.slice t x lo hi mx) ρ η nm = Bd (Xa (fL P t (ρ x) (lo.map ρ) (hi.map ρ) (mx.map ρ))) fun v => some ⟨v, [], []⟩ := by
  simp only [yB]; cases fL P t (ρ x) (lo.map ρ) (hi.map ρ) (mx.map ρ) <;> rfl
theorem zjM {t : TypeId} {x : Operand} {f : Nat} : yB P (.fieldAddr t x f) ρ η nm = Bd (Xa (nD P t f)) fun p => Bd (match ρ x with | .ref b g i j => some (AV.ref b g i (j + p.1)) | .pp cs => sC (p.1 ≤ cs.length) (some (.pp (cs.drop p.1))) | _ => none) fun v => some ⟨v, [], []⟩ := by
  simp only [yB, iY]
  cases nD P t f with
  | none => rfl
  | some p => simp only [Bd, Xa]; cases ρ x <;> first | rfl | (simp only [sC, Xa]; split <;> rfl)
theorem zhm {t : TypeId} {x : Operand} {f : Nat} : yB P (.field t x f) ρ η nm = Bd (Xa (nD P t f)) fun p => Bd (match ρ x with | .agg cs => pK P p.2 cs p.1 | _ => none) fun v => some ⟨v, [], []⟩ := by
  simp only [yB]
  cases nD P t f with
  | none => rfl
  | some p => cases ρ x <;> first | rfl | (rename_i cs; simp only [Bd, Xa]; cases pK P p.2 cs p.1 <;> rfl)
theorem zmY {t : TypeId} {cs : List AV} {off : Nat} : pK P t cs off = Bd (Xa (tD P t)) fun ag => Bd (Xa (oB P t)) fun n => if ag then some (.agg ((cs.drop off).take n)) else cs[off]? := by
  simp only [pK]
  cases tD P t with
  | none => rfl
  | some ag => cases oB P t with
    | none => cases ag <;> rfl
    | some n => cases ag <;> rfl
theorem zfp {t : TypeId} {x i : Operand} : yB P (.indexAddr t x i) ρ η nm = Bd (Xa (vJ P t (ρ x) (ρ i))) fun v => some ⟨v, [], []⟩ := by
  simp only [yB]; cases vJ P t (ρ x) (ρ i) <;> rfl
theorem zlx {t : TypeId} {b g z off len : Nat} {k : IntKind} {n : Int} : vJ P t (.sl b g z off len) (.int k n) = Bd (Xa (iD P t)) fun e => Bd (Xa (oB P e)) fun sz => sC (z = sz ∧ 0 ≤ n ∧ n < len) (some (.ref b g (off + n.toNat) 0)) := by
  simp only [vJ]
  cases iD P t with
  | none =>
    cases eN P t with
    | none => rfl
    | some a => obtain ⟨l, e⟩ := a; simp only [Bd, Xa]; cases oB P e <;> rfl
  | some e => simp only [Bd, Xa]; cases oB P e <;> rfl
theorem ziX {t : TypeId} {z : Nat} {es : List (List AV)} {k : IntKind} {n : Int} : vJ P t (.psl z es) (.int k n) = Bd (Xa (iD P t)) fun e => Bd (Xa (oB P e)) fun sz => sC (z = sz ∧ 0 ≤ n) (Bd (Xa (es[n.toNat]?)) fun e => some (.pp e)) := by
  simp only [vJ]
  cases iD P t with
  | none =>
    cases eN P t with
    | none => rfl
    | some a => obtain ⟨l, e⟩ := a; simp only [Bd, Xa]; cases oB P e <;> rfl
  | some e => simp only [Bd, Xa]; cases oB P e with
    | none => rfl
    | some sz => simp only [sC, Xa]; split
                 · cases es[n.toNat]? <;> rfl
                 · rfl
theorem zni {t : TypeId} {b g i j : Nat} {k : IntKind} {n : Int} : vJ P t (.ref b g i j) (.int k n) = Bd (Xa (eN P t)) fun a => Bd (Xa (oB P a.2)) fun sz => sC (0 ≤ n ∧ n < a.1) (some (.ref b g i (j + n.toNat * sz))) := by
  simp only [vJ, iD, eN, Xa]
  cases P.underlying t with
  | none => rfl
  | some u =>
    cases u with
    | slice e => dsimp only; cases oB P e <;> rfl
    | array l e => dsimp only [Bd]; cases oB P e <;> rfl
    | _ => rfl
theorem zgD {t : TypeId} {cs : List AV} {k : IntKind} {n : Int} : vJ P t (.pp cs) (.int k n) = Bd (Xa (eN P t)) fun a => Bd (Xa (oB P a.2)) fun sz => sC (0 ≤ n ∧ n < a.1 ∧ n.toNat * sz ≤ cs.length) (some (.pp (cs.drop (n.toNat * sz)))) := by
  simp only [vJ, iD, eN, Xa]
  cases P.underlying t with
  | none => rfl
  | some u =>
    cases u with
    | slice e => dsimp only; cases oB P e <;> rfl
    | array l e => dsimp only [Bd]; cases oB P e <;> rfl
    | _ => rfl
theorem zjW {t : TypeId} {x i : Operand} : yB P (.index t x i) ρ η nm = Bd (Xa (P.underlying t)) fun u => Bd (match u, ρ x, ρ i with | .string, .str s, .int _ n => sC (0 ≤ n) (Bd (s[n.toNat]?) fun c => some (AV.int .u8 c.toNat)) | _, _, _ => none) fun v => some ⟨v, [], []⟩ := by
  simp only [yB]
  cases P.underlying t with
  | none => rfl
  | some u => cases u <;> try rfl
              cases ρ x <;> try rfl
              cases ρ i <;> try rfl
              rename_i s k n
              simp only [Bd, Xa, sC]
              split
              · cases s[n.toNat]? <;> rfl
              · rfl
theorem zk3 {x : Operand} {i : Nat} : yB P (.extract x i) ρ η nm = Bd (match ρ x with | .tup vs => vs[i]? | _ => none) fun v => some ⟨v, [], []⟩ := by
  simp only [yB]
  cases ρ x <;> first | rfl | (rename_i vs; simp only [Bd, Xa]; cases vs[i]? <;> rfl)
theorem S_bi {b : Builtin} {args : Array Operand} {ats : Array TypeId} : yB P (.call { callee := .builtin b, args := args, argTypes := ats }) ρ η nm = kK P b ats.toList (args.toList.map ρ) η nm := rfl
theorem B_len {t : TypeId} {x : AV} : kK P .len [t] [x] η nm = Bd (Xa (P.underlying t)) fun u => Bd (match u, x with
    | .string, .str s => some (AV.int .i64 s.length) | .slice _, .nils => some (.int .i64 0) | .slice _, .sl _ _ _ _ n => some (.int .i64 n) | .slice _, .psl _ es => some (.int .i64 es.length) | .slice _, .emp => some (.int .i64 0) | _, _ => none) fun v => some ⟨v, [], []⟩ := by
  simp only [kK, mX]
  cases P.underlying t with
  | none => rfl
  | some u => cases u <;> first | rfl | (cases x <;> rfl)
theorem zkH {t t' : TypeId} {s x : AV} : kK P .append [t, t'] [s, x] η nm = Bd (Xa (rI P t t' s x η nm)) fun r => some ⟨r.1, [r.2.1], r.2.2⟩ := by
  simp only [kK]; cases rI P t t' s x η nm <;> rfl
theorem B_max {ts : List TypeId} {k : IntKind} {x y : Int} : kK P .max ts [.int k x, .int k y] η nm = some ⟨.int k (if x < y then y else x), [], []⟩ := by
  simp [kK, aMax]
theorem B_min {ts : List TypeId} {k : IntKind} {x y : Int} : kK P .min ts [.int k x, .int k y] η nm = some ⟨.int k (if y < x then y else x), [], []⟩ := by
  simp [kK, aMin]
theorem zit {t t' : TypeId} {x : AV} : rI P t t' .nils x η nm = Bd (Xa (iD P t)) fun e => Bd (Xa (iD P t')) fun e' => Bd (Xa (oB P e)) fun sz => Bd (Xa (qD P e)) fun bs => Bd (Xa (oB P e')) fun sz' => Bd (Xa (tC P e)) fun z => sC (sz = sz' ∧ 0 < sz ∧ 0 < bs ∧ z.length = sz)
    (Bd (bH η sz x) fun p => sC (2 * (p.1.length * bs) ≤ 2 ^ 48) (some (.sl nm 0 sz 0 p.1.length, (nm, { g := 0, own := true, pure := p.1.all AV.isP.isPs, sz := sz, es := p.1 }), p.2))) := by
  simp only [rI]
  cases iD P t with
  | none => rfl
  | some e => cases iD P t' with
    | none => rfl
    | some e' => simp only [Bd, Xa]; cases oB P e with
      | none => rfl
      | some sz => cases qD P e with
        | none => rfl
        | some bs => cases oB P e' with
          | none => rfl
          | some sz' => cases tC P e with
            | none => rfl
            | some z => simp only [sC, Xa]; split
                        · cases bH η sz x <;> rfl
                        · rfl
theorem zfQ {t t' : TypeId} {x : AV} : rI P t t' .emp x η nm = Bd (Xa (iD P t)) fun e => Bd (Xa (iD P t')) fun e' => Bd (Xa (oB P e)) fun sz => Bd (Xa (qD P e)) fun bs => Bd (Xa (oB P e')) fun sz' => Bd (Xa (tC P e)) fun z => sC (sz = sz' ∧ 0 < sz ∧ 0 < bs ∧ z.length = sz)
    (Bd (bH η sz x) fun p => sC (2 * (p.1.length * bs) ≤ 2 ^ 48) (some (.sl nm 0 sz 0 p.1.length, (nm, { g := 0, own := true, pure := p.1.all AV.isP.isPs, sz := sz, es := p.1 }), p.2))) := by
  simp only [rI]
  cases iD P t with
  | none => rfl
  | some e => cases iD P t' with
    | none => rfl
    | some e' => simp only [Bd, Xa]; cases oB P e with
      | none => rfl
      | some sz => cases qD P e with
        | none => rfl
        | some bs => cases oB P e' with
          | none => rfl
          | some sz' => cases tC P e with
            | none => rfl
            | some z => simp only [sC, Xa]; split
                        · cases bH η sz x <;> rfl
                        · rfl
theorem zmx {t t' : TypeId} {b g z0 off len : Nat} {x : AV} : rI P t t' (.sl b g z0 off len) x η nm = Bd (Xa (iD P t)) fun e => Bd (Xa (iD P t')) fun e' => Bd (Xa (oB P e)) fun sz => Bd (Xa (qD P e)) fun bs => Bd (Xa (oB P e')) fun sz' => Bd (Xa (tC P e)) fun z => sC (sz = sz' ∧ 0 < sz ∧ 0 < bs ∧ z.length = sz)
    (Bd (bH η sz x) fun p => Bd (η b) fun blk => sC (z0 = sz ∧ blk.g = g ∧ blk.sz = sz ∧ off = 0 ∧ len = blk.es.length ∧ blk.own = true ∧ 2 * ((len + p.1.length) * bs) ≤ 2 ^ 48)
      (some (.sl b (g + 1) sz 0 (len + p.1.length), (b, { blk with g := g + 1, es := blk.es ++ p.1, pure := blk.pure && p.1.all AV.isP.isPs }), b :: p.2))) := by
  simp only [rI]
  cases iD P t with
  | none => rfl
  | some e => cases iD P t' with
    | none => rfl
    | some e' => simp only [Bd, Xa]; cases oB P e with
      | none => rfl
      | some sz => cases qD P e with
        | none => rfl
        | some bs => cases oB P e' with
          | none => rfl
          | some sz' => cases tC P e with
            | none => rfl
            | some z => simp only [sC, Xa]; split
                        · cases bH η sz x with
                          | none => rfl
                          | some p => simp only; cases η b <;> rfl
                        · rfl
theorem zhV {sz : Nat} : bH η sz .nils = some ([], []) := rfl
theorem zjm {sz : Nat} : bH η sz .emp = some ([], []) := rfl
theorem zld {sz z : Nat} {es : List (List AV)} : bH η sz (.psl z es) = sC (z = sz ∨ es = []) (some (es, [])) := rfl
theorem zlO {sz b g z off len : Nat} : bH η sz (.sl b g z off len) = Bd (Xa (η b)) fun blk => sC (z = sz ∧ blk.g = g ∧ blk.sz = sz ∧ off + len ≤ blk.es.length) (some ((blk.es.drop off).take len, [b])) := by
  simp only [bH]; cases η b <;> rfl
end
section
variable {x a b c : Operand} {t ty : TypeId} {n : Nat} {pr : Array (Nat × Operand)} {bo : BinOp} {uo : UnOp} {fn : Fn} {ar br : Array Operand} {oa ob oc : Option Operand} {bi : Builtin} {ts : Array TypeId}
theorem H_move {P : Program} {η : cB} {nm : Nat} {d : Option Tmp} {tq : TypeId} {pos : String} {after : Array Edge} {g : Option (Nat × Bool)} {ans : Option (AV × List lA)} {gt : List Nat} {τ : Nat → AV} {k : SE → Prop} :
    xB (pD P ⟨d, (.move x), tq, pos, after, g⟩ ans nm gt τ η) k = xB (Xa (yB P (.move x) (vB τ) η nm)) fun e => k ⟨d, e.v, e.wr, gt ++ aE (Op.operands (.move x)).toList, e.rd, none⟩ := dF rfl
theorem H_mkif {P : Program} {η : cB} {nm : Nat} {d : Option Tmp} {tq : TypeId} {pos : String} {after : Array Edge} {g : Option (Nat × Bool)} {ans : Option (AV × List lA)} {gt : List Nat} {τ : Nat → AV} {k : SE → Prop} :
    xB (pD P ⟨d, (.makeInterface t x), tq, pos, after, g⟩ ans nm gt τ η) k = xB (Xa (yB P (.makeInterface t x) (vB τ) η nm)) fun e => k ⟨d, e.v, e.wr, gt ++ aE (Op.operands (.makeInterface t x)).toList, e.rd, none⟩ := dF rfl
theorem zof {xt : TypeId} {ok : Bool} {P : Program} {η : cB} {nm : Nat} {d : Option Tmp} {tq : TypeId} {pos : String} {after : Array Edge} {g : Option (Nat × Bool)} {ans : Option (AV × List lA)} {gt : List Nat} {τ : Nat → AV} {k : SE → Prop} :
    xB (pD P ⟨d, (.typeAssert x xt t ok), tq, pos, after, g⟩ ans nm gt τ η) k = xB (Xa (yB P (.typeAssert x xt t ok) (vB τ) η nm)) fun e => k ⟨d, e.v, e.wr, gt ++ aE (Op.operands (.typeAssert x xt t ok)).toList, e.rd, none⟩ := dF rfl
theorem zgl {P : Program} {η : cB} {nm : Nat} {d : Option Tmp} {tq : TypeId} {pos : String} {after : Array Edge} {g : Option (Nat × Bool)} {ans : Option (AV × List lA)} {gt : List Nat} {τ : Nat → AV} {k : SE → Prop} :
    xB (pD P ⟨d, (.assign x), tq, pos, after, g⟩ ans nm gt τ η) k = xB (Xa (yB P (.assign x) (vB τ) η nm)) fun e => k ⟨d, e.v, e.wr, gt ++ aE (Op.operands (.assign x)).toList, e.rd, none⟩ := dF rfl
theorem H_pick {P : Program} {η : cB} {nm : Nat} {d : Option Tmp} {tq : TypeId} {pos : String} {after : Array Edge} {g : Option (Nat × Bool)} {ans : Option (AV × List lA)} {gt : List Nat} {τ : Nat → AV} {k : SE → Prop} :
    xB (pD P ⟨d, (.pick c a b), tq, pos, after, g⟩ ans nm gt τ η) k = xB (Xa (yB P (.pick c a b) (vB τ) η nm)) fun e => k ⟨d, e.v, e.wr, gt ++ aE (Op.operands (.pick c a b)).toList, e.rd, none⟩ := dF rfl
theorem zmL {P : Program} {η : cB} {nm : Nat} {d : Option Tmp} {tq : TypeId} {pos : String} {after : Array Edge} {g : Option (Nat × Bool)} {ans : Option (AV × List lA)} {gt : List Nat} {τ : Nat → AV} {k : SE → Prop} :
    xB (pD P ⟨d, (.alloc t), tq, pos, after, g⟩ ans nm gt τ η) k = xB (Xa (yB P (.alloc t) (vB τ) η nm)) fun e => k ⟨d, e.v, e.wr, gt ++ aE (Op.operands (.alloc t)).toList, e.rd, none⟩ := dF rfl
theorem H_box {P : Program} {η : cB} {nm : Nat} {d : Option Tmp} {tq : TypeId} {pos : String} {after : Array Edge} {g : Option (Nat × Bool)} {ans : Option (AV × List lA)} {gt : List Nat} {τ : Nat → AV} {k : SE → Prop} :
    xB (pD P ⟨d, (.box t x), tq, pos, after, g⟩ ans nm gt τ η) k = xB (Xa (yB P (.box t x) (vB τ) η nm)) fun e => k ⟨d, e.v, e.wr, gt ++ aE (Op.operands (.box t x)).toList, e.rd, none⟩ := dF rfl
theorem zkP {P : Program} {η : cB} {nm : Nat} {d : Option Tmp} {tq : TypeId} {pos : String} {after : Array Edge} {g : Option (Nat × Bool)} {ans : Option (AV × List lA)} {gt : List Nat} {τ : Nat → AV} {k : SE → Prop} :
    xB (pD P ⟨d, (.build t pr), tq, pos, after, g⟩ ans nm gt τ η) k = xB (Xa (yB P (.build t pr) (vB τ) η nm)) fun e => k ⟨d, e.v, e.wr, gt ++ aE (Op.operands (.build t pr)).toList, e.rd, none⟩ := dF rfl
theorem zfh {P : Program} {η : cB} {nm : Nat} {d : Option Tmp} {tq : TypeId} {pos : String} {after : Array Edge} {g : Option (Nat × Bool)} {ans : Option (AV × List lA)} {gt : List Nat} {τ : Nat → AV} {k : SE → Prop} :
    xB (pD P ⟨d, (.buildSlice t n pr), tq, pos, after, g⟩ ans nm gt τ η) k = xB (Xa (yB P (.buildSlice t n pr) (vB τ) η nm)) fun e => k ⟨d, e.v, e.wr, gt ++ aE (Op.operands (.buildSlice t n pr)).toList, e.rd, none⟩ := dF rfl
theorem H_load {P : Program} {η : cB} {nm : Nat} {d : Option Tmp} {tq : TypeId} {pos : String} {after : Array Edge} {g : Option (Nat × Bool)} {ans : Option (AV × List lA)} {gt : List Nat} {τ : Nat → AV} {k : SE → Prop} :
    xB (pD P ⟨d, (.load t a), tq, pos, after, g⟩ ans nm gt τ η) k = xB (Xa (yB P (.load t a) (vB τ) η nm)) fun e => k ⟨d, e.v, e.wr, gt ++ aE (Op.operands (.load t a)).toList, e.rd, none⟩ := dF rfl
theorem znO {P : Program} {η : cB} {nm : Nat} {d : Option Tmp} {tq : TypeId} {pos : String} {after : Array Edge} {g : Option (Nat × Bool)} {ans : Option (AV × List lA)} {gt : List Nat} {τ : Nat → AV} {k : SE → Prop} :
    xB (pD P ⟨d, (.store t a b), tq, pos, after, g⟩ ans nm gt τ η) k = xB (Xa (yB P (.store t a b) (vB τ) η nm)) fun e => k ⟨d, e.v, e.wr, gt ++ aE (Op.operands (.store t a b)).toList, e.rd, none⟩ := dF rfl
theorem zn9 {P : Program} {η : cB} {nm : Nat} {d : Option Tmp} {tq : TypeId} {pos : String} {after : Array Edge} {g : Option (Nat × Bool)} {ans : Option (AV × List lA)} {gt : List Nat} {τ : Nat → AV} {k : SE → Prop} :
    xB (pD P ⟨d, (.nilCheck x), tq, pos, after, g⟩ ans nm gt τ η) k = xB (Xa (yB P (.nilCheck x) (vB τ) η nm)) fun e => k ⟨d, e.v, e.wr, gt ++ aE (Op.operands (.nilCheck x)).toList, e.rd, none⟩ := dF rfl
theorem zn3 {P : Program} {η : cB} {nm : Nat} {d : Option Tmp} {tq : TypeId} {pos : String} {after : Array Edge} {g : Option (Nat × Bool)} {ans : Option (AV × List lA)} {gt : List Nat} {τ : Nat → AV} {k : SE → Prop} :
    xB (pD P ⟨d, (.binOp bo t a b ty), tq, pos, after, g⟩ ans nm gt τ η) k = xB (Xa (yB P (.binOp bo t a b ty) (vB τ) η nm)) fun e => k ⟨d, e.v, e.wr, gt ++ aE (Op.operands (.binOp bo t a b ty)).toList, e.rd, none⟩ := dF rfl
theorem H_unOp {P : Program} {η : cB} {nm : Nat} {d : Option Tmp} {tq : TypeId} {pos : String} {after : Array Edge} {g : Option (Nat × Bool)} {ans : Option (AV × List lA)} {gt : List Nat} {τ : Nat → AV} {k : SE → Prop} :
    xB (pD P ⟨d, (.unOp uo t a), tq, pos, after, g⟩ ans nm gt τ η) k = xB (Xa (yB P (.unOp uo t a) (vB τ) η nm)) fun e => k ⟨d, e.v, e.wr, gt ++ aE (Op.operands (.unOp uo t a)).toList, e.rd, none⟩ := dF rfl
theorem H_conv {P : Program} {η : cB} {nm : Nat} {d : Option Tmp} {tq ts td : TypeId} {a : Operand} {pos : String} {after : Array Edge} {g : Option (Nat × Bool)} {ans : Option (AV × List lA)} {gt : List Nat} {τ : Nat → AV} {k : SE → Prop} :
    xB (pD P ⟨d, (.convert ts td a), tq, pos, after, g⟩ ans nm gt τ η) k = xB (Xa (yB P (.convert ts td a) (vB τ) η nm)) fun e => k ⟨d, e.v, e.wr, gt ++ aE (Op.operands (.convert ts td a)).toList, e.rd, none⟩ := dF rfl
theorem znq {P : Program} {η : cB} {nm : Nat} {d : Option Tmp} {tq : TypeId} {pos : String} {after : Array Edge} {g : Option (Nat × Bool)} {ans : Option (AV × List lA)} {gt : List Nat} {τ : Nat → AV} {k : SE → Prop} :
    xB (pD P ⟨d, (.makeFunc fn ar br), tq, pos, after, g⟩ ans nm gt τ η) k = xB (Xa (yB P (.makeFunc fn ar br) (vB τ) η nm)) fun e => k ⟨d, e.v, e.wr, gt ++ aE (Op.operands (.makeFunc fn ar br)).toList, e.rd, none⟩ := dF rfl
theorem zg4 {P : Program} {η : cB} {nm : Nat} {d : Option Tmp} {tq : TypeId} {pos : String} {after : Array Edge} {g : Option (Nat × Bool)} {ans : Option (AV × List lA)} {gt : List Nat} {τ : Nat → AV} {k : SE → Prop} :
    xB (pD P ⟨d, (.makeSlice t a b), tq, pos, after, g⟩ ans nm gt τ η) k = xB (Xa (yB P (.makeSlice t a b) (vB τ) η nm)) fun e => k ⟨d, e.v, e.wr, gt ++ aE (Op.operands (.makeSlice t a b)).toList, e.rd, none⟩ := dF rfl
theorem zk6 {P : Program} {η : cB} {nm : Nat} {d : Option Tmp} {tq : TypeId} {pos : String} {after : Array Edge} {g : Option (Nat × Bool)} {ans : Option (AV × List lA)} {gt : List Nat} {τ : Nat → AV} {k : SE → Prop} :
    xB (pD P ⟨d, (.slice t a oa ob oc), tq, pos, after, g⟩ ans nm gt τ η) k = xB (Xa (yB P (.slice t a oa ob oc) (vB τ) η nm)) fun e => k ⟨d, e.v, e.wr, gt ++ aE (Op.operands (.slice t a oa ob oc)).toList, e.rd, none⟩ := dF rfl
theorem zig {P : Program} {η : cB} {nm : Nat} {d : Option Tmp} {tq : TypeId} {pos : String} {after : Array Edge} {g : Option (Nat × Bool)} {ans : Option (AV × List lA)} {gt : List Nat} {τ : Nat → AV} {k : SE → Prop} :
    xB (pD P ⟨d, (.fieldAddr t a n), tq, pos, after, g⟩ ans nm gt τ η) k = xB (Xa (yB P (.fieldAddr t a n) (vB τ) η nm)) fun e => k ⟨d, e.v, e.wr, gt ++ aE (Op.operands (.fieldAddr t a n)).toList, e.rd, none⟩ := dF rfl
theorem zfY {P : Program} {η : cB} {nm : Nat} {d : Option Tmp} {tq : TypeId} {pos : String} {after : Array Edge} {g : Option (Nat × Bool)} {ans : Option (AV × List lA)} {gt : List Nat} {τ : Nat → AV} {k : SE → Prop} :
    xB (pD P ⟨d, (.field t a n), tq, pos, after, g⟩ ans nm gt τ η) k = xB (Xa (yB P (.field t a n) (vB τ) η nm)) fun e => k ⟨d, e.v, e.wr, gt ++ aE (Op.operands (.field t a n)).toList, e.rd, none⟩ := dF rfl
theorem znE {P : Program} {η : cB} {nm : Nat} {d : Option Tmp} {tq : TypeId} {pos : String} {after : Array Edge} {g : Option (Nat × Bool)} {ans : Option (AV × List lA)} {gt : List Nat} {τ : Nat → AV} {k : SE → Prop} :
    xB (pD P ⟨d, (.indexAddr t a b), tq, pos, after, g⟩ ans nm gt τ η) k = xB (Xa (yB P (.indexAddr t a b) (vB τ) η nm)) fun e => k ⟨d, e.v, e.wr, gt ++ aE (Op.operands (.indexAddr t a b)).toList, e.rd, none⟩ := dF rfl
theorem zjh {P : Program} {η : cB} {nm : Nat} {d : Option Tmp} {tq : TypeId} {pos : String} {after : Array Edge} {g : Option (Nat × Bool)} {ans : Option (AV × List lA)} {gt : List Nat} {τ : Nat → AV} {k : SE → Prop} :
    xB (pD P ⟨d, (.index t a b), tq, pos, after, g⟩ ans nm gt τ η) k = xB (Xa (yB P (.index t a b) (vB τ) η nm)) fun e => k ⟨d, e.v, e.wr, gt ++ aE (Op.operands (.index t a b)).toList, e.rd, none⟩ := dF rfl
theorem znd {P : Program} {η : cB} {nm : Nat} {d : Option Tmp} {tq : TypeId} {pos : String} {after : Array Edge} {g : Option (Nat × Bool)} {ans : Option (AV × List lA)} {gt : List Nat} {τ : Nat → AV} {k : SE → Prop} :
    xB (pD P ⟨d, (.extract a n), tq, pos, after, g⟩ ans nm gt τ η) k = xB (Xa (yB P (.extract a n) (vB τ) η nm)) fun e => k ⟨d, e.v, e.wr, gt ++ aE (Op.operands (.extract a n)).toList, e.rd, none⟩ := dF rfl
theorem H_bi {P : Program} {η : cB} {nm : Nat} {d : Option Tmp} {tq : TypeId} {pos : String} {after : Array Edge} {g : Option (Nat × Bool)} {ans : Option (AV × List lA)} {gt : List Nat} {τ : Nat → AV} {k : SE → Prop} :
    xB (pD P ⟨d, (.call { callee := .builtin bi, args := ar, argTypes := ts }), tq, pos, after, g⟩ ans nm gt τ η) k = xB (Xa (yB P (.call { callee := .builtin bi, args := ar, argTypes := ts }) (vB τ) η nm)) fun e => k ⟨d, e.v, e.wr, gt ++ aE (Op.operands (.call { callee := .builtin bi, args := ar, argTypes := ts })).toList, e.rd, none⟩ := dF rfl
theorem eval_t {τ : Nat → AV} {t : Nat} : vB τ (.tmp t) = τ t := rfl
theorem eval_c {τ : Nat → AV} {v : Value} : vB τ (.const v) = zL v := rfl
theorem eval_f {τ : Nat → AV} {f : FuncId} : vB τ (.func f) = .fn f [] [] := rfl
theorem zky {k : IntKind} {n : Int} : zL (.int k n) = .int k n := rfl
theorem zon {b : Bool} : zL (.bool b) = .bool b := rfl
theorem zgh {s : ByteArray} : zL (.string s) = .str s.data.toList := rfl
theorem zln : zL (.slice none 0 0) = .nils := rfl
theorem zkI : zL (.pointer none) = .nilp := rfl
theorem zjI : zL .nilFunc = .nilf := rfl
theorem zkX {k : IntKind} {n : Int} : (AV.int k n).cells = some [.int k n] := rfl
theorem ziS {b : Bool} : (AV.bool b).cells = some [.bool b] := rfl
theorem ziT {s : List UInt8} : (AV.str s).cells = some [.str s] := rfl
theorem zlD {cs : List AV} : (AV.agg cs).cells = some cs := rfl
theorem zlW : AV.nils.cells = some [.nils] := rfl
theorem zg9 : AV.nilp.cells = some [.nilp] := rfl
theorem zl1 : AV.nilf.cells = some [.nilf] := rfl
theorem zkT {z : Nat} {es : List (List AV)} : (AV.psl z es).cells = some [.psl z es] := rfl
theorem znM {b g z o l : Nat} : (AV.sl b g z o l).cells = some [.sl b g z o l] := rfl
theorem zjR {b g i j : Nat} : (AV.ref b g i j).cells = some [.ref b g i j] := rfl
theorem zji {cs : List AV} : (AV.pp cs).cells = some [.pp cs] := rfl
theorem zgg {f : FuncId} {a c : List AV} : (AV.fn f a c).cells = some [.fn f a c] := rfl
theorem zh9 {fr : List (Nat × AV)} {d : Nat} {v : AV} : gH fr (some d) v = (d, v) :: fr := rfl
theorem zfu {fr : List (Nat × AV)} {v : AV} : gH fr none v = fr := rfl
theorem zhJ {nt : Nat} {op : Op} {pos : String} {after : Array Edge} {g : Option (Nat × Bool)} : tG nt ⟨none, op, ty, pos, after, g⟩ = true := rfl
theorem znk {nt d : Nat} {op : Op} {pos : String} {after : Array Edge} {g : Option (Nat × Bool)} : tG nt ⟨some d, op, ty, pos, after, g⟩ = decide (d < nt) := rfl
theorem zli {P : Program} {d : Option Nat} {v : AV} {wr : List (Nat × lA)} {rt rb : List Nat} : aV P ⟨d, v, wr, rt, rb, none⟩ = True := rfl
theorem zlq {P : Program} {d : Option Nat} {v : AV} {wr : List (Nat × lA)} {rt rb : List Nat} {o : Obl} : aV P ⟨d, v, wr, rt, rb, some o⟩ = lB P o.f o.args o.r o.blks := rfl
end
section
variable {P : Program} {t : TypeId} {k : IntKind} {a b : Int} {x y : List UInt8}
theorem I_add : aD P .add t (.int k a) (.int k b) = some (.int k (k.wrap (a + b))) := by simp [aD]
theorem I_sub : aD P .sub t (.int k a) (.int k b) = some (.int k (k.wrap (a - b))) := by simp [aD]
theorem I_mul : aD P .mul t (.int k a) (.int k b) = some (.int k (k.wrap (a * b))) := by simp [aD]
theorem I_quo : aD P .quo t (.int k a) (.int k b) = sC (b ≠ 0) (some (.int k (k.wrap (a.tdiv b)))) := by by_cases h : b = 0 <;> simp [aD, sC, h]
theorem I_rem : aD P .rem t (.int k a) (.int k b) = sC (b ≠ 0) (some (.int k (a.tmod b))) := by by_cases h : b = 0 <;> simp [aD, sC, h]
theorem I_shl : aD P .shl t (.int k a) (.int k b) = sC (0 ≤ b) (some (.int k (k.wrap (a * 2 ^ (min b.toNat k.bits))))) := by by_cases h : b < 0 <;> simp [aD, sC, h]
theorem I_eql : aD P .eql t (.int k a) (.int k b) = some (.bool (decide (a = b))) := by simp only [aD, if_true]; rfl
theorem I_neq : aD P .neq t (.int k a) (.int k b) = some (.bool (!decide (a = b))) := by simp only [aD, if_true]; rfl
theorem I_lss : aD P .lss t (.int k a) (.int k b) = some (.bool (decide (a < b))) := by simp [aD]
theorem I_leq : aD P .leq t (.int k a) (.int k b) = some (.bool (decide (a ≤ b))) := by simp [aD]
theorem I_gtr : aD P .gtr t (.int k a) (.int k b) = some (.bool (decide (b < a))) := by simp [aD]
theorem I_geq : aD P .geq t (.int k a) (.int k b) = some (.bool (decide (b ≤ a))) := by simp [aD]
theorem C_eql : aD P .eql t (.str x) (.str y) = some (.bool (x == y)) := rfl
theorem C_neq : aD P .neq t (.str x) (.str y) = some (.bool (!(x == y))) := rfl
theorem C_lss : aD P .lss t (.str x) (.str y) = some (.bool (Op.bytesLess x y)) := rfl
theorem C_leq : aD P .leq t (.str x) (.str y) = some (.bool (Op.bytesLess x y || x == y)) := rfl
theorem C_gtr : aD P .gtr t (.str x) (.str y) = some (.bool (!(Op.bytesLess x y || x == y))) := rfl
theorem C_geq : aD P .geq t (.str x) (.str y) = some (.bool (!(Op.bytesLess x y))) := rfl
end
section
variable {η : cB} {d : Nat}
theorem zks {k : IntKind} {n : Int} : wB η (d + 1) (.int k n) = some (.int k n, []) := rfl
theorem zmC {s : List UInt8} : wB η (d + 1) (.str s) = some (.str s, []) := rfl
theorem zl9 {b : Bool} : wB η (d + 1) (.bool b) = some (.bool b, []) := rfl
theorem pur_pp {cs : List AV} : wB η (d + 1) (.pp cs) = some (.pp cs, []) := rfl
theorem znr {z : Nat} {es : List (List AV)} : wB η (d + 1) (.psl z es) = some (.psl z es, []) := rfl
theorem zns : wB η (d + 1) .nils = some (.nils, []) := rfl
theorem zfM : wB η (d + 1) .nilp = some (.nilp, []) := rfl
theorem zla : wB η (d + 1) .nilf = some (.nilf, []) := rfl
theorem zoC {cs : List AV} : wB η (d + 1) (.agg cs) = Bd (Xa (wB.purs η d cs)) fun p => some (.agg p.1, p.2) := by
  simp only [wB]; cases wB.purs η d cs <;> rfl
theorem pur_fn {f : FuncId} {a c : List AV} : wB η (d + 1) (.fn f a c) = Bd (Xa (wB.purs η d a)) fun p => Bd (Xa (wB.purs η d c)) fun q => some (.fn f p.1 q.1, p.2 ++ q.2) := by
  simp only [wB]; cases wB.purs η d a <;> cases wB.purs η d c <;> rfl
theorem pur_sl {b g z off len : Nat} : wB η (d + 1) (.sl b g z off len) = Bd (Xa (η b)) fun blk => sC (blk.sz = z ∧ blk.g = g ∧ off + len ≤ blk.es.length) (if blk.pure = true then some (.psl blk.sz ((blk.es.drop off).take len), [b]) else Bd (Xa (dI (wB.purs η d) ((blk.es.drop off).take len))) fun p => some (.psl blk.sz p.1, b :: p.2)) := by
  simp only [wB]
  cases η b with
  | none => rfl
  | some blk => simp only [Bd, Xa, sC]; split
                · split
                  · rfl
                  · cases dI (wB.purs η d) ((blk.es.drop off).take len) <;> rfl
                · rfl
theorem zfO : wB.purs η (d + 1) [] = some ([], []) := rfl
theorem zic {v : AV} {vs : List AV} : wB.purs η (d + 1) (v :: vs) = Bd (Xa (wB η d v)) fun p => Bd (Xa (wB.purs η d vs)) fun q => some (p.1 :: q.1, p.2 ++ q.2) := by
  simp only [wB.purs]; cases wB η d v <;> cases wB.purs η d vs <;> rfl
end
end Go.AM
