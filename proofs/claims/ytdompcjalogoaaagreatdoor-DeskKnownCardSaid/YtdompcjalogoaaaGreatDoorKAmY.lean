/- A text of the proof. -/
import Derived.Test.YtdompcjalogoaaaGreatDoorKAmX
set_option linter.unusedSimpArgs false
set_option linter.unusedVariables false
namespace Go.AM
open Go Go.RowKit
def Bd {α β : Type} (x : Option α) (f : α → Option β) : Option β := match x with | some a => f a | none => none
@[congr] theorem Bd_congr {α β : Type} {x y : Option α} {f : α → Option β} (h : x = y) : Bd x f = Bd y f := by rw [h]
theorem Bd_some {α β : Type} (a : α) (f : α → Option β) : Bd (some a) f = f a := rfl
theorem Bd_none {α β : Type} (f : α → Option β) : Bd none f = none := rfl
def IfO {α : Type} (c : Prop) [Decidable c] (x : Option α) : Option α := if c then x else none
@[congr] theorem IfO_congr {α : Type} {c : Prop} [Decidable c] {x : Option α} : IfO c x = IfO c x := rfl
theorem Bd_IfO [Adr] {α β : Type} (c : Prop) [Decidable c] (x : Option α) (f : α → Option β) : Bd (IfO c x) f = IfO c (Bd x f) := by
  unfold IfO; split <;> rfl
theorem Holds_IfO [Adr] {α : Type} (c : Prop) [Decidable c] (x : Option α) (k : α → Prop) : Holds (IfO c x) k = (c ∧ Holds (Xa x) k) := Holds_if c x k
theorem Holds_Bd {α β : Type} (x : Option α) (f : α → Option β) (k : β → Prop) : Holds (Bd x f) k = Holds (Xa x) fun a => Holds (Xa (f a)) k := by cases x <;> rfl
def boolO : AV → Option Bool | .bool b => some b | _ => none
theorem boolO_b (b : Bool) : boolO (.bool b) = some b := rfl
section
variable {P : Program} {ρ : Operand → AV} {η : Heap} {nm : Nat}
theorem H_op [Adr] {d : Option Tmp} {op : Op} {ty : TypeId} {pos : String} {after : Array Edge} {g : Option (Nat × Bool)} {ans : Option (AV × List ABlk)} {gt : List Nat} {τ : Nat → AV} {k : SE → Prop} (h : isCall op = none) (h2 : isInv P op τ = none := by rfl) :
    Holds (runO false P ⟨d, op, ty, pos, after, g⟩ ans nm gt τ η) k = Holds (Xa (opSem P op (evalO τ) η nm)) fun e => k ⟨d, e.v, e.wr, gt ++ opTmps op.operands.toList, e.rd, none⟩ := by
  simp only [runO, h, h2, opSemE]
  cases opSem P op (evalO τ) η nm <;> rfl
theorem H_call [Adr] {d : Option Tmp} {f : Operand} {args : Array Operand} {ats : Array TypeId} {ty : TypeId} {pos : String} {after : Array Edge} {g : Option (Nat × Bool)} {ans : Option (AV × List ABlk)} {gt : List Nat} {τ : Nat → AV} {k : SE → Prop} :
    Holds (runO false P ⟨d, .call { callee := .value f, args := args, argTypes := ats }, ty, pos, after, g⟩ ans nm gt τ η) k =
      Holds (Bd ans fun a => semCall η nm (evalO τ f) (args.toList.map (evalO τ)) a) fun r => k ⟨d, r.1.v, r.1.wr, gt ++ opTmps (f :: args.toList), r.1.rd, some r.2⟩ := by
  simp only [runO, isCall]
  cases ans with
  | none => rfl
  | some a => simp only [Bd, Xa]; cases semCall η nm (evalO τ f) (args.toList.map (evalO τ)) a <;> rfl
theorem recvO_iface {t : TypeId} {x : AV} {name : String} : recvO P (.iface t x) name = Bd (Xa (aMethod P t name)) fun f => some (f, x) := by
  simp only [recvO]; cases aMethod P t name <;> rfl
theorem H_invoke [Adr] {d : Option Tmp} {rcv : Operand} {name : String} {args : Array Operand} {ats : Array TypeId} {ty : TypeId} {pos : String} {after : Array Edge} {g : Option (Nat × Bool)} {ans : Option (AV × List ABlk)} {gt : List Nat} {τ : Nat → AV} {k : SE → Prop} :
    Holds (runO false P ⟨d, .call { callee := .invoke rcv name, args := args, argTypes := ats }, ty, pos, after, g⟩ ans nm gt τ η) k =
      Holds (Bd (Xa (recvO P (evalO τ rcv) name)) fun p => Bd ans fun a => semCall η nm (.fn p.1 [] []) (p.2 :: args.toList.map (evalO τ)) a) fun r => k ⟨d, r.1.v, r.1.wr, gt ++ opTmps (rcv :: args.toList), r.1.rd, some r.2⟩ := by
  have hops : (Op.call { callee := .invoke rcv name, args := args, argTypes := ats }).operands.toList = rcv :: args.toList := by simp [Op.operands, Call.operands]
  simp only [runO, isCall, isInv, hops]
  cases recvO P (evalO τ rcv) name with
  | none => cases ans <;> rfl
  | some p =>
    cases ans with
    | none => rfl
    | some a => simp only [Bd, Xa]; cases semCall η nm (.fn p.1 [] []) (p.2 :: args.toList.map (evalO τ)) a <;> rfl
theorem semCall_fn {fid : FuncId} {first cap args : List AV} {ans : AV × List ABlk} : semCall η nm (.fn fid first cap) args ans =
    Bd (pur.purs η 60 (first ++ args ++ cap)) fun p => IfO (ans.2.length ≤ 8) (some (⟨ans.1.shift nm, (if p.2.isEmpty || (ans.1.flatR && ans.2.all ABlk.flat) then [] else freezeAll η p.2) ++ imports nm 0 ans.2, p.2⟩, ⟨fid, p.1, ans.1, ans.2⟩)) := by
  simp only [semCall]
  cases pur.purs η 60 (first ++ args ++ cap) <;> rfl
theorem S_move {x : Operand} : opSem P (.move x) ρ η nm = some ⟨ρ x, [], []⟩ := rfl
theorem S_assign {x : Operand} : opSem P (.assign x) ρ η nm = some ⟨ρ x, [], []⟩ := rfl
theorem S_pick {c a b : Operand} : opSem P (.pick c a b) ρ η nm = Bd (Xa (boolO (ρ c))) fun t => some ⟨if t then ρ a else ρ b, [], []⟩ := by
  simp only [opSem]; cases ρ c <;> rfl
theorem S_alloc {t : TypeId} : opSem P (.alloc t) ρ η nm = Bd (Xa (tSize P t)) fun n => Bd (Xa (tZero P t)) fun z => IfO (z.length = n) (some ⟨.ref nm 0 0 0, [(nm, { g := 0, own := true, pure := AV.isP.isPs z, sz := n, es := [z] })], []⟩) := by
  simp only [opSem]; cases tSize P t <;> cases tZero P t <;> rfl
theorem S_mkif {t : TypeId} {x : Operand} : opSem P (.makeInterface t x) ρ η nm = IfO (tConc P t = true) (some ⟨.iface t (ρ x), [], []⟩) := by
  simp only [opSem, IfO]
def assertO (P : Program) (t : TypeId) (v : AV) : Option AV := match v with
  | .iface u x => if u = t then some (.tup [x, .bool true]) else (tZeroV P t).map fun z => .tup [z, .bool false]
  | .nili => (tZeroV P t).map fun z => .tup [z, .bool false]
  | _ => none
theorem S_assert {x : Operand} {xt t : TypeId} : opSem P (.typeAssert x xt t true) ρ η nm = IfO (tConc P t = true) (Bd (Xa (assertO P t (ρ x))) fun v => some ⟨v, [], []⟩) := by
  simp only [opSem, IfO, assertO, Bool.true_and]
  split
  · cases ρ x <;> try rfl
    case iface u v =>
      simp only [Bd, Xa]
      by_cases e : u = t
      · simp only [if_pos e]
      · simp only [if_neg e]; cases tZeroV P t <;> rfl
    case nili => simp only [Bd, Xa]; cases tZeroV P t <;> rfl
  · rfl
theorem assertO_yes {t : TypeId} {x : AV} : assertO P t (.iface t x) = some (.tup [x, .bool true]) := by simp [assertO]
theorem assertO_no {u t : TypeId} {x : AV} (h : (u == t) = false) : assertO P t (.iface u x) = Bd (Xa (tZeroV P t)) fun z => some (.tup [z, .bool false]) := by
  have : u ≠ t := by simpa using h
  simp only [assertO, if_neg this]; cases tZeroV P t <;> rfl
theorem assertO_nil {t : TypeId} : assertO P t .nili = Bd (Xa (tZeroV P t)) fun z => some (.tup [z, .bool false]) := by
  simp only [assertO]; cases tZeroV P t <;> rfl
theorem S_box {t : TypeId} {x : Operand} : opSem P (.box t x) ρ η nm = Bd (Xa ((ρ x).cells)) fun cs => some ⟨.ref nm 0 0 0, [(nm, { g := 0, own := true, pure := AV.isP.isPs cs, sz := cs.length, es := [cs] })], []⟩ := by
  simp only [opSem]; cases (ρ x).cells <;> rfl
theorem S_build {t : TypeId} {parts : Array (Nat × Operand)} : opSem P (.build t parts) ρ η nm = Bd (Xa (tPlaces P t)) fun pl => Bd (Xa (tZero P t)) fun z => Bd (Xa (aFill (fun i => pl[i]?) z (parts.toList.map fun p => (p.1, ρ p.2)))) fun cs => some ⟨.agg cs, [], []⟩ := by
  simp only [opSem, aBuild]
  cases tPlaces P t with
  | none => cases tZero P t <;> rfl
  | some pl => cases tZero P t with
    | none => rfl
    | some z => simp only [Bd, Xa]; cases aFill (fun i => pl[i]?) z (parts.toList.map fun p => (p.1, ρ p.2)) <;> rfl
theorem aFill_nil {place : Nat → Option (Nat × Nat)} {cs : List AV} : aFill place cs [] = some cs := rfl
theorem aFill_cons {place : Nat → Option (Nat × Nat)} {cs : List AV} {i : Nat} {v : AV} {rest : List (Nat × AV)} :
    aFill place cs ((i, v) :: rest) = Bd (Xa (place i)) fun p => Bd (Xa (v.cells)) fun vs => IfO (vs.length = p.2 ∧ p.1 + p.2 ≤ cs.length) (aFill place (cs.take p.1 ++ vs ++ cs.drop (p.1 + p.2)) rest) := by
  simp only [aFill]; cases place i <;> cases v.cells <;> rfl
theorem S_buildSlice {t : TypeId} {len : Nat} {parts : Array (Nat × Operand)} : opSem P (.buildSlice t len parts) ρ η nm = Bd (Xa (tSlice P t)) fun e => Bd (Xa (tSize P e)) fun sz => Bd (Xa (tZero P e)) fun z => IfO (len * sz ≤ 2 ^ 24 ∧ z.length = sz ∧ 0 < sz) (Bd (Xa (setAll (List.replicate len z) (parts.toList.map fun p => (p.1, ρ p.2)) sz)) fun es =>
    some ⟨.sl nm 0 sz 0 len, [(nm, { g := 0, own := true, pure := es.all AV.isP.isPs, sz := sz, es := es })], []⟩) := by
  simp only [opSem, aBuildSlice]
  cases tSlice P t with
  | none => rfl
  | some e => simp only [Bd, Xa]; cases tSize P e with
    | none => cases tZero P e <;> rfl
    | some sz => cases tZero P e with
      | none => rfl
      | some z => simp only [IfO, Xa]; split
                  · cases setAll (List.replicate len z) (parts.toList.map fun p => (p.1, ρ p.2)) sz <;> rfl
                  · rfl
theorem setAll_nil {es : List (List AV)} {n : Nat} : setAll es [] n = some es := rfl
theorem setAll_cons {es : List (List AV)} {n i : Nat} {v : AV} {rest : List (Nat × AV)} : setAll es ((i, v) :: rest) n = Bd (Xa (v.cells)) fun cs => IfO (cs.length = n ∧ i < es.length) (setAll (es.set i cs) rest n) := by
  simp only [setAll]; cases v.cells <;> rfl
def loadV (ag : Bool) (n : Nat) (a : AV) (η : Heap) : Option (AV × List Nat) := match a with
  | .ref b g i j => match rdElem η b g i with
    | some e => if j + n ≤ e.length then (AV.ofCells ag ((e.drop j).take n)).map fun v => (v, [b]) else none
    | none => none
  | .pp cs => if n ≤ cs.length then (AV.ofCells ag (cs.take n)).map fun v => (v, []) else none
  | _ => none
theorem S_load {t : TypeId} {a : Operand} : opSem P (.load t a) ρ η nm = Bd (Xa (tAgg P t)) fun ag => Bd (Xa (tSize P t)) fun n => Bd (Xa (loadV ag n (ρ a) η)) fun r => some ⟨r.1, [], r.2⟩ := by
  simp only [opSem, aLoad]
  cases tAgg P t with
  | none => rfl
  | some ag => cases tSize P t with
    | none => rfl
    | some n => show Option.map _ (loadV ag n (ρ a) η) = _; simp only [Bd, Xa]; cases loadV ag n (ρ a) η <;> rfl
theorem loadV_ref {ag : Bool} {n b g i j : Nat} : loadV ag n (.ref b g i j) η = Bd (Xa (rdElem η b g i)) fun e => IfO (j + n ≤ e.length) (Bd (Xa (AV.ofCells ag ((e.drop j).take n))) fun v => some (v, [b])) := by
  simp only [loadV]; cases rdElem η b g i with
  | none => rfl
  | some e => simp only [Bd, Xa, IfO]; split
              · cases AV.ofCells ag ((e.drop j).take n) <;> rfl
              · rfl
theorem loadV_pp {ag : Bool} {n : Nat} {cs : List AV} : loadV ag n (.pp cs) η = IfO (n ≤ cs.length) (Bd (AV.ofCells ag (cs.take n)) fun v => some (v, [])) := by
  simp only [loadV, IfO]; split
  · cases AV.ofCells ag (cs.take n) <;> rfl
  · rfl
theorem ofCells_t {cs : List AV} : AV.ofCells true cs = some (.agg cs) := rfl
theorem ofCells_f {c : AV} : AV.ofCells false [c] = some c := rfl
theorem rdElem_eq {b g i : Nat} : rdElem η b g i = Bd (Xa (η b)) fun blk => IfO (blk.g = g) (blk.es[i]?) := by
  simp only [rdElem]; cases η b <;> rfl
theorem S_store {t : TypeId} {a x : Operand} : opSem P (.store t a x) ρ η nm = Bd (Xa (aStore P t (ρ a) (ρ x) η)) fun r => some ⟨.tup [], [r], [r.1]⟩ := by
  simp only [opSem]; cases aStore P t (ρ a) (ρ x) η <;> rfl
theorem aStore_ref {t : TypeId} {b g i j : Nat} {v : AV} : aStore P t (.ref b g i j) v η = Bd (Xa (tSize P t)) fun n => Bd (Xa (v.cells)) fun cs => Bd (Xa (η b)) fun blk => IfO (blk.g = g ∧ blk.own = true ∧ cs.length = n) (Bd (Xa (blk.es[i]?)) fun e => IfO (j + n ≤ e.length)
    (some (b, { blk with es := blk.es.set i (e.take j ++ cs ++ e.drop (j + n)), pure := blk.pure && AV.isP.isPs cs }))) := by
  simp only [aStore]
  cases tSize P t with
  | none => rfl
  | some n => cases v.cells with
    | none => rfl
    | some cs => simp only [Bd, Xa]; cases η b with
      | none => rfl
      | some blk => simp only [IfO, Xa]; split
                    · cases blk.es[i]? <;> rfl
                    · rfl
theorem S_nilCheck {x : Operand} : opSem P (.nilCheck x) ρ η nm = Bd (match ρ x with | .ref b g i j => some (AV.ref b g i j) | .pp cs => some (.pp cs) | .fn f a c => some (.fn f a c) | _ => none) fun v => some ⟨v, [], []⟩ := by
  simp only [opSem]; cases ρ x <;> rfl
theorem S_bin {op : BinOp} {t yt : TypeId} {x y : Operand} : opSem P (.binOp op t x y yt) ρ η nm = Bd (Xa (aBin P op t (ρ x) (ρ y))) fun v => some ⟨v, [], []⟩ := by
  simp only [opSem]; cases aBin P op t (ρ x) (ρ y) <;> rfl
theorem S_un {op : UnOp} {t : TypeId} {x : Operand} : opSem P (.unOp op t x) ρ η nm = Bd (Xa (aUn op (ρ x))) fun v => some ⟨v, [], []⟩ := by
  simp only [opSem]; cases aUn op (ρ x) <;> rfl
theorem S_conv {s d : TypeId} {x : Operand} : opSem P (.convert s d x) ρ η nm = Bd (Xa (aConv P s d (ρ x))) fun v => some ⟨v, [], []⟩ := by
  simp only [opSem]; cases aConv P s d (ρ x) <;> rfl
theorem aUn_not {b : Bool} : aUn .not (.bool b) = some (.bool !b) := rfl
theorem aUn_neg {k : IntKind} {n : Int} : aUn .neg (.int k n) = some (.int k (k.wrap (0 - n))) := rfl
theorem S_makeFunc {f : FuncId} {first cap : Array Operand} : opSem P (.makeFunc (.func f) first cap) ρ η nm = some ⟨.fn f (first.toList.map ρ) (cap.toList.map ρ), [], []⟩ := rfl
theorem S_makeSlice {t : TypeId} {l c : Operand} : opSem P (.makeSlice t l c) ρ η nm = Bd (Xa (aMakeSlice P t (ρ l) (ρ c) nm)) fun r => some ⟨r.1, [r.2], []⟩ := by
  simp only [opSem]; cases aMakeSlice P t (ρ l) (ρ c) nm <;> rfl
theorem aMakeSlice_int {t : TypeId} {k k' : IntKind} {l c : Int} : aMakeSlice P t (.int k l) (.int k' c) nm = Bd (Xa (tSlice P t)) fun e => Bd (Xa (tSize P e)) fun sz => Bd (Xa (tBytes P e)) fun bs => Bd (Xa (tZero P e)) fun z => IfO (0 ≤ l ∧ l ≤ c ∧ c ≤ IntKind.i64.max ∧ (bs : Int) * c ≤ 2 ^ 48 ∧ z.length = sz ∧ 0 < sz)
    (some (.sl nm 0 sz 0 l.toNat, (nm, { g := 0, own := true, pure := true, sz := sz, es := List.replicate l.toNat z }))) := by
  simp only [aMakeSlice]
  cases tSlice P t with
  | none => rfl
  | some e => simp only [Bd, Xa]; cases tSize P e with
    | none => rfl
    | some sz => cases tBytes P e with
      | none => rfl
      | some bs => cases tZero P e <;> rfl
theorem S_slice {t : TypeId} {x : Operand} {lo hi mx : Option Operand} : opSem P (.slice t x lo hi mx) ρ η nm = Bd (Xa (aSlice P t (ρ x) (lo.map ρ) (hi.map ρ) (mx.map ρ))) fun v => some ⟨v, [], []⟩ := by
  simp only [opSem]; cases aSlice P t (ρ x) (lo.map ρ) (hi.map ρ) (mx.map ρ) <;> rfl
theorem S_fieldAddr {t : TypeId} {x : Operand} {f : Nat} : opSem P (.fieldAddr t x f) ρ η nm = Bd (Xa (tField P t f)) fun p => Bd (match ρ x with | .ref b g i j => some (AV.ref b g i (j + p.1)) | .pp cs => IfO (p.1 ≤ cs.length) (some (.pp (cs.drop p.1))) | _ => none) fun v => some ⟨v, [], []⟩ := by
  simp only [opSem, aFieldAddr]
  cases tField P t f with
  | none => rfl
  | some p => simp only [Bd, Xa]; cases ρ x <;> first | rfl | (simp only [IfO, Xa]; split <;> rfl)
theorem S_field {t : TypeId} {x : Operand} {f : Nat} : opSem P (.field t x f) ρ η nm = Bd (Xa (tField P t f)) fun p => Bd (match ρ x with | .agg cs => aPart P p.2 cs p.1 | _ => none) fun v => some ⟨v, [], []⟩ := by
  simp only [opSem]
  cases tField P t f with
  | none => rfl
  | some p => cases ρ x <;> first | rfl | (rename_i cs; simp only [Bd, Xa]; cases aPart P p.2 cs p.1 <;> rfl)
theorem aPart_eq {t : TypeId} {cs : List AV} {off : Nat} : aPart P t cs off = Bd (Xa (tAgg P t)) fun ag => Bd (Xa (tSize P t)) fun n => if ag then some (.agg ((cs.drop off).take n)) else cs[off]? := by
  simp only [aPart]
  cases tAgg P t with
  | none => rfl
  | some ag => cases tSize P t with
    | none => cases ag <;> rfl
    | some n => cases ag <;> rfl
theorem S_indexAddr {t : TypeId} {x i : Operand} : opSem P (.indexAddr t x i) ρ η nm = Bd (Xa (aIndexAddr P t (ρ x) (ρ i))) fun v => some ⟨v, [], []⟩ := by
  simp only [opSem]; cases aIndexAddr P t (ρ x) (ρ i) <;> rfl
theorem aIndexAddr_sl {t : TypeId} {b g z off len : Nat} {k : IntKind} {n : Int} : aIndexAddr P t (.sl b g z off len) (.int k n) = Bd (Xa (tSlice P t)) fun e => Bd (Xa (tSize P e)) fun sz => IfO (z = sz ∧ 0 ≤ n ∧ n < len) (some (.ref b g (off + n.toNat) 0)) := by
  simp only [aIndexAddr]
  cases tSlice P t with
  | none =>
    cases tArr P t with
    | none => rfl
    | some a => obtain ⟨l, e⟩ := a; simp only [Bd, Xa]; cases tSize P e <;> rfl
  | some e => simp only [Bd, Xa]; cases tSize P e <;> rfl
theorem aIndexAddr_psl {t : TypeId} {z : Nat} {es : List (List AV)} {k : IntKind} {n : Int} : aIndexAddr P t (.psl z es) (.int k n) = Bd (Xa (tSlice P t)) fun e => Bd (Xa (tSize P e)) fun sz => IfO (z = sz ∧ 0 ≤ n) (Bd (Xa (es[n.toNat]?)) fun e => some (.pp e)) := by
  simp only [aIndexAddr]
  cases tSlice P t with
  | none =>
    cases tArr P t with
    | none => rfl
    | some a => obtain ⟨l, e⟩ := a; simp only [Bd, Xa]; cases tSize P e <;> rfl
  | some e => simp only [Bd, Xa]; cases tSize P e with
    | none => rfl
    | some sz => simp only [IfO, Xa]; split
                 · cases es[n.toNat]? <;> rfl
                 · rfl
theorem aIndexAddr_aref {t : TypeId} {b g i j : Nat} {k : IntKind} {n : Int} : aIndexAddr P t (.ref b g i j) (.int k n) = Bd (Xa (tArr P t)) fun a => Bd (Xa (tSize P a.2)) fun sz => IfO (0 ≤ n ∧ n < a.1) (some (.ref b g i (j + n.toNat * sz))) := by
  simp only [aIndexAddr, tSlice, tArr, Xa]
  cases P.underlying t with
  | none => rfl
  | some u =>
    cases u with
    | slice e => dsimp only; cases tSize P e <;> rfl
    | array l e => dsimp only [Bd]; cases tSize P e <;> rfl
    | _ => rfl
theorem aIndexAddr_app {t : TypeId} {cs : List AV} {k : IntKind} {n : Int} : aIndexAddr P t (.pp cs) (.int k n) = Bd (Xa (tArr P t)) fun a => Bd (Xa (tSize P a.2)) fun sz => IfO (0 ≤ n ∧ n < a.1 ∧ n.toNat * sz ≤ cs.length) (some (.pp (cs.drop (n.toNat * sz)))) := by
  simp only [aIndexAddr, tSlice, tArr, Xa]
  cases P.underlying t with
  | none => rfl
  | some u =>
    cases u with
    | slice e => dsimp only; cases tSize P e <;> rfl
    | array l e => dsimp only [Bd]; cases tSize P e <;> rfl
    | _ => rfl
theorem S_index {t : TypeId} {x i : Operand} : opSem P (.index t x i) ρ η nm = Bd (Xa (P.underlying t)) fun u => Bd (match u, ρ x, ρ i with | .string, .str s, .int _ n => IfO (0 ≤ n) (Bd (s[n.toNat]?) fun c => some (AV.int .u8 c.toNat)) | _, _, _ => none) fun v => some ⟨v, [], []⟩ := by
  simp only [opSem]
  cases P.underlying t with
  | none => rfl
  | some u => cases u <;> try rfl
              cases ρ x <;> try rfl
              cases ρ i <;> try rfl
              rename_i s k n
              simp only [Bd, Xa, IfO]
              split
              · cases s[n.toNat]? <;> rfl
              · rfl
theorem S_extract {x : Operand} {i : Nat} : opSem P (.extract x i) ρ η nm = Bd (match ρ x with | .tup vs => vs[i]? | _ => none) fun v => some ⟨v, [], []⟩ := by
  simp only [opSem]
  cases ρ x <;> first | rfl | (rename_i vs; simp only [Bd, Xa]; cases vs[i]? <;> rfl)
theorem S_bi {b : Builtin} {args : Array Operand} {ats : Array TypeId} : opSem P (.call { callee := .builtin b, args := args, argTypes := ats }) ρ η nm = semBuiltin P b ats.toList (args.toList.map ρ) η nm := rfl
theorem B_len {t : TypeId} {x : AV} : semBuiltin P .len [t] [x] η nm = Bd (Xa (P.underlying t)) fun u => Bd (match u, x with
    | .string, .str s => some (AV.int .i64 s.length) | .slice _, .nils => some (.int .i64 0) | .slice _, .sl _ _ _ _ n => some (.int .i64 n) | .slice _, .psl _ es => some (.int .i64 es.length) | .slice _, .emp => some (.int .i64 0) | _, _ => none) fun v => some ⟨v, [], []⟩ := by
  simp only [semBuiltin, aLen]
  cases P.underlying t with
  | none => rfl
  | some u => cases u <;> first | rfl | (cases x <;> rfl)
theorem B_append {t t' : TypeId} {s x : AV} : semBuiltin P .append [t, t'] [s, x] η nm = Bd (Xa (aAppend P t t' s x η nm)) fun r => some ⟨r.1, [r.2.1], r.2.2⟩ := by
  simp only [semBuiltin]; cases aAppend P t t' s x η nm <;> rfl
theorem B_max {ts : List TypeId} {k : IntKind} {x y : Int} : semBuiltin P .max ts [.int k x, .int k y] η nm = some ⟨.int k (if x < y then y else x), [], []⟩ := by
  simp [semBuiltin, aMax]
theorem B_min {ts : List TypeId} {k : IntKind} {x y : Int} : semBuiltin P .min ts [.int k x, .int k y] η nm = some ⟨.int k (if y < x then y else x), [], []⟩ := by
  simp [semBuiltin, aMin]
theorem aAppend_nils {t t' : TypeId} {x : AV} : aAppend P t t' .nils x η nm = Bd (Xa (tSlice P t)) fun e => Bd (Xa (tSlice P t')) fun e' => Bd (Xa (tSize P e)) fun sz => Bd (Xa (tBytes P e)) fun bs => Bd (Xa (tSize P e')) fun sz' => Bd (Xa (tZero P e)) fun z => IfO (sz = sz' ∧ 0 < sz ∧ 0 < bs ∧ z.length = sz)
    (Bd (aElems η sz x) fun p => IfO (2 * (p.1.length * bs) ≤ 2 ^ 48) (some (.sl nm 0 sz 0 p.1.length, (nm, { g := 0, own := true, pure := p.1.all AV.isP.isPs, sz := sz, es := p.1 }), p.2))) := by
  simp only [aAppend]
  cases tSlice P t with
  | none => rfl
  | some e => cases tSlice P t' with
    | none => rfl
    | some e' => simp only [Bd, Xa]; cases tSize P e with
      | none => rfl
      | some sz => cases tBytes P e with
        | none => rfl
        | some bs => cases tSize P e' with
          | none => rfl
          | some sz' => cases tZero P e with
            | none => rfl
            | some z => simp only [IfO, Xa]; split
                        · cases aElems η sz x <;> rfl
                        · rfl
theorem aAppend_emp {t t' : TypeId} {x : AV} : aAppend P t t' .emp x η nm = Bd (Xa (tSlice P t)) fun e => Bd (Xa (tSlice P t')) fun e' => Bd (Xa (tSize P e)) fun sz => Bd (Xa (tBytes P e)) fun bs => Bd (Xa (tSize P e')) fun sz' => Bd (Xa (tZero P e)) fun z => IfO (sz = sz' ∧ 0 < sz ∧ 0 < bs ∧ z.length = sz)
    (Bd (aElems η sz x) fun p => IfO (2 * (p.1.length * bs) ≤ 2 ^ 48) (some (.sl nm 0 sz 0 p.1.length, (nm, { g := 0, own := true, pure := p.1.all AV.isP.isPs, sz := sz, es := p.1 }), p.2))) := by
  simp only [aAppend]
  cases tSlice P t with
  | none => rfl
  | some e => cases tSlice P t' with
    | none => rfl
    | some e' => simp only [Bd, Xa]; cases tSize P e with
      | none => rfl
      | some sz => cases tBytes P e with
        | none => rfl
        | some bs => cases tSize P e' with
          | none => rfl
          | some sz' => cases tZero P e with
            | none => rfl
            | some z => simp only [IfO, Xa]; split
                        · cases aElems η sz x <;> rfl
                        · rfl
theorem aAppend_sl {t t' : TypeId} {b g z0 off len : Nat} {x : AV} : aAppend P t t' (.sl b g z0 off len) x η nm = Bd (Xa (tSlice P t)) fun e => Bd (Xa (tSlice P t')) fun e' => Bd (Xa (tSize P e)) fun sz => Bd (Xa (tBytes P e)) fun bs => Bd (Xa (tSize P e')) fun sz' => Bd (Xa (tZero P e)) fun z => IfO (sz = sz' ∧ 0 < sz ∧ 0 < bs ∧ z.length = sz)
    (Bd (aElems η sz x) fun p => Bd (η b) fun blk => IfO (z0 = sz ∧ blk.g = g ∧ blk.sz = sz ∧ off = 0 ∧ len = blk.es.length ∧ blk.own = true ∧ 2 * ((len + p.1.length) * bs) ≤ 2 ^ 48)
      (some (.sl b (g + 1) sz 0 (len + p.1.length), (b, { blk with g := g + 1, es := blk.es ++ p.1, pure := blk.pure && p.1.all AV.isP.isPs, ty := none }), b :: p.2))) := by
  simp only [aAppend]
  cases tSlice P t with
  | none => rfl
  | some e => cases tSlice P t' with
    | none => rfl
    | some e' => simp only [Bd, Xa]; cases tSize P e with
      | none => rfl
      | some sz => cases tBytes P e with
        | none => rfl
        | some bs => cases tSize P e' with
          | none => rfl
          | some sz' => cases tZero P e with
            | none => rfl
            | some z => simp only [IfO, Xa]; split
                        · cases aElems η sz x with
                          | none => rfl
                          | some p => simp only; cases η b <;> rfl
                        · rfl
theorem aElems_nils {sz : Nat} : aElems η sz .nils = some ([], []) := rfl
theorem aElems_emp {sz : Nat} : aElems η sz .emp = some ([], []) := rfl
theorem aElems_psl {sz z : Nat} {es : List (List AV)} : aElems η sz (.psl z es) = IfO (z = sz ∨ es = []) (some (es, [])) := rfl
theorem aElems_sl {sz b g z off len : Nat} : aElems η sz (.sl b g z off len) = Bd (Xa (η b)) fun blk => IfO (z = sz ∧ blk.g = g ∧ blk.sz = sz ∧ off + len ≤ blk.es.length) (some ((blk.es.drop off).take len, [b])) := by
  simp only [aElems]; cases η b <;> rfl
end
section
variable {x a b c : Operand} {t ty : TypeId} {n : Nat} {pr : Array (Nat × Operand)} {bo : BinOp} {uo : UnOp} {fn : Fn} {ar br : Array Operand} {oa ob oc : Option Operand} {bi : Builtin} {ts : Array TypeId}
theorem H_move [Adr] {P : Program} {η : Heap} {nm : Nat} {d : Option Tmp} {tq : TypeId} {pos : String} {after : Array Edge} {g : Option (Nat × Bool)} {ans : Option (AV × List ABlk)} {gt : List Nat} {τ : Nat → AV} {k : SE → Prop} :
    Holds (runO false P ⟨d, (.move x), tq, pos, after, g⟩ ans nm gt τ η) k = Holds (Xa (opSem P (.move x) (evalO τ) η nm)) fun e => k ⟨d, e.v, e.wr, gt ++ opTmps (Op.operands (.move x)).toList, e.rd, none⟩ := H_op rfl
theorem H_mkif [Adr] {P : Program} {η : Heap} {nm : Nat} {d : Option Tmp} {tq : TypeId} {pos : String} {after : Array Edge} {g : Option (Nat × Bool)} {ans : Option (AV × List ABlk)} {gt : List Nat} {τ : Nat → AV} {k : SE → Prop} :
    Holds (runO false P ⟨d, (.makeInterface t x), tq, pos, after, g⟩ ans nm gt τ η) k = Holds (Xa (opSem P (.makeInterface t x) (evalO τ) η nm)) fun e => k ⟨d, e.v, e.wr, gt ++ opTmps (Op.operands (.makeInterface t x)).toList, e.rd, none⟩ := H_op rfl
theorem H_assert [Adr] {xt : TypeId} {ok : Bool} {P : Program} {η : Heap} {nm : Nat} {d : Option Tmp} {tq : TypeId} {pos : String} {after : Array Edge} {g : Option (Nat × Bool)} {ans : Option (AV × List ABlk)} {gt : List Nat} {τ : Nat → AV} {k : SE → Prop} :
    Holds (runO false P ⟨d, (.typeAssert x xt t ok), tq, pos, after, g⟩ ans nm gt τ η) k = Holds (Xa (opSem P (.typeAssert x xt t ok) (evalO τ) η nm)) fun e => k ⟨d, e.v, e.wr, gt ++ opTmps (Op.operands (.typeAssert x xt t ok)).toList, e.rd, none⟩ := H_op rfl
theorem H_assign [Adr] {P : Program} {η : Heap} {nm : Nat} {d : Option Tmp} {tq : TypeId} {pos : String} {after : Array Edge} {g : Option (Nat × Bool)} {ans : Option (AV × List ABlk)} {gt : List Nat} {τ : Nat → AV} {k : SE → Prop} :
    Holds (runO false P ⟨d, (.assign x), tq, pos, after, g⟩ ans nm gt τ η) k = Holds (Xa (opSem P (.assign x) (evalO τ) η nm)) fun e => k ⟨d, e.v, e.wr, gt ++ opTmps (Op.operands (.assign x)).toList, e.rd, none⟩ := H_op rfl
theorem H_pick [Adr] {P : Program} {η : Heap} {nm : Nat} {d : Option Tmp} {tq : TypeId} {pos : String} {after : Array Edge} {g : Option (Nat × Bool)} {ans : Option (AV × List ABlk)} {gt : List Nat} {τ : Nat → AV} {k : SE → Prop} :
    Holds (runO false P ⟨d, (.pick c a b), tq, pos, after, g⟩ ans nm gt τ η) k = Holds (Xa (opSem P (.pick c a b) (evalO τ) η nm)) fun e => k ⟨d, e.v, e.wr, gt ++ opTmps (Op.operands (.pick c a b)).toList, e.rd, none⟩ := H_op rfl
theorem H_alloc [Adr] {P : Program} {η : Heap} {nm : Nat} {d : Option Tmp} {tq : TypeId} {pos : String} {after : Array Edge} {g : Option (Nat × Bool)} {ans : Option (AV × List ABlk)} {gt : List Nat} {τ : Nat → AV} {k : SE → Prop} :
    Holds (runO false P ⟨d, (.alloc t), tq, pos, after, g⟩ ans nm gt τ η) k = Holds (Xa (opSem P (.alloc t) (evalO τ) η nm)) fun e => k ⟨d, e.v, e.wr, gt ++ opTmps (Op.operands (.alloc t)).toList, e.rd, none⟩ := H_op rfl
theorem H_box [Adr] {P : Program} {η : Heap} {nm : Nat} {d : Option Tmp} {tq : TypeId} {pos : String} {after : Array Edge} {g : Option (Nat × Bool)} {ans : Option (AV × List ABlk)} {gt : List Nat} {τ : Nat → AV} {k : SE → Prop} :
    Holds (runO false P ⟨d, (.box t x), tq, pos, after, g⟩ ans nm gt τ η) k = Holds (Xa (opSem P (.box t x) (evalO τ) η nm)) fun e => k ⟨d, e.v, e.wr, gt ++ opTmps (Op.operands (.box t x)).toList, e.rd, none⟩ := H_op rfl
theorem H_build [Adr] {P : Program} {η : Heap} {nm : Nat} {d : Option Tmp} {tq : TypeId} {pos : String} {after : Array Edge} {g : Option (Nat × Bool)} {ans : Option (AV × List ABlk)} {gt : List Nat} {τ : Nat → AV} {k : SE → Prop} :
    Holds (runO false P ⟨d, (.build t pr), tq, pos, after, g⟩ ans nm gt τ η) k = Holds (Xa (opSem P (.build t pr) (evalO τ) η nm)) fun e => k ⟨d, e.v, e.wr, gt ++ opTmps (Op.operands (.build t pr)).toList, e.rd, none⟩ := H_op rfl
theorem H_buildSlice [Adr] {P : Program} {η : Heap} {nm : Nat} {d : Option Tmp} {tq : TypeId} {pos : String} {after : Array Edge} {g : Option (Nat × Bool)} {ans : Option (AV × List ABlk)} {gt : List Nat} {τ : Nat → AV} {k : SE → Prop} :
    Holds (runO false P ⟨d, (.buildSlice t n pr), tq, pos, after, g⟩ ans nm gt τ η) k = Holds (Xa (opSem P (.buildSlice t n pr) (evalO τ) η nm)) fun e => k ⟨d, e.v, e.wr, gt ++ opTmps (Op.operands (.buildSlice t n pr)).toList, e.rd, none⟩ := H_op rfl
theorem H_load [Adr] {P : Program} {η : Heap} {nm : Nat} {d : Option Tmp} {tq : TypeId} {pos : String} {after : Array Edge} {g : Option (Nat × Bool)} {ans : Option (AV × List ABlk)} {gt : List Nat} {τ : Nat → AV} {k : SE → Prop} :
    Holds (runO false P ⟨d, (.load t a), tq, pos, after, g⟩ ans nm gt τ η) k = Holds (Xa (opSem P (.load t a) (evalO τ) η nm)) fun e => k ⟨d, e.v, e.wr, gt ++ opTmps (Op.operands (.load t a)).toList, e.rd, none⟩ := H_op rfl
theorem H_store [Adr] {P : Program} {η : Heap} {nm : Nat} {d : Option Tmp} {tq : TypeId} {pos : String} {after : Array Edge} {g : Option (Nat × Bool)} {ans : Option (AV × List ABlk)} {gt : List Nat} {τ : Nat → AV} {k : SE → Prop} :
    Holds (runO false P ⟨d, (.store t a b), tq, pos, after, g⟩ ans nm gt τ η) k = Holds (Xa (opSem P (.store t a b) (evalO τ) η nm)) fun e => k ⟨d, e.v, e.wr, gt ++ opTmps (Op.operands (.store t a b)).toList, e.rd, none⟩ := H_op rfl
theorem H_nilCheck [Adr] {P : Program} {η : Heap} {nm : Nat} {d : Option Tmp} {tq : TypeId} {pos : String} {after : Array Edge} {g : Option (Nat × Bool)} {ans : Option (AV × List ABlk)} {gt : List Nat} {τ : Nat → AV} {k : SE → Prop} :
    Holds (runO false P ⟨d, (.nilCheck x), tq, pos, after, g⟩ ans nm gt τ η) k = Holds (Xa (opSem P (.nilCheck x) (evalO τ) η nm)) fun e => k ⟨d, e.v, e.wr, gt ++ opTmps (Op.operands (.nilCheck x)).toList, e.rd, none⟩ := H_op rfl
theorem H_binOp [Adr] {P : Program} {η : Heap} {nm : Nat} {d : Option Tmp} {tq : TypeId} {pos : String} {after : Array Edge} {g : Option (Nat × Bool)} {ans : Option (AV × List ABlk)} {gt : List Nat} {τ : Nat → AV} {k : SE → Prop} :
    Holds (runO false P ⟨d, (.binOp bo t a b ty), tq, pos, after, g⟩ ans nm gt τ η) k = Holds (Xa (opSem P (.binOp bo t a b ty) (evalO τ) η nm)) fun e => k ⟨d, e.v, e.wr, gt ++ opTmps (Op.operands (.binOp bo t a b ty)).toList, e.rd, none⟩ := H_op rfl
theorem H_unOp [Adr] {P : Program} {η : Heap} {nm : Nat} {d : Option Tmp} {tq : TypeId} {pos : String} {after : Array Edge} {g : Option (Nat × Bool)} {ans : Option (AV × List ABlk)} {gt : List Nat} {τ : Nat → AV} {k : SE → Prop} :
    Holds (runO false P ⟨d, (.unOp uo t a), tq, pos, after, g⟩ ans nm gt τ η) k = Holds (Xa (opSem P (.unOp uo t a) (evalO τ) η nm)) fun e => k ⟨d, e.v, e.wr, gt ++ opTmps (Op.operands (.unOp uo t a)).toList, e.rd, none⟩ := H_op rfl
theorem H_conv [Adr] {P : Program} {η : Heap} {nm : Nat} {d : Option Tmp} {tq ts td : TypeId} {a : Operand} {pos : String} {after : Array Edge} {g : Option (Nat × Bool)} {ans : Option (AV × List ABlk)} {gt : List Nat} {τ : Nat → AV} {k : SE → Prop} :
    Holds (runO false P ⟨d, (.convert ts td a), tq, pos, after, g⟩ ans nm gt τ η) k = Holds (Xa (opSem P (.convert ts td a) (evalO τ) η nm)) fun e => k ⟨d, e.v, e.wr, gt ++ opTmps (Op.operands (.convert ts td a)).toList, e.rd, none⟩ := H_op rfl
theorem H_makeFunc [Adr] {P : Program} {η : Heap} {nm : Nat} {d : Option Tmp} {tq : TypeId} {pos : String} {after : Array Edge} {g : Option (Nat × Bool)} {ans : Option (AV × List ABlk)} {gt : List Nat} {τ : Nat → AV} {k : SE → Prop} :
    Holds (runO false P ⟨d, (.makeFunc fn ar br), tq, pos, after, g⟩ ans nm gt τ η) k = Holds (Xa (opSem P (.makeFunc fn ar br) (evalO τ) η nm)) fun e => k ⟨d, e.v, e.wr, gt ++ opTmps (Op.operands (.makeFunc fn ar br)).toList, e.rd, none⟩ := H_op rfl
theorem H_makeSlice [Adr] {P : Program} {η : Heap} {nm : Nat} {d : Option Tmp} {tq : TypeId} {pos : String} {after : Array Edge} {g : Option (Nat × Bool)} {ans : Option (AV × List ABlk)} {gt : List Nat} {τ : Nat → AV} {k : SE → Prop} :
    Holds (runO false P ⟨d, (.makeSlice t a b), tq, pos, after, g⟩ ans nm gt τ η) k = Holds (Xa (opSem P (.makeSlice t a b) (evalO τ) η nm)) fun e => k ⟨d, e.v, e.wr, gt ++ opTmps (Op.operands (.makeSlice t a b)).toList, e.rd, none⟩ := H_op rfl
theorem H_slice [Adr] {P : Program} {η : Heap} {nm : Nat} {d : Option Tmp} {tq : TypeId} {pos : String} {after : Array Edge} {g : Option (Nat × Bool)} {ans : Option (AV × List ABlk)} {gt : List Nat} {τ : Nat → AV} {k : SE → Prop} :
    Holds (runO false P ⟨d, (.slice t a oa ob oc), tq, pos, after, g⟩ ans nm gt τ η) k = Holds (Xa (opSem P (.slice t a oa ob oc) (evalO τ) η nm)) fun e => k ⟨d, e.v, e.wr, gt ++ opTmps (Op.operands (.slice t a oa ob oc)).toList, e.rd, none⟩ := H_op rfl
theorem H_fieldAddr [Adr] {P : Program} {η : Heap} {nm : Nat} {d : Option Tmp} {tq : TypeId} {pos : String} {after : Array Edge} {g : Option (Nat × Bool)} {ans : Option (AV × List ABlk)} {gt : List Nat} {τ : Nat → AV} {k : SE → Prop} :
    Holds (runO false P ⟨d, (.fieldAddr t a n), tq, pos, after, g⟩ ans nm gt τ η) k = Holds (Xa (opSem P (.fieldAddr t a n) (evalO τ) η nm)) fun e => k ⟨d, e.v, e.wr, gt ++ opTmps (Op.operands (.fieldAddr t a n)).toList, e.rd, none⟩ := H_op rfl
theorem H_field [Adr] {P : Program} {η : Heap} {nm : Nat} {d : Option Tmp} {tq : TypeId} {pos : String} {after : Array Edge} {g : Option (Nat × Bool)} {ans : Option (AV × List ABlk)} {gt : List Nat} {τ : Nat → AV} {k : SE → Prop} :
    Holds (runO false P ⟨d, (.field t a n), tq, pos, after, g⟩ ans nm gt τ η) k = Holds (Xa (opSem P (.field t a n) (evalO τ) η nm)) fun e => k ⟨d, e.v, e.wr, gt ++ opTmps (Op.operands (.field t a n)).toList, e.rd, none⟩ := H_op rfl
theorem H_indexAddr [Adr] {P : Program} {η : Heap} {nm : Nat} {d : Option Tmp} {tq : TypeId} {pos : String} {after : Array Edge} {g : Option (Nat × Bool)} {ans : Option (AV × List ABlk)} {gt : List Nat} {τ : Nat → AV} {k : SE → Prop} :
    Holds (runO false P ⟨d, (.indexAddr t a b), tq, pos, after, g⟩ ans nm gt τ η) k = Holds (Xa (opSem P (.indexAddr t a b) (evalO τ) η nm)) fun e => k ⟨d, e.v, e.wr, gt ++ opTmps (Op.operands (.indexAddr t a b)).toList, e.rd, none⟩ := H_op rfl
theorem H_index [Adr] {P : Program} {η : Heap} {nm : Nat} {d : Option Tmp} {tq : TypeId} {pos : String} {after : Array Edge} {g : Option (Nat × Bool)} {ans : Option (AV × List ABlk)} {gt : List Nat} {τ : Nat → AV} {k : SE → Prop} :
    Holds (runO false P ⟨d, (.index t a b), tq, pos, after, g⟩ ans nm gt τ η) k = Holds (Xa (opSem P (.index t a b) (evalO τ) η nm)) fun e => k ⟨d, e.v, e.wr, gt ++ opTmps (Op.operands (.index t a b)).toList, e.rd, none⟩ := H_op rfl
theorem H_extract [Adr] {P : Program} {η : Heap} {nm : Nat} {d : Option Tmp} {tq : TypeId} {pos : String} {after : Array Edge} {g : Option (Nat × Bool)} {ans : Option (AV × List ABlk)} {gt : List Nat} {τ : Nat → AV} {k : SE → Prop} :
    Holds (runO false P ⟨d, (.extract a n), tq, pos, after, g⟩ ans nm gt τ η) k = Holds (Xa (opSem P (.extract a n) (evalO τ) η nm)) fun e => k ⟨d, e.v, e.wr, gt ++ opTmps (Op.operands (.extract a n)).toList, e.rd, none⟩ := H_op rfl
theorem H_bi [Adr] {P : Program} {η : Heap} {nm : Nat} {d : Option Tmp} {tq : TypeId} {pos : String} {after : Array Edge} {g : Option (Nat × Bool)} {ans : Option (AV × List ABlk)} {gt : List Nat} {τ : Nat → AV} {k : SE → Prop} :
    Holds (runO false P ⟨d, (.call { callee := .builtin bi, args := ar, argTypes := ts }), tq, pos, after, g⟩ ans nm gt τ η) k = Holds (Xa (opSem P (.call { callee := .builtin bi, args := ar, argTypes := ts }) (evalO τ) η nm)) fun e => k ⟨d, e.v, e.wr, gt ++ opTmps (Op.operands (.call { callee := .builtin bi, args := ar, argTypes := ts })).toList, e.rd, none⟩ := H_op rfl
theorem eval_t [Adr] {τ : Nat → AV} {t : Nat} : evalO τ (.tmp t) = τ t := rfl
theorem eval_c [Adr] {τ : Nat → AV} {v : Value} : evalO τ (.const v) = avC v := rfl
theorem eval_f [Adr] {τ : Nat → AV} {f : FuncId} : evalO τ (.func f) = .fn f [] [] := rfl
theorem avC_int {k : IntKind} {n : Int} : avC (.int k n) = .int k n := rfl
theorem avC_bool {b : Bool} : avC (.bool b) = .bool b := rfl
theorem avC_str {s : ByteArray} : avC (.string s) = .str s.data.toList := rfl
theorem avC_nils : avC (.slice none 0 0) = .nils := rfl
theorem avC_nilp : avC (.pointer none) = .nilp := rfl
theorem avC_nilf : avC .nilFunc = .nilf := rfl
theorem cells_int {k : IntKind} {n : Int} : (AV.int k n).cells = some [.int k n] := rfl
theorem cells_bool {b : Bool} : (AV.bool b).cells = some [.bool b] := rfl
theorem cells_str {s : List UInt8} : (AV.str s).cells = some [.str s] := rfl
theorem cells_agg {cs : List AV} : (AV.agg cs).cells = some cs := rfl
theorem cells_nils : AV.nils.cells = some [.nils] := rfl
theorem cells_nilp : AV.nilp.cells = some [.nilp] := rfl
theorem cells_nilf : AV.nilf.cells = some [.nilf] := rfl
theorem cells_psl {z : Nat} {es : List (List AV)} : (AV.psl z es).cells = some [.psl z es] := rfl
theorem cells_sl {b g z o l : Nat} : (AV.sl b g z o l).cells = some [.sl b g z o l] := rfl
theorem cells_ref {b g i j : Nat} : (AV.ref b g i j).cells = some [.ref b g i j] := rfl
theorem cells_pp {cs : List AV} : (AV.pp cs).cells = some [.pp cs] := rfl
theorem cells_fn {f : FuncId} {a c : List AV} : (AV.fn f a c).cells = some [.fn f a c] := rfl
theorem frPut_some {fr : List (Nat × AV)} {d : Nat} {v : AV} : frPut fr (some d) v = (d, v) :: fr := rfl
theorem frPut_none {fr : List (Nat × AV)} {v : AV} : frPut fr none v = fr := rfl
theorem dstOk_none {nt : Nat} {op : Op} {pos : String} {after : Array Edge} {g : Option (Nat × Bool)} : dstOk nt ⟨none, op, ty, pos, after, g⟩ = true := rfl
theorem dstOk_some {nt d : Nat} {op : Op} {pos : String} {after : Array Edge} {g : Option (Nat × Bool)} : dstOk nt ⟨some d, op, ty, pos, after, g⟩ = decide (d < nt) := rfl
theorem obOk_none [Adr] {P : Program} {d : Option Nat} {v : AV} {wr : List (Nat × ABlk)} {rt rb : List Nat} : obOk P ⟨d, v, wr, rt, rb, none⟩ = True := rfl
theorem obOk_some [Adr] {P : Program} {d : Option Nat} {v : AV} {wr : List (Nat × ABlk)} {rt rb : List Nat} {o : Obl} : obOk P ⟨d, v, wr, rt, rb, some o⟩ = PCall P o.f o.args o.r o.blks := rfl
end
section
variable {P : Program} {t : TypeId} {k : IntKind} {a b : Int} {x y : List UInt8}
theorem I_add : aBin P .add t (.int k a) (.int k b) = some (.int k (k.wrap (a + b))) := by simp [aBin]
theorem I_sub : aBin P .sub t (.int k a) (.int k b) = some (.int k (k.wrap (a - b))) := by simp [aBin]
theorem I_mul : aBin P .mul t (.int k a) (.int k b) = some (.int k (k.wrap (a * b))) := by simp [aBin]
theorem I_quo : aBin P .quo t (.int k a) (.int k b) = IfO (b ≠ 0) (some (.int k (k.wrap (a.tdiv b)))) := by by_cases h : b = 0 <;> simp [aBin, IfO, h]
theorem I_rem : aBin P .rem t (.int k a) (.int k b) = IfO (b ≠ 0) (some (.int k (a.tmod b))) := by by_cases h : b = 0 <;> simp [aBin, IfO, h]
theorem I_shl : aBin P .shl t (.int k a) (.int k b) = IfO (0 ≤ b) (some (.int k (k.wrap (a * 2 ^ (min b.toNat k.bits))))) := by by_cases h : b < 0 <;> simp [aBin, IfO, h]
theorem I_eql : aBin P .eql t (.int k a) (.int k b) = some (.bool (decide (a = b))) := by simp only [aBin, if_true]; rfl
theorem I_neq : aBin P .neq t (.int k a) (.int k b) = some (.bool (!decide (a = b))) := by simp only [aBin, if_true]; rfl
theorem I_lss : aBin P .lss t (.int k a) (.int k b) = some (.bool (decide (a < b))) := by simp [aBin]
theorem I_leq : aBin P .leq t (.int k a) (.int k b) = some (.bool (decide (a ≤ b))) := by simp [aBin]
theorem I_gtr : aBin P .gtr t (.int k a) (.int k b) = some (.bool (decide (b < a))) := by simp [aBin]
theorem I_geq : aBin P .geq t (.int k a) (.int k b) = some (.bool (decide (b ≤ a))) := by simp [aBin]
theorem C_eql : aBin P .eql t (.str x) (.str y) = some (.bool (x == y)) := rfl
theorem C_neq : aBin P .neq t (.str x) (.str y) = some (.bool (!(x == y))) := rfl
theorem C_lss : aBin P .lss t (.str x) (.str y) = some (.bool (Op.bytesLess x y)) := rfl
theorem C_leq : aBin P .leq t (.str x) (.str y) = some (.bool (Op.bytesLess x y || x == y)) := rfl
theorem C_gtr : aBin P .gtr t (.str x) (.str y) = some (.bool (!(Op.bytesLess x y || x == y))) := rfl
theorem C_geq : aBin P .geq t (.str x) (.str y) = some (.bool (!(Op.bytesLess x y))) := rfl
end
section
variable {η : Heap} {d : Nat}
theorem pur_int {k : IntKind} {n : Int} : pur η (d + 1) (.int k n) = some (.int k n, []) := rfl
theorem pur_str {s : List UInt8} : pur η (d + 1) (.str s) = some (.str s, []) := rfl
theorem pur_bool {b : Bool} : pur η (d + 1) (.bool b) = some (.bool b, []) := rfl
theorem pur_pp {cs : List AV} : pur η (d + 1) (.pp cs) = some (.pp cs, []) := rfl
theorem pur_psl {z : Nat} {es : List (List AV)} : pur η (d + 1) (.psl z es) = some (.psl z es, []) := rfl
theorem pur_nils : pur η (d + 1) .nils = some (.nils, []) := rfl
theorem pur_nilp : pur η (d + 1) .nilp = some (.nilp, []) := rfl
theorem pur_nilf : pur η (d + 1) .nilf = some (.nilf, []) := rfl
theorem pur_agg {cs : List AV} : pur η (d + 1) (.agg cs) = Bd (Xa (pur.purs η d cs)) fun p => some (.agg p.1, p.2) := by
  simp only [pur]; cases pur.purs η d cs <;> rfl
theorem pur_fn {f : FuncId} {a c : List AV} : pur η (d + 1) (.fn f a c) = Bd (Xa (pur.purs η d a)) fun p => Bd (Xa (pur.purs η d c)) fun q => some (.fn f p.1 q.1, p.2 ++ q.2) := by
  simp only [pur]; cases pur.purs η d a <;> cases pur.purs η d c <;> rfl
theorem pur_sl {b g z off len : Nat} : pur η (d + 1) (.sl b g z off len) = Bd (Xa (η b)) fun blk => IfO (blk.sz = z ∧ blk.g = g ∧ off + len ≤ blk.es.length) (if blk.pure = true then some (.psl blk.sz ((blk.es.drop off).take len), [b]) else Bd (Xa (mapE (pur.purs η d) ((blk.es.drop off).take len))) fun p => some (.psl blk.sz p.1, b :: p.2)) := by
  simp only [pur]
  cases η b with
  | none => rfl
  | some blk => simp only [Bd, Xa, IfO]; split
                · split
                  · rfl
                  · cases mapE (pur.purs η d) ((blk.es.drop off).take len) <;> rfl
                · rfl
theorem purs_nil : pur.purs η (d + 1) [] = some ([], []) := rfl
theorem purs_cons {v : AV} {vs : List AV} : pur.purs η (d + 1) (v :: vs) = Bd (Xa (pur η d v)) fun p => Bd (Xa (pur.purs η d vs)) fun q => some (p.1 :: q.1, p.2 ++ q.2) := by
  simp only [pur.purs]; cases pur η d v <;> cases pur.purs η d vs <;> rfl
end
end Go.AM
