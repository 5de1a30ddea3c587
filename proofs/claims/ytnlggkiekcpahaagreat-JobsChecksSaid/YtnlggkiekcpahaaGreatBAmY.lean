/- A text of the proof. -/
import Derived.Test.YtnlggkiekcpahaaGreatBAmX
set_option linter.unusedSimpArgs false
set_option linter.unusedVariables false
namespace Go.AM
open Go Go.RowKit
def Bd {α β : Type} (x : Option α) (f : α → Option β) : Option β := match x with | some a => f a | none => none
@[congr] theorem Bd_congr {α β : Type} {x y : Option α} {f : α → Option β} (h : x = y) : Bd x f = Bd y f := by rw [h]
theorem zmq {α β : Type} (a : α) (f : α → Option β) : Bd (some a) f = f a := rfl
theorem zng {α β : Type} (f : α → Option β) : Bd none f = none := rfl
def vC {α : Type} (c : Prop) [Decidable c] (x : Option α) : Option α := if c then x else none
@[congr] theorem IfO_congr {α : Type} {c : Prop} [Decidable c] {x : Option α} : vC c x = vC c x := rfl
theorem Bd_IfO {α β : Type} (c : Prop) [Decidable c] (x : Option α) (f : α → Option β) : Bd (vC c x) f = vC c (Bd x f) := by
  unfold vC; split <;> rfl
theorem zhn {α : Type} (c : Prop) [Decidable c] (x : Option α) (k : α → Prop) : zB (vC c x) k = (c ∧ zB (Xa x) k) := zoI c x k
theorem zna {α β : Type} (x : Option α) (f : α → Option β) (k : β → Prop) : zB (Bd x f) k = zB (Xa x) fun a => zB (Xa (f a)) k := by cases x <;> rfl
def zec : AV → Option Bool | .bool b => some b | _ => none
theorem zgS (b : Bool) : zec (.bool b) = some b := rfl
section
variable {P : Program} {ρ : Operand → AV} {η : gB} {nm : Nat}
theorem eF {d : Option Tmp} {op : Op} {ty : TypeId} {pos : String} {after : Array Edge} {g : Option (Nat × Bool)} {ans : Option (AV × List pA)} {gt : List Nat} {τ : Nat → AV} {k : SE → Prop} (h : lM op = none) (h2 : eS P op τ = none := by rfl) :
    zB (mD P ⟨d, op, ty, pos, after, g⟩ ans nm gt τ η) k = zB (Xa (bC P op (yB τ) η nm)) fun e => k ⟨d, e.v, e.wr, gt ++ bE op.operands.toList, e.rd, none⟩ := by
  simp only [mD, h, h2]
  cases bC P op (yB τ) η nm <;> rfl
theorem H_call {d : Option Tmp} {f : Operand} {args : Array Operand} {ats : Array TypeId} {ty : TypeId} {pos : String} {after : Array Edge} {g : Option (Nat × Bool)} {ans : Option (AV × List pA)} {gt : List Nat} {τ : Nat → AV} {k : SE → Prop} :
    zB (mD P ⟨d, .call { callee := .value f, args := args, argTypes := ats }, ty, pos, after, g⟩ ans nm gt τ η) k =
      zB (Bd ans fun a => oK η nm (yB τ f) (args.toList.map (yB τ)) a) fun r => k ⟨d, r.1.v, r.1.wr, gt ++ bE (f :: args.toList), r.1.rd, some r.2⟩ := by
  simp only [mD, lM]
  cases ans with
  | none => rfl
  | some a => simp only [Bd, Xa]; cases oK η nm (yB τ f) (args.toList.map (yB τ)) a <;> rfl
theorem zo5 {t : TypeId} {x : AV} {name : String} : eV P (.iface t x) name = Bd (Xa (lT P t name)) fun f => some (f, x) := by
  simp only [eV]; cases lT P t name <;> rfl
theorem zo1 {d : Option Tmp} {rcv : Operand} {name : String} {args : Array Operand} {ats : Array TypeId} {ty : TypeId} {pos : String} {after : Array Edge} {g : Option (Nat × Bool)} {ans : Option (AV × List pA)} {gt : List Nat} {τ : Nat → AV} {k : SE → Prop} :
    zB (mD P ⟨d, .call { callee := .invoke rcv name, args := args, argTypes := ats }, ty, pos, after, g⟩ ans nm gt τ η) k =
      zB (Bd (Xa (eV P (yB τ rcv) name)) fun p => Bd ans fun a => oK η nm (.fn p.1 [] []) (p.2 :: args.toList.map (yB τ)) a) fun r => k ⟨d, r.1.v, r.1.wr, gt ++ bE (rcv :: args.toList), r.1.rd, some r.2⟩ := by
  have hops : (Op.call { callee := .invoke rcv name, args := args, argTypes := ats }).operands.toList = rcv :: args.toList := by simp [Op.operands, Call.operands]
  simp only [mD, lM, eS, hops]
  cases eV P (yB τ rcv) name with
  | none => cases ans <;> rfl
  | some p =>
    cases ans with
    | none => rfl
    | some a => simp only [Bd, Xa]; cases oK η nm (.fn p.1 [] []) (p.2 :: args.toList.map (yB τ)) a <;> rfl
theorem zjS {fid : FuncId} {first cap args : List AV} {ans : AV × List pA} : oK η nm (.fn fid first cap) args ans =
    Bd (aC.purs η 60 (first ++ args ++ cap)) fun p => vC (ans.2.length ≤ 8) (some (⟨ans.1.shift nm, (if p.2.isEmpty || (ans.1.flatR && ans.2.all pA.flat) then [] else pG η p.2) ++ iP nm 0 ans.2, p.2⟩, ⟨fid, p.1, ans.1, ans.2⟩)) := by
  simp only [oK]
  cases aC.purs η 60 (first ++ args ++ cap) <;> rfl
theorem S_move {x : Operand} : bC P (.move x) ρ η nm = some ⟨ρ x, [], []⟩ := rfl
theorem ziP {x : Operand} : bC P (.assign x) ρ η nm = some ⟨ρ x, [], []⟩ := rfl
theorem S_pick {c a b : Operand} : bC P (.pick c a b) ρ η nm = Bd (Xa (zec (ρ c))) fun t => some ⟨if t then ρ a else ρ b, [], []⟩ := by
  simp only [bC]; cases ρ c <;> rfl
theorem zns {t : TypeId} : bC P (.alloc t) ρ η nm = Bd (Xa (tB P t)) fun n => Bd (Xa (xC P t)) fun z => vC (z.length = n) (some ⟨.ref nm 0 0 0, [(nm, { g := 0, own := true, pure := AV.isP.isPs z, sz := n, es := [z] })], []⟩) := by
  simp only [bC]; cases tB P t <;> cases xC P t <;> rfl
theorem S_mkif {t : TypeId} {x : Operand} : bC P (.makeInterface t x) ρ η nm = vC (tO P t = true) (some ⟨.iface t (ρ x), [], []⟩) := by
  simp only [bC, vC]
def eM (P : Program) (t : TypeId) (v : AV) : Option AV := match v with
  | .iface u x => if u = t then some (.tup [x, .bool true]) else (pI P t).map fun z => .tup [z, .bool false]
  | .nili => (pI P t).map fun z => .tup [z, .bool false]
  | _ => none
theorem zj1 {x : Operand} {xt t : TypeId} : bC P (.typeAssert x xt t true) ρ η nm = vC (tO P t = true) (Bd (Xa (eM P t (ρ x))) fun v => some ⟨v, [], []⟩) := by
  simp only [bC, vC, eM, Bool.true_and]
  split
  · cases ρ x <;> try rfl
    case iface u v =>
      simp only [Bd, Xa]
      by_cases e : u = t
      · simp only [if_pos e]
      · simp only [if_neg e]; cases pI P t <;> rfl
    case nili => simp only [Bd, Xa]; cases pI P t <;> rfl
  · rfl
theorem ziW {t : TypeId} {x : AV} : eM P t (.iface t x) = some (.tup [x, .bool true]) := by simp [eM]
theorem znd {u t : TypeId} {x : AV} (h : (u == t) = false) : eM P t (.iface u x) = Bd (Xa (pI P t)) fun z => some (.tup [z, .bool false]) := by
  have : u ≠ t := by simpa using h
  simp only [eM, if_neg this]; cases pI P t <;> rfl
theorem zoQ {t : TypeId} : eM P t .nili = Bd (Xa (pI P t)) fun z => some (.tup [z, .bool false]) := by
  simp only [eM]; cases pI P t <;> rfl
theorem S_box {t : TypeId} {x : Operand} : bC P (.box t x) ρ η nm = Bd (Xa ((ρ x).cells)) fun cs => some ⟨.ref nm 0 0 0, [(nm, { g := 0, own := true, pure := AV.isP.isPs cs, sz := cs.length, es := [cs] })], []⟩ := by
  simp only [bC]; cases (ρ x).cells <;> rfl
theorem zgR {t : TypeId} {parts : Array (Nat × Operand)} : bC P (.build t parts) ρ η nm = Bd (Xa (vG P t)) fun pl => Bd (Xa (xC P t)) fun z => Bd (Xa (qJ (fun i => pl[i]?) z (parts.toList.map fun p => (p.1, ρ p.2)))) fun cs => some ⟨.agg cs, [], []⟩ := by
  simp only [bC, rZ]
  cases vG P t with
  | none => cases xC P t <;> rfl
  | some pl => cases xC P t with
    | none => rfl
    | some z => simp only [Bd, Xa]; cases qJ (fun i => pl[i]?) z (parts.toList.map fun p => (p.1, ρ p.2)) <;> rfl
theorem zi2 {place : Nat → Option (Nat × Nat)} {cs : List AV} : qJ place cs [] = some cs := rfl
theorem zl4 {place : Nat → Option (Nat × Nat)} {cs : List AV} {i : Nat} {v : AV} {eB : List (Nat × AV)} :
    qJ place cs ((i, v) :: eB) = Bd (Xa (place i)) fun p => Bd (Xa (v.cells)) fun vs => vC (vs.length = p.2 ∧ p.1 + p.2 ≤ cs.length) (qJ place (cs.take p.1 ++ vs ++ cs.drop (p.1 + p.2)) eB) := by
  simp only [qJ]; cases place i <;> cases v.cells <;> rfl
theorem zjU {t : TypeId} {len : Nat} {parts : Array (Nat × Operand)} : bC P (.buildSlice t len parts) ρ η nm = Bd (Xa (iD P t)) fun e => Bd (Xa (tB P e)) fun sz => Bd (Xa (xC P e)) fun z => vC (len * sz ≤ 2 ^ 24 ∧ z.length = sz ∧ 0 < sz) (Bd (Xa (bM (List.replicate len z) (parts.toList.map fun p => (p.1, ρ p.2)) sz)) fun es =>
    some ⟨.sl nm 0 sz 0 len, [(nm, { g := 0, own := true, pure := es.all AV.isP.isPs, sz := sz, es := es })], []⟩) := by
  simp only [bC, tY]
  cases iD P t with
  | none => rfl
  | some e => simp only [Bd, Xa]; cases tB P e with
    | none => cases xC P e <;> rfl
    | some sz => cases xC P e with
      | none => rfl
      | some z => simp only [vC, Xa]; split
                  · cases bM (List.replicate len z) (parts.toList.map fun p => (p.1, ρ p.2)) sz <;> rfl
                  · rfl
theorem zf6 {es : List (List AV)} {n : Nat} : bM es [] n = some es := rfl
theorem zg3 {es : List (List AV)} {n i : Nat} {v : AV} {eB : List (Nat × AV)} : bM es ((i, v) :: eB) n = Bd (Xa (v.cells)) fun cs => vC (cs.length = n ∧ i < es.length) (bM (es.set i cs) eB n) := by
  simp only [bM]; cases v.cells <;> rfl
def mN (ag : Bool) (n : Nat) (a : AV) (η : gB) : Option (AV × List Nat) := match a with
  | .ref b g i j => match gH η b g i with
    | some e => if j + n ≤ e.length then (AV.ofCells ag ((e.drop j).take n)).map fun v => (v, [b]) else none
    | none => none
  | .pp cs => if n ≤ cs.length then (AV.ofCells ag (cs.take n)).map fun v => (v, []) else none
  | _ => none
theorem S_load {t : TypeId} {a : Operand} : bC P (.load t a) ρ η nm = Bd (Xa (tD P t)) fun ag => Bd (Xa (tB P t)) fun n => Bd (Xa (mN ag n (ρ a) η)) fun r => some ⟨r.1, [], r.2⟩ := by
  simp only [bC, iO]
  cases tD P t with
  | none => rfl
  | some ag => cases tB P t with
    | none => rfl
    | some n => show Option.map _ (mN ag n (ρ a) η) = _; simp only [Bd, Xa]; cases mN ag n (ρ a) η <;> rfl
theorem zgH {ag : Bool} {n b g i j : Nat} : mN ag n (.ref b g i j) η = Bd (Xa (gH η b g i)) fun e => vC (j + n ≤ e.length) (Bd (Xa (AV.ofCells ag ((e.drop j).take n))) fun v => some (v, [b])) := by
  simp only [mN]; cases gH η b g i with
  | none => rfl
  | some e => simp only [Bd, Xa, vC]; split
              · cases AV.ofCells ag ((e.drop j).take n) <;> rfl
              · rfl
theorem zfB {ag : Bool} {n : Nat} {cs : List AV} : mN ag n (.pp cs) η = vC (n ≤ cs.length) (Bd (AV.ofCells ag (cs.take n)) fun v => some (v, [])) := by
  simp only [mN, vC]; split
  · cases AV.ofCells ag (cs.take n) <;> rfl
  · rfl
theorem zjC {cs : List AV} : AV.ofCells true cs = some (.agg cs) := rfl
theorem zij {c : AV} : AV.ofCells false [c] = some c := rfl
theorem zhE {b g i : Nat} : gH η b g i = Bd (Xa (η b)) fun blk => vC (blk.g = g) (blk.es[i]?) := by
  simp only [gH]; cases η b <;> rfl
theorem zmp {t : TypeId} {a x : Operand} : bC P (.store t a x) ρ η nm = Bd (Xa (sN P t (ρ a) (ρ x) η)) fun r => some ⟨.tup [], [r], [r.1]⟩ := by
  simp only [bC]; cases sN P t (ρ a) (ρ x) η <;> rfl
theorem zj3 {t : TypeId} {b g i j : Nat} {v : AV} : sN P t (.ref b g i j) v η = Bd (Xa (tB P t)) fun n => Bd (Xa (v.cells)) fun cs => Bd (Xa (η b)) fun blk => vC (blk.g = g ∧ blk.own = true ∧ cs.length = n) (Bd (Xa (blk.es[i]?)) fun e => vC (j + n ≤ e.length)
    (some (b, { blk with es := blk.es.set i (e.take j ++ cs ++ e.drop (j + n)), pure := blk.pure && AV.isP.isPs cs }))) := by
  simp only [sN]
  cases tB P t with
  | none => rfl
  | some n => cases v.cells with
    | none => rfl
    | some cs => simp only [Bd, Xa]; cases η b with
      | none => rfl
      | some blk => simp only [vC, Xa]; split
                    · cases blk.es[i]? <;> rfl
                    · rfl
theorem zhc {x : Operand} : bC P (.nilCheck x) ρ η nm = Bd (match ρ x with | .ref b g i j => some (AV.ref b g i j) | .pp cs => some (.pp cs) | .fn f a c => some (.fn f a c) | _ => none) fun v => some ⟨v, [], []⟩ := by
  simp only [bC]; cases ρ x <;> rfl
theorem S_bin {op : BinOp} {t yt : TypeId} {x y : Operand} : bC P (.binOp op t x y yt) ρ η nm = Bd (Xa (eD P op t (ρ x) (ρ y))) fun v => some ⟨v, [], []⟩ := by
  simp only [bC]; cases eD P op t (ρ x) (ρ y) <;> rfl
theorem S_un {op : UnOp} {t : TypeId} {x : Operand} : bC P (.unOp op t x) ρ η nm = Bd (Xa (aUn op (ρ x))) fun v => some ⟨v, [], []⟩ := by
  simp only [bC]; cases aUn op (ρ x) <;> rfl
theorem S_conv {s d : TypeId} {x : Operand} : bC P (.convert s d x) ρ η nm = Bd (Xa (mX P s d (ρ x))) fun v => some ⟨v, [], []⟩ := by
  simp only [bC]; cases mX P s d (ρ x) <;> rfl
theorem zi9 {b : Bool} : aUn .not (.bool b) = some (.bool !b) := rfl
theorem zln {k : IntKind} {n : Int} : aUn .neg (.int k n) = some (.int k (k.wrap (0 - n))) := rfl
theorem zhg {f : FuncId} {first cap : Array Operand} : bC P (.makeFunc (.func f) first cap) ρ η nm = some ⟨.fn f (first.toList.map ρ) (cap.toList.map ρ), [], []⟩ := rfl
theorem zja {t : TypeId} {l c : Operand} : bC P (.makeSlice t l c) ρ η nm = Bd (Xa (gT P t (ρ l) (ρ c) nm)) fun r => some ⟨r.1, [r.2], []⟩ := by
  simp only [bC]; cases gT P t (ρ l) (ρ c) nm <;> rfl
theorem zhm {t : TypeId} {k k' : IntKind} {l c : Int} : gT P t (.int k l) (.int k' c) nm = Bd (Xa (iD P t)) fun e => Bd (Xa (tB P e)) fun sz => Bd (Xa (rD P e)) fun bs => Bd (Xa (xC P e)) fun z => vC (0 ≤ l ∧ l ≤ c ∧ c ≤ IntKind.i64.max ∧ (bs : Int) * c ≤ 2 ^ 48 ∧ z.length = sz ∧ 0 < sz)
    (some (.sl nm 0 sz 0 l.toNat, (nm, { g := 0, own := true, pure := true, sz := sz, es := List.replicate l.toNat z }))) := by
  simp only [gT]
  cases iD P t with
  | none => rfl
  | some e => simp only [Bd, Xa]; cases tB P e with
    | none => rfl
    | some sz => cases rD P e with
      | none => rfl
      | some bs => cases xC P e <;> rfl
theorem ziM {t : TypeId} {x : Operand} {lo hi mx : Option Operand} : bC P (.slice t x lo hi mx) ρ η nm = Bd (Xa (wL P t (ρ x) (lo.map ρ) (hi.map ρ) (mx.map ρ))) fun v => some ⟨v, [], []⟩ := by
  simp only [bC]; cases wL P t (ρ x) (lo.map ρ) (hi.map ρ) (mx.map ρ) <;> rfl
theorem zkK {t : TypeId} {x : Operand} {f : Nat} : bC P (.fieldAddr t x f) ρ η nm = Bd (Xa (lD P t f)) fun p => Bd (match ρ x with | .ref b g i j => some (AV.ref b g i (j + p.1)) | .pp cs => vC (p.1 ≤ cs.length) (some (.pp (cs.drop p.1))) | _ => none) fun v => some ⟨v, [], []⟩ := by
  simp only [bC, zZ]
  cases lD P t f with
  | none => rfl
  | some p => simp only [Bd, Xa]; cases ρ x <;> first | rfl | (simp only [vC, Xa]; split <;> rfl)
theorem zhv {t : TypeId} {x : Operand} {f : Nat} : bC P (.field t x f) ρ η nm = Bd (Xa (lD P t f)) fun p => Bd (match ρ x with | .agg cs => mM P p.2 cs p.1 | _ => none) fun v => some ⟨v, [], []⟩ := by
  simp only [bC]
  cases lD P t f with
  | none => rfl
  | some p => cases ρ x <;> first | rfl | (rename_i cs; simp only [Bd, Xa]; cases mM P p.2 cs p.1 <;> rfl)
theorem zjt {t : TypeId} {cs : List AV} {off : Nat} : mM P t cs off = Bd (Xa (tD P t)) fun ag => Bd (Xa (tB P t)) fun n => if ag then some (.agg ((cs.drop off).take n)) else cs[off]? := by
  simp only [mM]
  cases tD P t with
  | none => rfl
  | some ag => cases tB P t with
    | none => cases ag <;> rfl
    | some n => cases ag <;> rfl
theorem zi7 {t : TypeId} {x i : Operand} : bC P (.indexAddr t x i) ρ η nm = Bd (Xa (sJ P t (ρ x) (ρ i))) fun v => some ⟨v, [], []⟩ := by
  simp only [bC]; cases sJ P t (ρ x) (ρ i) <;> rfl
theorem zjE {t : TypeId} {b g z off len : Nat} {k : IntKind} {n : Int} : sJ P t (.sl b g z off len) (.int k n) = Bd (Xa (iD P t)) fun e => Bd (Xa (tB P e)) fun sz => vC (z = sz ∧ 0 ≤ n ∧ n < len) (some (.ref b g (off + n.toNat) 0)) := by
  simp only [sJ]
  cases iD P t with
  | none =>
    cases dP P t with
    | none => rfl
    | some a => obtain ⟨l, e⟩ := a; simp only [Bd, Xa]; cases tB P e <;> rfl
  | some e => simp only [Bd, Xa]; cases tB P e <;> rfl
theorem znD {t : TypeId} {z : Nat} {es : List (List AV)} {k : IntKind} {n : Int} : sJ P t (.psl z es) (.int k n) = Bd (Xa (iD P t)) fun e => Bd (Xa (tB P e)) fun sz => vC (z = sz ∧ 0 ≤ n) (Bd (Xa (es[n.toNat]?)) fun e => some (.pp e)) := by
  simp only [sJ]
  cases iD P t with
  | none =>
    cases dP P t with
    | none => rfl
    | some a => obtain ⟨l, e⟩ := a; simp only [Bd, Xa]; cases tB P e <;> rfl
  | some e => simp only [Bd, Xa]; cases tB P e with
    | none => rfl
    | some sz => simp only [vC, Xa]; split
                 · cases es[n.toNat]? <;> rfl
                 · rfl
theorem zmh {t : TypeId} {b g i j : Nat} {k : IntKind} {n : Int} : sJ P t (.ref b g i j) (.int k n) = Bd (Xa (dP P t)) fun a => Bd (Xa (tB P a.2)) fun sz => vC (0 ≤ n ∧ n < a.1) (some (.ref b g i (j + n.toNat * sz))) := by
  simp only [sJ, iD, dP, Xa]
  cases P.underlying t with
  | none => rfl
  | some u =>
    cases u with
    | slice e => dsimp only; cases tB P e <;> rfl
    | array l e => dsimp only [Bd]; cases tB P e <;> rfl
    | _ => rfl
theorem zgc {t : TypeId} {cs : List AV} {k : IntKind} {n : Int} : sJ P t (.pp cs) (.int k n) = Bd (Xa (dP P t)) fun a => Bd (Xa (tB P a.2)) fun sz => vC (0 ≤ n ∧ n < a.1 ∧ n.toNat * sz ≤ cs.length) (some (.pp (cs.drop (n.toNat * sz)))) := by
  simp only [sJ, iD, dP, Xa]
  cases P.underlying t with
  | none => rfl
  | some u =>
    cases u with
    | slice e => dsimp only; cases tB P e <;> rfl
    | array l e => dsimp only [Bd]; cases tB P e <;> rfl
    | _ => rfl
theorem zf3 {t : TypeId} {x i : Operand} : bC P (.index t x i) ρ η nm = Bd (Xa (P.underlying t)) fun u => Bd (match u, ρ x, ρ i with | .string, .str s, .int _ n => vC (0 ≤ n) (Bd (s[n.toNat]?) fun c => some (AV.int .u8 c.toNat)) | _, _, _ => none) fun v => some ⟨v, [], []⟩ := by
  simp only [bC]
  cases P.underlying t with
  | none => rfl
  | some u => cases u <;> try rfl
              cases ρ x <;> try rfl
              cases ρ i <;> try rfl
              rename_i s k n
              simp only [Bd, Xa, vC]
              split
              · cases s[n.toNat]? <;> rfl
              · rfl
theorem zkU {x : Operand} {i : Nat} : bC P (.extract x i) ρ η nm = Bd (match ρ x with | .tup vs => vs[i]? | _ => none) fun v => some ⟨v, [], []⟩ := by
  simp only [bC]
  cases ρ x <;> first | rfl | (rename_i vs; simp only [Bd, Xa]; cases vs[i]? <;> rfl)
theorem S_bi {b : Builtin} {args : Array Operand} {ats : Array TypeId} : bC P (.call { callee := .builtin b, args := args, argTypes := ats }) ρ η nm = tK P b ats.toList (args.toList.map ρ) η nm := rfl
theorem B_len {t : TypeId} {x : AV} : tK P .len [t] [x] η nm = Bd (Xa (P.underlying t)) fun u => Bd (match u, x with
    | .string, .str s => some (AV.int .i64 s.length) | .slice _, .nils => some (.int .i64 0) | .slice _, .sl _ _ _ _ n => some (.int .i64 n) | .slice _, .psl _ es => some (.int .i64 es.length) | .slice _, .emp => some (.int .i64 0) | _, _ => none) fun v => some ⟨v, [], []⟩ := by
  simp only [tK, hY]
  cases P.underlying t with
  | none => rfl
  | some u => cases u <;> first | rfl | (cases x <;> rfl)
theorem zoV {t t' : TypeId} {s x : AV} : tK P .append [t, t'] [s, x] η nm = Bd (Xa (eJ P t t' s x η nm)) fun r => some ⟨r.1, [r.2.1], r.2.2⟩ := by
  simp only [tK]; cases eJ P t t' s x η nm <;> rfl
theorem B_max {ts : List TypeId} {k : IntKind} {x y : Int} : tK P .max ts [.int k x, .int k y] η nm = some ⟨.int k (if x < y then y else x), [], []⟩ := by
  simp [tK, aMax]
theorem B_min {ts : List TypeId} {k : IntKind} {x y : Int} : tK P .min ts [.int k x, .int k y] η nm = some ⟨.int k (if y < x then y else x), [], []⟩ := by
  simp [tK, aMin]
theorem zgg {t t' : TypeId} {x : AV} : eJ P t t' .nils x η nm = Bd (Xa (iD P t)) fun e => Bd (Xa (iD P t')) fun e' => Bd (Xa (tB P e)) fun sz => Bd (Xa (rD P e)) fun bs => Bd (Xa (tB P e')) fun sz' => Bd (Xa (xC P e)) fun z => vC (sz = sz' ∧ 0 < sz ∧ 0 < bs ∧ z.length = sz)
    (Bd (oH η sz x) fun p => vC (2 * (p.1.length * bs) ≤ 2 ^ 48) (some (.sl nm 0 sz 0 p.1.length, (nm, { g := 0, own := true, pure := p.1.all AV.isP.isPs, sz := sz, es := p.1 }), p.2))) := by
  simp only [eJ]
  cases iD P t with
  | none => rfl
  | some e => cases iD P t' with
    | none => rfl
    | some e' => simp only [Bd, Xa]; cases tB P e with
      | none => rfl
      | some sz => cases rD P e with
        | none => rfl
        | some bs => cases tB P e' with
          | none => rfl
          | some sz' => cases xC P e with
            | none => rfl
            | some z => simp only [vC, Xa]; split
                        · cases oH η sz x <;> rfl
                        · rfl
theorem zlx {t t' : TypeId} {x : AV} : eJ P t t' .emp x η nm = Bd (Xa (iD P t)) fun e => Bd (Xa (iD P t')) fun e' => Bd (Xa (tB P e)) fun sz => Bd (Xa (rD P e)) fun bs => Bd (Xa (tB P e')) fun sz' => Bd (Xa (xC P e)) fun z => vC (sz = sz' ∧ 0 < sz ∧ 0 < bs ∧ z.length = sz)
    (Bd (oH η sz x) fun p => vC (2 * (p.1.length * bs) ≤ 2 ^ 48) (some (.sl nm 0 sz 0 p.1.length, (nm, { g := 0, own := true, pure := p.1.all AV.isP.isPs, sz := sz, es := p.1 }), p.2))) := by
  simp only [eJ]
  cases iD P t with
  | none => rfl
  | some e => cases iD P t' with
    | none => rfl
    | some e' => simp only [Bd, Xa]; cases tB P e with
      | none => rfl
      | some sz => cases rD P e with
        | none => rfl
        | some bs => cases tB P e' with
          | none => rfl
          | some sz' => cases xC P e with
            | none => rfl
            | some z => simp only [vC, Xa]; split
                        · cases oH η sz x <;> rfl
                        · rfl
theorem zhF {t t' : TypeId} {b g z0 off len : Nat} {x : AV} : eJ P t t' (.sl b g z0 off len) x η nm = Bd (Xa (iD P t)) fun e => Bd (Xa (iD P t')) fun e' => Bd (Xa (tB P e)) fun sz => Bd (Xa (rD P e)) fun bs => Bd (Xa (tB P e')) fun sz' => Bd (Xa (xC P e)) fun z => vC (sz = sz' ∧ 0 < sz ∧ 0 < bs ∧ z.length = sz)
    (Bd (oH η sz x) fun p => Bd (η b) fun blk => vC (z0 = sz ∧ blk.g = g ∧ blk.sz = sz ∧ off = 0 ∧ len = blk.es.length ∧ blk.own = true ∧ 2 * ((len + p.1.length) * bs) ≤ 2 ^ 48)
      (some (.sl b (g + 1) sz 0 (len + p.1.length), (b, { blk with g := g + 1, es := blk.es ++ p.1, pure := blk.pure && p.1.all AV.isP.isPs }), b :: p.2))) := by
  simp only [eJ]
  cases iD P t with
  | none => rfl
  | some e => cases iD P t' with
    | none => rfl
    | some e' => simp only [Bd, Xa]; cases tB P e with
      | none => rfl
      | some sz => cases rD P e with
        | none => rfl
        | some bs => cases tB P e' with
          | none => rfl
          | some sz' => cases xC P e with
            | none => rfl
            | some z => simp only [vC, Xa]; split
                        · cases oH η sz x with
                          | none => rfl
                          | some p => simp only; cases η b <;> rfl
                        · rfl
theorem zf5 {sz : Nat} : oH η sz .nils = some ([], []) := rfl
theorem zjZ {sz : Nat} : oH η sz .emp = some ([], []) := rfl
theorem zkD {sz z : Nat} {es : List (List AV)} : oH η sz (.psl z es) = vC (z = sz ∨ es = []) (some (es, [])) := rfl
theorem zoK {sz b g z off len : Nat} : oH η sz (.sl b g z off len) = Bd (Xa (η b)) fun blk => vC (z = sz ∧ blk.g = g ∧ blk.sz = sz ∧ off + len ≤ blk.es.length) (some ((blk.es.drop off).take len, [b])) := by
  simp only [oH]; cases η b <;> rfl
end
section
variable {x a b c : Operand} {t ty : TypeId} {n : Nat} {pr : Array (Nat × Operand)} {bo : BinOp} {uo : UnOp} {fn : Fn} {ar br : Array Operand} {oa ob oc : Option Operand} {bi : Builtin} {ts : Array TypeId}
theorem H_move {P : Program} {η : gB} {nm : Nat} {d : Option Tmp} {tq : TypeId} {pos : String} {after : Array Edge} {g : Option (Nat × Bool)} {ans : Option (AV × List pA)} {gt : List Nat} {τ : Nat → AV} {k : SE → Prop} :
    zB (mD P ⟨d, (.move x), tq, pos, after, g⟩ ans nm gt τ η) k = zB (Xa (bC P (.move x) (yB τ) η nm)) fun e => k ⟨d, e.v, e.wr, gt ++ bE (Op.operands (.move x)).toList, e.rd, none⟩ := eF rfl
theorem H_mkif {P : Program} {η : gB} {nm : Nat} {d : Option Tmp} {tq : TypeId} {pos : String} {after : Array Edge} {g : Option (Nat × Bool)} {ans : Option (AV × List pA)} {gt : List Nat} {τ : Nat → AV} {k : SE → Prop} :
    zB (mD P ⟨d, (.makeInterface t x), tq, pos, after, g⟩ ans nm gt τ η) k = zB (Xa (bC P (.makeInterface t x) (yB τ) η nm)) fun e => k ⟨d, e.v, e.wr, gt ++ bE (Op.operands (.makeInterface t x)).toList, e.rd, none⟩ := eF rfl
theorem zmf {xt : TypeId} {ok : Bool} {P : Program} {η : gB} {nm : Nat} {d : Option Tmp} {tq : TypeId} {pos : String} {after : Array Edge} {g : Option (Nat × Bool)} {ans : Option (AV × List pA)} {gt : List Nat} {τ : Nat → AV} {k : SE → Prop} :
    zB (mD P ⟨d, (.typeAssert x xt t ok), tq, pos, after, g⟩ ans nm gt τ η) k = zB (Xa (bC P (.typeAssert x xt t ok) (yB τ) η nm)) fun e => k ⟨d, e.v, e.wr, gt ++ bE (Op.operands (.typeAssert x xt t ok)).toList, e.rd, none⟩ := eF rfl
theorem zgF {P : Program} {η : gB} {nm : Nat} {d : Option Tmp} {tq : TypeId} {pos : String} {after : Array Edge} {g : Option (Nat × Bool)} {ans : Option (AV × List pA)} {gt : List Nat} {τ : Nat → AV} {k : SE → Prop} :
    zB (mD P ⟨d, (.assign x), tq, pos, after, g⟩ ans nm gt τ η) k = zB (Xa (bC P (.assign x) (yB τ) η nm)) fun e => k ⟨d, e.v, e.wr, gt ++ bE (Op.operands (.assign x)).toList, e.rd, none⟩ := eF rfl
theorem H_pick {P : Program} {η : gB} {nm : Nat} {d : Option Tmp} {tq : TypeId} {pos : String} {after : Array Edge} {g : Option (Nat × Bool)} {ans : Option (AV × List pA)} {gt : List Nat} {τ : Nat → AV} {k : SE → Prop} :
    zB (mD P ⟨d, (.pick c a b), tq, pos, after, g⟩ ans nm gt τ η) k = zB (Xa (bC P (.pick c a b) (yB τ) η nm)) fun e => k ⟨d, e.v, e.wr, gt ++ bE (Op.operands (.pick c a b)).toList, e.rd, none⟩ := eF rfl
theorem zmC {P : Program} {η : gB} {nm : Nat} {d : Option Tmp} {tq : TypeId} {pos : String} {after : Array Edge} {g : Option (Nat × Bool)} {ans : Option (AV × List pA)} {gt : List Nat} {τ : Nat → AV} {k : SE → Prop} :
    zB (mD P ⟨d, (.alloc t), tq, pos, after, g⟩ ans nm gt τ η) k = zB (Xa (bC P (.alloc t) (yB τ) η nm)) fun e => k ⟨d, e.v, e.wr, gt ++ bE (Op.operands (.alloc t)).toList, e.rd, none⟩ := eF rfl
theorem H_box {P : Program} {η : gB} {nm : Nat} {d : Option Tmp} {tq : TypeId} {pos : String} {after : Array Edge} {g : Option (Nat × Bool)} {ans : Option (AV × List pA)} {gt : List Nat} {τ : Nat → AV} {k : SE → Prop} :
    zB (mD P ⟨d, (.box t x), tq, pos, after, g⟩ ans nm gt τ η) k = zB (Xa (bC P (.box t x) (yB τ) η nm)) fun e => k ⟨d, e.v, e.wr, gt ++ bE (Op.operands (.box t x)).toList, e.rd, none⟩ := eF rfl
theorem zhs {P : Program} {η : gB} {nm : Nat} {d : Option Tmp} {tq : TypeId} {pos : String} {after : Array Edge} {g : Option (Nat × Bool)} {ans : Option (AV × List pA)} {gt : List Nat} {τ : Nat → AV} {k : SE → Prop} :
    zB (mD P ⟨d, (.build t pr), tq, pos, after, g⟩ ans nm gt τ η) k = zB (Xa (bC P (.build t pr) (yB τ) η nm)) fun e => k ⟨d, e.v, e.wr, gt ++ bE (Op.operands (.build t pr)).toList, e.rd, none⟩ := eF rfl
theorem zgo {P : Program} {η : gB} {nm : Nat} {d : Option Tmp} {tq : TypeId} {pos : String} {after : Array Edge} {g : Option (Nat × Bool)} {ans : Option (AV × List pA)} {gt : List Nat} {τ : Nat → AV} {k : SE → Prop} :
    zB (mD P ⟨d, (.buildSlice t n pr), tq, pos, after, g⟩ ans nm gt τ η) k = zB (Xa (bC P (.buildSlice t n pr) (yB τ) η nm)) fun e => k ⟨d, e.v, e.wr, gt ++ bE (Op.operands (.buildSlice t n pr)).toList, e.rd, none⟩ := eF rfl
theorem H_load {P : Program} {η : gB} {nm : Nat} {d : Option Tmp} {tq : TypeId} {pos : String} {after : Array Edge} {g : Option (Nat × Bool)} {ans : Option (AV × List pA)} {gt : List Nat} {τ : Nat → AV} {k : SE → Prop} :
    zB (mD P ⟨d, (.load t a), tq, pos, after, g⟩ ans nm gt τ η) k = zB (Xa (bC P (.load t a) (yB τ) η nm)) fun e => k ⟨d, e.v, e.wr, gt ++ bE (Op.operands (.load t a)).toList, e.rd, none⟩ := eF rfl
theorem zj0 {P : Program} {η : gB} {nm : Nat} {d : Option Tmp} {tq : TypeId} {pos : String} {after : Array Edge} {g : Option (Nat × Bool)} {ans : Option (AV × List pA)} {gt : List Nat} {τ : Nat → AV} {k : SE → Prop} :
    zB (mD P ⟨d, (.store t a b), tq, pos, after, g⟩ ans nm gt τ η) k = zB (Xa (bC P (.store t a b) (yB τ) η nm)) fun e => k ⟨d, e.v, e.wr, gt ++ bE (Op.operands (.store t a b)).toList, e.rd, none⟩ := eF rfl
theorem zov {P : Program} {η : gB} {nm : Nat} {d : Option Tmp} {tq : TypeId} {pos : String} {after : Array Edge} {g : Option (Nat × Bool)} {ans : Option (AV × List pA)} {gt : List Nat} {τ : Nat → AV} {k : SE → Prop} :
    zB (mD P ⟨d, (.nilCheck x), tq, pos, after, g⟩ ans nm gt τ η) k = zB (Xa (bC P (.nilCheck x) (yB τ) η nm)) fun e => k ⟨d, e.v, e.wr, gt ++ bE (Op.operands (.nilCheck x)).toList, e.rd, none⟩ := eF rfl
theorem zkI {P : Program} {η : gB} {nm : Nat} {d : Option Tmp} {tq : TypeId} {pos : String} {after : Array Edge} {g : Option (Nat × Bool)} {ans : Option (AV × List pA)} {gt : List Nat} {τ : Nat → AV} {k : SE → Prop} :
    zB (mD P ⟨d, (.binOp bo t a b ty), tq, pos, after, g⟩ ans nm gt τ η) k = zB (Xa (bC P (.binOp bo t a b ty) (yB τ) η nm)) fun e => k ⟨d, e.v, e.wr, gt ++ bE (Op.operands (.binOp bo t a b ty)).toList, e.rd, none⟩ := eF rfl
theorem H_unOp {P : Program} {η : gB} {nm : Nat} {d : Option Tmp} {tq : TypeId} {pos : String} {after : Array Edge} {g : Option (Nat × Bool)} {ans : Option (AV × List pA)} {gt : List Nat} {τ : Nat → AV} {k : SE → Prop} :
    zB (mD P ⟨d, (.unOp uo t a), tq, pos, after, g⟩ ans nm gt τ η) k = zB (Xa (bC P (.unOp uo t a) (yB τ) η nm)) fun e => k ⟨d, e.v, e.wr, gt ++ bE (Op.operands (.unOp uo t a)).toList, e.rd, none⟩ := eF rfl
theorem H_conv {P : Program} {η : gB} {nm : Nat} {d : Option Tmp} {tq ts td : TypeId} {a : Operand} {pos : String} {after : Array Edge} {g : Option (Nat × Bool)} {ans : Option (AV × List pA)} {gt : List Nat} {τ : Nat → AV} {k : SE → Prop} :
    zB (mD P ⟨d, (.convert ts td a), tq, pos, after, g⟩ ans nm gt τ η) k = zB (Xa (bC P (.convert ts td a) (yB τ) η nm)) fun e => k ⟨d, e.v, e.wr, gt ++ bE (Op.operands (.convert ts td a)).toList, e.rd, none⟩ := eF rfl
theorem zlJ {P : Program} {η : gB} {nm : Nat} {d : Option Tmp} {tq : TypeId} {pos : String} {after : Array Edge} {g : Option (Nat × Bool)} {ans : Option (AV × List pA)} {gt : List Nat} {τ : Nat → AV} {k : SE → Prop} :
    zB (mD P ⟨d, (.makeFunc fn ar br), tq, pos, after, g⟩ ans nm gt τ η) k = zB (Xa (bC P (.makeFunc fn ar br) (yB τ) η nm)) fun e => k ⟨d, e.v, e.wr, gt ++ bE (Op.operands (.makeFunc fn ar br)).toList, e.rd, none⟩ := eF rfl
theorem zl6 {P : Program} {η : gB} {nm : Nat} {d : Option Tmp} {tq : TypeId} {pos : String} {after : Array Edge} {g : Option (Nat × Bool)} {ans : Option (AV × List pA)} {gt : List Nat} {τ : Nat → AV} {k : SE → Prop} :
    zB (mD P ⟨d, (.makeSlice t a b), tq, pos, after, g⟩ ans nm gt τ η) k = zB (Xa (bC P (.makeSlice t a b) (yB τ) η nm)) fun e => k ⟨d, e.v, e.wr, gt ++ bE (Op.operands (.makeSlice t a b)).toList, e.rd, none⟩ := eF rfl
theorem zlG {P : Program} {η : gB} {nm : Nat} {d : Option Tmp} {tq : TypeId} {pos : String} {after : Array Edge} {g : Option (Nat × Bool)} {ans : Option (AV × List pA)} {gt : List Nat} {τ : Nat → AV} {k : SE → Prop} :
    zB (mD P ⟨d, (.slice t a oa ob oc), tq, pos, after, g⟩ ans nm gt τ η) k = zB (Xa (bC P (.slice t a oa ob oc) (yB τ) η nm)) fun e => k ⟨d, e.v, e.wr, gt ++ bE (Op.operands (.slice t a oa ob oc)).toList, e.rd, none⟩ := eF rfl
theorem zi8 {P : Program} {η : gB} {nm : Nat} {d : Option Tmp} {tq : TypeId} {pos : String} {after : Array Edge} {g : Option (Nat × Bool)} {ans : Option (AV × List pA)} {gt : List Nat} {τ : Nat → AV} {k : SE → Prop} :
    zB (mD P ⟨d, (.fieldAddr t a n), tq, pos, after, g⟩ ans nm gt τ η) k = zB (Xa (bC P (.fieldAddr t a n) (yB τ) η nm)) fun e => k ⟨d, e.v, e.wr, gt ++ bE (Op.operands (.fieldAddr t a n)).toList, e.rd, none⟩ := eF rfl
theorem zmM {P : Program} {η : gB} {nm : Nat} {d : Option Tmp} {tq : TypeId} {pos : String} {after : Array Edge} {g : Option (Nat × Bool)} {ans : Option (AV × List pA)} {gt : List Nat} {τ : Nat → AV} {k : SE → Prop} :
    zB (mD P ⟨d, (.field t a n), tq, pos, after, g⟩ ans nm gt τ η) k = zB (Xa (bC P (.field t a n) (yB τ) η nm)) fun e => k ⟨d, e.v, e.wr, gt ++ bE (Op.operands (.field t a n)).toList, e.rd, none⟩ := eF rfl
theorem zoO {P : Program} {η : gB} {nm : Nat} {d : Option Tmp} {tq : TypeId} {pos : String} {after : Array Edge} {g : Option (Nat × Bool)} {ans : Option (AV × List pA)} {gt : List Nat} {τ : Nat → AV} {k : SE → Prop} :
    zB (mD P ⟨d, (.indexAddr t a b), tq, pos, after, g⟩ ans nm gt τ η) k = zB (Xa (bC P (.indexAddr t a b) (yB τ) η nm)) fun e => k ⟨d, e.v, e.wr, gt ++ bE (Op.operands (.indexAddr t a b)).toList, e.rd, none⟩ := eF rfl
theorem zmV {P : Program} {η : gB} {nm : Nat} {d : Option Tmp} {tq : TypeId} {pos : String} {after : Array Edge} {g : Option (Nat × Bool)} {ans : Option (AV × List pA)} {gt : List Nat} {τ : Nat → AV} {k : SE → Prop} :
    zB (mD P ⟨d, (.index t a b), tq, pos, after, g⟩ ans nm gt τ η) k = zB (Xa (bC P (.index t a b) (yB τ) η nm)) fun e => k ⟨d, e.v, e.wr, gt ++ bE (Op.operands (.index t a b)).toList, e.rd, none⟩ := eF rfl
theorem zh4 {P : Program} {η : gB} {nm : Nat} {d : Option Tmp} {tq : TypeId} {pos : String} {after : Array Edge} {g : Option (Nat × Bool)} {ans : Option (AV × List pA)} {gt : List Nat} {τ : Nat → AV} {k : SE → Prop} :
    zB (mD P ⟨d, (.extract a n), tq, pos, after, g⟩ ans nm gt τ η) k = zB (Xa (bC P (.extract a n) (yB τ) η nm)) fun e => k ⟨d, e.v, e.wr, gt ++ bE (Op.operands (.extract a n)).toList, e.rd, none⟩ := eF rfl
theorem H_bi {P : Program} {η : gB} {nm : Nat} {d : Option Tmp} {tq : TypeId} {pos : String} {after : Array Edge} {g : Option (Nat × Bool)} {ans : Option (AV × List pA)} {gt : List Nat} {τ : Nat → AV} {k : SE → Prop} :
    zB (mD P ⟨d, (.call { callee := .builtin bi, args := ar, argTypes := ts }), tq, pos, after, g⟩ ans nm gt τ η) k = zB (Xa (bC P (.call { callee := .builtin bi, args := ar, argTypes := ts }) (yB τ) η nm)) fun e => k ⟨d, e.v, e.wr, gt ++ bE (Op.operands (.call { callee := .builtin bi, args := ar, argTypes := ts })).toList, e.rd, none⟩ := eF rfl
theorem eval_t {τ : Nat → AV} {t : Nat} : yB τ (.tmp t) = τ t := rfl
theorem eval_c {τ : Nat → AV} {v : Value} : yB τ (.const v) = gO v := rfl
theorem eval_f {τ : Nat → AV} {f : FuncId} : yB τ (.func f) = .fn f [] [] := rfl
theorem zle {k : IntKind} {n : Int} : gO (.int k n) = .int k n := rfl
theorem zli {b : Bool} : gO (.bool b) = .bool b := rfl
theorem zjG {s : ByteArray} : gO (.string s) = .str s.data.toList := rfl
theorem zjv : gO (.slice none 0 0) = .nils := rfl
theorem zjx : gO (.pointer none) = .nilp := rfl
theorem zia : gO .nilFunc = .nilf := rfl
theorem ziy {k : IntKind} {n : Int} : (AV.int k n).cells = some [.int k n] := rfl
theorem zhZ {b : Bool} : (AV.bool b).cells = some [.bool b] := rfl
theorem zfo {s : List UInt8} : (AV.str s).cells = some [.str s] := rfl
theorem znV {cs : List AV} : (AV.agg cs).cells = some cs := rfl
theorem zlc : AV.nils.cells = some [.nils] := rfl
theorem zj9 : AV.nilp.cells = some [.nilp] := rfl
theorem zix : AV.nilf.cells = some [.nilf] := rfl
theorem zgX {z : Nat} {es : List (List AV)} : (AV.psl z es).cells = some [.psl z es] := rfl
theorem zmg {b g z o l : Nat} : (AV.sl b g z o l).cells = some [.sl b g z o l] := rfl
theorem zmP {b g i j : Nat} : (AV.ref b g i j).cells = some [.ref b g i j] := rfl
theorem ziY {cs : List AV} : (AV.pp cs).cells = some [.pp cs] := rfl
theorem zjD {f : FuncId} {a c : List AV} : (AV.fn f a c).cells = some [.fn f a c] := rfl
theorem zn1 {fr : List (Nat × AV)} {d : Nat} {v : AV} : fH fr (some d) v = (d, v) :: fr := rfl
theorem zkj {fr : List (Nat × AV)} {v : AV} : fH fr none v = fr := rfl
theorem zm0 {nt : Nat} {op : Op} {pos : String} {after : Array Edge} {g : Option (Nat × Bool)} : xG nt ⟨none, op, ty, pos, after, g⟩ = true := rfl
theorem znt {nt d : Nat} {op : Op} {pos : String} {after : Array Edge} {g : Option (Nat × Bool)} : xG nt ⟨some d, op, ty, pos, after, g⟩ = decide (d < nt) := rfl
theorem zjq {P : Program} {d : Option Nat} {v : AV} {wr : List (Nat × pA)} {rt rb : List Nat} : tV P ⟨d, v, wr, rt, rb, none⟩ = True := rfl
theorem zkm {P : Program} {d : Option Nat} {v : AV} {wr : List (Nat × pA)} {rt rb : List Nat} {o : Obl} : tV P ⟨d, v, wr, rt, rb, some o⟩ = yA P o.f o.args o.r o.blks := rfl
end
section
variable {P : Program} {t : TypeId} {k : IntKind} {a b : Int} {x y : List UInt8}
theorem I_add : eD P .add t (.int k a) (.int k b) = some (.int k (k.wrap (a + b))) := by simp [eD]
theorem I_sub : eD P .sub t (.int k a) (.int k b) = some (.int k (k.wrap (a - b))) := by simp [eD]
theorem I_mul : eD P .mul t (.int k a) (.int k b) = some (.int k (k.wrap (a * b))) := by simp [eD]
theorem I_quo : eD P .quo t (.int k a) (.int k b) = vC (b ≠ 0) (some (.int k (k.wrap (a.tdiv b)))) := by by_cases h : b = 0 <;> simp [eD, vC, h]
theorem I_rem : eD P .rem t (.int k a) (.int k b) = vC (b ≠ 0) (some (.int k (a.tmod b))) := by by_cases h : b = 0 <;> simp [eD, vC, h]
theorem I_shl : eD P .shl t (.int k a) (.int k b) = vC (0 ≤ b) (some (.int k (k.wrap (a * 2 ^ (min b.toNat k.bits))))) := by by_cases h : b < 0 <;> simp [eD, vC, h]
theorem I_eql : eD P .eql t (.int k a) (.int k b) = some (.bool (decide (a = b))) := by simp only [eD, if_true]; rfl
theorem I_neq : eD P .neq t (.int k a) (.int k b) = some (.bool (!decide (a = b))) := by simp only [eD, if_true]; rfl
theorem I_lss : eD P .lss t (.int k a) (.int k b) = some (.bool (decide (a < b))) := by simp [eD]
theorem I_leq : eD P .leq t (.int k a) (.int k b) = some (.bool (decide (a ≤ b))) := by simp [eD]
theorem I_gtr : eD P .gtr t (.int k a) (.int k b) = some (.bool (decide (b < a))) := by simp [eD]
theorem I_geq : eD P .geq t (.int k a) (.int k b) = some (.bool (decide (b ≤ a))) := by simp [eD]
theorem C_eql : eD P .eql t (.str x) (.str y) = some (.bool (x == y)) := rfl
theorem C_neq : eD P .neq t (.str x) (.str y) = some (.bool (!(x == y))) := rfl
theorem C_lss : eD P .lss t (.str x) (.str y) = some (.bool (Op.bytesLess x y)) := rfl
theorem C_leq : eD P .leq t (.str x) (.str y) = some (.bool (Op.bytesLess x y || x == y)) := rfl
theorem C_gtr : eD P .gtr t (.str x) (.str y) = some (.bool (!(Op.bytesLess x y || x == y))) := rfl
theorem C_geq : eD P .geq t (.str x) (.str y) = some (.bool (!(Op.bytesLess x y))) := rfl
end
section
variable {η : gB} {d : Nat}
theorem zgv {k : IntKind} {n : Int} : aC η (d + 1) (.int k n) = some (.int k n, []) := rfl
theorem zkX {s : List UInt8} : aC η (d + 1) (.str s) = some (.str s, []) := rfl
theorem zne {b : Bool} : aC η (d + 1) (.bool b) = some (.bool b, []) := rfl
theorem pur_pp {cs : List AV} : aC η (d + 1) (.pp cs) = some (.pp cs, []) := rfl
theorem zn3 {z : Nat} {es : List (List AV)} : aC η (d + 1) (.psl z es) = some (.psl z es, []) := rfl
theorem zk6 : aC η (d + 1) .nils = some (.nils, []) := rfl
theorem zjh : aC η (d + 1) .nilp = some (.nilp, []) := rfl
theorem zfj : aC η (d + 1) .nilf = some (.nilf, []) := rfl
theorem zh8 {cs : List AV} : aC η (d + 1) (.agg cs) = Bd (Xa (aC.purs η d cs)) fun p => some (.agg p.1, p.2) := by
  simp only [aC]; cases aC.purs η d cs <;> rfl
theorem pur_fn {f : FuncId} {a c : List AV} : aC η (d + 1) (.fn f a c) = Bd (Xa (aC.purs η d a)) fun p => Bd (Xa (aC.purs η d c)) fun q => some (.fn f p.1 q.1, p.2 ++ q.2) := by
  simp only [aC]; cases aC.purs η d a <;> cases aC.purs η d c <;> rfl
theorem pur_sl {b g z off len : Nat} : aC η (d + 1) (.sl b g z off len) = Bd (Xa (η b)) fun blk => vC (blk.sz = z ∧ blk.g = g ∧ off + len ≤ blk.es.length) (if blk.pure = true then some (.psl blk.sz ((blk.es.drop off).take len), [b]) else Bd (Xa (gI (aC.purs η d) ((blk.es.drop off).take len))) fun p => some (.psl blk.sz p.1, b :: p.2)) := by
  simp only [aC]
  cases η b with
  | none => rfl
  | some blk => simp only [Bd, Xa, vC]; split
                · split
                  · rfl
                  · cases gI (aC.purs η d) ((blk.es.drop off).take len) <;> rfl
                · rfl
theorem zkk : aC.purs η (d + 1) [] = some ([], []) := rfl
theorem zka {v : AV} {vs : List AV} : aC.purs η (d + 1) (v :: vs) = Bd (Xa (aC η d v)) fun p => Bd (Xa (aC.purs η d vs)) fun q => some (p.1 :: q.1, p.2 ++ q.2) := by
  simp only [aC.purs]; cases aC η d v <;> cases aC.purs η d vs <;> rfl
end
end Go.AM
