/- A text of the proof. -/
import Derived.Test.YtdompcjalogoaaaGreatDoorKAmZu
set_option linter.unusedSimpArgs false
set_option linter.unusedVariables false
namespace Go.AM
open Go Go.RowKit
inductive Tr (α : Type) where
  | e
  | n (l : Tr α) (v : Option α) (r : Tr α)
namespace Tr
variable {α : Type}
noncomputable def get (t : Tr α) : Nat → Option α :=
  Tr.rec (motive := fun _ => Nat → Option α) (fun _ => none)
    (fun _ v _ il ir k => Bool.rec (motive := fun _ => Option α) (Bool.rec (motive := fun _ => Option α) (ir (Nat.sub (Nat.div k 2) 1)) (il (Nat.div k 2)) (Nat.beq (Nat.mod k 2) 1)) v (Nat.beq k 0)) t
noncomputable def putF (x : α) (f : Nat) : Nat → Tr α → Tr α :=
  Nat.rec (motive := fun _ => Nat → Tr α → Tr α) (fun _ t => t)
    (fun _ ih k t => Tr.rec (motive := fun _ => Tr α)
      (Bool.rec (motive := fun _ => Tr α) (Bool.rec (motive := fun _ => Tr α) (.n .e none (ih (Nat.sub (Nat.div k 2) 1) .e)) (.n (ih (Nat.div k 2) .e) none .e) (Nat.beq (Nat.mod k 2) 1)) (.n .e (some x) .e) (Nat.beq k 0))
      (fun l v r _ _ => Bool.rec (motive := fun _ => Tr α) (Bool.rec (motive := fun _ => Tr α) (.n l v (ih (Nat.sub (Nat.div k 2) 1) r)) (.n (ih (Nat.div k 2) l) v r) (Nat.beq (Nat.mod k 2) 1)) (.n l (some x) r) (Nat.beq k 0)) t) f
noncomputable def put (t : Tr α) (k : Nat) (x : α) : Tr α := putF x (k + 1) k t
theorem get_e (k : Nat) : (e : Tr α).get k = none := rfl
theorem get_n (l r : Tr α) (v : Option α) (k : Nat) : (n l v r).get k = if k = 0 then v else if k % 2 = 1 then l.get (k / 2) else r.get (k / 2 - 1) := by
  show Bool.rec (motive := fun _ => Option α) (Bool.rec (motive := fun _ => Option α) (r.get (k / 2 - 1)) (l.get (k / 2)) (Nat.beq (k % 2) 1)) v (Nat.beq k 0) = _
  by_cases h : k = 0
  · subst h; simp
  · rw [if_neg h, show Nat.beq k 0 = false by cases e : Nat.beq k 0 with | false => rfl | true => exact absurd (Nat.eq_of_beq_eq_true e) h]
    by_cases h2 : k % 2 = 1
    · rw [if_pos h2, h2]; rfl
    · rw [if_neg h2, show Nat.beq (k % 2) 1 = false by cases e : Nat.beq (k % 2) 1 with | false => rfl | true => exact absurd (Nat.eq_of_beq_eq_true e) h2]
theorem putF_succ (x : α) (f k : Nat) (t : Tr α) : putF x (f + 1) k t = match t with
    | .e => if k = 0 then .n .e (some x) .e else if k % 2 = 1 then .n (putF x f (k / 2) .e) none .e else .n .e none (putF x f (k / 2 - 1) .e)
    | .n l v r => if k = 0 then .n l (some x) r else if k % 2 = 1 then .n (putF x f (k / 2) l) v r else .n l v (putF x f (k / 2 - 1) r) := by
  have b0 : ∀ {A B : Tr α}, Bool.rec (motive := fun _ => Tr α) A B (Nat.beq k 0) = if k = 0 then B else A := by
    intro A B
    by_cases h : k = 0
    · subst h; simp
    · rw [if_neg h, show Nat.beq k 0 = false by cases e : Nat.beq k 0 with | false => rfl | true => exact absurd (Nat.eq_of_beq_eq_true e) h]
  have b1 : ∀ {A B : Tr α}, Bool.rec (motive := fun _ => Tr α) A B (Nat.beq (k % 2) 1) = if k % 2 = 1 then B else A := by
    intro A B
    by_cases h : k % 2 = 1
    · rw [if_pos h, h]; rfl
    · rw [if_neg h, show Nat.beq (k % 2) 1 = false by cases e : Nat.beq (k % 2) 1 with | false => rfl | true => exact absurd (Nat.eq_of_beq_eq_true e) h]
  cases t with
  | e =>
    show Bool.rec (motive := fun _ => Tr α) (Bool.rec (motive := fun _ => Tr α) (.n .e none (putF x f (k / 2 - 1) .e)) (.n (putF x f (k / 2) .e) none .e) (Nat.beq (k % 2) 1)) (.n .e (some x) .e) (Nat.beq k 0) = _
    rw [b0, b1]
  | n l v r =>
    show Bool.rec (motive := fun _ => Tr α) (Bool.rec (motive := fun _ => Tr α) (.n l v (putF x f (k / 2 - 1) r)) (.n (putF x f (k / 2) l) v r) (Nat.beq (k % 2) 1)) (.n l (some x) r) (Nat.beq k 0) = _
    rw [b0, b1]
theorem get_putF (x : α) : ∀ (f k : Nat) (t : Tr α) (c : Nat), k < f → (putF x f k t).get c = if c = k then some x else t.get c
  | 0, k, t, c, h => by omega
  | f + 1, k, t, c, h => by
    rw [putF_succ]
    have key : ∀ (l r : Tr α) (v : Option α), (if k = 0 then Tr.n l (some x) r else if k % 2 = 1 then Tr.n (putF x f (k / 2) l) v r else Tr.n l v (putF x f (k / 2 - 1) r)).get c = if c = k then some x else (Tr.n l v r).get c := by
      intro l r v
      by_cases h0 : k = 0
      · subst h0
        rw [if_pos rfl, get_n, get_n]
        by_cases hc : c = 0
        · simp [hc]
        · simp [hc]
      · rw [if_neg h0]
        by_cases h1 : k % 2 = 1
        · rw [if_pos h1, get_n, get_n]
          by_cases hc : c = 0
          · subst hc; rw [if_pos rfl, if_pos rfl, if_neg (fun e => h0 e.symm)]
          · rw [if_neg hc, if_neg hc]
            by_cases h2 : c % 2 = 1
            · rw [if_pos h2, if_pos h2, get_putF x f (k / 2) l (c / 2) (by omega)]
              by_cases e : c = k
              · subst e; simp
              · rw [if_neg e, if_neg (by omega)]
            · rw [if_neg h2, if_neg h2, if_neg (by omega)]
        · rw [if_neg h1, get_n, get_n]
          by_cases hc : c = 0
          · subst hc; rw [if_pos rfl, if_pos rfl, if_neg (fun e => h0 e.symm)]
          · rw [if_neg hc, if_neg hc]
            by_cases h2 : c % 2 = 1
            · rw [if_pos h2, if_pos h2, if_neg (by omega)]
            · rw [if_neg h2, if_neg h2, get_putF x f (k / 2 - 1) r (c / 2 - 1) (by omega)]
              by_cases e : c = k
              · subst e; simp
              · rw [if_neg e, if_neg (by omega)]
    cases t with
    | n l v r => exact key l r v
    | e =>
      have := key .e .e none
      simp only [get_n (α := α) .e .e none c, get_e, ite_self] at this
      simp only [get_e]
      exact this
theorem get_put (t : Tr α) (k : Nat) (x : α) (c : Nat) : (t.put k x).get c = if c = k then some x else t.get c := get_putF x (k + 1) k t c (Nat.lt_succ_self k)
def keys : Tr α → List Nat
  | .e => []
  | .n l v r => (match v with | some _ => [0] | none => []) ++ (l.keys.map fun k => 2 * k + 1) ++ (r.keys.map fun k => 2 * k + 2)
theorem mem_keys : ∀ (t : Tr α) (k : Nat), k ∈ t.keys ↔ ∃ x, t.get k = some x
  | .e, k => by simp [keys, get_e]
  | .n l v r, k => by
    have hl := mem_keys l
    have hr := mem_keys r
    simp only [keys, List.mem_append, List.mem_map, get_n]
    by_cases h0 : k = 0
    · subst h0
      simp only [if_true]
      cases v with
      | none => simp
      | some x => simp
    · rw [if_neg h0]
      have hv : ¬ k ∈ (match v with | some _ => [0] | none => []) := by cases v <;> simp [h0]
      by_cases h1 : k % 2 = 1
      · rw [if_pos h1, ← hl]
        constructor
        · rintro ((h | ⟨j, hj, e⟩) | ⟨j, hj, e⟩)
          · exact absurd h hv
          · rw [show k / 2 = j by omega]; exact hj
          · omega
        · intro h; exact .inl (.inr ⟨k / 2, h, by omega⟩)
      · rw [if_neg h1, ← hr]
        constructor
        · rintro ((h | ⟨j, hj, e⟩) | ⟨j, hj, e⟩)
          · exact absurd h hv
          · omega
          · rw [show k / 2 - 1 = j by omega]; exact hj
        · intro h; exact .inr ⟨k / 2 - 1, h, by omega⟩
def all : (Nat → α → Bool) → Tr α → Bool
  | _, .e => true
  | p, .n l v r => (match v with | some x => p 0 x | none => true) && all (fun k => p (2 * k + 1)) l && all (fun k => p (2 * k + 2)) r
end Tr
noncomputable def Tr.toL {α : Type} (t : Tr α) : List (Nat × α) := t.keys.filterMap fun k => (t.get k).map fun x => (k, x)
theorem alg_ks {α : Type} (g : Nat → Option α) (j : Nat) : ∀ ks : List Nat, (j ∈ ks ∨ g j = none) → alg (ks.filterMap fun k => (g k).map fun x => (k, x)) j = g j
  | [], h => by
    rcases h with h | h
    · cases h
    · rw [h]; rfl
  | k :: ks, h => by
    simp only [List.filterMap_cons]
    by_cases e : j = k
    · subst e
      cases hg : g j with
      | none =>
        simp only [Option.map_none]
        rw [alg_ks g j ks (.inr hg), hg]
      | some x => simp [alg]
    · have h' : j ∈ ks ∨ g j = none := by
        rcases h with h | h
        · rcases List.mem_cons.1 h with h | h
          · exact absurd h e
          · exact .inl h
        · exact .inr h
      cases hg : g k with
      | none => simp only [Option.map_none]; exact alg_ks g j ks h'
      | some x => simp only [Option.map_some, alg, if_neg e]; exact alg_ks g j ks h'
theorem alg_toL {α : Type} (t : Tr α) : alg t.toL = t.get := by
  funext j
  refine alg_ks _ _ _ ?_
  cases h : t.get j with
  | none => exact .inr rfl
  | some x => exact .inl ((Tr.mem_keys t j).2 ⟨x, h⟩)
def listB {α : Type} (f : α → α → Bool) : List α → List α → Bool
  | [], [] => true
  | a :: as, b :: bs => match f a b with
    | true => listB f as bs
    | false => false
  | _, _ => false
def avB : Nat → AV → AV → Bool
  | 0, _, _ => false
  | d + 1, a, b => match a, b with
    | .int k n, .int k' n' => decide (k = k') && decide (n = n')
    | .bool x, .bool y => x == y
    | .str s, .str t => listB (fun x y => decide (x = y)) s t
    | .agg as, .agg bs => listB (avB d) as bs
    | .tup as, .tup bs => listB (avB d) as bs
    | .psl z es, .psl z' es' => Nat.beq z z' && listB (listB (avB d)) es es'
    | .pp as, .pp bs => listB (avB d) as bs
    | .iface t x, .iface t' y => Nat.beq t t' && avB d x y
    | .fn f x y, .fn f' x' y' => Nat.beq f f' && (listB (avB d) x x' && listB (avB d) y y')
    | .gp k o x, .gp k' o' y => Nat.beq k k' && (Nat.beq o o' && listB (avB d) x y)
    | .psx z es, .psx z' es' => Nat.beq z z' && listB (listB (avB d)) es es'
    | .ref b g i j, .ref b' g' i' j' => Nat.beq b b' && (Nat.beq g g' && (Nat.beq i i' && Nat.beq j j'))
    | .sl b g z o l, .sl b' g' z' o' l' => Nat.beq b b' && (Nat.beq g g' && (Nat.beq z z' && (Nat.beq o o' && Nat.beq l l')))
    | .slk b g z o l c e, .slk b' g' z' o' l' c' e' => Nat.beq b b' && (Nat.beq g g' && (Nat.beq z z' && (Nat.beq o o' && (Nat.beq l l' && (Nat.beq c c' && (e == e'))))))
    | .nilp, .nilp => true
    | .nils, .nils => true
    | .nilf, .nilf => true
    | .nili, .nili => true
    | .nilm, .nilm => true
    | .emp, .emp => true
    | _, _ => false
def optB : Option Nat → Option Nat → Bool
  | none, none => true
  | some a, some b => Nat.beq a b
  | _, _ => false
def blkB (x y : ABlk) : Bool := Nat.beq x.g y.g && ((x.own == y.own) && ((x.pure == y.pure) && (Nat.beq x.sz y.sz && (listB (listB (avB 40)) x.es y.es && optB x.ty y.ty))))
structure LB where
  fr : Tr AV
  nt : Nat
  ps : List Nat
  assign : Code
  body : Code
  st : LoopState
  pend : Option Code
  mp : Option Ob
noncomputable def LB.l (b : LB) : LBlk := ⟨b.fr.toL, b.nt, b.ps, b.assign, b.body, b.st, b.pend, b.mp⟩
structure Cs where
  fr : Tr AV
  hp : Tr ABlk
  nx : Nat
  lp : List (Nat × LB)
noncomputable def lpL (lp : List (Nat × LB)) : List (Nat × LBlk) := lp.map fun p => (p.1, p.2.l)
noncomputable def Cs.st (c : Cs) : St := ⟨c.fr.toL, c.hp.toL, c.nx, lpL c.lp⟩
noncomputable def tau (fr : Tr AV) : Nat → AV := fun t => match fr.get t with | some v => v | none => .top
noncomputable def putD (fr : Tr AV) (d : Option Nat) (v : AV) : Tr AV := match d with | some d => fr.put d v | none => fr
noncomputable def putW (hp : Tr ABlk) : List (Nat × ABlk) → Tr ABlk
  | [] => hp
  | (b, x) :: l => putW (hp.put b x) l
noncomputable def putsT (fr : Tr AV) : List Nat → List AV → Tr AV
  | p :: ps, v :: vs => putsT (fr.put p v) ps vs
  | _, _ => fr
noncomputable def enumT : Nat → List AV → Tr AV
  | _, [] => .e
  | i, v :: vs => (enumT (i + 1) vs).put i v
def noItC (l : Nat) : List (Nat × LB) → Bool
  | [] => true
  | p :: lp => match p.2.mp with
    | some (.mit l0 _ _) => match Nat.beq l0 l with
      | true => false
      | false => noItC l lp
    | _ => noItC l lp
def mapRec (o : Ob) : LB := ⟨.e, 0, [], .skip, .skip, .ready, none, some o⟩
def frc {α : Type} (n : Nat) (x : Option α) : Option α := match Nat.ble 0 n with | true => x | false => none
def tops (η : Heap) : Nat → AV → List Nat → List Nat
  | 0, _, acc => acc
  | d + 1, v, acc =>
    match v with
    | .sl b .. => match η b with | some x => if x.own && !acc.contains b then b :: acc else acc | none => acc
    | .slk b .. => match η b with | some x => if x.own && !acc.contains b then b :: acc else acc | none => acc
    | .iface _ v => tops η d v acc
    | .ref b .. => match η b with
      | some x => if x.own && !acc.contains b then (if x.pure then b :: acc else x.es.foldl (fun acc e => e.foldl (fun acc v => tops η d v acc) acc) (b :: acc)) else acc
      | none => acc
    | .agg cs => cs.foldl (fun acc v => tops η d v acc) acc
    | .tup cs => cs.foldl (fun acc v => tops η d v acc) acc
    | .fn _ a c => c.foldl (fun acc v => tops η d v acc) (a.foldl (fun acc v => tops η d v acc) acc)
    | _ => acc
def nodupB : List Nat → Bool
  | [] => true
  | x :: l => !l.contains x && nodupB l
theorem nodupB_ok : ∀ {l : List Nat}, nodupB l = true → l.Nodup
  | [], _ => List.nodup_nil
  | x :: l, h => by
    simp only [nodupB, Bool.and_eq_true, Bool.not_eq_true', List.contains_eq_mem, decide_eq_false_iff_not] at h
    exact List.nodup_cons.2 ⟨h.1, nodupB_ok h.2⟩
def expo (ns : List Nat) (v : AV) (η : Heap) : Option (AV × List ABlk) :=
  match exp ns η 60 v, expB ns η ns with
  | some (r, rd), some (blks, rd') => if Nat.ble ns.length 8 && nodupB ns && ns.all (fun b => !(rd ++ rd').contains b) then some (r, blks) else none
  | _, _ => none
inductive Job where
  | code (nt : Nat) (c : Code) (s : Cs)
  | loop (nt : Nat) (c : Code) (s : Cs)
  | inscope (nt : Nat) (c r : Code) (s : Cs)
  | ops (nt : Nat) (ops : Array Oper) (l : List Nat) (s : Cs)
  | draw (nt : Nat) (ops : Array Oper) (c : Nat) (l : List Nat) (s : Cs)
  | every (nt : Nat) (ops : Array Oper) (fuel : Nat) (listed : Array Bool) (s : Cs)
  | call (f : FuncId) (args : List AV) (s : Cs)
  | pcall (f : FuncId) (args : List AV)
  | fcode (fn : Func) (N : List Nat) (c : Code) (s : Cs)
  | fops (fn : Func) (N : List Nat) (ops : Array Oper) (l : List Nat) (y : Code) (s : Cs)
  | dcall (f : FuncId) (args : List AV) (md : Option AV) (s : Cs)
  | dcode (nt : Nat) (c : Code) (s : Cs)
  | dops (nt : Nat) (ops : Array Oper) (l : List Nat) (s : Cs)
inductive Out where
  | ex (e : Exit) (s : Cs)
  | pan (a : AV) (s : Cs)
  | val (v : AV) (s : Cs)
  | ans (r : AV) (blks : List ABlk)
  | rec' (b : Bool) (s : Cs)
abbrev R := Option (List Out)
def one (o : Out) : R := some [o]
def bndL : List Out → (Out → R) → R
  | [], _ => some []
  | o :: os, f => match f o with
    | some a => match bndL os f with
      | some b => some (a ++ b)
      | none => none
    | none => none
def bnd (r : R) (f : Out → R) : R :=
  match r with
  | some l => match l with
    | [] => some []
    | o :: os => match os with
      | [] => f o
      | _ => bndL l f
  | none => none
inductive CK where
  | pure (g : List AV → Option (AV × List ABlk))
  | inp (g : List AV → Cs → Option (AV × Cs))
  | ext (g : List AV → Option AV)
abbrev Cons := FuncId → Option CK
section
noncomputable def resC (P : Program) (τ : Nat → AV) (η : Heap) : List ResultVar → Option (List AV)
  | [] => some []
  | .tmp t :: rs => match resC P τ η rs with | some vs => some (τ t :: vs) | none => none
  | .cell a t :: rs => match aLoad P t (τ a) η, resC P τ η rs with
    | some (v, _), some vs => some (v :: vs)
    | _, _ => none
noncomputable def askF (rec : Job → R) (f : AV) (args : List AV) (η : Heap) : Option (AV × List ABlk) :=
  match f with
  | .fn fid first cap => match pur.purs η 60 (first ++ args ++ cap) with
    | some (pargs, _) => match rec (.pcall fid pargs) with
      | some [.ans r blks] => some (r, blks)
      | _ => none
    | none => none
  | _ => none
noncomputable def askO [Adr] (rec : Job → R) (P : Program) (nt : Nat) (ops : Array Oper) (o : Oper) (τ : Nat → AV) (η : Heap) : Option (AV × List ABlk) :=
  match isCall o.op with
  | some (f, args) => if wants nt ops o τ then askF rec (evalO τ f) (args.map (evalO τ)) η else none
  | none => match isInv P o.op τ with
    | some (f, args) => if wants nt ops o τ then askF rec f args η else none
    | none => none
def isLook : Op → Bool
  | .lookup .. => true
  | _ => false
def lookF [Adr] (P : Program) (nt : Nat) (lk : Nat → Option (List (AV × AV))) (o : Oper) (τ : Nat → AV) : Option SE :=
  match o.op with
  | .lookup t x ix ok => match o.guard with
    | none => match dstOk nt o with
      | true => match evalO τ x with
        | .mp l => match lk l with
          | some m => match mapGet P t m (evalO τ ix) ok with
            | some v => some ⟨o.dst, v, [], opTmps [x, ix], [], none⟩
            | none => none
          | none => none
        | _ => none
      | false => none
    | some _ => none
  | _ => none
def stepX [Adr] (lk : Nat → Option (List (AV × AV))) (ε : Bool) (P : Program) (nt : Nat) (ops : Array Oper) (o : Oper) (ans : Option (AV × List ABlk)) (nm : Nat) (τ : Nat → AV) (η : Heap) : Option SE :=
  match isLook o.op with
  | true => lookF P nt lk o τ
  | false => stepF ε P nt ops o ans nm τ η
def lkC (lp : List (Nat × LB)) (l : Nat) : Option (List (AV × AV)) :=
  match alg lp l with
  | some y => match y.mp with
    | some (.map m) => some m
    | _ => none
  | none => none
noncomputable def runC [Adr] (lk : Nat → Option (List (AV × AV))) (rec : Job → R) (P : Program) (nt : Nat) (ops : Array Oper) (nx : Nat) : List (Nat × Oper) → Tr AV → Tr ABlk → Option (Tr AV × Tr ABlk × List SE)
  | [], fr, hp => some (fr, hp, [])
  | (i, o) :: rest, fr, hp => match stepX lk true P nt ops o (askO rec P nt ops o (tau fr) hp.get) (nx + 8 * i) (tau fr) hp.get with
    | some se => match runC lk rec P nt ops nx rest (putD fr se.d se.v) (putW hp se.wr) with
      | some (fr', hp', ses) => some (fr', hp', se :: ses)
      | none => none
    | none => none
def round (l : Nat) (e : Exit) (s : Cs) : Option (Bool × Cs) :=
  match alg s.lp l with
  | some y => match e with
    | .normal => some (true, { s with lp := hset s.lp l { y with st := .ready, pend := none } })
    | .ret => some (false, { s with lp := hset s.lp l { y with st := .done, pend := some .ret } })
    | .exit id => some (false, { s with lp := hset s.lp l { y with st := .done, pend := some (.exit id) } })
    | .goto t => some (false, { s with lp := hset s.lp l { y with st := .done, pend := some (.goto t) } })
    | _ => none
  | none => none
def doneTo (n c : Nat) : Array Bool := (Array.range n).map fun i => Nat.blt i c
def cutB (M : List Nat) (n c : Nat) : Bool := (List.range n).all fun j => Nat.blt j c || Nat.beq (Nat.land (M.getD j 0) (2 ^ c - 1)) (2 ^ c - 1)
def cuts (M : List Nat) (n : Nat) : Nat → Nat → List Nat
  | 0, _ => []
  | f + 1, c => match cutB M n c with | true => c :: cuts M n f (c + 1) | false => cuts M n f (c + 1)
def pairsS (M : List Nat) (ses : List SE) (c n : Nat) : Bool :=
  (List.range n).all fun j => (List.range j).all fun i => (M.getD (c + j) 0).testBit (c + i) || !confl (ses.getD i seZ) (ses.getD j seZ)
noncomputable def stepDraw [Adr] (P : Program) (rec : Job → R) (nt : Nat) (ops : Array Oper) (c : Nat) (l : List Nat) (s : Cs) : R :=
  match l with
  | [] => match Nat.ble ops.size c with
    | true => one (.ex .normal s)
    | false => none
  | c' :: rest => match Nat.beq c' (c + 1) with
    | true => match Nat.ble c' ops.size && cutB (masks ops.toList []) ops.size c' with
      | true => bnd (rec (.ops nt ops [c] s)) fun o => match o with
        | .ex .normal s1 => rec (.draw nt ops c' rest s1)
        | o => one o
      | false => none
    | false => match runC (lkC s.lp) rec P nt ops s.nx (numbered c ((ops.toList.drop c).take (c' - c))) s.fr s.hp with
      | some (fr, hp, ses) => match Nat.ble c c' && Nat.ble c' ops.size && cutB (masks ops.toList []) ops.size c' && pairsS (masks ops.toList []) ses c (c' - c) with
        | true => rec (.draw nt ops c' rest ⟨fr, hp, s.nx + 8 * c', s.lp⟩)
        | false => rec (.every nt ops (ops.size - c) (doneTo ops.size c) s)
      | none => rec (.every nt ops (ops.size - c) (doneTo ops.size c) s)
def everyNext (f : Nat → R) : List Nat → R
  | [] => some []
  | i :: l => match f i with
    | some a => match everyNext f l with
      | some b => some (a ++ b)
      | none => none
    | none => none
noncomputable def thenEvery (rec : Job → R) (nt : Nat) (ops : Array Oper) (fuel : Nat) (listed : Array Bool) (o : Out) : R :=
  match o with
  | .ex .normal s1 => rec (.every nt ops fuel listed s1)
  | o => one o
noncomputable def stepEvery (rec : Job → R) (nt : Nat) (ops : Array Oper) (fuel : Nat) (listed : Array Bool) (s : Cs) : R :=
  match Region.ready .any ops listed with
  | [] => one (.ex .normal s)
  | i :: l => match fuel with
    | 0 => none
    | fuel + 1 => everyNext (fun i => bnd (rec (.ops nt ops [i] s)) (thenEvery rec nt ops fuel (listed.setIfInBounds i true))) (i :: l)
noncomputable def behindF (rec : Job → R) (nt : Nat) (s : Cs) : Out → R
  | .val _ s2 => match alg s2.lp s.nx with
    | some y => match y.st with
      | .busy => none
      | _ => match y.pend with
        | none => one (.ex .normal ⟨s.fr, s2.hp, s2.nx, keepHp (s.lp.map (·.1)) s2.lp⟩)
        | some c => rec (.code nt c ⟨s.fr, s2.hp, s2.nx, keepHp (s.lp.map (·.1)) s2.lp⟩)
    | none => none
  | _ => none
noncomputable def thenC (rec : Job → R) (nt : Nat) (y : Code) (o : Out) : R :=
  match o with
  | .ex .normal s1 => rec (.code nt y s1)
  | o => one o
noncomputable def cSeq (x y : Code) (_ : Program) (rec : Job → R) (nt : Nat) (s : Cs) : R := bnd (rec (.code nt x s)) (thenC rec nt y)
noncomputable def bothC (r1 r2 : R) : R := match r1, r2 with
  | some a, some b => some (a ++ b)
  | _, _ => none
noncomputable def cCond [Adr] (c : Operand) (x y : Code) (_ : Program) (rec : Job → R) (nt : Nat) (s : Cs) : R :=
  match evalO (tau s.fr) c with
  | .bool true => rec (.code nt x s)
  | .bool false => rec (.code nt y s)
  | .anyb => bothC (rec (.code nt x s)) (rec (.code nt y s))
  | _ => none
noncomputable def outB (id : Nat) (o : Out) : R :=
  match o with
  | .ex (.exit i) s1 => match Nat.beq i id with
    | true => one (.ex .normal s1)
    | false => one (.ex (.exit i) s1)
  | o => one o
noncomputable def cBlock (id : Nat) (c : Code) (_ : Program) (rec : Job → R) (nt : Nat) (s : Cs) : R := bnd (rec (.code nt c s)) (outB id)
noncomputable def cDraw (ops : Array Oper) (P : Program) (rec : Job → R) (nt : Nat) (s : Cs) : R :=
  match P.follows .mixedOrders && backs 0 ops.toList with
  | true => rec (.draw nt ops 0 (cuts (masks ops.toList []) ops.size ops.size 1) s)
  | false => none
noncomputable def cRange [Adr] (g : Operand) (ps : Array Tmp) (assign body : Code) (_ : Program) (rec : Job → R) (nt : Nat) (s : Cs) : R :=
  match evalO (tau s.fr) g with
  | .fn fid first cap => bnd (rec (.call fid (first ++ [.yld s.nx] ++ cap) ⟨.e, s.hp, s.nx + 1, (s.nx, ⟨s.fr, nt, ps.toList, assign, body, .ready, none, none⟩) :: s.lp⟩)) (behindF rec nt s)
  | _ => none
noncomputable def stepCode [Adr] (P : Program) (rec : Job → R) (nt : Nat) (c : Code) (s : Cs) : R :=
  match c with
  | .skip => one (.ex .normal s)
  | .label _ => one (.ex .normal s)
  | .exit id => one (.ex (.exit id) s)
  | .ret => one (.ex .ret s)
  | .seq x y => cSeq x y P rec nt s
  | .cond c x y => cCond c x y P rec nt s
  | .block id c => cBlock id c P rec nt s
  | .loop c => rec (.loop nt c s)
  | .scope c => rec (.inscope nt c c s)
  | .goto l => one (.ex (.goto l) s)
  | .region _ ops false => rec (.ops nt ops (List.range ops.size) s)
  | .region _ ops true => cDraw ops P rec nt s
  | .rangeFunc g ps assign body => cRange g ps assign body P rec nt s
  | _ => none
noncomputable def afterC (rec : Job → R) (nt : Nat) (ops : Array Oper) (rest : List Nat) (d : Option Nat) (s : Cs) : Out → R
  | .val r s' => rec (.ops nt ops rest ⟨putD s.fr d r, s'.hp, s'.nx, s'.lp⟩)
  | .pan a s' => one (.pan a ⟨s.fr, s'.hp, s'.nx, s'.lp⟩)
  | _ => none
noncomputable def roundC (rec : Job → R) (nt : Nat) (ops : Array Oper) (rest : List Nat) (d : Option Nat) (s : Cs) (l : Nat) : Out → R
  | .ex e s2 => match round l e s2 with
    | some (b, s3) => rec (.ops nt ops rest ⟨putD s.fr d (.bool b), s3.hp, s3.nx, s3.lp⟩)
    | none => none
  | _ => none
noncomputable def assignC (rec : Job → R) (nt : Nat) (ops : Array Oper) (rest : List Nat) (d : Option Nat) (s : Cs) (l : Nat) (x : LB) : Out → R
  | .ex .normal s1 => match alg s1.lp l with
    | some y => match y.st with
      | .ready => bnd (rec (.code x.nt x.body { s1 with lp := hset s1.lp l { y with st := .busy } })) (roundC rec nt ops rest d s l)
      | _ => none
    | none => none
  | _ => none
noncomputable def plainC [Adr] (P : Program) (rec : Job → R) (nt : Nat) (ops : Array Oper) (o : Oper) (rest : List Nat) (s : Cs) (a : Option (AV × List ABlk)) : R :=
  match stepF true P nt ops o a s.nx (tau s.fr) s.hp.get with
  | some se => rec (.ops nt ops rest ⟨putD s.fr se.d se.v, putW s.hp se.wr, s.nx + 8, s.lp⟩)
  | none => none
def gKind (nt : Nat) (ops : Array Oper) (o : Oper) : Option (Option (Nat × Bool)) :=
  match dstOk nt o with
  | false => none
  | true => match o.guard with
    | none => some none
    | some (j, want) => match (ops[j]?).bind (·.dst) with
      | some d => match Nat.blt d nt with
        | true => some (some (d, want))
        | false => none
      | none => none
noncomputable def exeX [Adr] (P : Program) (rec : Job → R) (nt : Nat) (ops : Array Oper) (o : Oper) (rest : List Nat) (s : Cs) : R :=
  match opFn o.op P (evalO (tau s.fr)) s.hp.get s.nx with
  | some e => rec (.ops nt ops rest ⟨putD s.fr o.dst e.v, putW s.hp e.wr, s.nx + 8, s.lp⟩)
  | none => none
noncomputable def skipX (rec : Job → R) (nt : Nat) (ops : Array Oper) (o : Oper) (rest : List Nat) (s : Cs) : R :=
  rec (.ops nt ops rest ⟨putD s.fr o.dst (.tup []), s.hp, s.nx + 8, s.lp⟩)
noncomputable def guardX [Adr] (P : Program) (rec : Job → R) (nt : Nat) (ops : Array Oper) (o : Oper) (rest : List Nat) (s : Cs) (d : Nat) (want : Bool) : R :=
  match tau s.fr d with
  | .bool b => match b == want with
    | true => exeX P rec nt ops o rest s
    | false => skipX rec nt ops o rest s
  | .tup _ => skipX rec nt ops o rest s
  | _ => none
noncomputable def plainX [Adr] (P : Program) (rec : Job → R) (nt : Nat) (ops : Array Oper) (o : Oper) (rest : List Nat) (s : Cs) : R :=
  match gKind nt ops o with
  | none => none
  | some none => exeX P rec nt ops o rest s
  | some (some (d, want)) => guardX P rec nt ops o rest s d want
noncomputable def callC [Adr] (P : Program) (con : Cons) (rec : Job → R) (nt : Nat) (ops : Array Oper) (o : Oper) (rest : List Nat) (s : Cs) (f : AV) (args : List AV) : R :=
  match dstOk nt o with
  | false => none
  | true => match f with
    | .fn fid first cap => match con fid with
      | some (.inp g) => match g (first ++ args ++ cap) s with
        | some (r, s') => rec (.ops nt ops rest ⟨putD s.fr o.dst r, s'.hp, s'.nx, s'.lp⟩)
        | none => bnd (rec (.call fid (first ++ args ++ cap) s)) (afterC rec nt ops rest o.dst s)
      | some (.pure _) => plainC P rec nt ops o rest s (askF rec (.fn fid first cap) args s.hp.get)
      | some (.ext g) => match g (first ++ args ++ cap) with
        | some r => rec (.ops nt ops rest ⟨putD s.fr o.dst r, s.hp, s.nx + 8, s.lp⟩)
        | none => none
      | none => bnd (rec (.call fid (first ++ args ++ cap) s)) (afterC rec nt ops rest o.dst s)
    | .yld l => match alg s.lp l with
      | some x => match x.mp with
        | none => match decide (args.length = x.ps.length) && x.ps.all (fun p => decide (p < x.nt)) with
          | true => bnd (rec (.code x.nt x.assign ⟨putsT x.fr x.ps args, s.hp, s.nx, s.lp⟩)) (assignC rec nt ops rest o.dst s l x)
          | false => none
        | some _ => none
      | none => none
    | _ => none
noncomputable def invC [Adr] (con : Cons) (P : Program) (rec : Job → R) (nt : Nat) (ops : Array Oper) (o : Oper) (rest : List Nat) (s : Cs) : R :=
  match dstOk nt o with
  | false => none
  | true => match isInv P o.op (tau s.fr) with
    | some (f, args) => match f with
      | .fn fid [] [] => match con fid with
        | some (.inp _) => none
        | some (.pure _) => plainC P rec nt ops o rest s (askF rec (.fn fid [] []) args s.hp.get)
        | some (.ext _) => none
        | none => bnd (rec (.call fid args s)) (afterC rec nt ops rest o.dst s)
      | _ => none
    | none => none
noncomputable def purC (s : Cs) (x : Operand) : Option Cs :=
  match x with
  | .tmp t => match (tau s.fr t).isP with
    | true => some s
    | false => match pur s.hp.get 60 (tau s.fr t) with
      | some (v, rd) => some ⟨s.fr.put t v, putW s.hp (freezeAll s.hp.get rd), s.nx, s.lp⟩
      | none => none
  | _ => some s
def nextAll (f : AV × AV → List (AV × AV) → R) (all : List (AV × AV)) : Nat → List (AV × AV) → R
  | _, [] => some []
  | j, kv :: l => match f kv (dropAt all j) with
    | some a => match nextAll f all (j + 1) l with
      | some b => some (a ++ b)
      | none => none
    | none => none
noncomputable def specC [Adr] (P : Program) (rec : Job → R) (nt : Nat) (ops : Array Oper) (o : Oper) (rest : List Nat) (s : Cs) : R :=
  match dstOk nt o with
  | false => none
  | true => match o.op with
    | .panic x => match evalO (tau s.fr) x with
      | .iface t a => match conc (.iface t a) with
        | some _ => one (.pan (.iface t a) s)
        | none => none
      | _ => none
    | .makeMap _ none => rec (.ops nt ops rest ⟨putD s.fr o.dst (.mp s.nx), s.hp, s.nx + 8, (s.nx, mapRec (.map [])) :: s.lp⟩)
    | .lookup t x ix ok => match evalO (tau s.fr) x with
      | .mp l => match alg s.lp l with
        | some y => match y.mp with
          | some (.map m) => match mapGet P t m (evalO (tau s.fr) ix) ok with
            | some v => rec (.ops nt ops rest ⟨putD s.fr o.dst v, s.hp, s.nx + 8, s.lp⟩)
            | none => none
          | _ => none
        | none => none
      | _ => none
    | .mapUpdate t x ix vx => match purC s vx with
      | some s2 => match wants nt ops o (tau s2.fr) with
        | false => none
        | true => match evalO (tau s2.fr) x with
          | .mp l => match alg s2.lp l with
            | some y => match y.mp with
              | some (.map m) => match noItC l s2.lp with
                | true => match mapPut P t m (evalO (tau s2.fr) ix) (evalO (tau s2.fr) vx) with
                  | some m' => rec (.ops nt ops rest ⟨putD s2.fr o.dst .top, s2.hp, s2.nx + 8, hset s2.lp l { y with mp := some (.map m') }⟩)
                  | none => none
                | false => none
              | _ => none
            | none => none
          | _ => none
      | none => none
    | .insert t x ix vx => match purC s vx with
      | some s2 => match wants nt ops o (tau s2.fr) with
        | false => none
        | true => match evalO (tau s2.fr) x with
          | .mp l => match alg s2.lp l with
            | some y => match y.mp with
              | some (.map m) => match noItC l s2.lp with
                | true => match mapPut P t m (evalO (tau s2.fr) ix) (evalO (tau s2.fr) vx) with
                  | some m' => rec (.ops nt ops rest ⟨putD s2.fr o.dst .top, s2.hp, s2.nx + 8, hset s2.lp l { y with mp := some (.map m') }⟩)
                  | none => none
                | false => none
              | _ => none
            | none => none
          | _ => none
      | none => none
    | .range t x => match P.underlying t, evalO (tau s.fr) x with
      | some .string, .str u => rec (.ops nt ops rest ⟨putD s.fr o.dst (.itr s.nx), s.hp, s.nx + 8, (s.nx, mapRec (.sit u 0)) :: s.lp⟩)
      | some (.map _ _), .mp l => match alg s.lp l with
        | some y => match y.mp with
          | some (.map m) => rec (.ops nt ops rest ⟨putD s.fr o.dst (.itr s.nx), s.hp, s.nx + 8, (s.nx, mapRec (.mit l m none)) :: s.lp⟩)
          | _ => none
        | none => none
      | _, _ => none
    | .next x false => match evalO (tau s.fr) x with
      | .itr l => match alg s.lp l with
        | some y => match y.mp with
          | some (.mit l0 left _) => match left with
            | [] => rec (.ops nt ops rest ⟨putD s.fr o.dst (.tup [.bool false]), s.hp, s.nx + 8, s.lp⟩)
            | p :: q => nextAll (fun kv left' => rec (.ops nt ops rest ⟨putD s.fr o.dst (.tup [.bool true, kv.1, kv.2]), s.hp, s.nx + 8, hset s.lp l { y with mp := some (.mit l0 left' (some kv)) }⟩)) (p :: q) 0 (p :: q)
          | _ => none
        | none => none
      | _ => none
    | .entry x => match evalO (tau s.fr) x with
      | .itr l => match alg s.lp l with
        | some y => match y.mp with
          | some (.mit _ _ cur) => match cur with
            | some kv => rec (.ops nt ops rest ⟨putD s.fr o.dst (.tup [kv.1, kv.2]), s.hp, s.nx + 8, s.lp⟩)
            | none => none
          | _ => none
        | none => none
      | _ => none
    | .next x true => match evalO (tau s.fr) x with
      | .itr l => match alg s.lp l with
        | some y => match y.mp with
          | some (.sit u p) => match sitNext u p with
            | some (v, p') => rec (.ops nt ops rest ⟨putD s.fr o.dst v, s.hp, s.nx + 8, hset s.lp l { y with mp := some (.sit u p') }⟩)
            | none => none
          | _ => none
        | none => none
      | _ => none
    | .call c => match c.argTypes.toList, c.args.toList with
      | t :: _, [x, ix] => match evalO (tau s.fr) x with
        | .mp l => match alg s.lp l with
          | some y => match y.mp with
            | some (.map m) => match noItC l s.lp with
              | true => match mapDel P t m (evalO (tau s.fr) ix) with
                | some m' => rec (.ops nt ops rest ⟨putD s.fr o.dst (.tup []), s.hp, s.nx + 8, hset s.lp l { y with mp := some (.map m') }⟩)
                | none => none
              | false => none
            | _ => none
          | none => none
        | _ => none
      | _, _ => none
    | _ => none
inductive Kind where
  | plain | call (f : Operand) (args : Array Operand) | inv | spec
def kindOf (o : Op) : Kind :=
  match o with
  | .call c => match c.callee with
    | .value f => .call f c.args
    | .invoke _ _ => .inv
    | .builtin .delete => .spec
    | _ => .plain
  | .panic _ => .spec
  | .makeMap _ _ => .spec
  | .lookup _ _ _ _ => .spec
  | .mapUpdate _ _ _ _ => .spec
  | .insert _ _ _ _ => .spec
  | .range _ _ => .spec
  | .next _ _ => .spec
  | .entry _ => .spec
  | _ => .plain
noncomputable def stepCallO [Adr] (P : Program) (con : Cons) (rec : Job → R) (nt : Nat) (ops : Array Oper) (o : Oper) (rest : List Nat) (s : Cs) (f : Operand) (args : Array Operand) : R :=
  match wants nt ops o (tau s.fr) with
  | true => callC P con rec nt ops o rest s (evalO (tau s.fr) f) (args.toList.map (evalO (tau s.fr)))
  | false => plainC P rec nt ops o rest s none
noncomputable def stepInvO [Adr] (P : Program) (con : Cons) (rec : Job → R) (nt : Nat) (ops : Array Oper) (o : Oper) (rest : List Nat) (s : Cs) : R :=
  match wants nt ops o (tau s.fr) with
  | true => invC con P rec nt ops o rest s
  | false => plainC P rec nt ops o rest s none
noncomputable def stepSpecO [Adr] (P : Program) (rec : Job → R) (nt : Nat) (ops : Array Oper) (o : Oper) (rest : List Nat) (s : Cs) : R :=
  match wants nt ops o (tau s.fr) with
  | true => specC P rec nt ops o rest s
  | false => plainC P rec nt ops o rest s none
noncomputable def stepOp [Adr] (P : Program) (con : Cons) (rec : Job → R) (nt : Nat) (ops : Array Oper) (o : Oper) (rest : List Nat) (s : Cs) : R :=
  match kindOf o.op with
  | .plain => plainX P rec nt ops o rest s
  | .call f args => stepCallO P con rec nt ops o rest s f args
  | .inv => stepInvO P con rec nt ops o rest s
  | .spec => stepSpecO P rec nt ops o rest s
noncomputable def stepOps [Adr] (P : Program) (con : Cons) (rec : Job → R) (nt : Nat) (ops : Array Oper) (i : Nat) (rest : List Nat) (s : Cs) : R :=
  frc s.nx (match ops[i]? with
  | none => none
  | some o => stepOp P con rec nt ops o rest s)
def isDefer (o : Oper) : Bool := match o.op with | .defer _ => true | _ => false
def spineDef : Code → Bool
  | .seq (.region _ ops false) y => ops.toList.any isDefer || spineDef y
  | .seq _ y => spineDef y
  | .scope c => spineDef c
  | _ => false
def defReg : Code → Option (Array Oper)
  | .region _ ops false => match ops.toList.any isDefer with | true => some ops | false => none
  | _ => none
noncomputable def mapsIn (η : Heap) : Nat → AV → List Nat
  | 0, _ => []
  | d + 1, v => match v with
    | .mp l => [l]
    | .tup cs => cs.flatMap (mapsIn η d)
    | .ref b _ _ _ => match η b with
      | some x => match x.es with
        | e :: _ => e.flatMap (mapsIn η d)
        | [] => []
      | none => []
    | _ => []
def hasRec (lp : List (Nat × LB)) (l : Nat) : Bool := match alg lp l with
  | some x => x.mp.isSome
  | none => false
noncomputable def keepC (N : List Nat) (vs : List AV) (η : Heap) (lp : List (Nat × LB)) : List Nat := match lp with
  | [] => N
  | _ => match vs.flatMap (mapsIn η 2) with
    | [] => N
    | ls => N ++ ls.filter (hasRec lp)
noncomputable def finish (P : Program) (rs : List ResultVar) (N : List Nat) : Out → R
  | .ex .normal s => match resC P (tau s.fr) s.hp.get rs with | some vs => one (.val (resV vs) ⟨s.fr, s.hp, s.nx, keepHp (keepC N vs s.hp.get s.lp) s.lp⟩) | none => none
  | .ex .ret s => match resC P (tau s.fr) s.hp.get rs with | some vs => one (.val (resV vs) ⟨s.fr, s.hp, s.nx, keepHp (keepC N vs s.hp.get s.lp) s.lp⟩) | none => none
  | .pan a s => one (.pan a ⟨s.fr, s.hp, s.nx, keepHp N s.lp⟩)
  | _ => none
noncomputable def stepFcode (P : Program) (rec : Job → R) (fn : Func) (N : List Nat) (c : Code) (s : Cs) : R :=
  match spineDef c with
  | false => bnd (rec (.code fn.ntmps c s)) (finish P fn.results.toList N)
  | true => match c with
    | .seq x y => match defReg x with
      | some ops => rec (.fops fn N ops (List.range ops.size) y s)
      | none => bnd (rec (.code fn.ntmps x s)) fun o => match o with
        | .ex .normal s1 => rec (.fcode fn N y s1)
        | o => finish P fn.results.toList N o
    | .scope c => rec (.fcode fn N c s)
    | _ => none
noncomputable def behindC (P : Program) (rs : List ResultVar) (N : List Nat) (fr : Tr AV) (md : Option AV) : Out → R
  | .rec' b s => match md, b with
    | some a, false => one (.pan a ⟨fr, s.hp, s.nx, keepHp N s.lp⟩)
    | _, _ => match resC P (tau fr) s.hp.get rs with | some vs => one (.val (resV vs) ⟨fr, s.hp, s.nx, keepHp N s.lp⟩) | none => none
  | _ => none
noncomputable def leaveC (P : Program) (rec : Job → R) (rs : List ResultVar) (N : List Nat) (f : FuncId) (avs : List AV) : Out → R
  | .ex .normal s => bnd (rec (.dcall f avs none ⟨s.fr, s.hp, s.nx, keepHp N s.lp⟩)) (behindC P rs N s.fr none)
  | .ex .ret s => bnd (rec (.dcall f avs none ⟨s.fr, s.hp, s.nx, keepHp N s.lp⟩)) (behindC P rs N s.fr none)
  | .pan a s => bnd (rec (.dcall f avs (some a) ⟨s.fr, s.hp, s.nx, keepHp N s.lp⟩)) (behindC P rs N s.fr (some a))
  | _ => none
def entB (P : Program) (f : FuncId) : Bool := match P.funcs[f]? with | some fn => fn.body.isSome | none => false
def nilOr : Option AV → AV
  | some a => a
  | none => .nili
noncomputable def clrLpC (N : List Nat) (l : Nat) (y : LB) (lp : List (Nat × LB)) : List (Nat × LB) := keepHp N (hset (keepHp (l :: N) lp) l { y with mp := some (.map []) })
noncomputable def leaveBC (P : Program) (rs : List ResultVar) (N : List Nat) (l : Nat) : Out → R
  | .ex .normal s => match alg s.lp l with
    | some y => match y.mp, resC P (tau s.fr) s.hp.get rs with
      | some (.map _), some vs => match noItC l s.lp with
        | true => one (.val (resV vs) ⟨s.fr, s.hp, s.nx, clrLpC N l y s.lp⟩)
        | false => none
      | _, _ => none
    | none => none
  | .ex .ret s => match alg s.lp l with
    | some y => match y.mp, resC P (tau s.fr) s.hp.get rs with
      | some (.map _), some vs => match noItC l s.lp with
        | true => one (.val (resV vs) ⟨s.fr, s.hp, s.nx, clrLpC N l y s.lp⟩)
        | false => none
      | _, _ => none
    | none => none
  | .pan a s => match alg s.lp l with
    | some y => match y.mp with
      | some (.map _) => match noItC l s.lp with
        | true => one (.pan a ⟨s.fr, s.hp, s.nx, clrLpC N l y s.lp⟩)
        | false => none
      | _ => none
    | none => none
  | _ => none
noncomputable def thenB (P : Program) (rec : Job → R) (fn : Func) (N : List Nat) (y : Code) (l : Nat) (o1 : Out) : R :=
  match o1 with
  | .ex .normal s1 => bnd (rec (.code fn.ntmps y s1)) (leaveBC P fn.results.toList N l)
  | o1 => leaveBC P fn.results.toList N l o1
noncomputable def clearC [Adr] (P : Program) (rec : Job → R) (fn : Func) (N : List Nat) (ops : Array Oper) (rest : List Nat) (y : Code) (s : Cs) (c : Call) : R :=
  match c.args.toList, c.argTypes[0]? with
  | [x], some t => match P.underlying t, evalO (tau s.fr) x with
    | some (.map _ _), .mp l => match alg s.lp l with
      | some y0 => match y0.mp with
        | some (.map _) => bnd (rec (.ops fn.ntmps ops rest s)) (thenB P rec fn N y l)
        | _ => none
      | none => none
    | _, _ => none
  | _, _ => none
noncomputable def stepFops [Adr] (P : Program) (rec : Job → R) (fn : Func) (N : List Nat) (ops : Array Oper) (l : List Nat) (y : Code) (s : Cs) : R :=
  match l with
  | [] => rec (.fcode fn N y s)
  | i :: rest => match ops[i]? with
    | none => none
    | some o => match o.op with
      | .defer c => match c.callee, o.guard, o.dst with
        | .value f, none, none => match evalO (tau s.fr) f with
          | .fn fid first cap => match entB P fid with
            | true => bnd (rec (.ops fn.ntmps ops rest s)) fun o1 => match o1 with
              | .ex .normal s1 => bnd (rec (.code fn.ntmps y s1)) (leaveC P rec fn.results.toList N fid (first ++ c.args.toList.map (evalO (tau s.fr)) ++ cap))
              | o1 => leaveC P rec fn.results.toList N fid (first ++ c.args.toList.map (evalO (tau s.fr)) ++ cap) o1
            | false => none
          | _ => none
        | .builtin .clear, none, none => clearC P rec fn N ops rest y s c
        | _, _, _ => none
      | _ => match stepF true P fn.ntmps ops o none s.nx (tau s.fr) s.hp.get with
        | some se => rec (.fops fn N ops rest y ⟨putD s.fr se.d se.v, putW s.hp se.wr, s.nx + 8, s.lp⟩)
        | none => none
noncomputable def stepCall (P : Program) (rec : Job → R) (f : FuncId) (args : List AV) (s : Cs) : R :=
  match P.funcs[f]? with
  | none => none
  | some fn => match fn.body with
    | none => none
    | some c => match Nat.ble args.length fn.ntmps with
      | true => rec (.fcode fn (s.lp.map (·.1)) c ⟨enumT 0 args, s.hp, s.nx, s.lp⟩)
      | false => none
def recOf (c : Code) : Option (Nat × Code) :=
  match c with
  | .seq (.region _ ops false) y => match ops.toList with
    | [o] => match o.op, o.guard, o.dst with
      | .call k, none, some d => match k.callee, k.args.toList with
        | .builtin .recover, [] => some (d, y)
        | _, _ => none
      | _, _, _ => none
    | _ => none
  | _ => none
noncomputable def endC (P : Program) (rs : List ResultVar) (b : Bool) : Out → R
  | .ex .normal s => match resC P (tau s.fr) s.hp.get rs with | some _ => one (.rec' b s) | none => none
  | .ex .ret s => match resC P (tau s.fr) s.hp.get rs with | some _ => one (.rec' b s) | none => none
  | _ => none
noncomputable def stepDcall (P : Program) (rec : Job → R) (f : FuncId) (args : List AV) (md : Option AV) (s : Cs) : R :=
  match P.funcs[f]? with
  | none => none
  | some fn => match fn.body with
    | none => none
    | some c => match Nat.ble args.length fn.ntmps with
      | true => match recOf c with
        | some (d, y) => match Nat.ble (d + 1) fn.ntmps with
          | true => bnd (rec (.dcode fn.ntmps y ⟨(enumT 0 args).put d (nilOr md), s.hp, s.nx, s.lp⟩)) (endC P fn.results.toList md.isSome)
          | false => none
        | none => bnd (rec (.dcode fn.ntmps c ⟨enumT 0 args, s.hp, s.nx, s.lp⟩)) (endC P fn.results.toList false)
      | false => none
noncomputable def stepDcode [Adr] (rec : Job → R) (nt : Nat) (c : Code) (s : Cs) : R :=
  match c with
  | .skip => one (.ex .normal s)
  | .exit id => one (.ex (.exit id) s)
  | .ret => one (.ex .ret s)
  | .seq x y => bnd (rec (.dcode nt x s)) fun o => match o with
    | .ex .normal s1 => rec (.dcode nt y s1)
    | o => one o
  | .cond c x y => match evalO (tau s.fr) c with
    | .bool true => rec (.dcode nt x s)
    | .bool false => rec (.dcode nt y s)
    | _ => none
  | .block id c => bnd (rec (.dcode nt c s)) fun o => match o with
    | .ex (.exit i) s1 => match Nat.beq i id with
      | true => one (.ex .normal s1)
      | false => one (.ex (.exit i) s1)
    | o => one o
  | .region _ ops false => rec (.dops nt ops (List.range ops.size) s)
  | _ => none
noncomputable def stepDops [Adr] (P : Program) (rec : Job → R) (nt : Nat) (ops : Array Oper) (l : List Nat) (s : Cs) : R :=
  match l with
  | [] => one (.ex .normal s)
  | i :: rest => match ops[i]? with
    | none => none
    | some o => match isCall o.op with
      | none => match stepF true P nt ops o none s.nx (tau s.fr) s.hp.get with
        | some se => rec (.dops nt ops rest ⟨putD s.fr se.d se.v, putW s.hp se.wr, s.nx + 8, s.lp⟩)
        | none => none
      | some (f, args) => match wants nt ops o (tau s.fr) && dstOk nt o with
        | true => match evalO (tau s.fr) f with
          | .fn fid first cap => match rec (.call fid (first ++ args.map (evalO (tau s.fr)) ++ cap) s) with
            | some [.val r s'] => rec (.dops nt ops rest ⟨putD s.fr o.dst r, s'.hp, s'.nx, s'.lp⟩)
            | _ => none
          | _ => none
        | false => none
noncomputable def againC (rec : Job → R) (nt : Nat) (c : Code) (o : Out) : R :=
  match o with
  | .ex .normal s1 => rec (.loop nt c s1)
  | o => one o
noncomputable def jumpC (rec : Job → R) (nt : Nat) (c : Code) (o : Out) : R :=
  match o with
  | .ex (.goto l) s1 => match findLabel c l with
    | some rest => rec (.inscope nt c rest s1)
    | none => one (.ex (.goto l) s1)
  | o => one o
noncomputable def stepScoped (rec : Job → R) (nt : Nat) (c r : Code) (s : Cs) : R := bnd (rec (.code nt r s)) (jumpC rec nt c)
noncomputable def stepLoop (rec : Job → R) (nt : Nat) (c : Code) (s : Cs) : R := bnd (rec (.code nt c s)) (againC rec nt c)
noncomputable def stepOpsJ [Adr] (P : Program) (con : Cons) (rec : Job → R) (nt : Nat) (ops : Array Oper) (l : List Nat) (s : Cs) : R :=
  match l with
  | [] => one (.ex .normal s)
  | i :: rest => stepOps P con rec nt ops i rest s
noncomputable def expX (v : AV) (s : Cs) : Option (AV × List ABlk) :=
  match expo (tops s.hp.get 9 v []) v s.hp.get with
  | some p => some p
  | none => expo [] v s.hp.get
noncomputable def agreeX (r : AV) (blks : List ABlk) : List Out → Bool
  | [] => true
  | .val v s :: os => match expX v s with
    | some (r', blks') => match avB 40 r r' with
      | true => match listB blkB blks blks' with
        | true => agreeX r blks os
        | false => false
      | false => false
    | none => false
  | _ => false
noncomputable def stepPcall (con : Cons) (rec : Job → R) (f : FuncId) (args : List AV) : R :=
  match con f with
  | some (.pure g) => match g args with
    | some (r, blks) => one (.ans r blks)
    | none => none
  | some (.inp _) => none
  | some (.ext _) => none
  | none => match rec (.call f args ⟨.e, .e, 0, []⟩) with
    | some (.val v s :: os) => match expX v s with
      | some (r, blks) => match agreeX r blks os with
        | true => one (.ans r blks)
        | false => none
      | none => none
    | _ => none
noncomputable def stepJ [Adr] (P : Program) (con : Cons) (rec : Job → R) (j : Job) : R :=
  match j with
  | .code nt c s => stepCode P rec nt c s
  | .loop nt c s => stepLoop rec nt c s
  | .inscope nt c r s => stepScoped rec nt c r s
  | .ops nt ops l s => stepOpsJ P con rec nt ops l s
  | .draw nt ops c l s => stepDraw P rec nt ops c l s
  | .every nt ops fuel listed s => stepEvery rec nt ops fuel listed s
  | .call f args s => stepCall P rec f args s
  | .pcall f args => stepPcall con rec f args
  | .fcode fn N c s => stepFcode P rec fn N c s
  | .fops fn N ops l y s => stepFops P rec fn N ops l y s
  | .dcall f args md s => stepDcall P rec f args md s
  | .dcode nt c s => stepDcode rec nt c s
  | .dops nt ops l s => stepDops P rec nt ops l s
noncomputable def run [Adr] (P : Program) (con : Cons) : Nat → Job → R :=
  Nat.rec (motive := fun _ => Job → R) (fun _ => none) (fun _ ih j => stepJ P con ih j)
theorem run_zero [Adr] (P : Program) (con : Cons) (j : Job) : run P con 0 j = none := rfl
theorem run_succ [Adr] (P : Program) (con : Cons) (n : Nat) (j : Job) : run P con (n + 1) j = stepJ P con (run P con n) j := rfl
end
end Go.AM
