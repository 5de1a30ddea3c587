/- A text of the proof. -/
import Derived.Test.YtbjmeobodbgdbaaGreatDoorKAmZt
set_option linter.unusedSimpArgs false
set_option linter.unusedVariables false
namespace Go.AM
open Go Go.RowKit
structure Line where
  args : List AV
  r : AV
  blks : List ABlk
def look : List Line → List AV → Option (AV × List ABlk)
  | [], _ => none
  | e :: l, args => match listB (avB 40) e.args args with
    | true => some (e.r, e.blks)
    | false => look l args
theorem look_ok [Adr] {P : Program} {f : FuncId} {args : List AV} {r : AV} {blks : List ABlk} : ∀ (l : List Line), (∀ e ∈ l, PCall P f e.args e.r e.blks) → look l args = some (r, blks) → PCall P f args r blks
  | [], _, h => by cases h
  | e :: l, hl, h => by
    simp only [look] at h
    split at h
    · rename_i q
      cases h
      rw [← listB_ok (avB_ok 40) _ _ q]
      exact hl e (by simp)
    · exact look_ok l (fun x hx => hl x (by simp [hx])) h
noncomputable def lineB [Adr] (P : Program) (con : Cons) (f : FuncId) (e : Line) : Bool :=
  match run P con 10000000 (.pcall f e.args) with
  | some [.ans r blks] => avB 40 r e.r && listB blkB blks e.blks
  | _ => false
noncomputable def linesB [Adr] (P : Program) (con : Cons) (f : FuncId) : List Line → Bool
  | [] => true
  | e :: l => match lineB P con f e with
    | true => linesB P con f l
    | false => false
theorem lineB_ok [Adr] {P : Program} (hP : POk P) {con : Cons} (hc : COk P con) {f : FuncId} {e : Line} (h : lineB P con f e = true) : PCall P f e.args e.r e.blks := by
  unfold lineB at h
  split at h
  · rename_i r blks hr
    simp only [Bool.and_eq_true] at h
    rw [← avB_ok 40 _ _ h.1, ← listB_ok blkB_ok _ _ h.2]
    exact run_pcall hP hc hr
  · cases h
theorem linesB_ok [Adr] {P : Program} (hP : POk P) {con : Cons} (hc : COk P con) {f : FuncId} : ∀ (l : List Line), linesB P con f l = true → ∀ e ∈ l, PCall P f e.args e.r e.blks
  | [], _, e, he => by cases he
  | x :: l, h, e, he => by
    simp only [linesB] at h
    split at h
    · rename_i hx
      rcases List.mem_cons.1 he with rfl | he
      · exact lineB_ok hP hc hx
      · exact linesB_ok hP hc l h e he
    · cases h
def conT (f : FuncId) (l : List Line) (con : Cons) : Cons := fun g => match Nat.beq g f with
  | true => some (.pure (look l))
  | false => con g
theorem conT_ok [Adr] {P : Program} {con : Cons} (hc : COk P con) {f : FuncId} {l : List Line} (hl : ∀ e ∈ l, PCall P f e.args e.r e.blks) : COk P (conT f l con) := by
  constructor
  · intro g k hk args r blks h
    unfold conT at hk
    split at hk
    · rename_i q
      cases hk
      rw [Nat.eq_of_beq_eq_true q]
      exact look_ok l hl h
    · exact hc.pure g k hk args r blks h
  · intro g k hk args s s' v h
    unfold conT at hk
    split at hk
    · cases hk
    · exact hc.inp g k hk args s s' v h
  · intro g k hk args r h
    unfold conT at hk
    split at hk
    · cases hk
    · exact hc.ext g k hk args r h
theorem conT_run [Adr] {P : Program} (hP : POk P) {con : Cons} (hc : COk P con) {f : FuncId} {l : List Line} (h : linesB P con f l = true) : COk P (conT f l con) := conT_ok hc (linesB_ok hP hc l h)
end Go.AM
