/- A text of the proof. -/
import Derived.Test.YtdompcjalogoaaaGreatDoorKAmZt
import Derived.Lib.Bytealg
import Derived.Lib.Join
import Derived.Lib.Builder
set_option linter.unusedSimpArgs false
set_option linter.unusedVariables false
namespace Go.AM
open Go Go.RowKit
structure Line where
  args : List AV
  r : AV
  blks : List ABlk
def look : List Line → List AV → Option (AV × List ABlk)
  | [], _ => none
  | e :: l, args => match listB (avB 40) e.args args with
    | true => some (e.r, e.blks)
    | false => look l args
theorem look_ok [Adr] {P : Program} {f : FuncId} {args : List AV} {r : AV} {blks : List ABlk} : ∀ (l : List Line), (∀ e ∈ l, PCall P f e.args e.r e.blks) → look l args = some (r, blks) → PCall P f args r blks
  | [], _, h => by cases h
  | e :: l, hl, h => by
    simp only [look] at h
    split at h
    · rename_i q
      cases h
      rw [← listB_ok (avB_ok 40) _ _ q]
      exact hl e (by simp)
    · exact look_ok l (fun x hx => hl x (by simp [hx])) h
noncomputable def lineB [Adr] (P : Program) (con : Cons) (f : FuncId) (e : Line) : Bool :=
  match run P con 10000000 (.pcall f e.args) with
  | some [.ans r blks] => avB 40 r e.r && listB blkB blks e.blks
  | _ => false
noncomputable def linesB [Adr] (P : Program) (con : Cons) (f : FuncId) : List Line → Bool
  | [] => true
  | e :: l => match lineB P con f e with
    | true => linesB P con f l
    | false => false
theorem lineB_ok [Adr] {P : Program} (hP : POk P) {con : Cons} (hc : COk P con) {f : FuncId} {e : Line} (h : lineB P con f e = true) : PCall P f e.args e.r e.blks := by
  unfold lineB at h
  split at h
  · rename_i r blks hr
    simp only [Bool.and_eq_true] at h
    rw [← avB_ok 40 _ _ h.1, ← listB_ok blkB_ok _ _ h.2]
    exact run_pcall hP hc hr
  · cases h
theorem linesB_ok [Adr] {P : Program} (hP : POk P) {con : Cons} (hc : COk P con) {f : FuncId} : ∀ (l : List Line), linesB P con f l = true → ∀ e ∈ l, PCall P f e.args e.r e.blks
  | [], _, e, he => by cases he
  | x :: l, h, e, he => by
    simp only [linesB] at h
    split at h
    · rename_i hx
      rcases List.mem_cons.1 he with rfl | he
      · exact lineB_ok hP hc hx
      · exact linesB_ok hP hc l h e he
    · cases h
def conT (f : FuncId) (l : List Line) (con : Cons) : Cons := fun g => match Nat.beq g f with
  | true => some (.pure (look l))
  | false => con g
theorem conT_ok [Adr] {P : Program} {con : Cons} (hc : COk P con) {f : FuncId} {l : List Line} (hl : ∀ e ∈ l, PCall P f e.args e.r e.blks) : COk P (conT f l con) := by
  constructor
  · intro g k hk args r blks h
    unfold conT at hk
    split at hk
    · rename_i q
      cases hk
      rw [Nat.eq_of_beq_eq_true q]
      exact look_ok l hl h
    · exact hc.pure g k hk args r blks h
  · intro g k hk args s s' v h
    unfold conT at hk
    split at hk
    · cases hk
    · exact hc.inp g k hk args s s' v h
  · intro g k hk args r h
    unfold conT at hk
    split at hk
    · cases hk
    · exact hc.ext g k hk args r h
theorem conT_run [Adr] {P : Program} (hP : POk P) {con : Cons} (hc : COk P con) {f : FuncId} {l : List Line} (h : linesB P con f l = true) : COk P (conT f l con) := conT_ok hc (linesB_ok hP hc l h)
noncomputable def conL : List (FuncId × CK) → Cons
  | [], _ => none
  | (g, k) :: l, f => match Nat.beq f g with
    | true => some k
    | false => conL l f
def CKOk [Adr] (P : Program) (f : FuncId) : CK → Prop
  | .pure g => ∀ args r blks, g args = some (r, blks) → PCall P f args r blks
  | .inp g => ∀ (args : List AV) (s s' : Cs) (v : AV), g args s = some (v, s') → EWP P f args (fun r s2 => r = v ∧ Sim s2 s'.st) s.st
  | .ext g => ∀ (args : List AV) (r : AV), g args = some r → ∀ (w : World) (F : Nat → Prop) (φ : Emb) (vs : List Value), VRels w F φ args vs → ∃ v, (callFunc f ⟨vs⟩).run P w = .ok (.value v) w ∧ VRel w F φ r v
def conOk [Adr] (P : Program) : List (FuncId × CK) → Prop
  | [] => True
  | (f, k) :: l => CKOk P f k ∧ conOk P l
theorem conL_get [Adr] {P : Program} : ∀ {l : List (FuncId × CK)}, conOk P l → ∀ f k, conL l f = some k → CKOk P f k
  | [], _, f, k, h => by cases h
  | (g, q) :: l, hl, f, k, h => by
    unfold conL at h
    split at h
    · rename_i e
      cases h
      rw [Nat.eq_of_beq_eq_true e]
      exact hl.1
    · exact conL_get hl.2 f k h
theorem conL_ok [Adr] {P : Program} {l : List (FuncId × CK)} (h : conOk P l) : COk P (conL l) :=
  ⟨fun f g hf => conL_get h f _ hf, fun f g hf => conL_get h f _ hf, fun f g hf => conL_get h f _ hf⟩
def noG : List AV → Cs → Option (AV × Cs) := fun _ _ => none
theorem noG_ok [Adr] {P : Program} {f : FuncId} : CKOk P f (.inp noG) := fun _ _ _ _ h => by cases h
def sameG : List AV → Option AV
  | [x] => some x
  | _ => none
theorem sameG_ok [Adr] {P : Program} {f : FuncId} {fn : Func} (hf : P.funcs[f]? = some fn) (h1 : (fn.name == "runtime.NumGoroutine") = false) (h2 : fn.body.isNone = true) (h3 : Extern.findNext fn = none) (h4 : Extern.find fn = some Extern.AbiNoEscape.same) : CKOk P f (.ext sameG) := by
  intro args r h w F φ vs hv
  unfold sameG at h
  split at h
  · cases h
    simp only [VRels] at hv
    obtain ⟨v, _, rfl, hv, rfl⟩ := hv
    refine ⟨v, ?_, hv⟩
    rw [run_callFunc_extern hf h1 h2 h3 h4]
    rw [Lib.run_noEscape]
    rfl
  · cases h
def ixB (c : UInt8) : List UInt8 → Nat → Int
  | [], _ => -1
  | x :: l, n => match x == c with
    | true => n
    | false => ixB c l (n + 1)
theorem ixB_eq (c : UInt8) : ∀ (l : List UInt8) (n : Nat), ixB c l n = if Lib.indexByte l c = -1 then -1 else Lib.indexByte l c + n
  | [], n => by simp [ixB, Lib.indexByte]
  | x :: l, n => by
    unfold ixB Lib.indexByte
    cases hx : x == c with
    | true => simp
    | false =>
      simp only [Bool.false_eq_true, if_false]
      rw [ixB_eq c l (n + 1)]
      have := Lib.indexByte_ge l c
      by_cases h : Lib.indexByte l c = -1
      · simp [h]
      · have hb : (Lib.indexByte l c == -1) = false := by simpa using h
        simp only [hb, Bool.false_eq_true, if_false, if_neg h]
        rw [if_neg (by omega)]
        omega
def ibsG : List AV → Option AV
  | [.str l, .int .u8 c] => some (.int .i64 (ixB c.toNat.toUInt8 l 0))
  | _ => none
theorem ibsG_ok [Adr] {P : Program} {f : FuncId} {fn : Func} (hf : P.funcs[f]? = some fn) (h1 : (fn.name == "runtime.NumGoroutine") = false) (h2 : fn.body.isNone = true) (h3 : Extern.findNext fn = none) (h4 : Extern.find fn = some Extern.BytealgIndexByte.indexByte) : CKOk P f (.ext ibsG) := by
  intro args r h w F φ vs hv
  unfold ibsG at h
  split at h
  · cases h
    rename_i l c
    simp only [VRels, VRel] at hv
    obtain ⟨v, _, rfl, rfl, u, _, rfl, rfl, rfl⟩ := hv
    refine ⟨.int .i64 (ixB c.toNat.toUInt8 l 0), ?_, by simp only [VRel]⟩
    rw [run_callFunc_extern hf h1 h2 h3 h4]
    show ((Extern.BytealgIndexByte.indexByte #[.string ⟨l.toArray⟩, .int .u8 c]).run P w).andThen _ = _
    rw [run_indexByte_string, Lib.firstIdx_eq, ixB_eq]
    have : Lib.indexByte l c.toNat.toUInt8 = if Lib.indexByte l c.toNat.toUInt8 = -1 then -1 else Lib.indexByte l c.toNat.toUInt8 + ((0 : Nat) : Int) := by
      split <;> simp_all
    rw [← this]
    rfl
  · cases h
def cntL (c : UInt8) : List UInt8 → Nat → Int
  | [], n => n
  | x :: l, n => match x == c with
    | true => cntL c l (n + 1)
    | false => cntL c l n
theorem cntL_eq (c : UInt8) : ∀ (l : List UInt8) (n : Nat), cntL c l n = ((Lib.countByte l c + n : Nat) : Int)
  | [], n => by simp [cntL, Lib.countByte]
  | x :: l, n => by
    unfold cntL
    have h : Lib.countByte (x :: l) c = Lib.countByte l c + if x == c then 1 else 0 := by
      unfold Lib.countByte
      rw [List.count_cons]
    rw [h]
    cases hx : x == c with
    | true => simp only [if_true]; rw [cntL_eq c l (n + 1)]; congr 1; omega
    | false => simp only [Bool.false_eq_true, if_false]; rw [cntL_eq c l n]; rfl
def cntG : List AV → Option AV
  | [.str l, .int .u8 c] => some (.int .i64 (cntL c.toNat.toUInt8 l 0))
  | _ => none
theorem cntG_ok [Adr] {P : Program} {f : FuncId} {fn : Func} (hf : P.funcs[f]? = some fn) (h1 : (fn.name == "runtime.NumGoroutine") = false) (h2 : fn.body.isNone = true) (h3 : Extern.findNext fn = none) (h4 : Extern.find fn = some Extern.BytealgCount.count) : CKOk P f (.ext cntG) := by
  intro args r h w F φ vs hv
  unfold cntG at h
  split at h
  · cases h
    rename_i l c
    simp only [VRels, VRel] at hv
    obtain ⟨v, _, rfl, rfl, u, _, rfl, rfl, rfl⟩ := hv
    refine ⟨.int .i64 (cntL c.toNat.toUInt8 l 0), ?_, by simp only [VRel]⟩
    rw [run_callFunc_extern hf h1 h2 h3 h4]
    show ((Extern.BytealgCount.count #[.string ⟨l.toArray⟩, .int .u8 c]).run P w).andThen _ = _
    rw [Lib.run_countString, cntL_eq]
    rfl
  · cases h
theorem pcall_below [Adr] {P : Program} {f : FuncId} {args : List AV} {r : AV} (he : Ent P f)
    (h : ∀ (w : World) (F : Nat → Prop) (vs : List Value), FOk F w → GOk w F → VRels w F Emb.zero args vs → Calls P f ⟨vs⟩ w fun e w' => ∃ v, e = .returned v ∧ Below w.heap.size w w' ∧ ∀ w2, VRel w2 F Emb.zero r v) : PCall P f args r [] := by
  refine ⟨he, fun w F vs hF hG hv => (h w F vs hF hG hv).mono ?_⟩
  rintro e w' ⟨v, rfl, hb, hr⟩
  refine ⟨v, Emb.zero, F, rfl, fun _ h => h, fun _ h => .inl h, ⟨hb, fun b hb' => Nat.lt_of_lt_of_le (hF b hb').1 hb.size, fun b g x hx => by simp [Emb.zero] at hx, fun b g cb sz hx => by simp [Emb.zero] at hx, fun b x hx => by simp at hx, fun b x hx => by simp at hx, fun b b' x y cb sz sz' hx => by simp at hx, fun b o hb' ho => ?_⟩, hr w'⟩
  rw [hb.block b (hF b hb').1] at ho
  exact (hF b hb').2 o ho
def strsOf : List (List AV) → Option (List (List UInt8))
  | [] => some []
  | [.str l] :: r => match strsOf r with
    | some ls => some (l :: ls)
    | none => none
  | _ => none
theorem strsOf_ok [Adr] {w : World} {F : Nat → Prop} : ∀ (es : List (List AV)) (ls : List (List UInt8)) (b o : Nat), strsOf es = some ls → ERel w F Emb.zero es b o →
    ls.length = es.length ∧ ∀ (j : Nat) (l : List UInt8), ls[j]? = some l → w.cell? ⟨b, o + j, none⟩ = some (.string ⟨l.toArray⟩)
  | [], ls, b, o, h, hr => by
    simp only [strsOf, Option.some.injEq] at h
    subst h
    exact ⟨rfl, fun j l hj => by simp at hj⟩
  | e :: es, ls, b, o, h, hr => by
    unfold strsOf at h
    split at h
    · cases ‹_ = []›
    · rename_i l r heq
      cases heq
      split at h
      · rename_i ls' hls
        cases h
        simp only [ERel, CRel, VRel, and_true, List.length_singleton] at hr
        obtain ⟨⟨v, h1, h2, rfl⟩, h3⟩ := hr
        obtain ⟨i1, i2⟩ := strsOf_ok es ls' b (o + 1) hls h3
        refine ⟨by simp [i1], fun j q hj => ?_⟩
        cases j with
        | zero => simp at hj; subst hj; exact h1
        | succ j =>
          have := i2 j q (by simpa using hj)
          rw [show o + (j + 1) = o + 1 + j by omega]
          exact this
      · cases h
    · cases h
def joinG : List AV → Option (AV × List ABlk)
  | [.psl _ (e :: es), .str sep] => match strsOf (e :: es) with
    | some ls => match Nat.ble ls.length 1000 && Nat.ble (Lib.join ls sep).length 100000 with
      | true => some (.str (Lib.join ls sep), [])
      | false => none
    | none => none
  | _ => none
theorem joinG_ok [Adr] {P : Program} {f : FuncId} (he : Ent P f)
    (hj : ∀ (bk o c : Nat) (xs : List ByteArray) (sep : ByteArray) (w : World), (∀ (j : Nat) x, xs[j]? = some x → w.cell? ⟨bk, o + j, none⟩ = some (.string x)) → bk < w.heap.size → xs.length ≤ 140737488355328 → xs.length ≤ c →
      (Lib.join (xs.map (·.data.toList)) sep.data.toList).length ≤ 140737488355328 →
      Calls P f #[.slice (some ⟨bk, o, none⟩) xs.length c, .string sep] w fun e w' => e = .returned (.string ⟨(Lib.join (xs.map (·.data.toList)) sep.data.toList).toArray⟩) ∧ Below w.heap.size w w') : CKOk P f (.pure joinG) := by
  intro args r blks h
  unfold joinG at h
  split at h
  rotate_left
  · cases h
  rename_i z e es sep
  split at h
  rotate_left
  · cases h
  rename_i ls hls
  split at h
  rotate_left
  · cases h
  rename_i hc
  cases h
  simp only [Bool.and_eq_true, Nat.ble_eq] at hc
  refine pcall_below he fun w F vs hF hG hv => ?_
  simp only [VRels, VRel] at hv
  obtain ⟨v, _, rfl, ⟨a, cap, rfl, h2, h3, h4⟩, u, _, rfl, rfl, rfl⟩ := hv
  obtain ⟨b, o, rfl, h5, h6⟩ := h4 (by simp)
  obtain ⟨i1, i2⟩ := strsOf_ok (e :: es) ls b o hls h6
  have hm : (ls.map fun l => (⟨l.toArray⟩ : ByteArray)).map (·.data.toList) = ls := by
    rw [List.map_map]
    conv => rhs; rw [← List.map_id ls]
    apply List.map_congr_left
    intro l _
    simp
  have := hj b o cap (ls.map fun l => ⟨l.toArray⟩) ⟨sep.toArray⟩ w (fun j x hx => by
    rw [List.getElem?_map, Option.map_eq_some_iff] at hx
    obtain ⟨l, hl, rfl⟩ := hx
    exact i2 j l hl) (hF b h5).1 (by rw [List.length_map]; omega) (by rw [List.length_map, i1]; exact h2) (by rw [hm]; simp only [List.toList_toArray]; omega)
  rw [hm, List.length_map, i1] at this
  refine this.mono ?_
  rintro en w' ⟨rfl, hb⟩
  exact ⟨_, rfl, hb, fun w2 => by simp only [VRel]⟩
end Go.AM
