/- A text of the proof. -/
import Derived.Test.YtkpbcgjmckodiaaGreatDoorKAmZc
import Derived.ChangeArms
section
set_option linter.unusedSimpArgs false
set_option linter.unusedVariables false
namespace Go.AM
open Go Go.RowKit
def oldF (W : World) (b : Nat) : Prop := b < W.heap.size ∧ ∀ o, W.heap[b]? = some o → isRec o = false
theorem oldF_ok (W : World) : FOk (oldF W) W := fun _ h => h
def ShpL {α : Type} (R : α → List AV → Prop) : List α → List AV → Prop
  | [], cs => cs = []
  | f :: fl, cs => ∃ a b, cs = a ++ b ∧ R f a ∧ ShpL R fl b
def Shp (P : Program) : Nat → TypeId → List AV → Prop
  | 0, _, _ => False
  | n + 1, t, cs => match P.underlying t with
    | some .bool => ∃ b, cs = [.bool b]
    | some (.int k) => ∃ i, cs = [.int k i] ∧ (Lit.int k i).wf = true
    | some .string => ∃ s : List UInt8, cs = [.str s] ∧ s.length ≤ maxLen
    | some (.slice e) => ∃ es, cs = [.psl (P.cellsOf e) es] ∧ es.length ≤ maxLen ∧ ∀ x ∈ es, Shp P n e x
    | some (.struct fs) => ShpL (fun f x => Shp P n f.type x) fs.toList cs
    | some (.array k e) => ShpL (fun (_ : Nat) x => Shp P n e x) (List.range k) cs
    | _ => False
def runsB (P : Program) : List (Nat × TypeId) → Nat → Nat → Bool
  | [], o, e => o == e
  | f :: fl, o, e => f.1 == o && runsB P fl (o + P.cellsOf f.2) e
def plainB (P : Program) : Nat → TypeId → Bool
  | 0, _ => false
  | n + 1, t => match P.underlying t with
    | some .bool => true
    | some (.int _) => true
    | some .string => true
    | some (.slice e) => decide (0 < P.cellsOf e) && plainB P n e
    | some (.struct fs) => runsB P (fs.toList.map fun f => (f.offset, f.type)) 0 (P.cellsOf t) && fs.toList.all fun f => plainB P n f.type
    | some (.array k e) => runsB P ((List.range k).map fun i => (i * P.cellsOf e, e)) 0 (P.cellsOf t) && plainB P n e
    | _ => false
theorem VRels.len [Adr] {w : World} {F : Nat → Prop} {φ : Emb} : ∀ {as : List AV} {vs : List Value}, VRels w F φ as vs → as.length = vs.length
  | [], vs, h => by simp only [VRels] at h; subst h; rfl
  | a :: as, vs, h => by
    simp only [VRels] at h
    obtain ⟨v, vs', rfl, -, h2⟩ := h
    simp [VRels.len h2]
theorem crel_of [Adr] {w : World} {F : Nat → Prop} {b : Nat} : ∀ {as : List AV} {cs : List Value} {o : Nat}, VRels w F Emb.zero as cs → (∀ c ∈ cs, c.oneCell' = true) →
    (∀ i c, cs[i]? = some c → w.cell? ⟨b, o + i, none⟩ = some c) → CRel w F Emb.zero as b o
  | [], cs, o, h, h1, hc => by simp [CRel]
  | a :: as, cs, o, h, h1, hc => by
    simp only [VRels] at h
    obtain ⟨v, vs', rfl, h2, h3⟩ := h
    simp only [CRel]
    refine ⟨⟨v, by simpa using hc 0 v rfl, h1 v (by simp), h2⟩, crel_of h3 (fun c hc' => h1 c (by simp [hc'])) fun i c hi => ?_⟩
    have := hc (i + 1) c (by simpa using hi)
    rwa [show o + (i + 1) = o + 1 + i by omega] at this
theorem cells_get {w : World} {base : Nat} {a : Addr} {n : Nat} {cs : List Value} (h : w.cells? base a n = some cs) : base ≤ a.block ∧ cs.length = n ∧ ∀ i c, cs[i]? = some c → w.cell? (a.add i) = some c := by
  unfold World.cells? at h
  split at h
  · rename_i hb
    refine ⟨hb, ?_⟩
    have key : ∀ (l : List Nat) (cs : List Value), l.mapM (fun i => w.cell? (a.add i)) = some cs → cs.length = l.length ∧ ∀ (i : Nat) (c : Value), cs[i]? = some c → ∃ j : Nat, l[i]? = some j ∧ w.cell? (a.add j) = some c := by
      intro l
      induction l with
      | nil => intro cs h; simp at h; subst h; simp
      | cons x l ih =>
        intro cs h
        simp only [List.mapM_cons, Option.bind_eq_bind, Option.bind_eq_some_iff, Option.pure_def, Option.some.injEq] at h
        obtain ⟨c, hc, cs', hcs, rfl⟩ := h
        obtain ⟨h1, h2⟩ := ih cs' hcs
        refine ⟨by simp [h1], fun i d hi => ?_⟩
        cases i with
        | zero => simp at hi; subst hi; exact ⟨x, rfl, hc⟩
        | succ i => simpa using h2 i d (by simpa using hi)
    obtain ⟨h1, h2⟩ := key _ _ h
    refine ⟨by simpa using h1, fun i c hi => ?_⟩
    obtain ⟨j, hj, hc⟩ := h2 i c hi
    rw [List.getElem?_range (by
      have := (List.getElem?_eq_some_iff.1 hi).1
      simpa [h1] using this)] at hj
    cases hj
    exact hc
  · cases h
theorem cell_old {w : World} {a : Addr} {v : Value} (h : w.cell? a = some v) : a.spot = none ∧ oldF w a.block := by
  unfold World.cell? at h
  split at h
  · rename_i c el fz hb
    refine ⟨?_, (Array.getElem?_eq_some_iff.1 hb).1, fun o ho => ?_⟩
    · cases hs : a.spot with
      | none => rfl
      | some _ => simp [hs] at h
    · rw [hb] at ho; cases ho; rfl
  · cases h
theorem mapM_get {α β : Type} {f : α → Option β} : ∀ {l : List α} {r : List β}, l.mapM f = some r → ∀ x ∈ l, ∃ y, f x = some y
  | [], _, _, x, hx => by simp at hx
  | a :: l, r, h, x, hx => by
    simp only [List.mapM_cons, Option.bind_eq_bind, Option.bind_eq_some_iff, Option.pure_def, Option.some.injEq] at h
    obtain ⟨c, hc, cs', hcs, rfl⟩ := h
    rcases List.mem_cons.1 hx with rfl | hx
    · exact ⟨c, hc⟩
    · exact mapM_get hcs x hx
theorem structL [Adr] {P : Program} {W : World} {F : Nat → Prop} {R : TypeId → List AV → Prop} {cs : List Value} : ∀ (fl : List Field) (o : Nat), runsB P (fl.map fun f => (f.offset, f.type)) o cs.length = true →
    (∀ f ∈ fl, ∃ as, R f.type as ∧ VRels W F Emb.zero as ((cs.drop f.offset).take (P.cellsOf f.type)) ∧ ∀ c ∈ (cs.drop f.offset).take (P.cellsOf f.type), c.oneCell' = true) →
    ∃ as, ShpL (fun (f : Field) x => R f.type x) fl as ∧ VRels W F Emb.zero as (cs.drop o) ∧ ∀ c ∈ cs.drop o, c.oneCell' = true
  | [], o, hr, h => by
    simp only [runsB, List.map_nil, beq_iff_eq] at hr
    subst hr
    exact ⟨[], rfl, by simp [VRels], by simp⟩
  | f :: fl, o, hr, h => by
    simp only [runsB, List.map_cons, Bool.and_eq_true, beq_iff_eq] at hr
    obtain ⟨rfl, hr⟩ := hr
    obtain ⟨as, h1, h2, h3⟩ := structL fl _ hr fun g hg => h g (by simp [hg])
    obtain ⟨a, k1, k2, k3⟩ := h f (by simp)
    have e : cs.drop f.offset = (cs.drop f.offset).take (P.cellsOf f.type) ++ cs.drop (f.offset + P.cellsOf f.type) := by
      rw [← List.drop_drop]; exact (List.take_append_drop _ _).symm
    refine ⟨a ++ as, ⟨a, as, rfl, k1, h1⟩, ?_, ?_⟩
    · rw [e]; exact k2.append h2
    · rw [e]; intro c hc
      rcases List.mem_append.1 hc with hc | hc
      · exact k3 c hc
      · exact h3 c hc
theorem arrL [Adr] {P : Program} {W : World} {F : Nat → Prop} {R : TypeId → List AV → Prop} {cs : List Value} : ∀ (e : TypeId) (fl : List Nat) (o : Nat), runsB P (fl.map fun i => (i * P.cellsOf e, e)) o cs.length = true →
    (∀ f ∈ fl, ∃ as, R e as ∧ VRels W F Emb.zero as ((cs.drop (f * P.cellsOf e)).take (P.cellsOf e)) ∧ ∀ c ∈ (cs.drop (f * P.cellsOf e)).take (P.cellsOf e), c.oneCell' = true) →
    ∃ as, ShpL (fun (_ : Nat) x => R e x) fl as ∧ VRels W F Emb.zero as (cs.drop o) ∧ ∀ c ∈ cs.drop o, c.oneCell' = true
  | e, [], o, hr, h => by
    simp only [runsB, List.map_nil, beq_iff_eq] at hr
    subst hr
    exact ⟨[], rfl, by simp [VRels], by simp⟩
  | e, f :: fl, o, hr, h => by
    simp only [runsB, List.map_cons, Bool.and_eq_true, beq_iff_eq] at hr
    obtain ⟨rfl, hr⟩ := hr
    obtain ⟨as, h1, h2, h3⟩ := arrL e fl _ hr fun g hg => h g (by simp [hg])
    obtain ⟨a, k1, k2, k3⟩ := h f (by simp)
    have eq : cs.drop (f * P.cellsOf e) = (cs.drop (f * P.cellsOf e)).take (P.cellsOf e) ++ cs.drop ((f * P.cellsOf e) + P.cellsOf e) := by
      rw [← List.drop_drop]; exact (List.take_append_drop _ _).symm
    refine ⟨a ++ as, ⟨a, as, rfl, k1, h1⟩, ?_, ?_⟩
    · rw [eq]; exact k2.append h2
    · rw [eq]; intro c hc
      rcases List.mem_append.1 hc with hc | hc
      · exact k3 c hc
      · exact h3 c hc
theorem dec_ok [Adr] {H : Type} {enc : TypeId × Value → H} {P : Program} {W : World} {base : Nat} {sp : Nat → Bool} {held : Bool} : ∀ (n : Nat) (t : TypeId) (cs : List Value) (x : DataW H × List MemPlace) (fuel : Nat), plainB P n t = true →
    DataW.trod enc P W base sp held fuel t cs = some x → ∃ as, Shp P n t as ∧ VRels W (oldF W) Emb.zero as cs ∧ ∀ c ∈ cs, c.oneCell' = true
  | 0, t, cs, x, fuel, hp, h => by simp [plainB] at hp
  | n + 1, t, cs, x, 0, hp, h => by simp [DataW.trod] at h
  | n + 1, t, cs, x, fuel + 1, hp, h => by
    unfold plainB at hp
    unfold Shp
    split at hp
    · rename_i hu
      have : ∃ b, cs = [.bool b] := by
        unfold DataW.trod at h
        rw [hu] at h
        split at h <;> simp_all
      obtain ⟨b, rfl⟩ := this
      exact ⟨_, ⟨b, rfl⟩, by simp [VRels, VRel], by simp [Value.oneCell']⟩
    · rename_i k hu
      have : ∃ i, cs = [.int k i] ∧ (Lit.int k i).wf = true := by
        unfold DataW.trod at h
        rw [hu] at h
        split at h <;> simp_all
      obtain ⟨i, rfl, hw⟩ := this
      exact ⟨_, ⟨i, rfl, hw⟩, by simp [VRels, VRel], by simp [Value.oneCell']⟩
    · rename_i hu
      have : ∃ s : ByteArray, cs = [.string s] ∧ s.size ≤ maxLen := by
        unfold DataW.trod at h
        rw [hu] at h
        split at h <;> simp_all
      obtain ⟨s, rfl, hw⟩ := this
      refine ⟨_, ⟨s.data.toList, rfl, by simpa using hw⟩, by simp [VRels, VRel], by simp [Value.oneCell']⟩
    · rename_i e hu
      simp only [Bool.and_eq_true, decide_eq_true_eq] at hp
      rcases DataW.trod_slice hu h with ⟨rfl, hx⟩ | ⟨a, len, cap, elems, rest, m, _, rfl, hx, hba, hl, hcap, hlen, hel, _⟩
      · exact ⟨_, ⟨[], rfl, by simp [maxLen], by simp⟩, by simp [VRels, VRel], by simp [Value.oneCell']⟩
      · have each : ∀ i, i < len → ∃ as cs', Shp P n e as ∧ VRels W (oldF W) Emb.zero as cs' ∧ (∀ c ∈ cs', c.oneCell' = true) ∧ cs'.length = P.cellsOf e ∧
            ∀ (j : Nat) (c : Value), cs'[j]? = some c → W.cell? ((a.add (i * P.cellsOf e)).add j) = some c := by
          intro i hi
          have h1 := hel i hi
          rw [List.getElem?_eq_getElem (by omega)] at h1
          obtain ⟨cs', k1, k2⟩ := Option.bind_eq_some_iff.1 h1
          obtain ⟨as, j1, j2, j3⟩ := dec_ok n e cs' _ _ hp.2 k2
          obtain ⟨_, l2, l3⟩ := cells_get k1
          exact ⟨as, cs', j1, j2, j3, l2, l3⟩
        have head : 0 < len → a.spot = none ∧ oldF W a.block := by
          intro h0
          obtain ⟨as, cs', -, -, -, l2, l3⟩ := each 0 h0
          have h2 : 0 < cs'.length := by omega
          have := l3 0 cs'[0] (List.getElem?_eq_getElem h2)
          exact cell_old (a := a) (by simpa [Addr.add] using this)
        have build : ∀ m, m ≤ len → ∃ es : List (List AV), es.length = m ∧ (∀ x ∈ es, Shp P n e x ∧ x.length = P.cellsOf e) ∧ ERel W (oldF W) Emb.zero es a.block (a.off + (len - m) * P.cellsOf e) := by
          intro m
          induction m with
          | zero => intro _; exact ⟨[], rfl, by simp, by simp [ERel]⟩
          | succ m ih =>
            intro hm
            obtain ⟨es, e1, e2, e3⟩ := ih (by omega)
            obtain ⟨as, cs', j1, j2, j3, l2, l3⟩ := each (len - (m + 1)) (by omega)
            obtain ⟨s1, s2⟩ := head (by omega)
            have hlen' : as.length = P.cellsOf e := by rw [j2.len, l2]
            refine ⟨as :: es, by simp [e1], ?_, ?_⟩
            · intro x hx
              rcases List.mem_cons.1 hx with rfl | hx
              · exact ⟨j1, hlen'⟩
              · exact e2 x hx
            · simp only [ERel]
              refine ⟨crel_of j2 j3 fun i c hi => ?_, ?_⟩
              · have := l3 i c hi
                rw [← this]
                congr 1
                unfold Addr.add
                obtain ⟨ab, ao, as'⟩ := a
                simp only at s1
                subst s1
                by_cases q1 : (len - (m + 1)) * P.cellsOf e = 0 <;> by_cases q2 : i = 0 <;> simp [q1, q2, Nat.add_assoc]
              · rw [hlen', Nat.add_assoc, ← Nat.succ_mul, show (len - (m + 1)).succ = len - m by omega]
                exact e3
        obtain ⟨es, e1, e2, e3⟩ := build len (Nat.le_refl _)
        refine ⟨_, ⟨es, rfl, by omega, fun x hx => (e2 x hx).1⟩, ?_, by simp [Value.oneCell']⟩
        simp only [VRels, VRel]
        refine ⟨_, [], rfl, ⟨some a, cap, by rw [e1], by omega, fun x hx => (e2 x hx).2, fun hne => ?_⟩, rfl⟩
        have h0 : 0 < len := by rw [← e1]; exact List.length_pos_iff.2 hne
        obtain ⟨s1, s2⟩ := head h0
        refine ⟨a.block, a.off, ?_, s2, by simpa using e3⟩
        obtain ⟨ab, ao, as'⟩ := a
        simp only at s1
        subst s1
        rfl
    · rename_i fs hu
      simp only [Bool.and_eq_true, List.all_eq_true] at hp
      unfold DataW.trod at h
      rw [hu] at h
      have h' : cs.length = P.cellsOf t ∧ ∃ xs, fs.toList.mapM (fun f => DataW.trod enc P W base sp held fuel f.type ((cs.drop f.offset).take (P.cellsOf f.type))) = some xs := by
        split at h <;> simp_all
        obtain ⟨h1, xs, h2, _⟩ := h
        exact ⟨xs, h2⟩
      obtain ⟨h1, xs, h2⟩ := h'
      obtain ⟨as, k1, k2, k3⟩ := structL (R := Shp P n) (W := W) (F := oldF W) fs.toList 0 (by rw [h1]; exact hp.1) fun f hf => by
        obtain ⟨y, hy⟩ := mapM_get h2 f hf
        exact dec_ok n f.type _ _ _ (hp.2 f hf) hy
      exact ⟨as, k1, by simpa using k2, by simpa using k3⟩
    · rename_i k e hu
      simp only [Bool.and_eq_true] at hp
      unfold DataW.trod at h
      rw [hu] at h
      have h' : cs.length = P.cellsOf t ∧ ∃ xs, (List.range k).mapM (fun i => DataW.trod enc P W base sp held fuel e ((cs.drop (i * P.cellsOf e)).take (P.cellsOf e))) = some xs := by
        split at h <;> simp_all
        obtain ⟨h1, xs, h2, _⟩ := h
        exact ⟨xs, h2⟩
      obtain ⟨h1, xs, h2⟩ := h'
      obtain ⟨as, k1, k2, k3⟩ := arrL (R := Shp P n) (W := W) (F := oldF W) e (List.range k) 0 (by rw [h1]; exact hp.1) fun f hf => by
        obtain ⟨y, hy⟩ := mapM_get h2 f hf
        exact dec_ok n e _ _ _ hp.2 hy
      exact ⟨as, k1, by simpa using k2, by simpa using k3⟩
    · cases hp
theorem shp_string {P : Program} {n : Nat} {t : TypeId} {x : List AV} (hu : P.underlying t = some .string) (h : Shp P (n + 1) t x) : ∃ s : List UInt8, x = [.str s] ∧ s.length ≤ maxLen := by
  unfold Shp at h; rw [hu] at h; exact h
end Go.AM
end
section
set_option linter.unusedSimpArgs false
set_option linter.unusedVariables false
namespace Go.AM
open Go Go.RowKit
def undatL {H : Type} (P : Program) (n : Nat) (f : TypeId → DataW H → Option (List AV)) : List (Nat × TypeId) → Nat → List (DataW H) → Option (List AV)
  | [], o, [] => if o = n then some [] else none
  | (off, t) :: fs, o, d :: ds => if off = o then match f t d with
      | some as => if as.length = P.cellsOf t then match undatL P n f fs (o + as.length) ds with
          | some bs => some (as ++ bs)
          | none => none
        else none
      | none => none
    else none
  | _, _, _ => none
def undat {H : Type} (P : Program) : Nat → TypeId → DataW H → Option (List AV)
  | 0, _, _ => none
  | n + 1, t, d => match P.underlying t, d with
    | some .bool, .lit (.bool b) => some [.bool b]
    | some (.int _), .lit (.int k n) => some [.int k n]
    | some .string, .lit (.string s) => some [.str s]
    | some (.struct fs), .agg ds => undatL P (P.cellsOf t) (undat P n) (fs.toList.map fun f => (f.offset, f.type)) 0 ds
    | some (.array m e), .agg ds => undatL P (P.cellsOf t) (undat P n) ((List.range m).map fun i => (i * P.cellsOf e, e)) 0 ds
    | _, _ => none
theorem undatL_ok [Adr] {H : Type} {P : Program} {W : World} {F : Nat → Prop} {tr : TypeId → List Value → Option (DataW H × List MemPlace)} {f : TypeId → DataW H → Option (List AV)} {cs : List Value}
    (hf : ∀ t vs x as, tr t vs = some x → f t x.1 = some as → VRels W F Emb.zero as vs ∧ ∀ c ∈ vs, c.oneCell' = true) :
    ∀ (fl : List (Nat × TypeId)) (o : Nat) (xs : List (DataW H × List MemPlace)) (as : List AV), fl.mapM (fun p => tr p.2 ((cs.drop p.1).take (P.cellsOf p.2))) = some xs → undatL P cs.length f fl o (xs.map (·.1)) = some as →
      VRels W F Emb.zero as (cs.drop o) ∧ ∀ c ∈ cs.drop o, c.oneCell' = true
  | [], o, xs, as, h, hu => by
    simp at h; subst h
    simp only [List.map_nil, undatL] at hu
    split at hu
    · rename_i e; subst e; cases hu; simp [VRels]
    · cases hu
  | (off, t) :: fl, o, xs, as, h, hu => by
    simp only [List.mapM_cons, Option.bind_eq_bind, Option.bind_eq_some_iff, Option.pure_def, Option.some.injEq] at h
    obtain ⟨x, hx, xs', hxs, rfl⟩ := h
    simp only [List.map_cons, undatL] at hu
    split at hu
    rotate_left
    · cases hu
    rename_i e; subst e
    split at hu
    rotate_left
    · cases hu
    rename_i as1 h1
    split at hu
    rotate_left
    · cases hu
    rename_i hl
    split at hu
    rotate_left
    · cases hu
    rename_i bs hb
    cases hu
    obtain ⟨k1, k2⟩ := hf t _ x as1 hx h1
    obtain ⟨m1, m2⟩ := undatL_ok hf fl _ xs' bs hxs hb
    rw [hl] at m1 m2
    have e : cs.drop off = (cs.drop off).take (P.cellsOf t) ++ cs.drop (off + P.cellsOf t) := by
      rw [← List.drop_drop]; exact (List.take_append_drop _ _).symm
    rw [e]
    refine ⟨k1.append m1, fun c hc => ?_⟩
    rcases List.mem_append.1 hc with hc | hc
    · exact k2 c hc
    · exact m2 c hc
theorem mapM_map {α β γ : Type} (g : α → β) (f : β → Option γ) : ∀ (l : List α), (l.map g).mapM f = l.mapM fun x => f (g x)
  | [] => rfl
  | x :: l => by simp only [List.map_cons, List.mapM_cons, mapM_map g f l]
theorem undat_ok [Adr] {H : Type} {enc : TypeId × Value → H} {P : Program} {W : World} {F : Nat → Prop} {base : Nat} {sp : Nat → Bool} {held : Bool} : ∀ (n : Nat) (t : TypeId) (cs : List Value) (x : DataW H × List MemPlace) (fuel : Nat) (as : List AV),
    DataW.trod enc P W base sp held fuel t cs = some x → undat P n t x.1 = some as → VRels W F Emb.zero as cs ∧ ∀ c ∈ cs, c.oneCell' = true
  | 0, t, cs, x, fuel, as, h, hu => by simp [undat] at hu
  | n + 1, t, cs, x, 0, as, h, hu => by simp [DataW.trod] at h
  | n + 1, t, cs, (d, ps), fuel + 1, as, h, hu => by
    unfold undat at hu
    split at hu
    · rename_i b ht hd
      simp only at hd; subst hd
      cases hu
      unfold DataW.trod at h
      rw [ht] at h
      split at h <;> simp_all [VRels, VRel, Value.oneCell']
    · rename_i k0 k n' ht hd
      simp only at hd; subst hd
      cases hu
      unfold DataW.trod at h
      rw [ht] at h
      split at h <;> simp_all [VRels, VRel, Value.oneCell']
    · rename_i s ht hd
      simp only at hd; subst hd
      cases hu
      unfold DataW.trod at h
      rw [ht] at h
      split at h <;> simp_all [VRels, VRel, Value.oneCell']
      obtain ⟨_, h2, _⟩ := h
      subst h2
      simp
    · rename_i fs ds ht hd
      simp only at hd; subst hd
      unfold DataW.trod at h
      rw [ht] at h
      have h' : cs.length = P.cellsOf t ∧ ∃ xs, fs.toList.mapM (fun f => DataW.trod enc P W base sp held fuel f.type ((cs.drop f.offset).take (P.cellsOf f.type))) = some xs ∧ xs.map (·.1) = ds := by
        split at h <;> simp_all
        obtain ⟨h1, xs, h2, h3, _⟩ := h
        exact ⟨xs, h2, h3⟩
      obtain ⟨h1, xs, h2, h3⟩ := h'
      rw [← h1, ← h3] at hu
      have := undatL_ok (tr := DataW.trod enc P W base sp held fuel) (W := W) (F := F) (cs := cs) (fun t vs x as k1 k2 => undat_ok n t vs x fuel as k1 k2) _ 0 xs as (by rw [mapM_map]; exact h2) hu
      simpa using this
    · rename_i m e ds ht hd
      simp only at hd; subst hd
      unfold DataW.trod at h
      rw [ht] at h
      have h' : cs.length = P.cellsOf t ∧ ∃ xs, (List.range m).mapM (fun i => DataW.trod enc P W base sp held fuel e ((cs.drop (i * P.cellsOf e)).take (P.cellsOf e))) = some xs ∧ xs.map (·.1) = ds := by
        split at h <;> simp_all
        obtain ⟨h1, xs, h2, h3, _⟩ := h
        exact ⟨xs, h2, h3⟩
      obtain ⟨h1, xs, h2, h3⟩ := h'
      rw [← h1, ← h3] at hu
      have := undatL_ok (tr := DataW.trod enc P W base sp held fuel) (W := W) (F := F) (cs := cs) (fun t vs x as k1 k2 => undat_ok n t vs x fuel as k1 k2) _ 0 xs as (by rw [mapM_map]; exact h2) hu
      simpa using this
    · cases hu
theorem laid_cells [Adr] {P : Program} {W : World} {F : Nat → Prop} {g : Nat} {n : String} {cs : Array Value} {as : List AV} (hg : P.globalNamed n = some g) (hv : W.var? P n = some cs) (h : VRels W F Emb.zero as cs.toList) (h1 : ∀ c ∈ cs.toList, c.oneCell' = true) : CRel W F Emb.zero as g 0 := by
  rw [CRel_iff]
  refine ⟨cs.toList, h, fun k v hk => ?_, h1⟩
  have := World.var?_cell hg hv k
  rw [Nat.zero_add, this]
  simpa using hk
end Go.AM
end
