/- However the steps of a job are cut, its output is what the merge of both runs leaves, of levels that are not long and at most 70 cuts; no other condition. -/
import Derived.Test.YtnlggkiekcpahaaBGt
import Derived.Test.YtnlggkiekcpahaaB1
set_option linter.unusedSimpArgs false
set_option linter.unusedVariables false
section
namespace Go.T
open Go Go.AM
theorem zeI (l k : List aA) (hl : l.length ≤ 1000000) : ∃ b, Ev (fun fu => bN fu l k) b ∧ (b = true ↔ l = k) := by
  unfold bN kR
  by_cases h : l.length = k.length
  · have hd : (!decide ((l.length : Int) = (k.length : Int))) = false := by simp; omega
    simp only [hd, Bool.false_eq_true, ↓reduceIte]
    obtain ⟨r, r1, r2⟩ := Ev.eqs false l k h (L := fI l k) (fun fu => by simp [fI]) (fun fu n h1 h2 => by
      have d : decide ((n : Int) < (l.length : Int)) = true := decide_eq_true (by omega)
      simp only [fI, d, ↓reduceIte, xA l n h1, xA k n h2, Option.bind_some, oW, qC n (by omega)]
      by_cases e : l[n] = k[n] <;> simp [e])
    rcases r2 with ⟨rfl, e⟩ | ⟨rfl, e⟩
    · exact ⟨true, Ev.bind (Ev.bind r1 (Ev.ret _)) (Ev.ret _), by simp [e]⟩
    · exact ⟨false, Ev.bind (Ev.bind r1 (Ev.ret _)) (Ev.ret _), by simp [e]⟩
  · have hd : (!decide ((l.length : Int) = (k.length : Int))) = true := by simp; omega
    simp only [hd, ↓reduceIte]
    exact ⟨false, Ev.bind (Ev.ret _) (Ev.ret _), by simp; intro e; exact h (by rw [e])⟩
theorem zn4 (l k : List (List aA)) (hl : l.length ≤ 1000) (hE : ∀ x ∈ l, x.length ≤ 1000000) : ∃ b, Ev (fun fu => fQ fu l k) b ∧ (b = true ↔ l = k) := by
  unfold fQ
  by_cases h : l.length = k.length
  · have hd : (!decide ((l.length : Int) = (k.length : Int))) = false := by simp; omega
    simp only [hd, Bool.false_eq_true, ↓reduceIte]
    obtain ⟨r, r1, r2⟩ := gO (β := Bool) (fun n r => Ev (fun fu => uH l k fu (n : Int)) r) l.length (fun i => ∀ (h1 : i < l.length) (h2 : i < k.length), l[i] = k[i]) (fun n v => v = false ∧ ∃ (h1 : n < l.length) (h2 : n < k.length), l[n] ≠ k[n])
      (Ev.succ (Ev.of (fun fu => by simp [uH]) (Ev.ret _)))
      (fun n hn => by
        have h2 : n < k.length := by omega
        have d : decide ((n : Int) < (l.length : Int)) = true := decide_eq_true (by omega)
        obtain ⟨b, b1, b2⟩ := zeI l[n] k[n] (hE _ (List.getElem_mem hn))
        cases b with
        | true =>
          refine .inr ⟨fun _ _ => b2.1 rfl, fun r hr => Ev.succ ?_⟩
          simp only [uH, d, ↓reduceIte, xA l n hn, xA k n h2, Option.bind_some, qC n (show n < 9223372036854775807 by omega)]
          exact Ev.bind b1 hr
        | false =>
          refine .inl ⟨false, ⟨rfl, hn, h2, fun e => by have := b2.2 e; cases this⟩, Ev.succ ?_⟩
          simp only [uH, d, ↓reduceIte, xA l n hn, xA k n h2, Option.bind_some]
          exact Ev.bind b1 (Ev.ret _))
    rcases r2 with ⟨rfl, e⟩ | ⟨n, v, -, ⟨rfl, h1, h2, e⟩, rfl, -⟩
    · refine ⟨true, Ev.bind r1 (Ev.ret _), ⟨fun _ => ?_, fun _ => rfl⟩⟩
      exact List.ext_getElem h fun i h1 h2 => e i h1 h1 h2
    · exact ⟨false, Ev.bind r1 (Ev.ret _), ⟨fun q => (by cases q), fun q => (by subst q; exact absurd rfl e)⟩⟩
  · have hd : (!decide ((l.length : Int) = (k.length : Int))) = true := by simp; omega
    simp only [hd, ↓reduceIte]
    exact ⟨false, Ev.ret _, by simp; intro e; exact h (by rw [e])⟩
theorem lY {p q : Prop} {x y : Bool} {A : Nat → Option Bool} (hx : x = true ↔ p) (hA : Ev A y) (hy : y = true ↔ q) : ∃ z, Ev (fun fu => if x = true then (A fu).bind fun v => some v else some false) z ∧ (z = true ↔ p ∧ q) := by
  cases x with
  | true => exact ⟨y, Ev.bind hA (Ev.ret _), by rw [hy]; exact ⟨fun h => ⟨hx.1 rfl, h⟩, fun h => h.2⟩⟩
  | false => exact ⟨false, Ev.ret _, ⟨fun h => (by cases h), fun h => (by have := hx.2 h.1; cases this)⟩⟩
theorem andP {p q : Prop} {x y : Bool} (hx : x = true ↔ p) (hy : y = true ↔ q) : ∃ z, Ev (fun _ => if x = true then some y else some false) z ∧ (z = true ↔ p ∧ q) := by
  cases x with
  | true => exact ⟨y, Ev.ret _, by rw [hy]; exact ⟨fun h => ⟨hx.1 rfl, h⟩, fun h => h.2⟩⟩
  | false => exact ⟨false, Ev.ret _, ⟨fun h => (by cases h), fun h => (by have := hx.2 h.1; cases this)⟩⟩
theorem znU (a b : vB) (ha : rY a) : ∃ r, Ev (fun fu => iP fu a b) r ∧ (r = true ↔ a = b) := by
  have hn := ha.seen.near
  obtain ⟨x1, e1, h1⟩ := zn4 a.Merge.Runs b.Merge.Runs (by have := hn.1; omega) (fun l hl => by have := hn.2.1 l hl; omega)
  obtain ⟨y2, f2, g2⟩ := zaq a.Merge.At b.Merge.At ha.merge.at'
  obtain ⟨x2, e2, h2⟩ := lY h1 f2 g2
  obtain ⟨y3, f3, g3⟩ := zdN a.Merge.Tree.Keys b.Merge.Tree.Keys ha.merge.keys
  obtain ⟨x3, e3, h3⟩ := lY h2 f3 g3
  obtain ⟨y4, f4, g4⟩ := zaq a.Merge.Tree.Lose b.Merge.Tree.Lose ha.merge.lose
  obtain ⟨x4, e4, h4⟩ := lY h3 f4 g4
  obtain ⟨x5, e5, h5⟩ := andP h4 (decide_eq_true_iff (p := a.Merge.Tree.Win = b.Merge.Tree.Win))
  obtain ⟨x6, e6, h6⟩ := andP h5 (show fB.eqb a.Shadow b.Shadow = true ↔ a.Shadow = b.Shadow by rw [oX]; exact decide_eq_true_iff)
  obtain ⟨y7, f7, g7⟩ := zeI a.Out b.Out (by have := ha.out; omega)
  obtain ⟨x7, e7, h7⟩ := lY h6 f7 g7
  obtain ⟨x8, e8, h8⟩ := andP h7 (decide_eq_true_iff (p := a.Steps = b.Steps))
  refine ⟨x8, ?_, h8.trans ⟨fun h => ?_, fun h => by subst h; simp⟩⟩
  · unfold iP
    exact Ev.bind e1 (Ev.bind e2 (Ev.bind e3 (Ev.bind e4 (Ev.bind e5 (Ev.bind e6 (Ev.bind e7 (Ev.bind e8 (Ev.ret _))))))))
  · obtain ⟨⟨⟨⟨⟨⟨⟨q1, q2⟩, q3⟩, q4⟩, q5⟩, q6⟩, q7⟩, q8⟩ := h
    obtain ⟨⟨ar, aa, ⟨ak, al, aw⟩⟩, ash, ao, ast⟩ := a
    obtain ⟨⟨br, ba, ⟨bk, bl', bw⟩⟩, bsh, bo, bst⟩ := b
    simp only at q1 q2 q3 q4 q5 q6 q7 q8
    subst q1 q2 q3 q4 q5 q6 q7 q8
    rfl
theorem zkq (l : yA) (hs : cJ l) (hc : Ev (fun fu => oK fu l) (0, 0, 0)) : Ev (fun fu => zbD fu l) ((l.Levels.map fun x => x.Runs.reverse).flatten, 0) := by
  have inner : ∀ (x : tA) (_ : x.Runs.length ≤ 6) (k : Nat) (out : List eB), k ≤ x.Runs.length → out.length ≤ 1000 → Ev (fun fu => jQ x fu ((k : Int) - 1) out) (out ++ (x.Runs.take k).reverse) := by
    intro x hx k
    induction k with
    | zero =>
      intro out _ _
      exact Ev.succ (Ev.of (fun fu => by simp [jQ]) (Ev.ret _))
    | succ k ih =>
      intro out hk ho
      have hkl : k < x.Runs.length := by omega
      have e1 : ((k + 1 : Nat) : Int) - 1 = (k : Int) := by omega
      have d : decide ((0 : Int) ≤ (k : Int)) = true := decide_eq_true (by omega)
      have g : 2 * ((out.length + 1) * 32) ≤ 281474976710656 := by omega
      have w : IntKind.i64.wrap ((k : Int) - 1) = (k : Int) - 1 := wr (by omega) (by omega)
      have e2 : (x.Runs.take (k + 1)).reverse = x.Runs[k] :: (x.Runs.take k).reverse := by
        rw [← List.take_append_getElem hkl, List.reverse_append]; rfl
      rw [e1, e2]
      by_cases ho2 : out.length < 1000
      · have := ih (out ++ [x.Runs[k]]) (by omega) (by simp; omega)
        rw [List.append_assoc, List.singleton_append] at this
        refine Ev.succ ?_
        simp only [jQ, d, ↓reduceIte, xA x.Runs k hkl, Option.bind_some, if_pos g, w]
        exact this
      ·
        have hgen : ∀ (k : Nat) (out : List eB), k ≤ x.Runs.length → out.length ≤ 2000 - k → k ≤ 6 → Ev (fun fu => jQ x fu ((k : Int) - 1) out) (out ++ (x.Runs.take k).reverse) := by
          intro k
          induction k with
          | zero => intro out _ _ _; exact Ev.succ (Ev.of (fun fu => by simp [jQ]) (Ev.ret _))
          | succ k ih2 =>
            intro out hk ho h6
            have hkl : k < x.Runs.length := by omega
            have e1 : ((k + 1 : Nat) : Int) - 1 = (k : Int) := by omega
            have d : decide ((0 : Int) ≤ (k : Int)) = true := decide_eq_true (by omega)
            have g : 2 * ((out.length + 1) * 32) ≤ 281474976710656 := by omega
            have w : IntKind.i64.wrap ((k : Int) - 1) = (k : Int) - 1 := wr (by omega) (by omega)
            have e2 : (x.Runs.take (k + 1)).reverse = x.Runs[k] :: (x.Runs.take k).reverse := by
              rw [← List.take_append_getElem hkl, List.reverse_append]; rfl
            rw [e1, e2]
            have := ih2 (out ++ [x.Runs[k]]) (by omega) (by simp; omega) (by omega)
            rw [List.append_assoc, List.singleton_append] at this
            refine Ev.succ ?_
            simp only [jQ, d, ↓reduceIte, xA x.Runs k hkl, Option.bind_some, if_pos g, w]
            exact this
        have := hgen (k + 1) out (by omega) (by omega) (by omega)
        rw [e1, e2] at this
        exact this
  have outer : ∀ (m i : Nat) (out : List eB), i + m = l.Levels.length → out.length ≤ 6 * i → Ev (fun fu => oU l fu (i : Int) out) (out ++ ((l.Levels.drop i).map fun x => x.Runs.reverse).flatten) := by
    intro m
    induction m with
    | zero =>
      intro i out hi _
      obtain rfl : i = l.Levels.length := by omega
      exact Ev.succ (Ev.of (fun fu => by simp [oU]) (Ev.ret _))
    | succ m ih =>
      intro i out hi ho
      have hil : i < l.Levels.length := by omega
      have h14 := hs.1
      have d : decide ((i : Int) < (l.Levels.length : Int)) = true := decide_eq_true (by omega)
      have hx := (hs.2 _ (List.getElem_mem hil)).1
      have w : IntKind.i64.wrap ((l.Levels[i].Runs.length : Int) - 1) = (l.Levels[i].Runs.length : Int) - 1 := wr (by omega) (by omega)
      have i1 := inner l.Levels[i] hx l.Levels[i].Runs.length out (Nat.le_refl _) (by omega)
      rw [List.take_length] at i1
      have := ih (i + 1) (out ++ l.Levels[i].Runs.reverse) (by omega) (by simp; omega)
      rw [List.drop_eq_getElem_cons hil, List.map_cons, List.flatten_cons, ← List.append_assoc]
      refine Ev.succ ?_
      simp only [oU, d, ↓reduceIte, xA l.Levels i hil, Option.bind_some, w, qC i (show i < 9223372036854775807 by omega)]
      exact Ev.bind i1 this
  unfold zbD
  refine Ev.bind hc ?_
  simp only [decide_true, Bool.not_true, Bool.false_eq_true, ↓reduceIte]
  exact Ev.bind (outer l.Levels.length 0 [] (by omega) (by simp)) (Ev.ret _)
theorem zed : ∀ (xs : List tA), ((xs.map fun x => x.Runs.reverse).flatten.map eB.Id).Perm (iF xs)
  | [] => List.Perm.nil
  | x :: xs => by
    simp only [iF, List.map_cons, List.flatten_cons, List.map_append]
    exact List.Perm.append ((List.reverse_perm _).map _) (zed xs)
theorem zbQ : ∀ (xs : List tA), (∀ x ∈ xs, x.Runs.length ≤ 6) → ((xs.map fun x => x.Runs.reverse).flatten).length ≤ 6 * xs.length
  | [], _ => by simp
  | x :: xs, h => by
    have h1 := h x (by simp)
    have h2 := zbQ xs fun y hy => h y (by simp [hy])
    simp only [List.map_cons, List.flatten_cons, List.length_append, List.length_reverse, List.length_cons]
    omega
theorem zkZ (l : yA) (hs : cJ l) (hc : Ev (fun fu => oK fu l) (0, 0, 0)) : Ev (fun fu => zak fu l) (nE 0 (iF l.Levels)) := by
  rw [← zmj (zed l.Levels)]
  have hl := zbQ l.Levels fun x hx => (hs.2 x hx).1
  have h14 := hs.1
  generalize hv : (l.Levels.map fun x => x.Runs.reverse).flatten = v at hl
  have go : ∀ (m i : Nat) (best : Int), i + m = v.length → Ev (fun fu => vV (v, 0) fu best (i : Int)) (nE best ((v.drop i).map eB.Id)) := by
    intro m
    induction m with
    | zero =>
      intro i best hi
      obtain rfl : i = v.length := by omega
      exact Ev.succ (Ev.of (fun fu => by simp [vV, nE]) (Ev.ret _))
    | succ m ih =>
      intro i best hi
      have hil : i < v.length := by omega
      have d : decide ((i : Int) < (v.length : Int)) = true := decide_eq_true (by omega)
      have := ih (i + 1) (if best < v[i].Id then v[i].Id else best) (by omega)
      rw [List.drop_eq_getElem_cons hil]
      refine Ev.succ ?_
      simp only [vV, d, ↓reduceIte, xA v i hil, Option.bind_some, qC i (show i < 9223372036854775807 by omega)]
      exact this
  have nw := zkq l hs hc
  rw [hv] at nw
  unfold zak
  exact Ev.bind nw (Ev.bind (go v.length 0 0 (by omega)) (Ev.ret _))
theorem ziw (l : yA) (hs : cJ l) (hc : Ev (fun fu => oK fu l) (0, 0, 0)) (hg : uO l) (i : Nat) (hi : i < l.Levels.length) : Ev (fun fu => fW fu l (i : Int)) (tE l i) := by
  have h12 := hg.few
  have d1 : decide ((i : Int) < 0) = false := decide_eq_false (by omega)
  have d2 : decide ((12 : Int) ≤ (i : Int)) = false := decide_eq_false (by omega)
  have e : (!decide (((i + 1 : Nat) : Int) < (l.Levels.length : Int))) = tE l i := by
    unfold tE
    by_cases q : i + 1 = l.Levels.length
    · rw [decide_eq_true q, decide_eq_false (by omega)]; rfl
    · rw [decide_eq_false q, decide_eq_true (by omega)]; rfl
  unfold fW zdp zci
  refine Ev.bind (a := (decide (((i + 1 : Nat) : Int) < (l.Levels.length : Int)), 0)) (Ev.bind (a := 0) (Ev.bind hc ?_) ?_) ?_
  · simp only [decide_true, ↓reduceIte, d1, d2, Bool.false_eq_true, Option.bind_some]; exact Ev.ret _
  · simp only [decide_true, Bool.not_true, Bool.false_eq_true, ↓reduceIte, qC i (show i < 9223372036854775807 by omega)]; exact Ev.ret _
  · rw [← e]; exact Ev.ret _
structure fO (l : yA) (i : Nat) (j : bB) : Prop where
  low : j.Work.Shadow.Bottom = true → tE l i = true
  at' : ∃ n, n ≤ uB (qB l i) ∧ j = xG l i j.Work.Shadow.Bottom n
structure zaa (s : oB) : Prop where
  lev : uO s.Levels
  next : 1 ≤ s.NextId ∧ s.NextId ≤ 1000001 ∧ nE 0 (iF s.Levels.Levels) < s.NextId
  len : s.Jobs.length = (lC s.Levels).length
  job : ∀ k (h : k < s.Jobs.length) (h2 : k < (lC s.Levels).length), fO s.Levels (lC s.Levels)[k] s.Jobs[k]
theorem zhJ (s : oB) (hs : cJ s.Levels) (hj : s.Jobs.length ≤ 1000) (hg : uO s.Levels) (hc : Ev (fun fu => oK fu s.Levels) (0, 0, 0)) :
    ∃ r, (Ev (fun fu => kF s (pB (lC s.Levels)) fu 0) r ∧ Ev (fun fu => yJ s (pB (lC s.Levels)) fu 0) r) ∧
      ((r = .inl () ∧ ∀ k, k < s.Jobs.length → ∀ h : k < s.Jobs.length, ∃ h2 : k < (lC s.Levels).length, fO s.Levels (lC s.Levels)[k] s.Jobs[k]) ∨
       ∃ k v, k < s.Jobs.length ∧ (v.2 ≠ 0 ∧ ∀ h : k < s.Jobs.length, ¬ ∃ h2 : k < (lC s.Levels).length, fO s.Levels (lC s.Levels)[k] s.Jobs[k]) ∧ r = .inr v) := by
  have h14 := hs.1
  obtain ⟨r, r1, r2⟩ := gO (β := Int × Int) (fun n r => Ev (fun fu => kF s (pB (lC s.Levels)) fu (n : Int)) r ∧ Ev (fun fu => yJ s (pB (lC s.Levels)) fu (n : Int)) r) s.Jobs.length
    (fun k => ∀ h : k < s.Jobs.length, ∃ h2 : k < (lC s.Levels).length, fO s.Levels (lC s.Levels)[k] s.Jobs[k])
    (fun k v => v.2 ≠ 0 ∧ ∀ h : k < s.Jobs.length, ¬ ∃ h2 : k < (lC s.Levels).length, fO s.Levels (lC s.Levels)[k] s.Jobs[k])
    ⟨Ev.succ (Ev.of (fun fu => by simp [kF]) (Ev.ret _)), Ev.succ (Ev.of (fun fu => by simp [yJ]) (Ev.ret _))⟩
    (fun k hk => by
      have d1 : decide ((k : Int) < (s.Jobs.length : Int)) = true := decide_eq_true (by omega)
      have ixj := xA s.Jobs k hk
      generalize hjk : s.Jobs[k] = j at ixj
      have bad : ∀ v : Int × Int, v.2 ≠ 0 → (¬ ∃ h2 : k < (lC s.Levels).length, fO s.Levels (lC s.Levels)[k] j) → (v.2 ≠ 0 ∧ ∀ h : k < s.Jobs.length, ¬ ∃ h2 : k < (lC s.Levels).length, fO s.Levels (lC s.Levels)[k] s.Jobs[k]) := fun v hv h => ⟨hv, fun _ => by rw [hjk]; exact h⟩
      by_cases hkd : k < (lC s.Levels).length
      · have d2 : decide (((pB (lC s.Levels)).length : Int) ≤ (k : Int)) = false := decide_eq_false (by rw [gG]; omega)
        have ixd := gF (lC s.Levels) k hkd
        obtain ⟨hi, h2⟩ := zbG s.Levels k hkd
        generalize hik : (lC s.Levels)[k] = i at ixd hi h2
        by_cases hl : j.Level = (i : Int)
        · have d3 : (!decide (j.Level = (i : Int))) = false := by rw [decide_eq_true hl]; rfl
          obtain ⟨hgr, hsn⟩ := zaj s.Levels hs hg i hi h2
          have lw := za5
          have rlw := ziw s.Levels hs hc hg i hi
          have c1 : ∃ b, b = (j.Work.Shadow.Bottom && !tE s.Levels i) := ⟨_, rfl⟩
          obtain ⟨cb, hcb⟩ := c1
          have e1 : ∀ fu, (if j.Work.Shadow.Bottom = true then (jL fu s.Levels (i : Int)).bind fun vr56 => some (!vr56) else some false) = some cb := fun fu => by
            rw [za5 fu s.Levels h14 i, hcb]; cases j.Work.Shadow.Bottom <;> rfl
          have e2 : Ev (fun fu => if j.Work.Shadow.Bottom = true then (fW fu s.Levels (i : Int)).bind fun vr59 => some (!vr59) else some false) cb := by
            rw [hcb]
            cases j.Work.Shadow.Bottom with
            | true => exact Ev.bind rlw (Ev.ret _)
            | false => exact Ev.ret _
          cases cb with
          | true =>
            refine .inl ⟨((k : Int), 6), bad _ (show (6 : Int) ≠ 0 by decide) (fun ⟨_, ok⟩ => ?_), Ev.succ ?_, Ev.succ ?_⟩
            · have q := hcb.symm
              simp only [Bool.and_eq_true, Bool.not_eq_true'] at q
              have := ok.low q.1
              rw [hik, q.2] at this; cases this
            · simp only [kF, d1, ↓reduceIte, ixj, Option.bind_some, d2, Bool.false_eq_true, ixd, d3]
              simp only [hl, e1, Option.bind_some, ↓reduceIte]
              exact Ev.ret _
            · simp only [yJ, d1, ↓reduceIte, ixj, Option.bind_some, d2, Bool.false_eq_true, ixd, d3]
              simp only [hl]
              refine Ev.bind e2 ?_
              exact Ev.ret _
          | false =>
            obtain ⟨b1, b2⟩ := zdr s.Levels hs hg i j.Work.Shadow.Bottom hi h2
            obtain ⟨l1, l2⟩ := kY (qB s.Levels i) j.Work.Shadow.Bottom 0 hsn hgr (by omega)
            have h120 := hsn.few hgr
            by_cases hst : 0 ≤ j.Work.Steps ∧ j.Work.Steps ≤ ((uB (qB s.Levels i) : Nat) : Int)
            · obtain ⟨n, hn⟩ : ∃ n : Nat, j.Work.Steps = (n : Int) := ⟨j.Work.Steps.toNat, by omega⟩
              have hnt : n ≤ uB (qB s.Levels i) := by omega
              have hu : used (qB s.Levels i) 0 n = n := Nat.min_eq_left (by omega)
              obtain ⟨t1, t2⟩ := zez (qB s.Levels i) j.Work.Shadow.Bottom 0 n hsn hgr (by omega)
              rw [hu, Nat.zero_add] at t1 t2
              have f1 : decide ((n : Int) < 0) = false := decide_eq_false (by omega)
              have f2 : decide (((uB (qB s.Levels i) - 0 : Nat) : Int) < (n : Int)) = false := decide_eq_false (by omega)
              obtain ⟨x, x1, x2⟩ := znU (uC (qB s.Levels i) j.Work.Shadow.Bottom n) j.Work (zaD _ _ _ hsn hgr hnt)
              obtain ⟨y, y1, y2⟩ := zh1 (uC (qB s.Levels i) j.Work.Shadow.Bottom n) j.Work (zaD _ _ _ hsn hgr hnt)
              obtain rfl : x = y := Bool.eq_iff_iff.2 (x2.trans y2.symm)
              have p1 : ∀ r, Ev (fun fu => if (!x) = true then some (.inr ((k : Int), 6)) else kF s (pB (lC s.Levels)) fu ((k + 1 : Nat) : Int)) r → Ev (fun fu => kF s (pB (lC s.Levels)) fu (k : Int)) r := fun r hr => by
                refine Ev.succ ?_
                simp only [kF, d1, ↓reduceIte, ixj, Option.bind_some, d2, Bool.false_eq_true, ixd, d3]
                simp only [hl, e1, Option.bind_some, Bool.false_eq_true, ↓reduceIte]
                refine Ev.bind b1 (Ev.bind (a := (((uB (qB s.Levels i) - 0 : Nat) : Int), 0)) l1 ?_)
                simp only [hn, f1, f2, Bool.false_eq_true, ↓reduceIte, Option.bind_some]
                refine Ev.bind (a := (uC (qB s.Levels i) j.Work.Shadow.Bottom n, (n : Int), 0)) t1 (Ev.bind x1 ?_)
                rw [qC k (by omega)]
                exact hr
              have p2 : ∀ r, Ev (fun fu => if (!x) = true then some (.inr ((k : Int), 6)) else yJ s (pB (lC s.Levels)) fu ((k + 1 : Nat) : Int)) r → Ev (fun fu => yJ s (pB (lC s.Levels)) fu (k : Int)) r := fun r hr => by
                refine Ev.succ ?_
                simp only [yJ, d1, ↓reduceIte, ixj, Option.bind_some, d2, Bool.false_eq_true, ixd, d3]
                simp only [hl]
                refine Ev.bind e2 ?_
                simp only [Bool.false_eq_true, ↓reduceIte]
                refine Ev.bind b2 (Ev.bind (a := (((uB (qB s.Levels i) - 0 : Nat) : Int), 0)) l2 ?_)
                simp only [hn, f1, f2, Bool.false_eq_true, ↓reduceIte, Option.bind_some]
                refine Ev.bind (a := (uC (qB s.Levels i) j.Work.Shadow.Bottom n, (n : Int), 0)) t2 (Ev.bind y1 ?_)
                rw [qC k (by omega)]
                exact hr
              cases x with
              | true =>
                have hw := x2.1 rfl
                refine .inr ⟨fun _ => ⟨hkd, ?_⟩, fun r hr => ⟨p1 r hr.1, p2 r hr.2⟩⟩
                rw [hjk, hik]
                refine ⟨fun hb => ?_, n, hnt, ?_⟩
                · have q := hcb.symm
                  rw [hb] at q
                  simpa using q
                · obtain ⟨jl, jw⟩ := j
                  simp only at hl hw
                  subst hl
                  show bB.mk (i : Int) jw = bB.mk (i : Int) (uC (qB s.Levels i) jw.Shadow.Bottom n)
                  rw [hw]
              | false =>
                refine .inl ⟨((k : Int), 6), bad _ (show (6 : Int) ≠ 0 by decide) (fun ⟨_, ok⟩ => ?_), p1 _ (Ev.ret _), p2 _ (Ev.ret _)⟩
                obtain ⟨n', hn', e⟩ := ok.at'
                rw [hik] at e
                have e3 : j.Work = uC (qB s.Levels i) j.Work.Shadow.Bottom n' := congrArg bB.Work e
                have e4 : j.Work.Steps = (n' : Int) := congrArg vB.Steps e3
                obtain rfl : n' = n := by omega
                have := x2.2 e3.symm
                cases this
            · have f3 : (if decide (j.Work.Steps < 0) = true then some true else some (decide (((uB (qB s.Levels i) - 0 : Nat) : Int) < j.Work.Steps))) = some true := by
                by_cases q : j.Work.Steps < 0
                · simp [q]
                · rw [if_neg (by simpa using q), decide_eq_true (by omega)]
              refine .inl ⟨((k : Int), 6), bad _ (show (6 : Int) ≠ 0 by decide) (fun ⟨_, ok⟩ => ?_), Ev.succ ?_, Ev.succ ?_⟩
              · obtain ⟨n', hn', e⟩ := ok.at'
                rw [hik] at e hn'
                have e3 : j.Work = uC (qB s.Levels i) j.Work.Shadow.Bottom n' := congrArg bB.Work e
                have e4 : j.Work.Steps = (n' : Int) := congrArg vB.Steps e3
                omega
              · simp only [kF, d1, ↓reduceIte, ixj, Option.bind_some, d2, Bool.false_eq_true, ixd, d3]
                simp only [hl, e1, Option.bind_some, Bool.false_eq_true, ↓reduceIte]
                refine Ev.bind b1 (Ev.bind (a := (((uB (qB s.Levels i) - 0 : Nat) : Int), 0)) l1 ?_)
                simp only [f3, Option.bind_some, ↓reduceIte]
                exact Ev.ret _
              · simp only [yJ, d1, ↓reduceIte, ixj, Option.bind_some, d2, Bool.false_eq_true, ixd, d3]
                simp only [hl]
                refine Ev.bind e2 ?_
                simp only [Bool.false_eq_true, ↓reduceIte]
                refine Ev.bind b2 (Ev.bind (a := (((uB (qB s.Levels i) - 0 : Nat) : Int), 0)) l2 ?_)
                simp only [f3, Option.bind_some, ↓reduceIte]
                exact Ev.ret _
        · have d3 : (!decide (j.Level = (i : Int))) = true := by rw [decide_eq_false hl]; rfl
          refine .inl ⟨((k : Int), 6), bad _ (show (6 : Int) ≠ 0 by decide) (fun ⟨_, ok⟩ => ?_), Ev.succ ?_, Ev.succ ?_⟩
          · obtain ⟨n', -, e⟩ := ok.at'
            rw [hik] at e
            exact hl (congrArg bB.Level e)
          · simp only [kF, d1, ↓reduceIte, ixj, Option.bind_some, d2, Bool.false_eq_true, ixd, d3]
            exact Ev.ret _
          · simp only [yJ, d1, ↓reduceIte, ixj, Option.bind_some, d2, Bool.false_eq_true, ixd, d3]
            exact Ev.ret _
      · have d2 : decide (((pB (lC s.Levels)).length : Int) ≤ (k : Int)) = true := decide_eq_true (by rw [gG]; omega)
        refine .inl ⟨((k : Int), 6), bad _ (show (6 : Int) ≠ 0 by decide) (fun ⟨h, _⟩ => hkd h), Ev.succ ?_, Ev.succ ?_⟩
        · simp only [kF, d1, ↓reduceIte, ixj, Option.bind_some, d2]
          exact Ev.ret _
        · simp only [yJ, d1, ↓reduceIte, ixj, Option.bind_some, d2]
          exact Ev.ret _)
  refine ⟨r, r1, ?_⟩
  rcases r2 with ⟨e, h⟩ | ⟨n, v, h1, h2, h3, -⟩
  · exact .inl ⟨e, h⟩
  · exact .inr ⟨n, v, h1, h2, h3⟩
theorem zfi (s : oB) (hs : cJ s.Levels) (hj : s.Jobs.length ≤ 1000) : ∃ r, Ev (fun fu => xK fu s) r ∧ Ev (fun fu => iQ fu s) r ∧
    ((r = (0, 0) ∧ zaa s ∧ Ev (fun fu => tH fu s.Levels) (0, 0, 0) ∧ Ev (fun fu => oK fu s.Levels) (0, 0, 0)) ∨ r.2 ≠ 0) ∧
    (zaa s → Ev (fun fu => tH fu s.Levels) (0, 0, 0) → r = (0, 0)) := by
  obtain ⟨c, c1, c2, c3⟩ := zd8 s.Levels hs
  unfold xK iQ yK
  rcases c3 with ⟨rfl, hg⟩ | hc
  · have g1 := zcp s.Levels hs
    have g2 := zkZ s.Levels hs c2
    obtain ⟨u1, u2⟩ := zea s.Levels hs.1
    by_cases n1 : s.NextId < 1 ∨ 1000001 < s.NextId
    · have e : (if decide (s.NextId < 1) = true then some true else some (decide (1000001 < s.NextId))) = some true := by
        rcases n1 with h | h
        · simp [h]
        · by_cases q : s.NextId < 1 <;> simp [q, h]
      refine ⟨(-1, 7), Ev.bind c1 ?_, Ev.bind c2 ?_, .inr (by decide), fun hr _ => ?_⟩
      · simp only [decide_true, Bool.not_true, Bool.false_eq_true, ↓reduceIte, e, Option.bind_some]; exact Ev.ret _
      · simp only [decide_true, Bool.not_true, Bool.false_eq_true, ↓reduceIte, e, Option.bind_some]; exact Ev.ret _
      · have := hr.next; omega
    · have e : (if decide (s.NextId < 1) = true then some true else some (decide (1000001 < s.NextId))) = some false := by
        rw [decide_eq_false (show ¬ s.NextId < 1 by omega), decide_eq_false (show ¬ 1000001 < s.NextId by omega)]; rfl
      by_cases n2 : s.NextId ≤ nE 0 (iF s.Levels.Levels)
      · refine ⟨(-1, 6), Ev.bind c1 ?_, Ev.bind c2 ?_, .inr (by decide), fun hr _ => ?_⟩
        · simp only [decide_true, Bool.not_true, Bool.false_eq_true, ↓reduceIte, e, Option.bind_some]
          refine Ev.bind g1 ?_
          simp only [decide_eq_true n2, ↓reduceIte]; exact Ev.ret _
        · simp only [decide_true, Bool.not_true, Bool.false_eq_true, ↓reduceIte, e, Option.bind_some]
          refine Ev.bind (a := true) (Ev.bind g2 ?_) ?_
          · simp only [decide_eq_true n2]; exact Ev.ret _
          · simp only [↓reduceIte]; exact Ev.ret _
        · have := hr.next; omega
      · obtain ⟨r, ⟨r1, r1'⟩, r2⟩ := zhJ s hs hj hg c2
        have p1 : ∀ v, Ev (fun fu => (kF s (pB (lC s.Levels)) fu 0).bind fun x48 => match x48 with | .inl _ => if decide ((s.Jobs.length : Int) < ((pB (lC s.Levels)).length : Int)) = true then some (-1, 4) else some (0, 0) | .inr y => some y) v → Ev (fun fu => (tH fu s.Levels).bind fun vr2 => if (!decide (vr2.2.2 = 0)) = true then some (-1, vr2.2.2) else (if decide (s.NextId < 1) = true then some true else some (decide (1000001 < s.NextId))).bind fun b4 => if b4 = true then some (-1, 7) else (gN fu s.Levels).bind fun vr7 => if decide (s.NextId ≤ vr7) = true then some (-1, 6) else (some (s.Levels.B, s.Levels.Levels)).bind fun vr9 => (qM fu vr9.1 vr9.2).bind fun vr10 => (kF s vr10 fu 0).bind fun x48 => match x48 with | .inl _ => if decide ((s.Jobs.length : Int) < (vr10.length : Int)) = true then some (-1, 4) else some (0, 0) | .inr y => some y) v := fun v hv => by
          refine Ev.bind c1 ?_
          simp only [decide_true, Bool.not_true, Bool.false_eq_true, ↓reduceIte, e, Option.bind_some]
          refine Ev.bind g1 ?_
          simp only [decide_eq_false n2, Bool.false_eq_true, ↓reduceIte]
          exact Ev.bind u1 hv
        have p2 : ∀ v, Ev (fun fu => (yJ s (pB (lC s.Levels)) fu 0).bind fun x48 => match x48 with | .inl _ => if decide ((s.Jobs.length : Int) < ((pB (lC s.Levels)).length : Int)) = true then some (-1, 4) else some (0, 0) | .inr y => some y) v → Ev (fun fu => iQ fu s) v := fun v hv => by
          unfold iQ
          refine Ev.bind c2 ?_
          simp only [decide_true, Bool.not_true, Bool.false_eq_true, ↓reduceIte, e, Option.bind_some]
          refine Ev.bind (a := false) (Ev.bind g2 ?_) ?_
          · simp only [decide_eq_false n2]; exact Ev.ret _
          · simp only [Bool.false_eq_true, ↓reduceIte]
            exact Ev.bind u2 hv
        unfold iQ at p2
        rcases r2 with ⟨rfl, h⟩ | ⟨k, v, hk, ⟨hv, hb⟩, rfl⟩
        · by_cases hlen : s.Jobs.length < (lC s.Levels).length
          · have d : decide ((s.Jobs.length : Int) < ((pB (lC s.Levels)).length : Int)) = true := decide_eq_true (by rw [gG]; omega)
            refine ⟨(-1, 4), p1 _ (Ev.bind r1 ?_), p2 _ (Ev.bind r1' ?_), .inr (by decide), fun hr _ => ?_⟩
            · simp only [d, ↓reduceIte]; exact Ev.ret _
            · simp only [d, ↓reduceIte]; exact Ev.ret _
            · have := hr.len; omega
          · have d : decide ((s.Jobs.length : Int) < ((pB (lC s.Levels)).length : Int)) = false := decide_eq_false (by rw [gG]; omega)
            have hl2 : s.Jobs.length = (lC s.Levels).length := by
              by_cases q : s.Jobs.length = 0
              · omega
              · obtain ⟨h2, -⟩ := h (s.Jobs.length - 1) (by omega) (by omega)
                omega
            refine ⟨(0, 0), p1 _ (Ev.bind r1 ?_), p2 _ (Ev.bind r1' ?_), .inl ⟨rfl, ⟨hg, ⟨by omega, by omega, by omega⟩, hl2, fun k h1 h2 => (h k h1 h1).2⟩, c1, c2⟩, fun _ _ => rfl⟩
            · simp only [d, Bool.false_eq_true, ↓reduceIte]; exact Ev.ret _
            · simp only [d, Bool.false_eq_true, ↓reduceIte]; exact Ev.ret _
        · refine ⟨v, p1 _ (Ev.bind r1 (Ev.ret _)), p2 _ (Ev.bind r1' (Ev.ret _)), .inr hv, fun hr _ => ?_⟩
          exact absurd ⟨by have := hr.len; omega, hr.job k hk (by have := hr.len; omega)⟩ (hb hk)
  · refine ⟨(-1, c.2.2), Ev.bind c1 ?_, Ev.bind c2 ?_, .inr hc, fun _ hl => ?_⟩
    · simp only [decide_eq_false hc, Bool.not_false, ↓reduceIte]; exact Ev.ret _
    · simp only [decide_eq_false hc, Bool.false_eq_true, ↓reduceIte, Option.bind_some, Bool.not_false]; exact Ev.ret _
    · have := Ev.uniq c1 hl; rw [this] at hc; exact absurd rfl hc
structure vF (s : oB) (level : Int) (k i : Nat) (b : Bool) (n : Nat) : Prop where
  due : (lC s.Levels)[k]? = some i
  lev : level = (i : Int)
  le : n ≤ uB (qB s.Levels i)
  job : s.Jobs[k]? = some (xG s.Levels i b n)
  low : b = true → tE s.Levels i = true
structure mI (s : oB) : Prop where
  small : cJ s.Levels
  few : s.Jobs.length ≤ 1000
  right : zaa s
  lc : Ev (fun fu => tH fu s.Levels) (0, 0, 0)
  rlc : Ev (fun fu => oK fu s.Levels) (0, 0, 0)
theorem mI.check {s : oB} (h : mI s) : Ev (fun fu => xK fu s) (0, 0) ∧ Ev (fun fu => iQ fu s) (0, 0) := by
  obtain ⟨r, r1, r2, -, r4⟩ := zfi s h.small h.few
  rw [r4 h.right h.lc] at r1 r2
  exact ⟨r1, r2⟩
theorem vF.hk {s : oB} {level : Int} {k i n : Nat} {b : Bool} (w : vF s level k i b n) : k < s.Jobs.length := (List.getElem?_eq_some_iff.1 w.job).1
theorem vF.h2 {s : oB} {level : Int} {k i n : Nat} {b : Bool} (w : vF s level k i b n) : k < (lC s.Levels).length := (List.getElem?_eq_some_iff.1 w.due).1
theorem vF.at' {s : oB} {level : Int} {k i n : Nat} {b : Bool} (w : vF s level k i b n) : ∃ hi : i < s.Levels.Levels.length, s.Levels.Levels[i].Runs.length = 2 := by
  obtain ⟨h, e⟩ := List.getElem?_eq_some_iff.1 w.due
  have := zbG s.Levels k h
  rw [e] at this; exact this
theorem vF.good {s : oB} {level : Int} {k i n : Nat} {b : Bool} (h : mI s) (w : vF s level k i b n) : xC (qB s.Levels i) ∧ jJ (qB s.Levels i) := by
  obtain ⟨q1, q2⟩ := w.at'
  exact zaj s.Levels h.small h.right.lev _ q1 q2
theorem zkb {s : oB} (h : mI s) (k : Nat) (hk : k < s.Jobs.length) : ∃ (i : Nat) (b : Bool) (n : Nat), vF s (i : Int) k i b n := by
  have h2 : k < (lC s.Levels).length := by have := h.right.len; omega
  obtain ⟨hl, n, hn, e⟩ := h.right.job k hk h2
  exact ⟨_, _, n, List.getElem?_eq_getElem h2, rfl, hn, by rw [List.getElem?_eq_getElem hk]; exact congrArg some e, hl⟩
theorem zjj {s : oB} (h : mI s) : Ev (fun fu => zdo fu s) (pB (lC s.Levels), 0) ∧ Ev (fun fu => zaX fu s) (pB (lC s.Levels), 0) := by
  obtain ⟨c1, c2⟩ := h.check
  obtain ⟨u1, u2⟩ := zea s.Levels h.small.1
  constructor
  · unfold zdo yK
    refine Ev.bind c1 ?_
    simp only [decide_true, Bool.not_true, Bool.false_eq_true, ↓reduceIte, Option.bind_some]
    exact Ev.bind u1 (Ev.ret _)
  · unfold zaX
    refine Ev.bind c2 ?_
    simp only [decide_true, Bool.not_true, Bool.false_eq_true, ↓reduceIte]
    exact Ev.bind u2 (Ev.ret _)
theorem zeB {s : oB} (h : mI s) (level : Int) :
    (∃ k i b n, vF s level k i b n ∧ Ev (fun fu => bH fu s level) ((k : Int), 0) ∧ Ev (fun fu => cP fu s level) ((k : Int), 0)) ∨
    (Ev (fun fu => bH fu s level) (0, 4) ∧ Ev (fun fu => cP fu s level) (0, 4)) := by
  obtain ⟨c1, c2⟩ := h.check
  obtain ⟨-, p2⟩ := zjj h
  have hlen := h.right.len
  have hfew := h.few
  obtain ⟨r, ⟨r1, r1'⟩, r2⟩ := gO (β := Int) (fun n r => Ev (fun fu => iG s.Jobs level fu (n : Int)) r ∧ Ev (fun fu => oT (pB (lC s.Levels), 0) level fu (n : Int)) (Sum.map id (fun v => (v, (0 : Int))) r)) s.Jobs.length
    (fun _ => True) (fun k v => v = (k : Int) ∧ ∃ h2 : k < (lC s.Levels).length, level = (((lC s.Levels)[k] : Nat) : Int))
    ⟨Ev.succ (Ev.of (fun fu => by simp [iG]) (Ev.ret _)), Ev.succ (Ev.of (fun fu => by simp [oT, gG, hlen]) (Ev.ret _))⟩
    (fun k hk => by
      have h2 : k < (lC s.Levels).length := by omega
      have d1 : decide ((k : Int) < (s.Jobs.length : Int)) = true := decide_eq_true (by omega)
      have d2 : decide ((k : Int) < ((pB (lC s.Levels)).length : Int)) = true := decide_eq_true (by rw [gG]; omega)
      obtain ⟨n, -, e⟩ := (h.right.job k hk h2).at'
      have hl : s.Jobs[k].Level = (((lC s.Levels)[k] : Nat) : Int) := by rw [e]; rfl
      by_cases q : (((lC s.Levels)[k] : Nat) : Int) = level
      · refine .inl ⟨(k : Int), ⟨rfl, h2, q.symm⟩, Ev.succ ?_, Ev.succ ?_⟩
        · simp only [iG, d1, ↓reduceIte, xA s.Jobs k hk, Option.bind_some, zM, hl, decide_eq_true q]
          exact Ev.ret _
        · simp only [oT, d2, ↓reduceIte, gF (lC s.Levels) k h2, Option.bind_some, decide_eq_true q]
          exact Ev.ret _
      · refine .inr ⟨trivial, fun r hr => ⟨Ev.succ ?_, Ev.succ ?_⟩⟩
        · simp only [iG, d1, ↓reduceIte, xA s.Jobs k hk, Option.bind_some, zM, hl, decide_eq_false q, Bool.false_eq_true, qC k (show k < 9223372036854775807 by omega)]
          exact hr.1
        · simp only [oT, d2, ↓reduceIte, gF (lC s.Levels) k h2, Option.bind_some, decide_eq_false q, Bool.false_eq_true, qC k (show k < 9223372036854775807 by omega)]
          exact hr.2)
  rcases r2 with ⟨rfl, -⟩ | ⟨k, v, hk, ⟨rfl, h2, hl⟩, rfl, -⟩
  · right
    constructor
    · unfold bH qO kM
      refine Ev.bind c1 ?_
      simp only [decide_true, Bool.not_true, Bool.false_eq_true, ↓reduceIte]
      refine Ev.bind (a := (0, 4)) (Ev.bind (a := -1) (Ev.bind r1 (Ev.ret _)) ?_) (Ev.ret _)
      exact Ev.ret _
    · unfold cP
      refine Ev.bind p2 ?_
      simp only [decide_true, Bool.not_true, Bool.false_eq_true, ↓reduceIte]
      exact Ev.bind r1' (Ev.ret _)
  · left
    obtain ⟨i, b, n, w⟩ := zkb h k hk
    have hl' : level = (i : Int) := by
      have := w.due
      rw [List.getElem?_eq_getElem h2] at this
      rw [hl, Option.some.inj this]
    refine ⟨k, i, b, n, ⟨w.due, hl', w.le, w.job, w.low⟩, ?_, ?_⟩
    · unfold bH qO kM
      refine Ev.bind c1 ?_
      simp only [decide_true, Bool.not_true, Bool.false_eq_true, ↓reduceIte]
      refine Ev.bind (a := ((k : Int), 0)) (Ev.bind (a := (k : Int)) (Ev.bind r1 (Ev.ret _)) ?_) (Ev.ret _)
      simp only [decide_eq_false (show ¬ (k : Int) < 0 by omega), Bool.false_eq_true, ↓reduceIte]
      exact Ev.ret _
    · unfold cP
      refine Ev.bind p2 ?_
      simp only [decide_true, Bool.not_true, Bool.false_eq_true, ↓reduceIte]
      exact Ev.bind r1' (Ev.ret _)
theorem vF.uniq {s : oB} {level : Int} {k i n k' i' n' : Nat} {b b' : Bool} (w : vF s level k i b n) (w' : vF s level k' i' b' n') : k = k' ∧ i = i' ∧ b = b' ∧ n = n' := by
  have e := w.lev.symm.trans w'.lev
  obtain rfl : i = i' := by omega
  obtain ⟨h, e1⟩ := List.getElem?_eq_some_iff.1 w.due
  obtain ⟨h', e1'⟩ := List.getElem?_eq_some_iff.1 w'.due
  obtain rfl : k = k' := zhF s.Levels k k' h h' (e1.trans e1'.symm)
  have e2 := Option.some.inj (w.job.symm.trans w'.job)
  have e3 : (n : Int) = (n' : Int) := congrArg (fun j => j.Work.Steps) e2
  have e4 : b = b' := congrArg (fun j => j.Work.Shadow.Bottom) e2
  exact ⟨rfl, rfl, e4, by omega⟩
theorem zaw {s : oB} (h : mI s) {level : Int} {k i n : Nat} {b : Bool} (w : vF s level k i b n) : Ev (fun fu => bH fu s level) ((k : Int), 0) ∧ Ev (fun fu => cP fu s level) ((k : Int), 0) := by
  obtain ⟨c1, c2⟩ := h.check
  rcases zeB h level with ⟨k', i', b', n', w', f1, f2⟩ | ⟨f1, f2⟩
  · obtain ⟨rfl, -⟩ := w.uniq w'
    exact ⟨f1, f2⟩
  · exfalso
    have hlen := h.right.len
    have hfew := h.few
    have : Ev (fun fu => kM fu s.Jobs level) (-1) ∨ True := .inr trivial
    obtain ⟨r, r1, r2⟩ := gO (β := Int) (fun n r => Ev (fun fu => iG s.Jobs level fu (n : Int)) r) s.Jobs.length
      (fun i => ∀ hi : i < s.Jobs.length, s.Jobs[i].Level ≠ level) (fun i v => v = (i : Int))
      (Ev.succ (Ev.of (fun fu => by simp [iG]) (Ev.ret _)))
      (fun i hi => by
        have d1 : decide ((i : Int) < (s.Jobs.length : Int)) = true := decide_eq_true (by omega)
        by_cases q : s.Jobs[i].Level = level
        · refine .inl ⟨(i : Int), rfl, Ev.succ ?_⟩
          simp only [iG, d1, ↓reduceIte, xA s.Jobs i hi, Option.bind_some, zM, decide_eq_true q]
          exact Ev.ret _
        · refine .inr ⟨fun _ => q, fun r hr => Ev.succ ?_⟩
          simp only [iG, d1, ↓reduceIte, xA s.Jobs i hi, Option.bind_some, zM, decide_eq_false q, Bool.false_eq_true, qC i (show i < 9223372036854775807 by omega)]
          exact hr)
    rcases r2 with ⟨rfl, hq⟩ | ⟨i, v, hi, rfl, rfl, -⟩
    · refine hq k w.hk w.hk ?_
      rw [(List.getElem?_eq_some_iff.1 w.job).2, w.lev]; rfl
    · have f : Ev (fun fu => bH fu s level) ((i : Int), 0) := by
        unfold bH qO kM
        refine Ev.bind c1 ?_
        simp only [decide_true, Bool.not_true, Bool.false_eq_true, ↓reduceIte]
        refine Ev.bind (a := ((i : Int), 0)) (Ev.bind (a := (i : Int)) (Ev.bind r1 (Ev.ret _)) ?_) (Ev.ret _)
        simp only [decide_eq_false (show ¬ (i : Int) < 0 by omega), Bool.false_eq_true, ↓reduceIte]
        exact Ev.ret _
      have := congrArg Prod.snd (Ev.uniq f f1)
      exact absurd this (show ¬ (0 : Int) = 4 by decide)
theorem zei {s : oB} (h : mI s) {level : Int} {k i n : Nat} {b : Bool} (w : vF s level k i b n) : Ev (fun fu => mJ fu s level) (((uB (qB s.Levels i) - n : Nat) : Int), 0) ∧ Ev (fun fu => xV fu s level) (((uB (qB s.Levels i) - n : Nat) : Int), 0) := by
  obtain ⟨f1, f2⟩ := zaw h w
  obtain ⟨hg, hsn⟩ := w.good h
  obtain ⟨l1, l2⟩ := kY _ b n hsn hg w.le
  have ixk : ix s.Jobs (k : Int) = some (xG s.Levels i b n) := by rw [oS]; exact w.job
  constructor
  · unfold mJ
    refine Ev.bind f1 ?_
    simp only [decide_true, Bool.not_true, Bool.false_eq_true, ↓reduceIte, ixk, Option.bind_some]
    exact Ev.bind (a := (((uB (qB s.Levels i) - n : Nat) : Int), 0)) l1 (Ev.ret _)
  · unfold xV
    refine Ev.bind f2 ?_
    simp only [decide_true, Bool.not_true, Bool.false_eq_true, ↓reduceIte, ixk, Option.bind_some]
    exact Ev.bind (a := (((uB (qB s.Levels i) - n : Nat) : Int), 0)) l2 (Ev.ret _)
theorem zhK {s : oB} {e : Int} (he : e ≠ 0) (level : Int) (f1 : Ev (fun fu => bH fu s level) (0, e)) (f2 : Ev (fun fu => cP fu s level) (0, e)) : Ev (fun fu => mJ fu s level) (0, e) ∧ Ev (fun fu => xV fu s level) (0, e) := by
  constructor
  · unfold mJ
    refine Ev.bind f1 ?_
    simp only [decide_eq_false he, Bool.not_false, ↓reduceIte]
    exact Ev.ret _
  · unfold xV
    refine Ev.bind f2 ?_
    simp only [decide_eq_false he, Bool.not_false, ↓reduceIte]
    exact Ev.ret _
def iS (s : oB) (k i : Nat) (b : Bool) (n : Nat) : oB := ⟨s.Levels, s.Jobs.set k (xG s.Levels i b n), s.NextId⟩
theorem zch {s : oB} (h : mI s) {level : Int} {k i n : Nat} {b : Bool} (w : vF s level k i b n) (m : Nat) (hm : m ≤ uB (qB s.Levels i)) : mI (iS s k i b m) ∧ vF (iS s k i b m) level k i b m := by
  have hk := w.hk
  obtain ⟨h2, hd⟩ := List.getElem?_eq_some_iff.1 w.due
  refine ⟨⟨h.small, by show (s.Jobs.set k _).length ≤ 1000; rw [List.length_set]; exact h.few, ⟨h.right.lev, h.right.next, ?_, ?_⟩, h.lc, h.rlc⟩, ⟨w.due, w.lev, hm, ?_, w.low⟩⟩
  · show (s.Jobs.set k _).length = _; rw [List.length_set]; exact h.right.len
  · intro j h1 h3
    have h1' : j < s.Jobs.length := by
      have : j < (s.Jobs.set k (xG s.Levels i b m)).length := h1
      rwa [List.length_set] at this
    have e : (iS s k i b m).Jobs[j] = if k = j then xG s.Levels i b m else s.Jobs[j] := by
      show (s.Jobs.set k (xG s.Levels i b m))[j]'(by rw [List.length_set]; exact h1') = _
      exact List.getElem_set ..
    rw [e]
    split
    · rename_i e2; subst e2
      have ok : fO s.Levels i (xG s.Levels i b m) := ⟨fun hb => w.low hb, m, hm, rfl⟩
      rw [← hd] at ok ⊢
      rw [hd] at ok ⊢
      exact hd ▸ ok
    · exact h.right.job j h1' h3
  · show (s.Jobs.set k _)[k]? = _
    exact List.getElem?_set_self hk
theorem zbH {s : oB} (h : mI s) {level : Int} {k i n : Nat} {b : Bool} (w : vF s level k i b n) (q : Nat) (hlt : n < uB (qB s.Levels i)) :
    Ev (fun fu => mL fu s level (q : Int)) (iS s k i b (n + used (qB s.Levels i) n q), (used (qB s.Levels i) n q : Int), 0) ∧
    Ev (fun fu => zcd fu s level (q : Int)) (iS s k i b (n + used (qB s.Levels i) n q), (used (qB s.Levels i) n q : Int), 0) := by
  obtain ⟨c1, c2⟩ := h.check
  obtain ⟨f1, f2⟩ := zaw h w
  obtain ⟨-, rl⟩ := zei h w
  obtain ⟨hg, hsn⟩ := w.good h
  obtain ⟨l1, l2⟩ := kY _ b n hsn hg w.le
  obtain ⟨t1, t2⟩ := zez _ b n q hsn hg w.le
  have ixk : ix s.Jobs (k : Int) = some (xG s.Levels i b n) := by rw [oS]; exact w.job
  have d1 : decide ((q : Int) < 0) = false := decide_eq_false (by omega)
  have d2 : decide (((uB (qB s.Levels i) - n : Nat) : Int) = 0) = false := decide_eq_false (by omega)
  have hne : s.Jobs.isEmpty = false := by
    cases hj : s.Jobs with
    | nil => have := w.hk; rw [hj] at this; simp at this
    | cons => rfl
  have g : 2 * ((0 + s.Jobs.length) * 176) ≤ 281474976710656 := by have := h.few; omega
  constructor
  · unfold mL
    refine Ev.bind c1 ?_
    simp only [decide_true, Bool.not_true, Bool.false_eq_true, ↓reduceIte, d1]
    refine Ev.bind f1 ?_
    simp only [decide_true, Bool.not_true, Bool.false_eq_true, ↓reduceIte, ixk, Option.bind_some]
    refine Ev.bind (a := (((uB (qB s.Levels i) - n : Nat) : Int), 0)) l1 ?_
    simp only [d2, Bool.false_eq_true, ↓reduceIte]
    refine Ev.bind (a := (uC (qB s.Levels i) b (n + used (qB s.Levels i) n q), (used (qB s.Levels i) n q : Int), 0)) t1 ?_
    simp only [decide_true, Bool.not_true, Bool.false_eq_true, ↓reduceIte, yR, hne, if_pos g, Option.bind_some, ixk, Int.toNat_natCast]
    exact Ev.ret _
  · unfold zcd
    refine Ev.bind c2 ?_
    simp only [decide_true, ↓reduceIte, d1, Option.bind_some, Bool.false_eq_true, Bool.not_true]
    refine Ev.bind rl ?_
    simp only [decide_true, ↓reduceIte, d2, Option.bind_some, Bool.false_eq_true, Bool.not_true]
    refine Ev.bind f2 ?_
    simp only [ixk, Option.bind_some]
    refine Ev.bind (a := (uC (qB s.Levels i) b (n + used (qB s.Levels i) n q), (used (qB s.Levels i) n q : Int), 0)) t2 ?_
    simp only [if_pos g, Int.toNat_natCast]
    rw [w.lev]
    exact Ev.ret _
theorem zjD : zH 40 = some true := by kernel_rfl
theorem zV : Ev (fun fu => zH fu) true := Ev.mono (n := 40) (fun fu => ze1 fu) zjD
theorem noneE {β : Type} {L : Nat → Int → Option (Sum Unit β)} (len : Nat) (stop : Ev (fun fu => L fu (len : Int)) (.inl ())) (step : ∀ n, n < len → ∀ r, Ev (fun fu => L fu ((n + 1 : Nat) : Int)) r → Ev (fun fu => L fu (n : Int)) r) : Ev (fun fu => L fu 0) (.inl ()) := by
  obtain ⟨r, r1, r2⟩ := gO (β := β) (fun n r => Ev (fun fu => L fu (n : Int)) r) len (fun _ => True) (fun _ _ => False) stop (fun n hn => .inr ⟨trivial, step n hn⟩)
  rcases r2 with ⟨rfl, -⟩ | ⟨_, _, _, h, _⟩
  · exact r1
  · exact h.elim
theorem zoo (l : List aA) (hl : l.length ≤ 1000000) : Ev (fun fu => qN fu l l) true := by
  have : Ev (fun fu => jN l l fu 0) (.inl ()) := noneE l.length
    (Ev.succ (Ev.of (fun fu => by simp [jN]) (Ev.ret _)))
    (fun n hn r hr => Ev.succ (by
      have d : decide ((n : Int) < (l.length : Int)) = true := decide_eq_true (by omega)
      simp only [jN, d, ↓reduceIte, Option.bind_some, xA l n hn, oW, decide_true, Bool.not_true, Bool.false_eq_true, qC n (show n < 9223372036854775807 by omega)]
      exact hr))
  unfold qN
  exact Ev.bind this (Ev.of (fun fu => by simp) (Ev.ret _))
theorem zfI (l : yA) (hs : cJ l) (hg : uO l) (c1 : Ev (fun fu => tH fu l) (0, 0, 0)) (c2 : Ev (fun fu => oK fu l) (0, 0, 0)) : mI ⟨l, cK l, nE 0 (iF l.Levels) + 1⟩ := by
  have h1 := jZ (iF l.Levels) 0
  have h2 := zbE 1000000 (iF l.Levels) 0 (by decide) (zdv l hg)
  have hl := zdP l.Levels 0
  have h14 := hs.1
  refine ⟨hs, ?_, ⟨hg, ⟨by show 1 ≤ _ + 1; omega, by show _ + 1 ≤ _; omega, by show nE 0 (iF l.Levels) < nE 0 (iF l.Levels) + 1; omega⟩, ?_, fun k h h2 => ?_⟩, c1, c2⟩
  · show (cK l).length ≤ 1000
    simp only [cK, List.length_map]
    show (yE 0 l.Levels).length ≤ 1000
    omega
  · show (cK l).length = _
    simp [cK]
  · have e : (cK l)[k]'h = xG l (lC l)[k] (tE l (lC l)[k]) 0 := by simp [cK]
    show fO l (lC l)[k] ((cK l)[k]'h)
    rw [e]
    exact ⟨fun hb => hb, 0, Nat.zero_le _, rfl⟩
theorem zmI (l : yA) (level : Int) (k i : Nat) (b : Bool) (cuts : List Int) (hc : ∀ e ∈ cuts, 0 ≤ e ∧ e ≤ 255) (hl : cuts.length ≤ 70) (m : Nat) : ∀ (c n : Nat) (s : oB), c + m = cuts.length → s.Levels = l → mI s → n ≤ uB (qB l i) → vF s level k i b (uB (qB l i) - n) →
    ∃ (n' : Nat) (s' : oB), s'.Levels = l ∧ mI s' ∧ n' ≤ uB (qB l i) ∧ vF s' level k i b (uB (qB l i) - n') ∧
      Ev (fun fu => dL cuts level fu (n : Int) (c : Int) s.Levels.B s.Levels.Levels s.Jobs s.NextId) (.inl ((n' : Int), s'.Levels.B, s'.Levels.Levels, s'.Jobs, s'.NextId)) := by
  induction m with
  | zero =>
    intro c n s hcm hsl hch hn w
    obtain rfl : c = cuts.length := by omega
    exact ⟨n, s, hsl, hch, hn, w, Ev.succ (Ev.of (fun fu => by simp [dL]) (Ev.ret _))⟩
  | succ m ih =>
    intro c n s hcm hsl hch hn w
    have hcl : c < cuts.length := by omega
    have d1 : decide ((c : Int) < (cuts.length : Int)) = true := decide_eq_true (by omega)
    by_cases hz : n = 0
    · subst hz
      exact ⟨0, s, hsl, hch, hn, w, Ev.succ (Ev.of (fun fu => by simp only [dL, d1, ↓reduceIte, Option.bind_some]; rfl) (Ev.ret _))⟩
    · have d2 : decide ((0 : Int) < (n : Int)) = true := decide_eq_true (by omega)
      obtain ⟨v, hv, hv2⟩ : ∃ v : Nat, cuts[c] = (v : Int) ∧ v ≤ 255 := by
        have := hc _ (List.getElem_mem hcl)
        exact ⟨cuts[c].toNat, by omega, by omega⟩
      have ht : IntKind.i64.wrap (cuts[c].tmod 5) = ((v % 5 : Nat) : Int) := by
        have e : (v : Int).tmod 5 = ((v % 5 : Nat) : Int) := (Int.ofNat_tmod v 5).symm
        rw [hv, e]; exact wr (by omega) (by omega)
      obtain ⟨hg, hsn⟩ := w.good hch
      have h120 := hsn.few hg
      have w0 := w
      rw [hsl] at hg hsn h120
      obtain ⟨rd, -⟩ := zbH hch w (v % 5) (by rw [hsl]; omega)
      have hu : used (qB s.Levels i) (uB (qB l i) - n) (v % 5) = min (v % 5) n := by
        unfold used; rw [hsl, show uB (qB l i) - (uB (qB l i) - n) = n by omega]
      rw [hu] at rd
      obtain ⟨ct, wt⟩ := zch hch w (uB (qB l i) - n + min (v % 5) n) (by rw [hsl]; omega)
      have e1 : uB (qB l i) - n + min (v % 5) n = uB (qB l i) - (n - min (v % 5) n) := by omega
      obtain ⟨n', s', q1, q2, q3, q4, q5⟩ := ih (c + 1) (n - min (v % 5) n) (iS s k i b (uB (qB l i) - n + min (v % 5) n)) (by omega) hsl ct (by omega) (by rw [← e1]; exact wt)
      refine ⟨n', s', q1, q2, q3, q4, Ev.succ ?_⟩
      have hmin : (if (n : Int) < ((v % 5 : Nat) : Int) then (n : Int) else ((v % 5 : Nat) : Int)) = ((min (v % 5) n : Nat) : Int) := by split <;> omega
      have w3 : IntKind.i64.wrap ((n : Int) - ((min (v % 5) n : Nat) : Int)) = ((n - min (v % 5) n : Nat) : Int) := by rw [wr (by omega) (by omega)]; omega
      simp only [dL, d1, d2, ↓reduceIte, Option.bind_some, xA cuts c hcl, ht, hmin]
      refine Ev.bind rd ?_
      simp only [decide_true, Bool.not_true, Bool.false_eq_true, ↓reduceIte, Option.bind_some, w3, qC c (show c < 9223372036854775807 by omega)]
      exact q5
theorem zg4 (l : yA) (level : Int) (cuts : List Int) (hc : ∀ e ∈ cuts, 0 ≤ e ∧ e ≤ 255) : Ev (fun fu => mY fu l level cuts) true := by
  obtain ⟨f, f1, f2⟩ := zfv l
  unfold mY
  refine Ev.bind f1 ?_
  cases f with
  | true => exact Ev.bind (a := true) (Ev.ret _) (Ev.bind zV (Ev.ret _))
  | false =>
    have hs := f2 rfl
    simp only [Bool.false_eq_true, ↓reduceIte, Option.bind_some]
    by_cases h70 : 70 < cuts.length
    · have d : decide ((70 : Int) < (cuts.length : Int)) = true := decide_eq_true (by omega)
      simp only [d, ↓reduceIte]
      exact Ev.bind zV (Ev.ret _)
    · have d : decide ((70 : Int) < (cuts.length : Int)) = false := decide_eq_false (by omega)
      simp only [d, Bool.false_eq_true, ↓reduceIte]
      obtain ⟨r, c1, c2, c3⟩ := zd8 l hs
      rcases c3 with ⟨rfl, hg⟩ | hr
      · have ch := zfI l hs hg c1 c2
        refine Ev.bind (of_ev l hs hg c1) ?_
        simp only [decide_true, Bool.not_true, Bool.false_eq_true, ↓reduceIte]
        rcases zeB ch level with ⟨k, i, b, n, w, -, -⟩ | ⟨g1, g2⟩
        ·
          have hjob : (cK l)[k]? = some (xG l i (tE l i) 0) := by
            have hd : (lC l)[k]? = some i := w.due
            simp only [cK, List.getElem?_map, hd, Option.map_some]
          have e2 := Option.some.inj (w.job.symm.trans hjob)
          obtain rfl : n = 0 := by
            have e3 : (n : Int) = ((0 : Nat) : Int) := congrArg (fun j => j.Work.Steps) e2
            omega
          obtain rfl : b = tE l i := congrArg (fun j => j.Work.Shadow.Bottom) e2
          obtain ⟨hi, h2⟩ := w.at'
          obtain ⟨x, y, exy⟩ := zbs _ h2
          have hi' : i < l.Levels.length := hi
          have exy' : l.Levels[i].Runs = [x, y] := exy
          obtain ⟨hgr, hsn⟩ := w.good ch
          have hgr : xC (qB l i) := hgr
          have hsn : jJ (qB l i) := hsn
          have h120 := hsn.few hgr
          have er : qB l i = [y.Entries, x.Entries] := by rw [zbh l i hi']; unfold tV; rw [exy']
          obtain ⟨l1, -⟩ := zei ch w
          have l1 : Ev (fun fu => mJ fu ⟨l, cK l, nE 0 (iF l.Levels) + 1⟩ level) (((uB (qB l i) - 0 : Nat) : Int), 0) := l1
          have hlev := w.lev
          refine Ev.bind l1 ?_
          have i1 : ix l.Levels[i].Runs 1 = some y := by rw [exy']; rfl
          have i0 : ix l.Levels[i].Runs 0 = some x := by rw [exy']; rfl
          have ixl : ix l.Levels level = some l.Levels[i] := by rw [hlev]; exact xA l.Levels i hi'
          simp only [decide_true, Bool.not_true, Bool.false_eq_true, ↓reduceIte, ixl, Option.bind_some, i1, i0]
          obtain ⟨-, al⟩ := zbd (qB l i) hsn.near hgr
          have al' := al
          rw [er] at al'
          have hal := wP (qB l i)
          have hlow : decide ((l.Levels.length : Int) = IntKind.i64.wrap (level + 1)) = tE l i := by
            have h14 := hs.1
            rw [hlev, qC i (by omega)]
            unfold tE
            exact decide_eq_decide.2 (by omega)
          have hfl := zdu (yB (qB l i)) (tE l i) (by omega) (zda (qB l i) hgr)
          refine Ev.bind (a := (yB (qB l i), allF (qB l i), 0)) (by rw [er]; exact al') ?_
          rw [hlow]
          refine Ev.bind hfl ?_
          have dl : decide (((uB (qB l i) - 0 : Nat) : Int) = ((yB (qB l i)).length : Int)) = true := decide_eq_true (by omega)
          simp only [decide_true, Bool.not_true, Bool.false_eq_true, ↓reduceIte, Option.bind_some, dl]
          have w' : vF ⟨l, cK l, nE 0 (iF l.Levels) + 1⟩ level k i (tE l i) (uB (qB l i) - uB (qB l i)) := by rw [Nat.sub_self]; exact w
          obtain ⟨n', s', q1, q2, q3, q4, q5⟩ := zmI l level k i (tE l i) cuts hc (by omega) cuts.length 0 (uB (qB l i)) _ (by omega) rfl ch (Nat.le_refl _) w'
          refine Ev.bind q5 ?_
          have hout : ∀ (t : oB), t.Levels = l → mI t → vF t level k i (tE l i) (uB (qB l i)) → Ev (fun fu => (bH fu t level).bind fun vr69 => (if decide (vr69.2 = 0) = true then some (decide (vr69.1 < (t.Jobs.length : Int))) else some false).bind fun b70 => (if b70 = true then (ix t.Jobs vr69.1).bind fun e71 => (qN fu e71.Work.Out (wG (tE l i) (yB (qB l i)))).bind fun vr72 => some vr72 else some false).bind fun b73 => (if b73 = true then (zH fu).bind fun vr74 => some vr74 else some false).bind fun b75 => some b75) true := fun t htl hct wt => by
            obtain ⟨fk, -⟩ := zaw hct wt
            have hk := wt.hk
            have dk : decide ((k : Int) < (t.Jobs.length : Int)) = true := decide_eq_true (by omega)
            have ixk : ix t.Jobs (k : Int) = some (xG t.Levels i (tE l i) (uB (qB l i))) := by rw [oS]; exact wt.job
            have eo : (xG t.Levels i (tE l i) (uB (qB l i))).Work.Out = wG (tE l i) (yB (qB l i)) := by
              show wG (tE l i) ((yB (qB t.Levels i)).take (uB (qB l i))) = _
              rw [htl, zem]
            have hkl := zam (qB l i) (tE l i) (uB (qB l i)) (Nat.le_refl _)
            rw [zem] at hkl
            refine Ev.bind fk ?_
            simp only [decide_true, ↓reduceIte, dk, Option.bind_some, ixk]
            refine Ev.bind (a := true) (Ev.bind (a := true) ?_ (Ev.ret _)) ?_
            · rw [eo]; exact zoo _ (by omega)
            · simp only [↓reduceIte]
              exact Ev.bind (Ev.bind zV (Ev.ret _)) (Ev.ret _)
          by_cases hn : 0 < n'
          · have dn : decide ((0 : Int) < (n' : Int)) = true := decide_eq_true (by omega)
            have w3 : IntKind.i64.wrap ((n' : Int) + 3) = ((n' + 3 : Nat) : Int) := by rw [wr (by omega) (by omega)]; omega
            obtain ⟨rd, -⟩ := zbH q2 q4 (n' + 3) (by rw [q1]; omega)
            have hu : used (qB s'.Levels i) (uB (qB l i) - n') (n' + 3) = n' := by
              unfold used; rw [q1]; omega
            rw [hu] at rd
            obtain ⟨ct, wt⟩ := zch q2 q4 (uB (qB l i) - n' + n') (by rw [q1]; omega)
            have e5 : uB (qB l i) - n' + n' = uB (qB l i) := by omega
            rw [e5] at rd ct wt
            simp only [dn, ↓reduceIte, w3]
            refine Ev.bind rd ?_
            simp only [decide_true, Bool.not_true, Bool.false_eq_true, ↓reduceIte, Option.bind_some]
            exact hout _ q1 ct wt
          · have dn : decide ((0 : Int) < (n' : Int)) = false := decide_eq_false (by omega)
            simp only [dn, Bool.false_eq_true, ↓reduceIte]
            obtain rfl : n' = 0 := by omega
            exact hout s' q1 q2 q4
        · obtain ⟨l1, -⟩ := zhK (by decide) level g1 g2
          refine Ev.bind l1 ?_
          simp only [decide_eq_false (show ¬ (4 : Int) = 0 by decide), Bool.not_false, ↓reduceIte]
          exact Ev.bind zV (Ev.ret _)
      · refine Ev.bind (of_no l r c1 hr) ?_
        simp only [decide_eq_false hr, Bool.not_false, ↓reduceIte]
        exact Ev.bind zV (Ev.ret _)
end Go.T
end
section
namespace Go.T
open Go Go.AM Go.Proofs
set_option maxRecDepth 100000
set_option maxHeartbeats 4000000
set_option linter.unusedVariables false
theorem zeY {fu : Nat} {l1 : List aA} {r : Bool} (h0 : yV fu l1 = some r) : jB Try.prog 38 [.psl 4 (l1.map aA.enc)] (.bool r) [] := by
 refine tB Try.func38 rfl (by decide) rL ?_
 dsimp only [Try.f38]
 rw [yV] at h0
 refine (show pA _ _ _ _ ⟨iB 0 _, [], 0, []⟩ from ?_)
 refine xS 8 [0] ?_
 refine kA ?_
 refine xS 16 [0, 3] ?_
 obtain ⟨x17, hxx17, h0⟩ := fA h0
 refine sD (fun s' => ∃ o26 : Unit, x17 = .inl o26 ∧ s'.nx ≤ 80 ∧ LeN [] s' ⟨[(0, .psl 4 (List.map aA.enc l1))], [], 80, []⟩) ?_ ?_
 ·
  intro s' hs
  obtain ⟨o26, rfl, hn, hs⟩ := hs
  refine iA ?_
  refine dC [] hn hs ?_
  refine xS 112 [2] ?_
  refine jA ?_
  obtain rfl := Option.some.inj h0
  refine mA [] ?_
  exact rG
 ·
  refine oD (ι := { p : Nat × Int // xJ l1 p.1 p.2 = some x17 }) (fun p => ⟨[(0, .psl 4 (List.map aA.enc l1)), (3, .int .i64 p.1.2)], [], 16, []⟩) (fun p => p.1.1) ⟨(fu, 0), hxx17⟩ ⟨rF, rE, rfl, rfl, trivial, trivial⟩ (fun _ => Nat.le_refl _) ?_
  rintro ⟨⟨fu, i18⟩, h1⟩
  cases fu with
  | zero =>
   replace h1 : xJ l1 0 i18 = some x17 := h1
   rw [xJ] at h1; cases h1
  | succ fu =>
   replace h1 : xJ l1 (fu + 1) i18 = some x17 := h1
   rw [xJ] at h1
   refine (show pA _ _ _ _ ⟨[(0, .psl 4 (List.map aA.enc l1)), (3, .int .i64 i18)], [], 16, []⟩ from ?_)
   refine kA ?_
   obtain ⟨b19, hb19, h1⟩ := fA h1
   refine eD (fr' := [(0, .psl 4 (List.map aA.enc l1)), (3, .int .i64 i18), (11, .bool b19)]) (hp' := []) [] 80 [0, 3, 11] (fun _ => none) rfl (fun Kt hK => by
     cases hg20 : (decide (i18 < (l1.length : Int))) with
     | false =>
      replace hb19 := vA hb19 hg20
      have hqb19 := Option.some.inj hb19
      subst hqb19
      simp (maxSteps := 1000000) only [↓reduceIte, reduceCtorEq, Nat.reduceEqDiff, Nat.reduceLT, Nat.reduceLeDiff, Nat.reduceAdd, Nat.reduceMul, Int.reduceToNat, push_cast, ↓hg20]
      try simp only [↓hg20] at hK
      all_goals exact rU
     | true =>
      replace hb19 := lB hb19 hg20
      have hqb19 := Option.some.inj hb19
      subst hqb19
      simp (maxSteps := 1000000) only [↓reduceIte, reduceCtorEq, Nat.reduceEqDiff, Nat.reduceLT, Nat.reduceLeDiff, Nat.reduceAdd, Nat.reduceMul, Int.reduceToNat, push_cast, ↓hg20]
      try simp only [↓hg20] at hK
      all_goals exact rU) ?_
   refine xI h1 rfl (fun h1 hb21 => ?_) (fun h1 hb21 => ?_)
   ·
    refine qA (iA (kA (nC ?_)))
    obtain ⟨e22, he22, h1⟩ := fA h1
    obtain ⟨he22a, he22b, he22c⟩ := dB he22
    obtain ⟨b23, hb23, h1⟩ := fA h1
    refine eD (fr' := [(0, .psl 4 (List.map aA.enc l1)), (3, .int .i64 i18), (29, .bool b23)]) (hp' := []) [] 208 [0, 3, 29] (fun _ => none) rfl (fun Kt hK => by
      cases hg24 : (decide (100 < (e22.Key.length : Int))) with
      | false =>
       replace hb23 := vA hb23 hg24
       have hqb23 := Option.some.inj hb23
       subst hqb23
       simp (maxSteps := 1000000) only [↓reduceIte, reduceCtorEq, Nat.reduceEqDiff, Nat.reduceLT, Nat.reduceLeDiff, Nat.reduceAdd, Nat.reduceMul, Int.reduceToNat, push_cast, he22a, he22b, he22c, ↓hg24]
       try simp only [↓hg24] at hK
       all_goals exact rU
      | true =>
       replace hb23 := lB hb23 hg24
       have hqb23 := Option.some.inj hb23
       subst hqb23
       simp (maxSteps := 1000000) only [↓reduceIte, reduceCtorEq, Nat.reduceEqDiff, Nat.reduceLT, Nat.reduceLeDiff, Nat.reduceAdd, Nat.reduceMul, Int.reduceToNat, push_cast, he22a, he22b, he22c, ↓hg24]
       try simp only [↓hg24] at hK
       all_goals exact rU) ?_
    refine xI h1 rfl (fun h1 hb25 => ?_) (fun h1 hb25 => ?_)
    ·
     refine nA 216 [2] (fun _ => none) rfl (fun _ _ => rS (rA he22a (rA he22b he22c))) ?_
     refine jA ?_
     obtain rfl := Option.some.inj h1
     refine oC (oA (oA (zD (oA ?_))))
     obtain rfl := Option.some.inj h0
     refine mA [] ?_
     simp (maxSteps := 1000000) only [↓reduceIte, reduceCtorEq, Nat.reduceEqDiff, Nat.reduceLT, Nat.reduceLeDiff, Nat.reduceAdd, Nat.reduceMul, Int.reduceToNat, push_cast, mC, he22a, he22b, he22c]
     all_goals exact rH
    ·
     refine qA (fC (iA ?_))
     refine eC 232 [0, 3] (fun _ => none) rfl (fun _ _ => rS (rA he22a (rA he22b he22c))) ?_
     refine iA ?_
     exact ⟨⟨(fu, (IntKind.i64.wrap (i18 + 1))), h1⟩, ⟨rF, rE, rfl, rfl, trivial, trivial⟩, Nat.lt_succ_self _⟩
   ·
    refine fD (kB (kB (kD ?_)))
    obtain rfl := Option.some.inj h1
    exact ⟨_, rfl, rL, ⟨rF, rE, rfl, rfl, trivial, trivial⟩⟩
theorem zj3 {fu : Nat} {l1 : List eB} {r : Bool} (h0 : eV fu l1 = some r) : jB Try.prog 18 [.psl 2 (l1.map eB.enc)] (.bool r) [] := by
 refine tB Try.func18 rfl (by decide) rL ?_
 dsimp only [Try.f18]
 rw [eV] at h0
 refine (show pA _ _ _ _ ⟨iB 0 _, [], 0, []⟩ from ?_)
 refine xS 8 [0] ?_
 refine kA ?_
 refine xS 16 [0, 3] ?_
 obtain ⟨x15, hxx15, h0⟩ := fA h0
 refine sD (fun s' => ∃ o23 : Unit, x15 = .inl o23 ∧ s'.nx ≤ 80 ∧ LeN [] s' ⟨[(0, .psl 2 (List.map eB.enc l1))], [], 80, []⟩) ?_ ?_
 ·
  intro s' hs
  obtain ⟨o23, rfl, hn, hs⟩ := hs
  refine iA ?_
  refine dC [] hn hs ?_
  refine xS 112 [2] ?_
  refine jA ?_
  obtain rfl := Option.some.inj h0
  refine mA [] ?_
  exact rG
 ·
  refine oD (ι := { p : Nat × Int // mK l1 p.1 p.2 = some x15 }) (fun p => ⟨[(0, .psl 2 (List.map eB.enc l1)), (3, .int .i64 p.1.2)], [], 16, []⟩) (fun p => p.1.1) ⟨(fu, 0), hxx15⟩ ⟨rF, rE, rfl, rfl, trivial, trivial⟩ (fun _ => Nat.le_refl _) ?_
  rintro ⟨⟨fu, i16⟩, h1⟩
  cases fu with
  | zero =>
   replace h1 : mK l1 0 i16 = some x15 := h1
   rw [mK] at h1; cases h1
  | succ fu =>
   replace h1 : mK l1 (fu + 1) i16 = some x15 := h1
   rw [mK] at h1
   refine (show pA _ _ _ _ ⟨[(0, .psl 2 (List.map eB.enc l1)), (3, .int .i64 i16)], [], 16, []⟩ from ?_)
   refine kA ?_
   obtain ⟨b17, hb17, h1⟩ := fA h1
   refine eD (fr' := [(0, .psl 2 (List.map eB.enc l1)), (3, .int .i64 i16), (11, .bool b17)]) (hp' := []) [] 80 [0, 3, 11] (fun _ => none) rfl (fun Kt hK => by
     cases hg18 : (decide (i16 < (l1.length : Int))) with
     | false =>
      replace hb17 := vA hb17 hg18
      have hqb17 := Option.some.inj hb17
      subst hqb17
      simp (maxSteps := 1000000) only [↓reduceIte, reduceCtorEq, Nat.reduceEqDiff, Nat.reduceLT, Nat.reduceLeDiff, Nat.reduceAdd, Nat.reduceMul, Int.reduceToNat, push_cast, ↓hg18]
      try simp only [↓hg18] at hK
      all_goals exact rU
     | true =>
      replace hb17 := lB hb17 hg18
      have hqb17 := Option.some.inj hb17
      subst hqb17
      simp (maxSteps := 1000000) only [↓reduceIte, reduceCtorEq, Nat.reduceEqDiff, Nat.reduceLT, Nat.reduceLeDiff, Nat.reduceAdd, Nat.reduceMul, Int.reduceToNat, push_cast, ↓hg18]
      try simp only [↓hg18] at hK
      all_goals exact rU) ?_
   refine xI h1 rfl (fun h1 hb19 => ?_) (fun h1 hb19 => ?_)
   ·
    refine qA (iA (kA (nC ?_)))
    obtain ⟨e20, he20, h1⟩ := fA h1
    obtain ⟨he20a, he20b, he20c⟩ := dB he20
    obtain ⟨vr21, hvr21, h1⟩ := fA h1
    refine nA 128 [0, 3, 19] (fun | 5 => some (.bool vr21, []) | _ => none) rfl (fun _ _ => rB (rA he20a (rA he20b he20c)) (zeY hvr21)) ?_
    refine xI h1 rfl (fun h1 hb22 => ?_) (fun h1 hb22 => ?_)
    ·
     refine nA 136 [2] (fun _ => none) rfl (fun _ _ => rS (rA he20a (rA he20b he20c))) ?_
     refine jA ?_
     obtain rfl := Option.some.inj h1
     refine oC (oA (oA (zD (oA ?_))))
     obtain rfl := Option.some.inj h0
     refine mA [] ?_
     simp (maxSteps := 1000000) only [↓reduceIte, reduceCtorEq, Nat.reduceEqDiff, Nat.reduceLT, Nat.reduceLeDiff, Nat.reduceAdd, Nat.reduceMul, Int.reduceToNat, push_cast, mC, he20a, he20b, he20c]
     all_goals exact rH
    ·
     refine qA (fC (iA ?_))
     refine eC 152 [0, 3] (fun _ => none) rfl (fun _ _ => rS (rA he20a (rA he20b he20c))) ?_
     refine iA ?_
     exact ⟨⟨(fu, (IntKind.i64.wrap (i16 + 1))), h1⟩, ⟨rF, rE, rfl, rfl, trivial, trivial⟩, Nat.lt_succ_self _⟩
   ·
    refine fD (kB (kB (kD ?_)))
    obtain rfl := Option.some.inj h1
    exact ⟨_, rfl, rL, ⟨rF, rE, rfl, rfl, trivial, trivial⟩⟩
theorem zcK {fu : Nat} {l1 : yA} {r : Bool} (h0 : bW fu l1 = some r) : jB Try.prog 6 [.agg (yA.enc l1)] (.bool r) [] := by
 refine tB Try.func6 rfl (by decide) rL ?_
 dsimp only [Try.f6]
 rw [bW] at h0
 refine (show pA _ _ _ _ ⟨iB 0 _, [], 0, []⟩ from ?_)
 refine xS 16 [1] ?_
 refine kA ?_
 refine xS 24 [1, 3] ?_
 obtain ⟨x15, hxx15, h0⟩ := fA h0
 refine sD (fun s' => ∃ o23 : Unit, x15 = .inl o23 ∧ s'.nx ≤ 96 ∧ LeN [] s' ⟨[(1, .ref 0 0 0 0)], [(0, ⟨0, true, true, 2, [[.int .i64 l1.B, .psl 1 (List.map tA.enc l1.Levels)]]⟩)], 96, []⟩) ?_ ?_
 ·
  intro s' hs
  obtain ⟨o23, rfl, hn, hs⟩ := hs
  refine iA ?_
  refine dC [] hn hs ?_
  refine xS 136 [2] ?_
  refine jA ?_
  obtain rfl := Option.some.inj h0
  refine mA [] ?_
  exact rG
 ·
  refine oD (ι := { p : Nat × Int // nK l1 p.1 p.2 = some x15 }) (fun p => ⟨[(1, .ref 0 0 0 0), (3, .int .i64 p.1.2)], [(0, ⟨0, true, true, 2, [[.int .i64 l1.B, .psl 1 (List.map tA.enc l1.Levels)]]⟩)], 24, []⟩) (fun p => p.1.1) ⟨(fu, 0), hxx15⟩ ⟨rF, rE, rfl, rfl, trivial, trivial⟩ (fun _ => Nat.le_refl _) ?_
  rintro ⟨⟨fu, i16⟩, h1⟩
  cases fu with
  | zero =>
   replace h1 : nK l1 0 i16 = some x15 := h1
   rw [nK] at h1; cases h1
  | succ fu =>
   replace h1 : nK l1 (fu + 1) i16 = some x15 := h1
   rw [nK] at h1
   refine (show pA _ _ _ _ ⟨[(1, .ref 0 0 0 0), (3, .int .i64 i16)], [(0, ⟨0, true, true, 2, [[.int .i64 l1.B, .psl 1 (List.map tA.enc l1.Levels)]]⟩)], 24, []⟩ from ?_)
   refine kA ?_
   obtain ⟨b17, hb17, h1⟩ := fA h1
   refine eD (fr' := [(1, .ref 0 0 0 0), (3, .int .i64 i16), (12, .bool b17)]) (hp' := [(0, ⟨0, true, true, 2, [[.int .i64 l1.B, .psl 1 (List.map tA.enc l1.Levels)]]⟩)]) [0] 96 [1, 3, 12] (fun _ => none) rfl (fun Kt hK => by
     cases hg18 : (decide (i16 < (l1.Levels.length : Int))) with
     | false =>
      replace hb17 := vA hb17 hg18
      have hqb17 := Option.some.inj hb17
      subst hqb17
      simp (maxSteps := 1000000) only [↓reduceIte, reduceCtorEq, Nat.reduceEqDiff, Nat.reduceLT, Nat.reduceLeDiff, Nat.reduceAdd, Nat.reduceMul, Int.reduceToNat, push_cast, ↓hg18]
      try simp only [↓hg18] at hK
      all_goals exact rU
     | true =>
      replace hb17 := lB hb17 hg18
      have hqb17 := Option.some.inj hb17
      subst hqb17
      simp (maxSteps := 1000000) only [↓reduceIte, reduceCtorEq, Nat.reduceEqDiff, Nat.reduceLT, Nat.reduceLeDiff, Nat.reduceAdd, Nat.reduceMul, Int.reduceToNat, push_cast, ↓hg18]
      try simp only [↓hg18] at hK
      all_goals exact rU) ?_
   refine xI h1 rfl (fun h1 hb19 => ?_) (fun h1 hb19 => ?_)
   ·
    refine qA (iA (kA (nC ?_)))
    obtain ⟨e20, he20, h1⟩ := fA h1
    obtain ⟨he20a, he20b, he20c⟩ := dB he20
    obtain ⟨vr21, hvr21, h1⟩ := fA h1
    refine nA 152 [1, 3, 21] (fun | 6 => some (.bool vr21, []) | _ => none) rfl (fun _ _ => rB (rA he20a (rA he20b he20c)) (zj3 hvr21)) ?_
    refine xI h1 rfl (fun h1 hb22 => ?_) (fun h1 hb22 => ?_)
    ·
     refine nA 160 [2] (fun _ => none) rfl (fun _ _ => rS (rA he20a (rA he20b he20c))) ?_
     refine jA ?_
     obtain rfl := Option.some.inj h1
     refine oC (oA (oA (zD (oA ?_))))
     obtain rfl := Option.some.inj h0
     refine mA [] ?_
     simp (maxSteps := 1000000) only [↓reduceIte, reduceCtorEq, Nat.reduceEqDiff, Nat.reduceLT, Nat.reduceLeDiff, Nat.reduceAdd, Nat.reduceMul, Int.reduceToNat, push_cast, mC, he20a, he20b, he20c]
     all_goals exact rH
    ·
     refine qA (fC (iA ?_))
     refine eC 176 [1, 3] (fun _ => none) rfl (fun _ _ => rS (rA he20a (rA he20b he20c))) ?_
     refine iA ?_
     exact ⟨⟨(fu, (IntKind.i64.wrap (i16 + 1))), h1⟩, ⟨rF, rE, rfl, rfl, trivial, trivial⟩, Nat.lt_succ_self _⟩
   ·
    refine fD (kB (kB (kD ?_)))
    obtain rfl := Option.some.inj h1
    exact ⟨_, rfl, rL, ⟨rF, rE, rfl, rfl, trivial, trivial⟩⟩
theorem zaN {fu : Nat} {k1 : List UInt8} {r : Int} (h0 : zL fu k1 = some r) : jB Try.prog 102 [.str k1] (.int .i64 r) [] := by
 refine tB Try.func102 rfl (by decide) rL ?_
 dsimp only [Try.f102]
 rw [zL] at h0
 refine (show pA _ _ _ _ ⟨iB 0 _, [], 0, []⟩ from ?_)
 refine xS 8 [0] ?_
 refine kA ?_
 refine xS 32 [5] ?_
 refine xI h0 rfl (fun h0 hb2 => ?_) (fun h0 hb2 => ?_)
 ·
  refine xS 40 [2] ?_
  refine jA (oA ?_)
  obtain rfl := Option.some.inj h0
  refine mA [] ?_
  exact rG
 ·
  refine qA (iA ?_)
  refine xS 40 [2] ?_
  refine jA ?_
  obtain rfl := Option.some.inj h0
  refine mA [] ?_
  exact rG
theorem vY {fu : Nat} {vx1 : aA} {r : Int} (h0 : iM fu vx1 = some r) : jB Try.prog 92 [.agg (aA.enc vx1)] (.int .i64 r) [] := by
 refine tB Try.func92 rfl (by decide) rL ?_
 dsimp only [Try.f92]
 rw [iM] at h0
 refine (show pA _ _ _ _ ⟨iB 0 _, [], 0, []⟩ from ?_)
 refine xS 16 [1] ?_
 refine kA (nC ?_)
 obtain ⟨vr2, hvr2, h0⟩ := fA h0
 obtain ⟨b3, hb3, h0⟩ := fA h0
 refine eD (fr' := [(1, .ref 0 0 0 0), (3, .bool b3)]) (hp' := [(0, ⟨0, true, true, 4, [[.str vx1.Key, .str vx1.Val, .bool vx1.Dead, .int .i64 vx1.Seq]]⟩)]) [0] 104 [1, 3] (fun | 2 => some (.int .i64 vr2, []) | _ => none) rfl (fun Kt hK => by
   cases hg4 : (!(decide (vr2 = 0))) with
   | false =>
    replace hb3 := vA hb3 hg4
    have hqb3 := Option.some.inj hb3
    subst hqb3
    simp (maxSteps := 1000000) only [↓reduceIte, reduceCtorEq, Nat.reduceEqDiff, Nat.reduceLT, Nat.reduceLeDiff, Nat.reduceAdd, Nat.reduceMul, Int.reduceToNat, push_cast, ↓hg4]
    try simp only [↓hg4] at hK
    try have q0 := zaN hvr2
    all_goals exact rU
   | true =>
    replace hb3 := lB hb3 hg4
    have hqb3 := Option.some.inj hb3
    subst hqb3
    simp (maxSteps := 1000000) only [↓reduceIte, reduceCtorEq, Nat.reduceEqDiff, Nat.reduceLT, Nat.reduceLeDiff, Nat.reduceAdd, Nat.reduceMul, Int.reduceToNat, push_cast, ↓hg4]
    try simp only [↓hg4] at hK
    try have q0 := zaN hvr2
    all_goals exact rU) ?_
 refine xI h0 rfl (fun h0 hb5 => ?_) (fun h0 hb5 => ?_)
 ·
  refine xS 112 [2] ?_
  refine jA (oC (oA ?_))
  obtain rfl := Option.some.inj h0
  refine mA [] ?_
  exact rG
 ·
  obtain ⟨b6, hb6, h0⟩ := fA h0
  refine eD (fr' := [(1, .ref 0 0 0 0), (14, .bool b6)]) (hp' := [(0, ⟨0, true, true, 4, [[.str vx1.Key, .str vx1.Val, .bool vx1.Dead, .int .i64 vx1.Seq]]⟩)]) [0] 168 [1, 14] (fun _ => none) rfl (fun Kt hK => by
    cases hg7 : vx1.Dead with
    | false =>
     replace hb6 := vA hb6 hg7
     have hqb6 := Option.some.inj hb6
     subst hqb6
     simp (maxSteps := 1000000) only [↓reduceIte, reduceCtorEq, Nat.reduceEqDiff, Nat.reduceLT, Nat.reduceLeDiff, Nat.reduceAdd, Nat.reduceMul, Int.reduceToNat, push_cast, ↓hg7]
     try simp only [↓hg7] at hK
     all_goals exact rU
    | true =>
     replace hb6 := lB hb6 hg7
     have hqb6 := Option.some.inj hb6
     subst hqb6
     simp (maxSteps := 1000000) only [↓reduceIte, reduceCtorEq, Nat.reduceEqDiff, Nat.reduceLT, Nat.reduceLeDiff, Nat.reduceAdd, Nat.reduceMul, Int.reduceToNat, push_cast, ↓hg7]
     try simp only [↓hg7] at hK
     all_goals exact rU) ?_
  refine xI h0 rfl (fun h0 hb8 => ?_) (fun h0 hb8 => ?_)
  ·
   refine xS 176 [2] ?_
   refine jA (oC (oA ?_))
   obtain rfl := Option.some.inj h0
   refine mA [] ?_
   exact rG
  ·
   obtain ⟨b9, hb9, h0⟩ := fA h0
   refine eD (fr' := [(22, .bool b9)]) (hp' := [(0, ⟨0, true, true, 4, [[.str vx1.Key, .str vx1.Val, .bool vx1.Dead, .int .i64 vx1.Seq]]⟩)]) [0] 240 [22] (fun _ => none) rfl (fun Kt hK => by
     cases hg10 : (decide (vx1.Seq < 1)) with
     | false =>
      replace hb9 := vA hb9 hg10
      have hqb9 := Option.some.inj hb9
      subst hqb9
      simp (maxSteps := 1000000) only [↓reduceIte, reduceCtorEq, Nat.reduceEqDiff, Nat.reduceLT, Nat.reduceLeDiff, Nat.reduceAdd, Nat.reduceMul, Int.reduceToNat, push_cast, ↓hg10]
      try simp only [↓hg10] at hK
      all_goals exact rU
     | true =>
      replace hb9 := lB hb9 hg10
      have hqb9 := Option.some.inj hb9
      subst hqb9
      simp (maxSteps := 1000000) only [↓reduceIte, reduceCtorEq, Nat.reduceEqDiff, Nat.reduceLT, Nat.reduceLeDiff, Nat.reduceAdd, Nat.reduceMul, Int.reduceToNat, push_cast, ↓hg10]
      try simp only [↓hg10] at hK
      all_goals exact rU) ?_
   refine xI h0 rfl (fun h0 hb11 => ?_) (fun h0 hb11 => ?_)
   ·
    refine xS 248 [2] ?_
    refine jA (oC (oA ?_))
    obtain rfl := Option.some.inj h0
    refine mA [] ?_
    exact rG
   ·
    refine qA (fC (iA ?_))
    refine xS 248 [2] ?_
    refine jA ?_
    obtain rfl := Option.some.inj h0
    refine mA [] ?_
    exact rG
theorem zcQ {fu : Nat} {l1 : List aA} {r : Int × Int} (h0 : pJ fu l1 = some r) : jB Try.prog 74 [.psl 4 (l1.map aA.enc)] (.tup [.int .i64 r.1, .int .i64 r.2]) [] := by
 refine tB Try.func74 rfl (by decide) rL ?_
 dsimp only [Try.f74]
 rw [pJ] at h0
 refine (show pA _ _ _ _ ⟨iB 0 _, [], 0, []⟩ from ?_)
 refine xS 16 [0] ?_
 refine kA ?_
 refine xS 40 [0, 9] ?_
 refine xI h0 rfl (fun h0 hb2 => ?_) (fun h0 hb2 => ?_)
 ·
  refine xS 56 [2, 3] ?_
  refine jA (oA ?_)
  obtain rfl := Option.some.inj h0
  refine mA [] ?_
  exact rG
 ·
  refine qA (iA (kA ?_))
  refine xS 64 [0, 10, 11, 12] ?_
  obtain ⟨x16, hxx16, h0⟩ := fA h0
  refine sD (fun s' => ∃ o26 : Unit, x16 = .inl o26 ∧ s'.nx ≤ 72 ∧ LeN [] s' ⟨[], [], 72, []⟩) ?_ ?_
  ·
   intro s' hs
   obtain ⟨o26, rfl, hn, hs⟩ := hs
   refine iA ?_
   refine dC [] hn hs ?_
   refine xS 88 [2, 3] ?_
   refine jA ?_
   obtain rfl := Option.some.inj h0
   refine mA [] ?_
   exact rG
  ·
   refine oD (ι := { p : Nat × Int // pF l1 p.1 p.2 = some x16 }) (fun p => ⟨[(0, .psl 4 (List.map aA.enc l1)), (10, .psl 4 (List.map aA.enc l1)), (11, .int .i64 (l1.length : Int)), (12, .int .i64 p.1.2)], [], 64, []⟩) (fun p => p.1.1) ⟨(fu, 0), hxx16⟩ ⟨rF, rE, rfl, rfl, trivial, trivial⟩ (fun _ => Nat.le_refl _) ?_
   rintro ⟨⟨fu, v17⟩, h1⟩
   cases fu with
   | zero =>
   replace h1 : pF l1 0 v17 = some x16 := h1
   rw [pF] at h1; cases h1
   | succ fu =>
    replace h1 : pF l1 (fu + 1) v17 = some x16 := h1
    rw [pF] at h1
    refine (show pA _ _ _ _ ⟨[(0, .psl 4 (List.map aA.enc l1)), (10, .psl 4 (List.map aA.enc l1)), (11, .int .i64 (l1.length : Int)), (12, .int .i64 v17)], [], 64, []⟩ from ?_)
    refine xS 72 [0, 10, 11, 12, 13] ?_
    refine kA ?_
    refine xI h1 rfl (fun h1 hb18 => ?_) (fun h1 hb18 => ?_)
    ·
     refine qA (iA (kA (nC ?_)))
     obtain ⟨e19, he19, h1⟩ := fA h1
     obtain ⟨he19a, he19b, he19c⟩ := dB he19
     refine nA 120 [0, 4, 5, 10, 11, 12] (fun _ => none) rfl (fun _ _ => rS (rA he19a (rA he19b he19c))) ?_
     refine kA ?_
     obtain ⟨vr20, hvr20, h1⟩ := fA h1
     refine nA 144 [0, 4, 5, 6, 10, 11, 12] (fun | 1 => some (.int .i64 vr20, []) | _ => none) rfl (fun _ _ => rB (rA he19a (rA he19b he19c)) (vY hvr20)) ?_
     refine nA 160 [0, 4, 5, 6, 10, 11, 12, 20] (fun _ => none) rfl (fun _ _ => rS (rA he19a (rA he19b he19c))) ?_
     refine xI h1 rfl (fun h1 hb21 => ?_) (fun h1 hb21 => ?_)
     ·
      refine nA 192 [2, 3] (fun _ => none) rfl (fun _ _ => rS (rA he19a (rA he19b he19c))) ?_
      refine jA ?_
      obtain rfl := Option.some.inj h1
      refine oA (oC (oA (oA (zD (oA ?_)))))
      obtain rfl := Option.some.inj h0
      refine mA [] ?_
      simp (maxSteps := 1000000) only [↓reduceIte, reduceCtorEq, Nat.reduceEqDiff, Nat.reduceLT, Nat.reduceLeDiff, Nat.reduceAdd, Nat.reduceMul, Int.reduceToNat, push_cast, mC, he19a, he19b, he19c]
      all_goals exact rH
     ·
      refine qA (iA ?_)
      obtain ⟨b23, hb23, h1⟩ := fA h1
      refine eO (fr' := [(0, .psl 4 (List.map aA.enc l1)), (4, .int .i64 v17), (10, .psl 4 (List.map aA.enc l1)), (11, .int .i64 (l1.length : Int)), (12, .int .i64 v17), (35, .bool b23)]) (hp' := [(96, ⟨0, true, true, 4, [[.str e19.Key, .str e19.Val, .bool e19.Dead, .int .i64 e19.Seq]]⟩)]) [96] 264 [0, 4, 10, 11, 12, 35] (fun _ => none) rfl rfl rfl (fun Kt hK => by
        cases hg24 : (decide (0 < v17)) with
        | false =>
         replace hb23 := vA hb23 hg24
         have hqb23 := Option.some.inj hb23
         subst hqb23
         simp (maxSteps := 1000000) only [↓reduceIte, reduceCtorEq, Nat.reduceEqDiff, Nat.reduceLT, Nat.reduceLeDiff, Nat.reduceAdd, Nat.reduceMul, Int.reduceToNat, push_cast, he19a, he19b, he19c, ↓hg24]
         try simp only [↓hg24] at hK
         all_goals exact tF
        | true =>
         replace hb23 := lB hb23 hg24
         obtain ⟨e22, he22, hb23⟩ := fA hb23
         obtain ⟨he22a, he22b, he22c⟩ := dB he22
         have hqb23 := Option.some.inj hb23
         subst hqb23
         simp (maxSteps := 1000000) only [↓reduceIte, reduceCtorEq, Nat.reduceEqDiff, Nat.reduceLT, Nat.reduceLeDiff, Nat.reduceAdd, Nat.reduceMul, Int.reduceToNat, push_cast, he19a, he19b, he19c, ↓hg24, he22a, he22b, he22c, he22]
         try simp only [↓hg24] at hK
         all_goals exact tF) ?_
      refine xI h1 rfl (fun h1 hb25 => ?_) (fun h1 hb25 => ?_)
      ·
       refine nA 288 [2, 3] (fun _ => none) rfl (fun _ _ => rS (rA he19a (rA he19b he19c))) ?_
       refine jA ?_
       obtain rfl := Option.some.inj h1
       refine oC (oA (oA (zD (oA ?_))))
       obtain rfl := Option.some.inj h0
       refine mA [] ?_
       simp (maxSteps := 1000000) only [↓reduceIte, reduceCtorEq, Nat.reduceEqDiff, Nat.reduceLT, Nat.reduceLeDiff, Nat.reduceAdd, Nat.reduceMul, Int.reduceToNat, push_cast, mC, he19a, he19b, he19c]
       all_goals exact rH
      ·
       refine qA (fC (iA ?_))
       refine eC 280 [0, 10, 11, 12] (fun _ => none) rfl (fun _ _ => rS (rA he19a (rA he19b he19c))) ?_
       refine iA ?_
       exact ⟨⟨(fu, (IntKind.i64.wrap (v17 + 1))), h1⟩, ⟨rF, rE, rfl, rfl, trivial, trivial⟩, Nat.lt_succ_self _⟩
    ·
     refine fD (kB (kB (kD ?_)))
     obtain rfl := Option.some.inj h1
     exact ⟨_, rfl, rL, ⟨rF, rE, rfl, rfl, trivial, trivial⟩⟩
theorem zjK {fu : Nat} {vr1 : eB} {r : Int × Int} (h0 : yQ fu vr1 = some r) : jB Try.prog 56 [.agg (eB.enc vr1)] (.tup [.int .i64 r.1, .int .i64 r.2]) [] := by
 refine tB Try.func56 rfl (by decide) rL ?_
 dsimp only [Try.f56]
 rw [yQ] at h0
 refine (show pA _ _ _ _ ⟨iB 0 _, [], 0, []⟩ from ?_)
 refine xS 24 [1] ?_
 refine kA ?_
 obtain ⟨b2, hb2, h0⟩ := fA h0
 refine eD (fr' := [(1, .ref 0 0 0 0), (11, .bool b2)]) (hp' := [(0, ⟨0, true, true, 2, [[.int .i64 vr1.Id, .psl 4 (List.map aA.enc vr1.Entries)]]⟩)]) [0] 88 [1, 11] (fun _ => none) rfl (fun Kt hK => by
   cases hg3 : (decide (vr1.Id < 1)) with
   | false =>
    replace hb2 := vA hb2 hg3
    have hqb2 := Option.some.inj hb2
    subst hqb2
    simp (maxSteps := 1000000) only [↓reduceIte, reduceCtorEq, Nat.reduceEqDiff, Nat.reduceLT, Nat.reduceLeDiff, Nat.reduceAdd, Nat.reduceMul, Int.reduceToNat, push_cast, ↓hg3]
    try simp only [↓hg3] at hK
    all_goals exact rU
   | true =>
    replace hb2 := lB hb2 hg3
    have hqb2 := Option.some.inj hb2
    subst hqb2
    simp (maxSteps := 1000000) only [↓reduceIte, reduceCtorEq, Nat.reduceEqDiff, Nat.reduceLT, Nat.reduceLeDiff, Nat.reduceAdd, Nat.reduceMul, Int.reduceToNat, push_cast, ↓hg3]
    try simp only [↓hg3] at hK
    all_goals exact rU) ?_
 refine xI h0 rfl (fun h0 hb4 => ?_) (fun h0 hb4 => ?_)
 ·
  refine xS 104 [2, 3] ?_
  refine jA (oA ?_)
  obtain rfl := Option.some.inj h0
  refine mA [] ?_
  exact rG
 ·
  refine qA (iA ?_)
  obtain ⟨vr5, hvr5, h0⟩ := fA h0
  refine nA 144 [2, 3] (fun | 2 => some (.tup [.int .i64 vr5.1, .int .i64 vr5.2], []) | _ => none) rfl (fun _ _ => rC (zcQ hvr5)) ?_
  refine jA ?_
  obtain rfl := Option.some.inj h0
  refine mA [] ?_
  exact rG
theorem zkS {fu : Nat} {vr1 : eB} {most2 : Int} {r : Int} (h0 : sP fu vr1 most2 = some r) : jB Try.prog 40 [.agg (eB.enc vr1), .int .i64 most2] (.int .i64 r) [] := by
 refine tB Try.func40 rfl (by decide) rL ?_
 dsimp only [Try.f40]
 rw [sP] at h0
 refine (show pA _ _ _ _ ⟨iB 0 _, [], 0, []⟩ from ?_)
 refine xS 16 [1, 2] ?_
 refine kA ?_
 obtain ⟨vr3, hvr3, h0⟩ := fA h0
 refine nA 72 [1, 2, 6] (fun | 1 => some (.tup [.int .i64 vr3.1, .int .i64 vr3.2], []) | _ => none) rfl (fun _ _ => rC (zjK hvr3)) ?_
 refine xS 88 [1, 2, 6, 14] ?_
 refine xI h0 rfl (fun h0 hb4 => ?_) (fun h0 hb4 => ?_)
 ·
  refine xS 104 [4] ?_
  refine jA (oA ?_)
  obtain rfl := Option.some.inj h0
  refine mA [] ?_
  exact rG
 ·
  refine qA (iA (kA ?_))
  refine xS 120 [1, 7] ?_
  refine nC ?_
  refine xS 144 [1, 7, 19] ?_
  refine xI h0 rfl (fun h0 hb5 => ?_) (fun h0 hb5 => ?_)
  ·
   refine xS 152 [4] ?_
   refine jA (oC (oA ?_))
   obtain rfl := Option.some.inj h0
   refine mA [] ?_
   exact rG
  ·
   refine xS 176 [22] ?_
   refine xI h0 rfl (fun h0 hb6 => ?_) (fun h0 hb6 => ?_)
   ·
    refine xS 184 [4] ?_
    refine jA (oC (oA ?_))
    obtain rfl := Option.some.inj h0
    refine mA [] ?_
    exact rG
   ·
    refine qA (fC (iA ?_))
    refine xS 184 [4] ?_
    refine jA ?_
    obtain rfl := Option.some.inj h0
    refine mA [] ?_
    exact rG
theorem zcq {fu : Nat} {l1 : yA} {r : Int × Int × Int} (h0 : tH fu l1 = some r) : jB Try.prog 20 [.agg (yA.enc l1)] (.tup [.int .i64 r.1, .int .i64 r.2.1, .int .i64 r.2.2]) [] := by
 refine zmN Try.func20 rfl (by decide) rL ?_
 dsimp only [Try.f20]
 rw [tH] at h0
 refine (show yN _ _ _ _ ⟨iB 0 _, [], 0, []⟩ from ?_)
 refine zaQ ?_
 refine xR 32 [1, 2, 3, 4] ?_
 refine iA (zk8 (zaQ (nC ?_)))
 obtain ⟨b2, hb2, h0⟩ := fA h0
 refine eD (fr' := [(1, .ref 0 0 0 0), (2, .int .i64 0), (3, .int .i64 0), (4, .int .i64 0), (11, .bool b2)]) (hp' := [(0, ⟨0, true, true, 2, [[.int .i64 l1.B, .psl 1 (List.map tA.enc l1.Levels)]]⟩)]) [0] 104 [1, 2, 3, 4, 11] (fun _ => none) rfl (fun Kt hK => by
   cases hg3 : (decide (l1.B < 1)) with
   | false =>
    replace hb2 := vA hb2 hg3
    have hqb2 := Option.some.inj hb2
    subst hqb2
    simp (maxSteps := 1000000) only [↓reduceIte, reduceCtorEq, Nat.reduceEqDiff, Nat.reduceLT, Nat.reduceLeDiff, Nat.reduceAdd, Nat.reduceMul, Int.reduceToNat, push_cast, ↓hg3]
    try simp only [↓hg3] at hK
    all_goals exact rU
   | true =>
    replace hb2 := lB hb2 hg3
    have hqb2 := Option.some.inj hb2
    subst hqb2
    simp (maxSteps := 1000000) only [↓reduceIte, reduceCtorEq, Nat.reduceEqDiff, Nat.reduceLT, Nat.reduceLeDiff, Nat.reduceAdd, Nat.reduceMul, Int.reduceToNat, push_cast, ↓hg3]
    try simp only [↓hg3] at hK
    all_goals exact rU) ?_
 refine xI h0 rfl (fun h0 hb4 => ?_) (fun h0 hb4 => ?_)
 ·
  refine xS 128 [2, 3, 4] ?_
  refine jA (oC (oA ?_))
  obtain rfl := Option.some.inj h0
  refine mA [] ?_
  exact rG
 ·
  refine xS 144 [1, 2, 3, 4, 20] ?_
  refine xI h0 rfl (fun h0 hb5 => ?_) (fun h0 hb5 => ?_)
  ·
   refine xS 168 [2, 3, 4] ?_
   refine jA (oC (oA ?_))
   obtain rfl := Option.some.inj h0
   refine mA [] ?_
   exact rG
  ·
   refine qA (fC (iA (zaQ ?_)))
   refine uU 2 rfl ?_
   refine kC (l' := 0 :: (List.range' 1 1 ++ [])) rfl ?_
   refine zfD rfl rfl rfl rfl ?_
   refine uJ (s2 := ⟨[(1, .ref 0 0 0 0), (2, .int .i64 0), (3, .int .i64 0), (4, .int .i64 0), (20, .bool (decide (12 < (l1.Levels.length : Int)))), (25, .mp 144)], [(0, ⟨0, true, true, 2, [[.int .i64 l1.B, .psl 1 (List.map tA.enc l1.Levels)]]⟩)], 152, [(144, (aF (cE (fun n : Int => AV.int .i64 n) AV.bool ([] : List (Int × Bool)))))]⟩) [] rL ⟨rF, rE, rfl, rfl, (gC.consM rL rfl trivial), trivial⟩ ?_
   refine kC (l' := List.range' 1 1 ++ []) rfl ?_
   refine pC 1 1 160 [] (fun _ => none) rfl rfl rfl (fun _ _ => rT) ?_
   refine iD ?_
   refine iA ?_
   refine fwp_re (s2 := ⟨[(1, .ref 0 0 0 0), (2, .int .i64 0), (3, .int .i64 0), (4, .int .i64 0), (5, .mp 144)], [(0, ⟨0, true, true, 2, [[.int .i64 l1.B, .psl 1 (List.map tA.enc l1.Levels)]]⟩)], 160, [(144, (aF (cE (fun n : Int => AV.int .i64 n) AV.bool ([] : List (Int × Bool)))))]⟩) [] rL ⟨rF, rE, rfl, rfl, (gC.consM rL rfl trivial), trivial⟩ ?_
   refine zlc (l := 144) rfl rfl rfl rfl rfl rfl rfl rfl rL rfl rfl rfl rfl rfl rX ?_
   refine dC (s2 := ⟨[(1, .ref 0 0 0 0), (2, .int .i64 0), (3, .int .i64 0), (4, .int .i64 0), (5, .mp 144)], [(0, ⟨0, true, true, 2, [[.int .i64 l1.B, .psl 1 (List.map tA.enc l1.Levels)]]⟩)], 160, [(144, (aF (cE (fun n : Int => AV.int .i64 n) AV.bool ([] : List (Int × Bool)))))]⟩) [] rL ⟨rF, rE, rfl, rfl, (gC.consM rL rfl trivial), trivial⟩ ?_
   refine kA ?_
   refine zcM ?_
   refine iA (kA ?_)
   refine xS 192 [1, 2, 3, 4, 5, 28, 29, 30] ?_
   obtain ⟨x162, hxx162, h0⟩ := fA h0
   refine sD (fun s' => s'.nx ≤ 552 ∧ LeN [] s' ⟨[(1, .ref 0 0 0 0), (2, .int .i64 x162.1), (3, .int .i64 x162.2.1), (4, .int .i64 x162.2.2.1)], [(0, ⟨0, true, true, 2, [[.int .i64 l1.B, .psl 1 (List.map tA.enc l1.Levels)]]⟩)], 552, [(144, (aF (cE (fun n : Int => AV.int .i64 n) AV.bool x162.2.2.2)))]⟩) ?_ ?_
   ·
    intro s' hs
    obtain ⟨hn, hs⟩ := hs
    refine iA ?_
    refine dC [] hn hs ?_
    refine kA ?_
    refine xS 568 [1, 2, 3, 4, 71] ?_
    refine xI h0 rfl (fun h0 hb217 => ?_) (fun h0 hb217 => ?_)
    ·
     refine xS 616 [2, 3, 4] ?_
     refine jA (oA (zaS rfl rfl ?_))
     obtain rfl := Option.some.inj h0
     refine mA [] ?_
     exact rG
    ·
     refine qA (iA (kA ?_))
     refine xS 600 [1, 10] ?_
     obtain ⟨b219, hb219, h0⟩ := fA h0
     refine eD (fr' := [(10, .int .i64 (l1.Levels.length : Int)), (90, .bool b219)]) (hp' := [(0, ⟨0, true, true, 2, [[.int .i64 l1.B, .psl 1 (List.map tA.enc l1.Levels)]]⟩)]) [0, 144] 704 [10, 90] (fun _ => none) rfl (fun Kt hK => by
       cases hg220 : (decide (0 < (l1.Levels.length : Int))) with
       | false =>
        replace hb219 := vA hb219 hg220
        have hqb219 := Option.some.inj hb219
        subst hqb219
        simp (maxSteps := 1000000) only [↓reduceIte, reduceCtorEq, Nat.reduceEqDiff, Nat.reduceLT, Nat.reduceLeDiff, Nat.reduceAdd, Nat.reduceMul, Int.reduceToNat, push_cast, ↓hg220]
        try simp only [↓hg220] at hK
        all_goals exact rU
       | true =>
        replace hb219 := lB hb219 hg220
        obtain ⟨e218, he218, hb219⟩ := fA hb219
        obtain ⟨he218a, he218b, he218c⟩ := dB he218
        have hqb219 := Option.some.inj hb219
        subst hqb219
        simp (maxSteps := 1000000) only [↓reduceIte, reduceCtorEq, Nat.reduceEqDiff, Nat.reduceLT, Nat.reduceLeDiff, Nat.reduceAdd, Nat.reduceMul, Int.reduceToNat, push_cast, ↓hg220, he218a, he218b, he218c, he218]
        try simp only [↓hg220] at hK
        all_goals exact rU) ?_
     refine xI h0 rfl (fun h0 hb221 => ?_) (fun h0 hb221 => ?_)
     ·
      refine xS 744 [2, 3, 4] ?_
      refine jA (oA (zaS rfl rfl ?_))
      obtain rfl := Option.some.inj h0
      refine mA [] ?_
      exact rG
     ·
      refine qA (iA ?_)
      refine xS 728 [2, 3, 4] ?_
      refine jA (zaS rfl rfl ?_)
      obtain rfl := Option.some.inj h0
      refine mA [] ?_
      exact rG
   ·
    refine oD (ι := { p : Nat × Int × Int × Int × (List (Int × Bool)) × Int // mG l1 p.1 p.2.1 p.2.2.1 p.2.2.2.1 p.2.2.2.2.1 p.2.2.2.2.2 = some x162 }) (fun p => ⟨[(1, .ref 0 0 0 0), (2, .int .i64 p.1.2.2.2.2.2), (3, .int .i64 p.1.2.1), (4, .int .i64 p.1.2.2.1), (5, .mp 144), (28, .psl 1 (List.map tA.enc l1.Levels)), (29, .int .i64 (l1.Levels.length : Int)), (30, .int .i64 p.1.2.2.2.1)], [(0, ⟨0, true, true, 2, [[.int .i64 l1.B, .psl 1 (List.map tA.enc l1.Levels)]]⟩)], 192, [(144, (aF (cE (fun n : Int => AV.int .i64 n) AV.bool p.1.2.2.2.2.1)))]⟩) (fun p => p.1.1) ⟨(fu, 0, 0, 0, ([] : List (Int × Bool)), 0), hxx162⟩ ⟨rF, rE, rfl, rfl, (gC.consM rL rfl trivial), trivial⟩ (fun _ => Nat.le_refl _) ?_
    rintro ⟨⟨fu, run163, e164, v165, v166, level167⟩, h1⟩
    cases fu with
    | zero =>
   replace h1 : mG l1 0 run163 e164 v165 v166 level167 = some x162 := h1
   rw [mG] at h1; cases h1
    | succ fu =>
     replace h1 : mG l1 (fu + 1) run163 e164 v165 v166 level167 = some x162 := h1
     rw [mG] at h1
     refine (show pA _ _ _ _ ⟨[(1, .ref 0 0 0 0), (2, .int .i64 level167), (3, .int .i64 run163), (4, .int .i64 e164), (5, .mp 144), (28, .psl 1 (List.map tA.enc l1.Levels)), (29, .int .i64 (l1.Levels.length : Int)), (30, .int .i64 v165)], [(0, ⟨0, true, true, 2, [[.int .i64 l1.B, .psl 1 (List.map tA.enc l1.Levels)]]⟩)], 192, [(144, (aF (cE (fun n : Int => AV.int .i64 n) AV.bool v166)))]⟩ from ?_)
     refine xS 200 [1, 2, 3, 4, 5, 28, 29, 30, 31] ?_
     refine kA ?_
     refine xI h1 rfl (fun h1 hb168 => ?_) (fun h1 hb168 => ?_)
     ·
      refine qA (iA (kA (nC ?_)))
      obtain ⟨e169, he169, h1⟩ := fA h1
      obtain ⟨he169a, he169b, he169c⟩ := dB he169
      refine nA 248 [1, 4, 5, 6, 7, 28, 29, 30] (fun _ => none) rfl (fun _ _ => rS (rA he169a (rA he169b he169c))) ?_
      refine nA 272 [1, 2, 3, 4, 5, 6, 7, 28, 29, 30] (fun _ => none) rfl (fun _ _ => rS (rA he169a (rA he169b he169c))) ?_
      refine kA ?_
      refine nA 304 [1, 2, 3, 4, 5, 6, 7, 28, 29, 30, 39] (fun _ => none) rfl (fun _ _ => rS (rA he169a (rA he169b he169c))) ?_
      refine xI h1 rfl (fun h1 hb170 => ?_) (fun h1 hb170 => ?_)
      ·
       refine nA 312 [1, 2, 3, 4] (fun _ => none) rfl (fun _ _ => rS (rA he169a (rA he169b he169c))) ?_
       refine fD (kB (eQ (by decide) (kB (kB (kD ?_)))))
       obtain rfl := Option.some.inj h1
       exact ⟨rL, ⟨rF, rE, rfl, rfl, (gC.consM rL rfl trivial), trivial⟩⟩
      ·
       refine qA (iA ?_)
       refine nA 336 [1, 2, 3, 4, 5, 6, 28, 29, 30, 41, 42, 43] (fun _ => none) rfl (fun _ _ => rS (rA he169a (rA he169b he169c))) ?_
       obtain ⟨x202, hxx202, h1⟩ := fA h1
       refine sD (fun s' => ∃ o215 : Int × Int × (List (Int × Bool)), x202 = .inl o215 ∧ s'.nx ≤ 344 ∧ LeN [] s' ⟨[(1, .ref 0 0 0 0), (2, .int .i64 v165), (3, .int .i64 o215.1), (4, .int .i64 o215.2.1), (5, .mp 144), (28, .psl 1 (List.map tA.enc l1.Levels)), (29, .int .i64 (l1.Levels.length : Int)), (30, .int .i64 v165)], [(0, ⟨0, true, true, 2, [[.int .i64 l1.B, .psl 1 (List.map tA.enc l1.Levels)]]⟩), (224, ⟨0, true, true, 1, [[.psl 2 (List.map eB.enc e169.Runs)]]⟩)], 344, [(144, (aF (cE (fun n : Int => AV.int .i64 n) AV.bool o215.2.2)))]⟩) ?_ ?_
       ·
        intro s' hs
        obtain ⟨o215, rfl, hn, hs⟩ := hs
        refine fC (iA ?_)
        refine dC [] hn hs ?_
        refine eC 360 [1, 2, 3, 4, 5, 28, 29, 30] (fun _ => none) rfl (fun _ _ => rS (rA he169a (rA he169b he169c))) ?_
        refine iA ?_
        exact ⟨⟨(fu, o215.1, o215.2.1, (IntKind.i64.wrap (v165 + 1)), o215.2.2, v165), h1⟩, ⟨rF, rE, rfl, rfl, (gC.consM rL rfl trivial), trivial⟩, Nat.lt_succ_self _⟩
       ·
        refine oD (ι := { p : Nat × Int × Int × (List (Int × Bool)) × Int // aG e169 v165 l1 p.1 p.2.1 p.2.2.1 p.2.2.2.1 p.2.2.2.2 = some x202 }) (fun p => ⟨[(1, .ref 0 0 0 0), (2, .int .i64 v165), (3, .int .i64 p.1.2.2.2.2), (4, .int .i64 p.1.2.1), (5, .mp 144), (6, .int .i64 v165), (28, .psl 1 (List.map tA.enc l1.Levels)), (29, .int .i64 (l1.Levels.length : Int)), (30, .int .i64 v165), (41, .psl 2 (List.map eB.enc e169.Runs)), (42, .int .i64 (e169.Runs.length : Int)), (43, .int .i64 p.1.2.2.1)], [(0, ⟨0, true, true, 2, [[.int .i64 l1.B, .psl 1 (List.map tA.enc l1.Levels)]]⟩), (224, ⟨0, true, true, 1, [[.psl 2 (List.map eB.enc e169.Runs)]]⟩)], 336, [(144, (aF (cE (fun n : Int => AV.int .i64 n) AV.bool p.1.2.2.2.1)))]⟩) (fun p => p.1.1) ⟨(fu, e164, 0, v166, 0), hxx202⟩ ⟨rF, rE, rfl, rfl, (gC.consM rL rfl trivial), trivial⟩ (fun _ => Nat.le_refl _) ?_
        rintro ⟨⟨fu, e203, v204, v205, run206⟩, h2⟩
        cases fu with
        | zero =>
   replace h2 : aG e169 v165 l1 0 e203 v204 v205 run206 = some x202 := h2
   rw [aG] at h2; cases h2
        | succ fu =>
         replace h2 : aG e169 v165 l1 (fu + 1) e203 v204 v205 run206 = some x202 := h2
         rw [aG] at h2
         refine (show pA _ _ _ _ ⟨[(1, .ref 0 0 0 0), (2, .int .i64 v165), (3, .int .i64 run206), (4, .int .i64 e203), (5, .mp 144), (6, .int .i64 v165), (28, .psl 1 (List.map tA.enc l1.Levels)), (29, .int .i64 (l1.Levels.length : Int)), (30, .int .i64 v165), (41, .psl 2 (List.map eB.enc e169.Runs)), (42, .int .i64 (e169.Runs.length : Int)), (43, .int .i64 v204)], [(0, ⟨0, true, true, 2, [[.int .i64 l1.B, .psl 1 (List.map tA.enc l1.Levels)]]⟩), (224, ⟨0, true, true, 1, [[.psl 2 (List.map eB.enc e169.Runs)]]⟩)], 336, [(144, (aF (cE (fun n : Int => AV.int .i64 n) AV.bool v205)))]⟩ from ?_)
         refine nA 344 [1, 2, 3, 4, 5, 6, 28, 29, 30, 41, 42, 43, 44] (fun _ => none) rfl (fun _ _ => rS (rA he169a (rA he169b he169c))) ?_
         refine kA ?_
         refine xI h2 rfl (fun h2 hb207 => ?_) (fun h2 hb207 => ?_)
         ·
          refine qA (iA (kA (nC ?_)))
          obtain ⟨e208, he208, h2⟩ := fA h2
          obtain ⟨he208a, he208b, he208c⟩ := dB he208
          refine nA 392 [1, 2, 5, 6, 8, 9, 28, 29, 30, 41, 42, 43] (fun _ => none) rfl (fun _ _ => rS (rA he169a (rA he169b (rA he169c (rA he208a (rA he208b he208c)))))) ?_
          refine nA 408 [1, 2, 3, 5, 6, 9, 28, 29, 30, 41, 42, 43] (fun _ => none) rfl (fun _ _ => rS (rA he169a (rA he169b (rA he169c (rA he208a (rA he208b he208c)))))) ?_
          refine kA ?_
          obtain ⟨hc209, h2⟩ := pE h2
          obtain ⟨vr210, hvr210, h2⟩ := fA h2
          refine nD 464 [1, 2, 3, 4, 5, 6, 9, 28, 29, 30, 41, 42, 43] (fun | 5 => some (.int .i64 vr210, []) | _ => none) rfl rfl rfl (fun _ _ => rBd (rA he169a (rA he169b (rA he169c (rA he208a (rA he208b he208c))))) (zkS hvr210)) ?_
          refine sH 8 rfl ?_
          refine kC (l' := List.range' 0 3 ++ (List.range' 3 5 ++ [])) rfl ?_
          refine pC 0 3 488 (List.range' 3 5 ++ []) (fun _ => none) rfl rfl rfl (fun _ _ => rS (rA he169a (rA he169b (rA he169c (rA he208a (rA he208b he208c)))))) ?_
          refine uJ (s2 := ⟨[(1, .ref 0 0 0 0), (2, .int .i64 v165), (3, .int .i64 v204), (4, .int .i64 vr210), (5, .mp 144), (6, .int .i64 v165), (9, .ref 368 0 0 0), (28, .psl 1 (List.map tA.enc l1.Levels)), (29, .int .i64 (l1.Levels.length : Int)), (30, .int .i64 v165), (41, .psl 2 (List.map eB.enc e169.Runs)), (42, .int .i64 (e169.Runs.length : Int)), (43, .int .i64 v204), (55, .int .i64 vr210), (56, .bool (decide (vr210 = 0))), (57, .bool (decide (vr210 = 0)))], [(0, ⟨0, true, true, 2, [[.int .i64 l1.B, .psl 1 (List.map tA.enc l1.Levels)]]⟩), (224, ⟨0, true, true, 1, [[.psl 2 (List.map eB.enc e169.Runs)]]⟩), (368, ⟨0, true, true, 2, [[.int .i64 e208.Id, .psl 4 (List.map aA.enc e208.Entries)]]⟩)], 488, [(144, (aF (cE (fun n : Int => AV.int .i64 n) AV.bool v205)))]⟩) [] rL ⟨rF, rE, rfl, rfl, (gC.consM rL rfl trivial), trivial⟩ ?_
          generalize hg211 : (decide (vr210 = 0)) = b211
          cases b211 with
          | true =>
           replace h2 := lB h2 hg211
           refine kC (l' := List.range' 3 3 ++ (6 :: (List.range' 7 1 ++ []))) rfl ?_
           refine pC 3 3 512 (6 :: (List.range' 7 1 ++ [])) (fun _ => none) rfl rfl rfl (fun _ _ => rS (rA he169a (rA he169b (rA he169c (rA he208a (rA he208b he208c)))))) ?_
           refine zn3 (l := 144) (ek := (fun n : Int => AV.int .i64 n)) (ev := AV.bool) (m := v205) (n := e208.Id) (z := false) rfl rfl rfl rfl rX zaM zgm (fun _ => rfl) rfl rfl rfl ?_
           refine uJ (s2 := ⟨[(1, .ref 0 0 0 0), (2, .int .i64 v165), (3, .int .i64 v204), (4, .int .i64 vr210), (5, .mp 144), (6, .int .i64 v165), (9, .ref 368 0 0 0), (28, .psl 1 (List.map tA.enc l1.Levels)), (29, .int .i64 (l1.Levels.length : Int)), (30, .int .i64 v165), (41, .psl 2 (List.map eB.enc e169.Runs)), (42, .int .i64 (e169.Runs.length : Int)), (43, .int .i64 v204), (55, .int .i64 vr210), (56, .bool true), (57, .bool true), (58, .mp 144), (59, .ref 368 0 0 0), (60, .int .i64 e208.Id), (61, .bool ((zE v205 e208.Id).getD false))], [(0, ⟨0, true, true, 2, [[.int .i64 l1.B, .psl 1 (List.map tA.enc l1.Levels)]]⟩), (224, ⟨0, true, true, 1, [[.psl 2 (List.map eB.enc e169.Runs)]]⟩), (368, ⟨0, true, true, 2, [[.int .i64 e208.Id, .psl 4 (List.map aA.enc e208.Entries)]]⟩)], 520, [(144, (aF (cE (fun n : Int => AV.int .i64 n) AV.bool v205)))]⟩) [] rL ⟨rF, rE, rfl, rfl, (gC.consM rL rfl trivial), trivial⟩ ?_
           refine kC (l' := List.range' 7 1 ++ []) rfl ?_
           refine pC 7 1 528 [] (fun _ => none) rfl rfl rfl (fun _ _ => rS (rA he169a (rA he169b (rA he169c (rA he208a (rA he208b he208c)))))) ?_
           refine iD ?_
           refine iA ?_
           refine dC (s2 := ⟨[(1, .ref 0 0 0 0), (2, .int .i64 v165), (3, .int .i64 v204), (4, .int .i64 vr210), (5, .mp 144), (6, .int .i64 v165), (9, .ref 368 0 0 0), (28, .psl 1 (List.map tA.enc l1.Levels)), (29, .int .i64 (l1.Levels.length : Int)), (30, .int .i64 v165), (41, .psl 2 (List.map eB.enc e169.Runs)), (42, .int .i64 (e169.Runs.length : Int)), (43, .int .i64 v204), (58, .mp 144), (59, .ref 368 0 0 0), (60, .int .i64 e208.Id), (61, .bool ((zE v205 e208.Id).getD false)), (62, .bool ((zE v205 e208.Id).getD false))], [(0, ⟨0, true, true, 2, [[.int .i64 l1.B, .psl 1 (List.map tA.enc l1.Levels)]]⟩), (224, ⟨0, true, true, 1, [[.psl 2 (List.map eB.enc e169.Runs)]]⟩), (368, ⟨0, true, true, 2, [[.int .i64 e208.Id, .psl 4 (List.map aA.enc e208.Entries)]]⟩)], 528, [(144, (aF (cE (fun n : Int => AV.int .i64 n) AV.bool v205)))]⟩) [] rL ⟨rF, rE, rfl, rfl, (gC.consM rL rfl trivial), trivial⟩ ?_
           refine xI h2 rfl (fun h2 hb212 => ?_) (fun h2 hb212 => ?_)
           ·
            refine eC 536 [1, 2, 3, 4, 5, 6, 9, 28, 29, 30, 41, 42, 43, 58, 59, 60, 61] (fun _ => none) rfl (fun _ _ => rS (rA he169a (rA he169b (rA he169c (rA he208a (rA he208b he208c)))))) ?_
            refine iA (kA ?_)
            refine nA 552 [1, 2, 3, 4, 5, 6, 9, 28, 29, 30, 41, 42, 43, 58, 59, 60, 61, 64] (fun _ => none) rfl (fun _ _ => rS (rA he169a (rA he169b (rA he169c (rA he208a (rA he208b he208c)))))) ?_
            refine aM rfl ?_
            refine fD ?_
            obtain rfl := Option.some.inj h2
            refine kB (eQ (by decide) (kB (kB (wZ (by decide) (eQ (by decide) (kB (kB (kD ?_))))))))
            obtain rfl := Option.some.inj h1
            exact ⟨rL, ⟨rF, rE, rfl, rfl, (gC.consM rL rfl trivial), trivial⟩⟩
           ·
            refine qA (iA (kA ?_))
            refine nA 544 [1, 2, 3, 4, 5, 6, 9, 28, 29, 30, 41, 42, 43, 58, 59, 60, 61, 64] (fun _ => none) rfl (fun _ _ => rS (rA he169a (rA he169b (rA he169c (rA he208a (rA he208b he208c)))))) ?_
            refine xI h2 rfl (fun h2 hb213 => ?_) (fun h2 hb213 => ?_)
            ·
             refine fD ?_
             obtain rfl := Option.some.inj h2
             refine kB (eQ (by decide) (kB (kB (wZ (by decide) (eQ (by decide) (kB (kB (kD ?_))))))))
             obtain rfl := Option.some.inj h1
             exact ⟨rL, ⟨rF, rE, rfl, rfl, (gC.consM rL rfl trivial), trivial⟩⟩
            ·
             refine qA (iA ?_)
             refine uU 4 rfl ?_
             refine kC (l' := List.range' 0 3 ++ (3 :: (List.range' 4 0 ++ []))) rfl ?_
             refine pC 0 3 568 (3 :: (List.range' 4 0 ++ [])) (fun _ => none) rfl rfl rfl (fun _ _ => rS (rA he169a (rA he169b (rA he169c (rA he208a (rA he208b he208c)))))) ?_
             refine zdh (l := 144) (ek := (fun n : Int => AV.int .i64 n)) (ev := AV.bool) (m := v205) (n := e208.Id) (y := true) rfl rfl rfl rfl rX zaM (fun _ => rfl) rfl rfl rfl rfl ?_
             refine uJ (s2 := ⟨[(1, .ref 0 0 0 0), (2, .int .i64 v165), (3, .int .i64 v204), (4, .int .i64 vr210), (5, .mp 144), (6, .int .i64 v165), (9, .ref 368 0 0 0), (28, .psl 1 (List.map tA.enc l1.Levels)), (29, .int .i64 (l1.Levels.length : Int)), (30, .int .i64 v165), (41, .psl 2 (List.map eB.enc e169.Runs)), (42, .int .i64 (e169.Runs.length : Int)), (43, .int .i64 v204), (58, .mp 144), (59, .ref 368 0 0 0), (60, .int .i64 e208.Id), (61, .bool ((zE v205 e208.Id).getD false)), (64, .bool (!(decide (vr210 = 0)))), (65, .mp 144), (66, .ref 368 0 0 0), (67, .int .i64 e208.Id)], [(0, ⟨0, true, true, 2, [[.int .i64 l1.B, .psl 1 (List.map tA.enc l1.Levels)]]⟩), (224, ⟨0, true, true, 1, [[.psl 2 (List.map eB.enc e169.Runs)]]⟩), (368, ⟨0, true, true, 2, [[.int .i64 e208.Id, .psl 4 (List.map aA.enc e208.Entries)]]⟩)], 576, [(144, (aF (cE (fun n : Int => AV.int .i64 n) AV.bool (mF v205 e208.Id true))))]⟩) [] rL ⟨rF, rE, rfl, rfl, (gC.consM rL rfl trivial), trivial⟩ ?_
             refine kC (l' := []) rfl ?_
             refine iD ?_
             refine fC (iA ?_)
             refine dC (s2 := ⟨[(1, .ref 0 0 0 0), (2, .int .i64 v165), (3, .int .i64 v204), (4, .int .i64 vr210), (5, .mp 144), (6, .int .i64 v165), (28, .psl 1 (List.map tA.enc l1.Levels)), (29, .int .i64 (l1.Levels.length : Int)), (30, .int .i64 v165), (41, .psl 2 (List.map eB.enc e169.Runs)), (42, .int .i64 (e169.Runs.length : Int)), (43, .int .i64 v204), (58, .mp 144), (59, .ref 368 0 0 0), (60, .int .i64 e208.Id), (61, .bool ((zE v205 e208.Id).getD false))], [(0, ⟨0, true, true, 2, [[.int .i64 l1.B, .psl 1 (List.map tA.enc l1.Levels)]]⟩), (224, ⟨0, true, true, 1, [[.psl 2 (List.map eB.enc e169.Runs)]]⟩), (368, ⟨0, true, true, 2, [[.int .i64 e208.Id, .psl 4 (List.map aA.enc e208.Entries)]]⟩)], 576, [(144, (aF (cE (fun n : Int => AV.int .i64 n) AV.bool (mF v205 e208.Id true))))]⟩) [] rL ⟨rF, rE, rfl, rfl, (gC.consM rL rfl trivial), trivial⟩ ?_
             refine eC 592 [1, 2, 3, 4, 5, 6, 28, 29, 30, 41, 42, 43, 58, 59, 60, 61] (fun _ => none) rfl (fun _ _ => rS (rA he169a (rA he169b (rA he169c (rA he208a (rA he208b he208c)))))) ?_
             refine iA ?_
             exact ⟨⟨(fu, vr210, (IntKind.i64.wrap (v204 + 1)), (mF v205 e208.Id true), v204), h2⟩, ⟨rF, rE, rfl, rfl, (gC.consM rL rfl trivial), trivial⟩, Nat.lt_succ_self _⟩
          | false =>
           replace h2 := vA h2 hg211
           refine kC (l' := List.range' 3 5 ++ []) rfl ?_
           refine pC 3 5 528 [] (fun _ => none) rfl rfl rfl (fun _ _ => rS (rA he169a (rA he169b (rA he169c (rA he208a (rA he208b he208c)))))) ?_
           refine iD ?_
           refine iA ?_
           refine dC (s2 := ⟨[(1, .ref 0 0 0 0), (2, .int .i64 v165), (3, .int .i64 v204), (4, .int .i64 vr210), (5, .mp 144), (6, .int .i64 v165), (9, .ref 368 0 0 0), (28, .psl 1 (List.map tA.enc l1.Levels)), (29, .int .i64 (l1.Levels.length : Int)), (30, .int .i64 v165), (41, .psl 2 (List.map eB.enc e169.Runs)), (42, .int .i64 (e169.Runs.length : Int)), (43, .int .i64 v204), (62, .bool false)], [(0, ⟨0, true, true, 2, [[.int .i64 l1.B, .psl 1 (List.map tA.enc l1.Levels)]]⟩), (224, ⟨0, true, true, 1, [[.psl 2 (List.map eB.enc e169.Runs)]]⟩), (368, ⟨0, true, true, 2, [[.int .i64 e208.Id, .psl 4 (List.map aA.enc e208.Entries)]]⟩)], 528, [(144, (aF (cE (fun n : Int => AV.int .i64 n) AV.bool v205)))]⟩) [] rL ⟨rF, rE, rfl, rfl, (gC.consM rL rfl trivial), trivial⟩ ?_
           refine bG rfl ?_
           refine qA (iA (kA ?_))
           refine nA 544 [1, 2, 3, 4, 5, 6, 9, 28, 29, 30, 41, 42, 43, 64] (fun _ => none) rfl (fun _ _ => rS (rA he169a (rA he169b (rA he169c (rA he208a (rA he208b he208c)))))) ?_
           refine xI h2 rfl (fun h2 hb214 => ?_) (fun h2 hb214 => ?_)
           ·
            refine fD ?_
            obtain rfl := Option.some.inj h2
            refine kB (eQ (by decide) (kB (kB (wZ (by decide) (eQ (by decide) (kB (kB (kD ?_))))))))
            obtain rfl := Option.some.inj h1
            exact ⟨rL, ⟨rF, rE, rfl, rfl, (gC.consM rL rfl trivial), trivial⟩⟩
           ·
            refine qA (iA ?_)
            refine uU 4 rfl ?_
            refine kC (l' := List.range' 0 3 ++ (3 :: (List.range' 4 0 ++ []))) rfl ?_
            refine pC 0 3 568 (3 :: (List.range' 4 0 ++ [])) (fun _ => none) rfl rfl rfl (fun _ _ => rS (rA he169a (rA he169b (rA he169c (rA he208a (rA he208b he208c)))))) ?_
            refine zdh (l := 144) (ek := (fun n : Int => AV.int .i64 n)) (ev := AV.bool) (m := v205) (n := e208.Id) (y := true) rfl rfl rfl rfl rX zaM (fun _ => rfl) rfl rfl rfl rfl ?_
            refine uJ (s2 := ⟨[(1, .ref 0 0 0 0), (2, .int .i64 v165), (3, .int .i64 v204), (4, .int .i64 vr210), (5, .mp 144), (6, .int .i64 v165), (9, .ref 368 0 0 0), (28, .psl 1 (List.map tA.enc l1.Levels)), (29, .int .i64 (l1.Levels.length : Int)), (30, .int .i64 v165), (41, .psl 2 (List.map eB.enc e169.Runs)), (42, .int .i64 (e169.Runs.length : Int)), (43, .int .i64 v204), (64, .bool (!(decide (vr210 = 0)))), (65, .mp 144), (66, .ref 368 0 0 0), (67, .int .i64 e208.Id)], [(0, ⟨0, true, true, 2, [[.int .i64 l1.B, .psl 1 (List.map tA.enc l1.Levels)]]⟩), (224, ⟨0, true, true, 1, [[.psl 2 (List.map eB.enc e169.Runs)]]⟩), (368, ⟨0, true, true, 2, [[.int .i64 e208.Id, .psl 4 (List.map aA.enc e208.Entries)]]⟩)], 576, [(144, (aF (cE (fun n : Int => AV.int .i64 n) AV.bool (mF v205 e208.Id true))))]⟩) [] rL ⟨rF, rE, rfl, rfl, (gC.consM rL rfl trivial), trivial⟩ ?_
            refine kC (l' := []) rfl ?_
            refine iD ?_
            refine fC (iA ?_)
            refine dC (s2 := ⟨[(1, .ref 0 0 0 0), (2, .int .i64 v165), (3, .int .i64 v204), (4, .int .i64 vr210), (5, .mp 144), (6, .int .i64 v165), (28, .psl 1 (List.map tA.enc l1.Levels)), (29, .int .i64 (l1.Levels.length : Int)), (30, .int .i64 v165), (41, .psl 2 (List.map eB.enc e169.Runs)), (42, .int .i64 (e169.Runs.length : Int)), (43, .int .i64 v204)], [(0, ⟨0, true, true, 2, [[.int .i64 l1.B, .psl 1 (List.map tA.enc l1.Levels)]]⟩), (224, ⟨0, true, true, 1, [[.psl 2 (List.map eB.enc e169.Runs)]]⟩), (368, ⟨0, true, true, 2, [[.int .i64 e208.Id, .psl 4 (List.map aA.enc e208.Entries)]]⟩)], 576, [(144, (aF (cE (fun n : Int => AV.int .i64 n) AV.bool (mF v205 e208.Id true))))]⟩) [] rL ⟨rF, rE, rfl, rfl, (gC.consM rL rfl trivial), trivial⟩ ?_
            refine eC 592 [1, 2, 3, 4, 5, 6, 28, 29, 30, 41, 42, 43] (fun _ => none) rfl (fun _ _ => rS (rA he169a (rA he169b (rA he169c (rA he208a (rA he208b he208c)))))) ?_
            refine iA ?_
            exact ⟨⟨(fu, vr210, (IntKind.i64.wrap (v204 + 1)), (mF v205 e208.Id true), v204), h2⟩, ⟨rF, rE, rfl, rfl, (gC.consM rL rfl trivial), trivial⟩, Nat.lt_succ_self _⟩
         ·
          refine fD (kB (kB (kD ?_)))
          obtain rfl := Option.some.inj h2
          exact ⟨_, rfl, rL, ⟨rF, rE, rfl, rfl, (gC.consM rL rfl trivial), trivial⟩⟩
     ·
      refine fD (kB (kB (kD ?_)))
      obtain rfl := Option.some.inj h1
      exact ⟨rL, ⟨rF, rE, rfl, rfl, (gC.consM rL rfl trivial), trivial⟩⟩
theorem zdy {fu : Nat} {l1 : yA} {r : Int} (h0 : gN fu l1 = some r) : jB Try.prog 21 [.agg (yA.enc l1)] (.int .i64 r) [] := by
 refine tB Try.func21 rfl (by decide) rL ?_
 dsimp only [Try.f21]
 rw [gN] at h0
 refine (show pA _ _ _ _ ⟨iB 0 _, [], 0, []⟩ from ?_)
 refine xS 16 [1, 2] ?_
 refine kA ?_
 refine xS 48 [2, 8, 9, 10] ?_
 obtain ⟨x30, hxx30, h0⟩ := fA h0
 refine sD (fun s' => s'.nx ≤ 56 ∧ LeN [] s' ⟨[(2, .int .i64 x30)], [(0, ⟨0, true, true, 2, [[.int .i64 l1.B, .psl 1 (List.map tA.enc l1.Levels)]]⟩)], 56, []⟩) ?_ ?_
 ·
  intro s' hs
  obtain ⟨hn, hs⟩ := hs
  refine iA ?_
  refine dC [] hn hs ?_
  refine xS 72 [2] ?_
  refine jA ?_
  obtain rfl := Option.some.inj h0
  refine mA [] ?_
  exact rG
 ·
  refine oD (ι := { p : Nat × Int × Int // cI l1 p.1 p.2.1 p.2.2 = some x30 }) (fun p => ⟨[(2, .int .i64 p.1.2.1), (8, .psl 1 (List.map tA.enc l1.Levels)), (9, .int .i64 (l1.Levels.length : Int)), (10, .int .i64 p.1.2.2)], [(0, ⟨0, true, true, 2, [[.int .i64 l1.B, .psl 1 (List.map tA.enc l1.Levels)]]⟩)], 48, []⟩) (fun p => p.1.1) ⟨(fu, 0, 0), hxx30⟩ ⟨rF, rE, rfl, rfl, trivial, trivial⟩ (fun _ => Nat.le_refl _) ?_
  rintro ⟨⟨fu, best31, v32⟩, h1⟩
  cases fu with
  | zero =>
   replace h1 : cI l1 0 best31 v32 = some x30 := h1
   rw [cI] at h1; cases h1
  | succ fu =>
   replace h1 : cI l1 (fu + 1) best31 v32 = some x30 := h1
   rw [cI] at h1
   refine (show pA _ _ _ _ ⟨[(2, .int .i64 best31), (8, .psl 1 (List.map tA.enc l1.Levels)), (9, .int .i64 (l1.Levels.length : Int)), (10, .int .i64 v32)], [(0, ⟨0, true, true, 2, [[.int .i64 l1.B, .psl 1 (List.map tA.enc l1.Levels)]]⟩)], 48, []⟩ from ?_)
   refine xS 56 [2, 8, 9, 10, 11] ?_
   refine kA ?_
   refine xI h1 rfl (fun h1 hb33 => ?_) (fun h1 hb33 => ?_)
   ·
    refine qA (iA (kA (nC ?_)))
    obtain ⟨e34, he34, h1⟩ := fA h1
    obtain ⟨he34a, he34b, he34c⟩ := dB he34
    refine nA 88 [2, 4, 8, 9, 10] (fun _ => none) rfl (fun _ _ => rS (rA he34a (rA he34b he34c))) ?_
    refine nA 120 [2, 8, 9, 10, 15, 16, 17] (fun _ => none) rfl (fun _ _ => rS (rA he34a (rA he34b he34c))) ?_
    obtain ⟨x41, hxx41, h1⟩ := fA h1
    refine sD (fun s' => s'.nx ≤ 128 ∧ LeN [] s' ⟨[(2, .int .i64 x41), (8, .psl 1 (List.map tA.enc l1.Levels)), (9, .int .i64 (l1.Levels.length : Int)), (10, .int .i64 v32)], [(0, ⟨0, true, true, 2, [[.int .i64 l1.B, .psl 1 (List.map tA.enc l1.Levels)]]⟩), (72, ⟨0, true, true, 1, [[.psl 2 (List.map eB.enc e34.Runs)]]⟩)], 128, []⟩) ?_ ?_
    ·
     intro s' hs
     obtain ⟨hn, hs⟩ := hs
     refine fC (iA ?_)
     refine dC [] hn hs ?_
     refine eC 144 [2, 8, 9, 10] (fun _ => none) rfl (fun _ _ => rS (rA he34a (rA he34b he34c))) ?_
     refine iA ?_
     exact ⟨⟨(fu, x41, (IntKind.i64.wrap (v32 + 1))), h1⟩, ⟨rF, rE, rfl, rfl, trivial, trivial⟩, Nat.lt_succ_self _⟩
    ·
     refine oD (ι := { p : Nat × Int × Int // uI e34 p.1 p.2.1 p.2.2 = some x41 }) (fun p => ⟨[(2, .int .i64 p.1.2.1), (8, .psl 1 (List.map tA.enc l1.Levels)), (9, .int .i64 (l1.Levels.length : Int)), (10, .int .i64 v32), (15, .psl 2 (List.map eB.enc e34.Runs)), (16, .int .i64 (e34.Runs.length : Int)), (17, .int .i64 p.1.2.2)], [(0, ⟨0, true, true, 2, [[.int .i64 l1.B, .psl 1 (List.map tA.enc l1.Levels)]]⟩), (72, ⟨0, true, true, 1, [[.psl 2 (List.map eB.enc e34.Runs)]]⟩)], 120, []⟩) (fun p => p.1.1) ⟨(fu, best31, 0), hxx41⟩ ⟨rF, rE, rfl, rfl, trivial, trivial⟩ (fun _ => Nat.le_refl _) ?_
     rintro ⟨⟨fu, best42, v43⟩, h2⟩
     cases fu with
     | zero =>
   replace h2 : uI e34 0 best42 v43 = some x41 := h2
   rw [uI] at h2; cases h2
     | succ fu =>
      replace h2 : uI e34 (fu + 1) best42 v43 = some x41 := h2
      rw [uI] at h2
      refine (show pA _ _ _ _ ⟨[(2, .int .i64 best42), (8, .psl 1 (List.map tA.enc l1.Levels)), (9, .int .i64 (l1.Levels.length : Int)), (10, .int .i64 v32), (15, .psl 2 (List.map eB.enc e34.Runs)), (16, .int .i64 (e34.Runs.length : Int)), (17, .int .i64 v43)], [(0, ⟨0, true, true, 2, [[.int .i64 l1.B, .psl 1 (List.map tA.enc l1.Levels)]]⟩), (72, ⟨0, true, true, 1, [[.psl 2 (List.map eB.enc e34.Runs)]]⟩)], 120, []⟩ from ?_)
      refine nA 128 [2, 8, 9, 10, 15, 16, 17, 18] (fun _ => none) rfl (fun _ _ => rS (rA he34a (rA he34b he34c))) ?_
      refine kA ?_
      refine xI h2 rfl (fun h2 hb44 => ?_) (fun h2 hb44 => ?_)
      ·
       refine qA (iA (kA (nC ?_)))
       obtain ⟨e45, he45, h2⟩ := fA h2
       obtain ⟨he45a, he45b, he45c⟩ := dB he45
       refine nA 160 [2, 6, 8, 9, 10, 15, 16, 17] (fun _ => none) rfl (fun _ _ => rS (rA he34a (rA he34b (rA he34c (rA he45a (rA he45b he45c)))))) ?_
       refine eC 200 [2, 8, 9, 10, 15, 16, 17] (fun _ => none) rfl (fun _ _ => rS (rA he34a (rA he34b (rA he34c (rA he45a (rA he45b he45c)))))) ?_
       refine fC (iA ?_)
       refine eC 216 [2, 8, 9, 10, 15, 16, 17] (fun _ => none) rfl (fun _ _ => rS (rA he34a (rA he34b (rA he34c (rA he45a (rA he45b he45c)))))) ?_
       refine iA ?_
       exact ⟨⟨(fu, (if best42 < e45.Id then e45.Id else best42), (IntKind.i64.wrap (v43 + 1))), h2⟩, ⟨rF, rE, rfl, rfl, trivial, trivial⟩, Nat.lt_succ_self _⟩
      ·
       refine fD (kB (kB (kD ?_)))
       obtain rfl := Option.some.inj h2
       exact ⟨rL, ⟨rF, rE, rfl, rfl, trivial, trivial⟩⟩
   ·
    refine fD (kB (kB (kD ?_)))
    obtain rfl := Option.some.inj h1
    exact ⟨rL, ⟨rF, rE, rfl, rfl, trivial, trivial⟩⟩
theorem zc7 {fu : Nat} {l1 : yA} {r : Int × List tA} (h0 : yK fu l1 = some r) : jB Try.prog 22 [.agg (yA.enc l1)] (.fn 41 [] [.pp [.int .i64 r.1, .psl 1 (r.2.map tA.enc)]]) [] := by
 refine tB Try.func22 rfl (by decide) rL ?_
 dsimp only [Try.f22]
 rw [yK] at h0
 refine (show pA _ _ _ _ ⟨iB 0 _, [], 0, []⟩ from ?_)
 refine xS 16 [1] ?_
 refine xS 32 [2] ?_
 refine jA ?_
 obtain rfl := Option.some.inj h0
 refine mA [] ?_
 exact rG
theorem gZ {fu : Nat} {l1 : yA} {level2 : Int} {r : Bool} (h0 : jL fu l1 level2 = some r) : jB Try.prog 24 [.agg (yA.enc l1), .int .i64 level2] (.bool r) [] := by
 refine tB Try.func24 rfl (by decide) rL ?_
 dsimp only [Try.f24]
 rw [jL] at h0
 refine (show pA _ _ _ _ ⟨iB 0 _, [], 0, []⟩ from ?_)
 refine xS 16 [1, 2] ?_
 refine xS 72 [4] ?_
 refine jA ?_
 obtain rfl := Option.some.inj h0
 refine mA [] ?_
 exact rG
theorem zaI {fu : Nat} {runs1 : List (List aA)} {r : Int × Int} (h0 : rJ fu runs1 = some r) : jB Try.prog 75 [.psl 1 (runs1.map (sA 4 aA.enc))] (.tup [.int .i64 r.1, .int .i64 r.2]) [] := by
 refine tB Try.func75 rfl (by decide) rL ?_
 dsimp only [Try.f75]
 rw [rJ] at h0
 refine (show pA _ _ _ _ ⟨iB 0 _, [], 0, []⟩ from ?_)
 refine xS 16 [0] ?_
 refine kA (nC ?_)
 refine xS 48 [0, 8] ?_
 refine xI h0 rfl (fun h0 hb2 => ?_) (fun h0 hb2 => ?_)
 ·
  refine xS 64 [2, 3] ?_
  refine jA (oC (oA ?_))
  obtain rfl := Option.some.inj h0
  refine mA [] ?_
  exact rG
 ·
  refine xS 80 [0, 12] ?_
  refine xI h0 rfl (fun h0 hb3 => ?_) (fun h0 hb3 => ?_)
  ·
   refine xS 96 [2, 3] ?_
   refine jA (oC (oA ?_))
   obtain rfl := Option.some.inj h0
   refine mA [] ?_
   exact rG
  ·
   refine qA (fC (iA (kA ?_)))
   refine xS 104 [16, 17, 18] ?_
   obtain ⟨x13, hxx13, h0⟩ := fA h0
   refine sD (fun s' => ∃ o19 : Unit, x13 = .inl o19 ∧ s'.nx ≤ 112 ∧ LeN [] s' ⟨[], [], 112, []⟩) ?_ ?_
   ·
    intro s' hs
    obtain ⟨o19, rfl, hn, hs⟩ := hs
    refine iA ?_
    refine dC [] hn hs ?_
    refine xS 128 [2, 3] ?_
    refine jA ?_
    obtain rfl := Option.some.inj h0
    refine mA [] ?_
    exact rG
   ·
    refine oD (ι := { p : Nat × Int // wF runs1 p.1 p.2 = some x13 }) (fun p => ⟨[(16, .psl 1 (List.map (sA 4 aA.enc) runs1)), (17, .int .i64 (runs1.length : Int)), (18, .int .i64 p.1.2)], [], 104, []⟩) (fun p => p.1.1) ⟨(fu, 0), hxx13⟩ ⟨rF, rE, rfl, rfl, trivial, trivial⟩ (fun _ => Nat.le_refl _) ?_
    rintro ⟨⟨fu, v14⟩, h1⟩
    cases fu with
    | zero =>
   replace h1 : wF runs1 0 v14 = some x13 := h1
   rw [wF] at h1; cases h1
    | succ fu =>
     replace h1 : wF runs1 (fu + 1) v14 = some x13 := h1
     rw [wF] at h1
     refine (show pA _ _ _ _ ⟨[(16, .psl 1 (List.map (sA 4 aA.enc) runs1)), (17, .int .i64 (runs1.length : Int)), (18, .int .i64 v14)], [], 104, []⟩ from ?_)
     refine xS 112 [16, 17, 18, 19] ?_
     refine kA ?_
     refine xI h1 rfl (fun h1 hb15 => ?_) (fun h1 hb15 => ?_)
     ·
      refine qA (iA (kA (nC ?_)))
      obtain ⟨e16, he16, h1⟩ := fA h1
      obtain ⟨he16a, he16b, he16c⟩ := dB he16
      refine nA 152 [4, 5, 16, 17, 18] (fun _ => none) rfl (fun _ _ => rS (rA he16a (rA he16b he16c))) ?_
      obtain ⟨vr17, hvr17, h1⟩ := fA h1
      refine nA 208 [4, 7, 16, 17, 18] (fun | 1 => some (.tup [.int .i64 vr17.1, .int .i64 vr17.2], []) | _ => none) rfl (fun _ _ => rB (rA he16a (rA he16b he16c)) (zcQ hvr17)) ?_
      refine nA 224 [4, 7, 16, 17, 18, 29] (fun _ => none) rfl (fun _ _ => rS (rA he16a (rA he16b he16c))) ?_
      refine xI h1 rfl (fun h1 hb18 => ?_) (fun h1 hb18 => ?_)
      ·
       refine nA 256 [2, 3] (fun _ => none) rfl (fun _ _ => rS (rA he16a (rA he16b he16c))) ?_
       refine jA ?_
       obtain rfl := Option.some.inj h1
       refine oC (oA (oA (zD (oA ?_))))
       obtain rfl := Option.some.inj h0
       refine mA [] ?_
       simp (maxSteps := 1000000) only [↓reduceIte, reduceCtorEq, Nat.reduceEqDiff, Nat.reduceLT, Nat.reduceLeDiff, Nat.reduceAdd, Nat.reduceMul, Int.reduceToNat, push_cast, mC, he16a, he16b, he16c]
       all_goals exact rH
      ·
       refine qA (fC (iA ?_))
       refine eC 240 [16, 17, 18] (fun _ => none) rfl (fun _ _ => rS (rA he16a (rA he16b he16c))) ?_
       refine iA ?_
       exact ⟨⟨(fu, (IntKind.i64.wrap (v14 + 1))), h1⟩, ⟨rF, rE, rfl, rfl, trivial, trivial⟩, Nat.lt_succ_self _⟩
     ·
      refine fD (kB (kB (kD ?_)))
      obtain rfl := Option.some.inj h1
      exact ⟨_, rfl, rL, ⟨rF, rE, rfl, rfl, trivial, trivial⟩⟩
theorem zbi {fu : Nat} {vs1 : List (List aA)} {r : List (List aA)} (h0 : tL fu vs1 = some r) : jB Try.prog 76 [.psl 1 (vs1.map (sA 4 aA.enc))] (.psl 1 (r.map (sA 4 aA.enc))) [] := by
 refine tB Try.func76 rfl (by decide) rL ?_
 dsimp only [Try.f76]
 rw [tL] at h0
 refine (show pA _ _ _ _ ⟨iB 0 _, [], 0, []⟩ from ?_)
 refine xS 8 [0] ?_
 refine kA ?_
 cases hb2 : vs1.isEmpty with
 | true =>
  replace h0 := lB h0 hb2
  obtain rfl : vs1 = [] := List.isEmpty_iff.1 hb2
  refine xS 24 [0, 4] ?_
  refine xU rfl ?_ ?_
  ·
   skip
   refine xS 32 [2] ?_
   refine jA (oA ?_)
   obtain rfl := Option.some.inj h0
   refine mA [] ?_
   exact rG
  ·
   skip
   refine qA (iA ?_)
   refine xS 56 [2] ?_
   refine xE ⟨[(2, .sl 24 1 1 0 0)], [(24, ⟨1, true, true, 1, List.map (sA 4 aA.enc) []⟩)], 56, []⟩ ?_
   refine jA ?_
   obtain rfl := Option.some.inj h0
   refine mA [] ?_
   exact rG
 | false =>
  replace h0 := vA h0 hb2
  refine nA 24 [0, 4] (fun _ => none) rfl (fun _ _ => rS hb2) ?_
  refine bG rfl ?_
  refine qA (iA ?_)
  obtain ⟨hc3, h0⟩ := pE h0
  refine nA 56 [2] (fun _ => none) rfl (fun _ _ => rS hb2) ?_
  refine xE ⟨[(2, .sl 24 1 1 0 vs1.length)], [(24, ⟨1, true, true, 1, List.map (sA 4 aA.enc) vs1⟩)], 56, []⟩ ?_
  refine jA ?_
  obtain rfl := Option.some.inj h0
  refine mA [] ?_
  simp (maxSteps := 1000000) only [↓reduceIte, reduceCtorEq, Nat.reduceEqDiff, Nat.reduceLT, Nat.reduceLeDiff, Nat.reduceAdd, Nat.reduceMul, Int.reduceToNat, push_cast, mC, hb2]
  all_goals exact rH
theorem yX {fu : Nat} {l1 : List aA} {vat2 : Int} {r : cA} (h0 : bK fu l1 vat2 = some r) : jB Try.prog 93 [.psl 4 (l1.map aA.enc), .int .i64 vat2] (.agg (cA.enc r)) [] := by
 refine tB Try.func93 rfl (by decide) rL ?_
 dsimp only [Try.f93]
 rw [bK] at h0
 refine (show pA _ _ _ _ ⟨iB 0 _, [], 0, []⟩ from ?_)
 refine xS 8 [0, 1, 4] ?_
 refine kA ?_
 refine xS 40 [0, 1, 4, 8] ?_
 refine xI h0 rfl (fun h0 hb3 => ?_) (fun h0 hb3 => ?_)
 ·
  refine xS 56 [4] ?_
  refine jA (oA ?_)
  obtain rfl := Option.some.inj h0
  refine mA [] ?_
  exact rG
 ·
  refine qA (iA ?_)
  obtain ⟨e4, he4, h0⟩ := fA h0
  obtain ⟨he4a, he4b, he4c⟩ := dB he4
  refine nA 96 [4] (fun _ => none) rfl (fun _ _ => rS (rA he4a (rA he4b he4c))) ?_
  refine jA ?_
  obtain rfl := Option.some.inj h0
  refine mA [] ?_
  simp (maxSteps := 1000000) only [↓reduceIte, reduceCtorEq, Nat.reduceEqDiff, Nat.reduceLT, Nat.reduceLeDiff, Nat.reduceAdd, Nat.reduceMul, Int.reduceToNat, push_cast, mC, he4a, he4b, he4c]
  all_goals exact rH
theorem zhv {fu : Nat} {k1 : cA} {r : Bool} (h0 : xQ fu k1 = some r) : jB Try.prog 109 [.agg (cA.enc k1)] (.bool r) [] := by
 refine tB Try.func109 rfl (by decide) rL ?_
 dsimp only [Try.f109]
 rw [xQ] at h0
 refine (show pA _ _ _ _ ⟨iB 0 _, [], 0, []⟩ from ?_)
 refine xS 16 [1] ?_
 obtain ⟨b2, hb2, h0⟩ := fA h0
 refine eD (fr' := [(2, .bool b2)]) (hp' := [(0, ⟨0, true, true, 2, [[.str k1.Key, .bool k1.Done]]⟩)]) [0] 80 [2] (fun _ => none) rfl (fun Kt hK => by
   cases hg3 : k1.Done with
   | false =>
    replace hb2 := vA hb2 hg3
    have hqb2 := Option.some.inj hb2
    subst hqb2
    simp (maxSteps := 1000000) only [↓reduceIte, reduceCtorEq, Nat.reduceEqDiff, Nat.reduceLT, Nat.reduceLeDiff, Nat.reduceAdd, Nat.reduceMul, Int.reduceToNat, push_cast, ↓hg3]
    try simp only [↓hg3] at hK
    all_goals exact rU
   | true =>
    replace hb2 := lB hb2 hg3
    have hqb2 := Option.some.inj hb2
    subst hqb2
    simp (maxSteps := 1000000) only [↓reduceIte, reduceCtorEq, Nat.reduceEqDiff, Nat.reduceLT, Nat.reduceLeDiff, Nat.reduceAdd, Nat.reduceMul, Int.reduceToNat, push_cast, ↓hg3]
    try simp only [↓hg3] at hK
    all_goals exact rU) ?_
 refine jA ?_
 obtain rfl := Option.some.inj h0
 refine mA [] ?_
 exact rG
theorem zgx {fu : Nat} {vs1 : List cA} {r : Int} (h0 : gR fu vs1 = some r) : jB Try.prog 111 [.psl 2 (vs1.map cA.enc), .fn 109 [] []] (.int .i64 r) [] := by
 refine tB Try.func111 rfl (by decide) rL ?_
 dsimp only [Try.f111]
 rw [gR] at h0
 refine (show pA _ _ _ _ ⟨iB 0 _, [], 0, []⟩ from ?_)
 refine xS 8 [0, 1] ?_
 refine kA ?_
 refine xS 32 [0, 1, 7, 8] ?_
 obtain ⟨x11, hxx11, h0⟩ := fA h0
 refine sD (fun s' => ∃ o17 : Unit, x11 = .inl o17 ∧ s'.nx ≤ 40 ∧ LeN [] s' ⟨[], [], 40, []⟩) ?_ ?_
 ·
  intro s' hs
  obtain ⟨o17, rfl, hn, hs⟩ := hs
  refine iA ?_
  refine dC [] hn hs ?_
  refine xS 48 [4] ?_
  refine jA ?_
  obtain rfl := Option.some.inj h0
  refine mA [] ?_
  exact rG
 ·
  refine oD (ι := { p : Nat × Int // nI vs1 p.1 p.2 = some x11 }) (fun p => ⟨[(0, .psl 2 (List.map cA.enc vs1)), (1, .fn 109 [] []), (7, .int .i64 (vs1.length : Int)), (8, .int .i64 p.1.2)], [], 32, []⟩) (fun p => p.1.1) ⟨(fu, 0), hxx11⟩ ⟨rF, rE, rfl, rfl, trivial, trivial⟩ (fun _ => Nat.le_refl _) ?_
  rintro ⟨⟨fu, v12⟩, h1⟩
  cases fu with
  | zero =>
   replace h1 : nI vs1 0 v12 = some x11 := h1
   rw [nI] at h1; cases h1
  | succ fu =>
   replace h1 : nI vs1 (fu + 1) v12 = some x11 := h1
   rw [nI] at h1
   refine (show pA _ _ _ _ ⟨[(0, .psl 2 (List.map cA.enc vs1)), (1, .fn 109 [] []), (7, .int .i64 (vs1.length : Int)), (8, .int .i64 v12)], [], 32, []⟩ from ?_)
   refine xS 40 [0, 1, 7, 8, 9] ?_
   refine kA ?_
   refine xI h1 rfl (fun h1 hb13 => ?_) (fun h1 hb13 => ?_)
   ·
    refine qA (iA (kA (nC ?_)))
    refine xS 56 [0, 1, 5, 7, 8] ?_
    obtain ⟨e14, he14, h1⟩ := fA h1
    obtain ⟨he14a, he14b, he14c⟩ := dB he14
    obtain ⟨vr15, hvr15, h1⟩ := fA h1
    refine nA 104 [0, 1, 5, 7, 8, 16] (fun | 5 => some (.bool vr15, []) | _ => none) rfl (fun _ _ => rB (rA he14a (rA he14b he14c)) (zhv hvr15)) ?_
    refine xI h1 rfl (fun h1 hb16 => ?_) (fun h1 hb16 => ?_)
    ·
     refine nA 120 [4] (fun _ => none) rfl (fun _ _ => rS (rA he14a (rA he14b he14c))) ?_
     refine jA ?_
     obtain rfl := Option.some.inj h1
     refine oC (oA (oA (zD (oA ?_))))
     obtain rfl := Option.some.inj h0
     refine mA [] ?_
     simp (maxSteps := 1000000) only [↓reduceIte, reduceCtorEq, Nat.reduceEqDiff, Nat.reduceLT, Nat.reduceLeDiff, Nat.reduceAdd, Nat.reduceMul, Int.reduceToNat, push_cast, mC, he14a, he14b, he14c]
     all_goals exact rH
    ·
     refine qA (fC (iA ?_))
     refine eC 120 [0, 1, 7, 8] (fun _ => none) rfl (fun _ _ => rS (rA he14a (rA he14b he14c))) ?_
     refine iA ?_
     exact ⟨⟨(fu, (IntKind.i64.wrap (v12 + 1))), h1⟩, ⟨rF, rE, rfl, rfl, trivial, trivial⟩, Nat.lt_succ_self _⟩
   ·
    refine fD (kB (kB (kD ?_)))
    obtain rfl := Option.some.inj h1
    exact ⟨_, rfl, rL, ⟨rF, rE, rfl, rfl, trivial, trivial⟩⟩
theorem zib {fu : Nat} {vs1 : List cA} {r : Bool} (h0 : iR fu vs1 = some r) : jB Try.prog 108 [.psl 2 (vs1.map cA.enc), .fn 109 [] []] (.bool r) [] := by
 refine tB Try.func108 rfl (by decide) rL ?_
 dsimp only [Try.f108]
 rw [iR] at h0
 refine (show pA _ _ _ _ ⟨iB 0 _, [], 0, []⟩ from ?_)
 refine xS 8 [0, 1] ?_
 obtain ⟨vr2, hvr2, h0⟩ := fA h0
 refine nA 48 [4] (fun | 2 => some (.int .i64 vr2, []) | _ => none) rfl (fun _ _ => rC (zgx hvr2)) ?_
 refine jA ?_
 obtain rfl := Option.some.inj h0
 refine mA [] ?_
 exact rG
theorem sW {fu : Nat} {keys1 : List cA} {r : Int} (h0 : iL fu keys1 = some r) : jB Try.prog 103 [.psl 2 (keys1.map cA.enc)] (.int .i64 r) [] := by
 refine tB Try.func103 rfl (by decide) rL ?_
 dsimp only [Try.f103]
 rw [iL] at h0
 refine (show pA _ _ _ _ ⟨iB 0 _, [], 0, []⟩ from ?_)
 refine xS 8 [0] ?_
 refine kA (nC ?_)
 refine xS 40 [0, 3] ?_
 refine xI h0 rfl (fun h0 hb2 => ?_) (fun h0 hb2 => ?_)
 ·
  refine xS 48 [2] ?_
  refine jA (oC (oA ?_))
  obtain rfl := Option.some.inj h0
  refine mA [] ?_
  exact rG
 ·
  refine xS 72 [0, 7] ?_
  refine xI h0 rfl (fun h0 hb3 => ?_) (fun h0 hb3 => ?_)
  ·
   refine xS 80 [2] ?_
   refine jA (oC (oA ?_))
   obtain rfl := Option.some.inj h0
   refine mA [] ?_
   exact rG
  ·
   obtain ⟨vr4, hvr4, h0⟩ := fA h0
   refine nA 96 [11] (fun | 1 => some (.bool vr4, []) | _ => none) rfl (fun _ _ => rC (zib hvr4)) ?_
   refine xI h0 rfl (fun h0 hb5 => ?_) (fun h0 hb5 => ?_)
   ·
    refine xS 104 [2] ?_
    refine jA (oC (oA ?_))
    obtain rfl := Option.some.inj h0
    refine mA [] ?_
    exact rG
   ·
    refine qA (fC (iA ?_))
    refine xS 104 [2] ?_
    refine jA ?_
    obtain rfl := Option.some.inj h0
    refine mA [] ?_
    exact rG
theorem za0 {fu : Nat} {keys1 : List cA} {r : List cA} (h0 : bM fu keys1 = some r) : jB Try.prog 107 [.psl 2 (keys1.map cA.enc)] (.fn 110 [] [.pp [.psl 2 (r.map cA.enc)]]) [] := by
 refine tB Try.func107 rfl (by decide) rL ?_
 dsimp only [Try.f107]
 rw [bM] at h0
 refine (show pA _ _ _ _ ⟨iB 0 _, [], 0, []⟩ from ?_)
 refine xS 16 [1] ?_
 refine xS 32 [2] ?_
 refine jA ?_
 obtain rfl := Option.some.inj h0
 refine mA [] ?_
 exact rG
theorem zhg {fu : Nat} {vs1 : List cA} {r : List cA} (h0 : uQ fu vs1 = some r) : jB Try.prog 106 [.psl 2 (vs1.map cA.enc)] (.psl 2 (r.map cA.enc)) [] := by
 refine tB Try.func106 rfl (by decide) rL ?_
 dsimp only [Try.f106]
 rw [uQ] at h0
 refine (show pA _ _ _ _ ⟨iB 0 _, [], 0, []⟩ from ?_)
 refine xS 8 [0] ?_
 refine kA ?_
 cases hb2 : vs1.isEmpty with
 | true =>
  replace h0 := lB h0 hb2
  obtain rfl : vs1 = [] := List.isEmpty_iff.1 hb2
  refine xS 24 [0, 4] ?_
  refine xU rfl ?_ ?_
  ·
   skip
   refine xS 32 [2] ?_
   refine jA (oA ?_)
   obtain rfl := Option.some.inj h0
   refine mA [] ?_
   exact rG
  ·
   skip
   refine qA (iA ?_)
   refine xS 56 [2] ?_
   refine xE ⟨[(2, .sl 24 1 2 0 0)], [(24, ⟨1, true, true, 2, List.map cA.enc []⟩)], 56, []⟩ ?_
   refine jA ?_
   obtain rfl := Option.some.inj h0
   refine mA [] ?_
   exact rG
 | false =>
  replace h0 := vA h0 hb2
  refine nA 24 [0, 4] (fun _ => none) rfl (fun _ _ => rS hb2) ?_
  refine bG rfl ?_
  refine qA (iA ?_)
  obtain ⟨hc3, h0⟩ := pE h0
  refine nA 56 [2] (fun _ => none) rfl (fun _ _ => rS hb2) ?_
  refine xE ⟨[(2, .sl 24 1 2 0 vs1.length)], [(24, ⟨1, true, true, 2, List.map cA.enc vs1⟩)], 56, []⟩ ?_
  refine jA ?_
  obtain rfl := Option.some.inj h0
  refine mA [] ?_
  simp (maxSteps := 1000000) only [↓reduceIte, reduceCtorEq, Nat.reduceEqDiff, Nat.reduceLT, Nat.reduceLeDiff, Nat.reduceAdd, Nat.reduceMul, Int.reduceToNat, push_cast, mC, hb2]
  all_goals exact rH
theorem lZ {fu : Nat} {p1 : Int} {q2 : Int} {p3 : List cA} {r : Bool} (h0 : cN fu p1 q2 p3 = some r) : jB Try.prog 110 [.int .i64 p1, .int .i64 q2, .pp [.psl 2 (p3.map cA.enc)]] (.bool r) [] := by
 refine tB Try.func110 rfl (by decide) rL ?_
 dsimp only [Try.f110]
 rw [cN] at h0
 refine (show pA _ _ _ _ ⟨iB 0 _, [], 0, []⟩ from ?_)
 refine xS 8 [0, 1, 2] ?_
 obtain ⟨e4, he4, h0⟩ := fA h0
 obtain ⟨he4a, he4b, he4c⟩ := dB he4
 obtain ⟨e5, he5, h0⟩ := fA h0
 obtain ⟨he5a, he5b, he5c⟩ := dB he5
 refine nD 104 [0, 1, 6, 7] (fun _ => none) rfl rfl rfl (fun _ _ => jF (rA he4a (rA he4b (rA he4c (rA he5a (rA he5b he5c)))))) ?_
 refine kA (nC ?_)
 refine nA 152 [0, 1, 6, 7, 16] (fun _ => none) rfl (fun _ _ => rS (rA he4a (rA he4b (rA he4c (rA he5a (rA he5b he5c)))))) ?_
 refine xI h0 rfl (fun h0 hb6 => ?_) (fun h0 hb6 => ?_)
 ·
  refine nA 176 [5] (fun _ => none) rfl (fun _ _ => rS (rA he4a (rA he4b (rA he4c (rA he5a (rA he5b he5c)))))) ?_
  refine jA (oC (oA ?_))
  obtain rfl := Option.some.inj h0
  refine mA [] ?_
  simp (maxSteps := 1000000) only [↓reduceIte, reduceCtorEq, Nat.reduceEqDiff, Nat.reduceLT, Nat.reduceLeDiff, Nat.reduceAdd, Nat.reduceMul, Int.reduceToNat, push_cast, mC, he4a, he4b, he4c, he5a, he5b, he5c]
  all_goals exact rH
 ·
  refine nA 200 [0, 1, 6, 7, 24] (fun _ => none) rfl (fun _ _ => rS (rA he4a (rA he4b (rA he4c (rA he5a (rA he5b he5c)))))) ?_
  refine xI h0 rfl (fun h0 hb7 => ?_) (fun h0 hb7 => ?_)
  ·
   refine nA 248 [5] (fun _ => none) rfl (fun _ _ => rS (rA he4a (rA he4b (rA he4c (rA he5a (rA he5b he5c)))))) ?_
   refine jA (oC (oA ?_))
   obtain rfl := Option.some.inj h0
   refine mA [] ?_
   simp (maxSteps := 1000000) only [↓reduceIte, reduceCtorEq, Nat.reduceEqDiff, Nat.reduceLT, Nat.reduceLeDiff, Nat.reduceAdd, Nat.reduceMul, Int.reduceToNat, push_cast, mC, he4a, he4b, he4c, he5a, he5b, he5c]
   all_goals exact rH
  ·
   refine qA (fC (iA ?_))
   refine nA 232 [5] (fun _ => none) rfl (fun _ _ => rS (rA he4a (rA he4b (rA he4c (rA he5a (rA he5b he5c)))))) ?_
   refine jA ?_
   obtain rfl := Option.some.inj h0
   refine mA [] ?_
   simp (maxSteps := 1000000) only [↓reduceIte, reduceCtorEq, Nat.reduceEqDiff, Nat.reduceLT, Nat.reduceLeDiff, Nat.reduceAdd, Nat.reduceMul, Int.reduceToNat, push_cast, mC, he4a, he4b, he4c, he5a, he5b, he5c]
   all_goals exact rH
theorem zes {fu : Nat} {keys1 : List cA} {r : cB} (h0 : vN fu keys1 = some r) : jB Try.prog 104 [.psl 2 (keys1.map cA.enc)] (.agg (cB.enc r)) [] := by
 refine tB Try.func104 rfl (by decide) rL ?_
 dsimp only [Try.f104]
 rw [vN] at h0
 refine (show pA _ _ _ _ ⟨iB 0 _, [], 0, []⟩ from ?_)
 refine xS 8 [0, 2] ?_
 refine xS 32 [0, 2, 3] ?_
 obtain ⟨vr2, hvr2, h0⟩ := fA h0
 refine nA 56 [0, 2, 3, 4] (fun | 1 => some (.fn 110 [] [.pp [.psl 2 (vr2.map cA.enc)]], []) | _ => none) rfl (fun _ _ => rC (za0 hvr2)) ?_
 obtain ⟨hc3, h0⟩ := pE h0
 refine xS 88 [0, 2, 3, 4, 5] ?_
 refine xE ⟨[(0, .psl 2 (List.map cA.enc keys1)), (2, .ref 0 0 0 0), (3, .int .i64 (keys1.length : Int)), (4, .fn 110 [] [.pp [.psl 2 (List.map cA.enc vr2)]]), (5, .sl 72 0 1 0 ((List.replicate (IntKind.i64.wrap (2 * (keys1.length : Int))).toNat 0 : List Int).length))], [(0, ⟨0, true, true, 3, [[.nils, .nils, .int .i64 0]]⟩), (72, ⟨0, true, true, 1, List.map (dA .i64) (List.replicate (IntKind.i64.wrap (2 * (keys1.length : Int))).toNat 0 : List Int)⟩)], 88, []⟩ ?_
 obtain ⟨vr4, hvr4, h0⟩ := fA h0
 obtain ⟨hc5, h0⟩ := pE h0
 refine nD 144 [2, 3, 4, 5, 6] (fun | 1 => some (.psl 2 (vr4.map cA.enc), []) | _ => none) rfl rfl rfl (fun _ _ => rCd (zhg hvr4)) ?_
 refine xE ⟨[(2, .ref 0 0 0 0), (3, .int .i64 (keys1.length : Int)), (4, .fn 110 [] [.pp [.psl 2 (List.map cA.enc vr2)]]), (5, .sl 72 0 1 0 ((List.replicate (IntKind.i64.wrap (2 * (keys1.length : Int))).toNat 0 : List Int).length)), (6, .ref 128 0 0 0)], [(0, ⟨0, true, true, 3, [[.nils, .nils, .int .i64 0]]⟩), (72, ⟨0, true, true, 1, List.map (dA .i64) (List.replicate (IntKind.i64.wrap (2 * (keys1.length : Int))).toNat 0 : List Int)⟩), (112, ⟨0, true, true, 1, List.map (dA .i64) (List.replicate keys1.length 0 : List Int)⟩), (128, ⟨0, true, false, 3, [[.psl 2 (List.map cA.enc vr4), .sl 112 0 1 0 ((List.replicate keys1.length 0 : List Int).length), .int .i64 0]]⟩)], 144, []⟩ ?_
 refine kA ?_
 refine xS 176 [2, 3, 4, 5, 6, 7] ?_
 obtain ⟨x33, hxx33, h0⟩ := fA h0
 refine sD (fun s' => ∃ g50 : Nat, ∃ g51 : Nat, s'.nx ≤ 192 ∧ LeN [] s' ⟨[(2, .ref 0 0 0 0), (5, .sl 72 g50 1 0 x33.1.length), (6, .ref 128 0 0 0)], [(0, ⟨0, true, true, 3, [[.nils, .nils, .int .i64 0]]⟩), (72, ⟨g50, true, true, 1, List.map (dA .i64) x33.1⟩), (112, ⟨g51, true, true, 1, List.map (dA .i64) x33.2⟩), (128, ⟨0, true, false, 3, [[.psl 2 (List.map cA.enc vr4), .sl 112 g51 1 0 x33.2.length, .int .i64 0]]⟩)], 192, []⟩) ?_ ?_
 ·
  intro s' hs
  obtain ⟨g50, g51, hn, hs⟩ := hs
  refine iA ?_
  refine dC [] hn hs ?_
  obtain ⟨e52, he52, h0⟩ := fA h0
  have he52b := (dB he52).2.1
  have he52c := (kG 1 he52 rfl).1
  have he52a := (kG 1 he52 rfl).2
  refine nA 232 [2, 6] (fun _ => none) rfl (fun _ _ => rS (rA he52a (rA he52b he52c))) ?_
  refine nA 248 [2] (fun _ => none) rfl (fun _ _ => rS (rA he52a (rA he52b he52c))) ?_
  refine jA ?_
  obtain rfl := Option.some.inj h0
  refine mA [] ?_
  simp (maxSteps := 1000000) only [↓reduceIte, reduceCtorEq, Nat.reduceEqDiff, Nat.reduceLT, Nat.reduceLeDiff, Nat.reduceAdd, Nat.reduceMul, Int.reduceToNat, push_cast, mC, he52a, he52b, he52c]
  all_goals exact rH
 ·
  refine oD (ι := { p : Nat × Int × List Int × List Int × Nat × Nat // lH keys1 vr2 p.1 p.2.1 p.2.2.1 p.2.2.2.1 = some x33 }) (fun p => ⟨[(2, .ref 0 0 0 0), (3, .int .i64 (keys1.length : Int)), (4, .fn 110 [] [.pp [.psl 2 (List.map cA.enc vr2)]]), (5, .sl 72 p.1.2.2.2.2.1 1 0 p.1.2.2.1.length), (6, .ref 128 0 0 0), (7, .int .i64 p.1.2.1)], [(0, ⟨0, true, true, 3, [[.nils, .nils, .int .i64 0]]⟩), (72, ⟨p.1.2.2.2.2.1, true, true, 1, List.map (dA .i64) p.1.2.2.1⟩), (112, ⟨p.1.2.2.2.2.2, true, true, 1, List.map (dA .i64) p.1.2.2.2.1⟩), (128, ⟨0, true, false, 3, [[.psl 2 (List.map cA.enc vr4), .sl 112 p.1.2.2.2.2.2 1 0 p.1.2.2.2.1.length, .int .i64 0]]⟩)], 176, []⟩) (fun p => p.1.1) ⟨(fu, (IntKind.i64.wrap ((IntKind.i64.wrap (2 * (keys1.length : Int))) - 1)), (List.replicate (IntKind.i64.wrap (2 * (keys1.length : Int))).toNat 0 : List Int), (List.replicate keys1.length 0 : List Int), 0, 0), hxx33⟩ ⟨rF, rE, rfl, rfl, trivial, trivial⟩ (fun _ => Nat.le_refl _) ?_
  rintro ⟨⟨fu, i34, players35, v36, g37, g38⟩, h1⟩
  cases fu with
  | zero =>
   replace h1 : lH keys1 vr2 0 i34 players35 v36 = some x33 := h1
   rw [lH] at h1; cases h1
  | succ fu =>
   replace h1 : lH keys1 vr2 (fu + 1) i34 players35 v36 = some x33 := h1
   rw [lH] at h1
   refine (show pA _ _ _ _ ⟨[(2, .ref 0 0 0 0), (3, .int .i64 (keys1.length : Int)), (4, .fn 110 [] [.pp [.psl 2 (List.map cA.enc vr2)]]), (5, .sl 72 g37 1 0 players35.length), (6, .ref 128 0 0 0), (7, .int .i64 i34)], [(0, ⟨0, true, true, 3, [[.nils, .nils, .int .i64 0]]⟩), (72, ⟨g37, true, true, 1, List.map (dA .i64) players35⟩), (112, ⟨g38, true, true, 1, List.map (dA .i64) v36⟩), (128, ⟨0, true, false, 3, [[.psl 2 (List.map cA.enc vr4), .sl 112 g38 1 0 v36.length, .int .i64 0]]⟩)], 176, []⟩ from ?_)
   refine kA ?_
   refine xS 192 [2, 3, 4, 5, 6, 7, 26] ?_
   refine xI h1 rfl (fun h1 hb39 => ?_) (fun h1 hb39 => ?_)
   ·
    refine qA (iA (kA (nC (kA ?_))))
    refine xS 216 [2, 3, 4, 5, 6, 7, 31] ?_
    refine xI h1 rfl (fun h1 hb40 => ?_) (fun h1 hb40 => ?_)
    ·
     obtain ⟨e41, he41, h1⟩ := fA h1
     obtain ⟨he41a, he41b, he41c⟩ := dB he41
     refine nA 272 [2, 3, 4, 5, 6, 7] (fun _ => none) rfl (fun _ _ => rS (rA he41a (rA he41b he41c))) ?_
     refine xE ⟨[(2, .ref 0 0 0 0), (3, .int .i64 (keys1.length : Int)), (4, .fn 110 [] [.pp [.psl 2 (List.map cA.enc vr2)]]), (5, .sl 72 g37 1 0 ((players35.set i34.toNat (IntKind.i64.wrap (i34 - (keys1.length : Int)))).length)), (6, .ref 128 0 0 0), (7, .int .i64 i34)], [(0, ⟨0, true, true, 3, [[.nils, .nils, .int .i64 0]]⟩), (72, ⟨g37, true, true, 1, List.map (dA .i64) (players35.set i34.toNat (IntKind.i64.wrap (i34 - (keys1.length : Int))))⟩), (112, ⟨g38, true, true, 1, List.map (dA .i64) v36⟩), (128, ⟨0, true, false, 3, [[.psl 2 (List.map cA.enc vr4), .sl 112 g38 1 0 v36.length, .int .i64 0]]⟩)], 272, []⟩ ?_
     refine fD (kB (zdV (iA ?_)))
     refine eC 296 [2, 3, 4, 5, 6, 7] (fun _ => none) rfl (fun _ _ => rS (rA he41a (rA he41b he41c))) ?_
     refine iA ?_
     exact ⟨⟨(fu, (IntKind.i64.wrap (i34 - 1)), (players35.set i34.toNat (IntKind.i64.wrap (i34 - (keys1.length : Int)))), v36, g37, g38), h1⟩, ⟨rF, rE, rfl, rfl, trivial, trivial⟩, Nat.lt_succ_self _⟩
    ·
     refine qA (iA ?_)
     obtain ⟨e42, he42, h1⟩ := fA h1
     obtain ⟨he42a, he42b, he42c⟩ := dB he42
     obtain ⟨e43, he43, h1⟩ := fA h1
     obtain ⟨he43a, he43b, he43c⟩ := dB he43
     refine nD 320 [2, 3, 4, 5, 6, 7, 8, 9] (fun _ => none) rfl rfl rfl (fun _ _ => jF (rA he42a (rA he42b (rA he42c (rA he43a (rA he43b he43c)))))) ?_
     refine kA ?_
     obtain ⟨vr44, hvr44, h1⟩ := fA h1
     refine nA 360 [2, 3, 4, 5, 6, 7, 8, 9, 53] (fun | 3 => some (.bool vr44, []) | _ => none) rfl (fun _ _ => rB (rA he42a (rA he42b (rA he42c (rA he43a (rA he43b he43c))))) (lZ hvr44)) ?_
     refine xI h1 rfl (fun h1 hb45 => ?_) (fun h1 hb45 => ?_)
     ·
      refine eC 392 [2, 3, 4, 5, 6, 7, 8, 9] (fun _ => none) rfl (fun _ _ => rS (rA he42a (rA he42b (rA he42c (rA he43a (rA he43b he43c)))))) ?_
      refine iA ?_
      obtain ⟨e46, he46, h1⟩ := fA h1
      obtain ⟨he46a, he46b, he46c⟩ := dB he46
      obtain ⟨e47, he47, h1⟩ := fA h1
      obtain ⟨he47a, he47b, he47c⟩ := dB he47
      refine zI 480 [2, 3, 4, 5, 6, 7] (fun _ => none) rfl rfl rfl (fun _ _ => jF (rA he42a (rA he42b (rA he42c (rA he43a (rA he43b (rA he43c (rA he46a (rA he46b (rA he46c (rA he47a (rA he47b he47c)))))))))))) ?_
      refine fC (iA ?_)
      refine xE ⟨[(2, .ref 0 0 0 0), (3, .int .i64 (keys1.length : Int)), (4, .fn 110 [] [.pp [.psl 2 (List.map cA.enc vr2)]]), (5, .sl 72 g37 1 0 ((players35.set i34.toNat e43).length)), (6, .ref 128 0 0 0), (7, .int .i64 i34)], [(0, ⟨0, true, true, 3, [[.nils, .nils, .int .i64 0]]⟩), (72, ⟨g37, true, true, 1, List.map (dA .i64) (players35.set i34.toNat e43)⟩), (112, ⟨g38, true, true, 1, List.map (dA .i64) (v36.set i34.toNat e42)⟩), (128, ⟨0, true, false, 3, [[.psl 2 (List.map cA.enc vr4), .sl 112 g38 1 0 ((v36.set i34.toNat e42).length), .int .i64 0]]⟩)], 480, []⟩ ?_
      refine eC 504 [2, 3, 4, 5, 6, 7] (fun _ => none) rfl (fun _ _ => rS (rA he42a (rA he42b (rA he42c (rA he43a (rA he43b (rA he43c (rA he46a (rA he46b (rA he46c (rA he47a (rA he47b he47c)))))))))))) ?_
      refine iA ?_
      exact ⟨⟨(fu, (IntKind.i64.wrap (i34 - 1)), (players35.set i34.toNat e43), (v36.set i34.toNat e42), g37, g38), h1⟩, ⟨rF, rE, rfl, rfl, trivial, trivial⟩, Nat.lt_succ_self _⟩
     ·
      refine qA (iA ?_)
      obtain ⟨e48, he48, h1⟩ := fA h1
      obtain ⟨he48a, he48b, he48c⟩ := dB he48
      obtain ⟨e49, he49, h1⟩ := fA h1
      obtain ⟨he49a, he49b, he49c⟩ := dB he49
      refine zI 448 [2, 3, 4, 5, 6, 7] (fun _ => none) rfl rfl rfl (fun _ _ => jF (rA he42a (rA he42b (rA he42c (rA he43a (rA he43b (rA he43c (rA he48a (rA he48b (rA he48c (rA he49a (rA he49b he49c)))))))))))) ?_
      refine fC (iA ?_)
      refine xE ⟨[(2, .ref 0 0 0 0), (3, .int .i64 (keys1.length : Int)), (4, .fn 110 [] [.pp [.psl 2 (List.map cA.enc vr2)]]), (5, .sl 72 g37 1 0 ((players35.set i34.toNat e42).length)), (6, .ref 128 0 0 0), (7, .int .i64 i34)], [(0, ⟨0, true, true, 3, [[.nils, .nils, .int .i64 0]]⟩), (72, ⟨g37, true, true, 1, List.map (dA .i64) (players35.set i34.toNat e42)⟩), (112, ⟨g38, true, true, 1, List.map (dA .i64) (v36.set i34.toNat e43)⟩), (128, ⟨0, true, false, 3, [[.psl 2 (List.map cA.enc vr4), .sl 112 g38 1 0 ((v36.set i34.toNat e43).length), .int .i64 0]]⟩)], 448, []⟩ ?_
      refine eC 472 [2, 3, 4, 5, 6, 7] (fun _ => none) rfl (fun _ _ => rS (rA he42a (rA he42b (rA he42c (rA he43a (rA he43b (rA he43c (rA he48a (rA he48b (rA he48c (rA he49a (rA he49b he49c)))))))))))) ?_
      refine iA ?_
      exact ⟨⟨(fu, (IntKind.i64.wrap (i34 - 1)), (players35.set i34.toNat e42), (v36.set i34.toNat e43), g37, g38), h1⟩, ⟨rF, rE, rfl, rfl, trivial, trivial⟩, Nat.lt_succ_self _⟩
   ·
    refine fD (kB (kB (kD ?_)))
    obtain rfl := Option.some.inj h1
    exact ⟨g37, g38, rL, ⟨rF, rE, rfl, rfl, trivial, trivial⟩⟩
theorem zkU {fu : Nat} {keys1 : List cA} {r : cB × Int} (h0 : lP fu keys1 = some r) : jB Try.prog 94 [.psl 2 (keys1.map cA.enc)] (.tup [.agg (cB.enc r.1), .int .i64 r.2]) [] := by
 refine tB Try.func94 rfl (by decide) rL ?_
 dsimp only [Try.f94]
 rw [lP] at h0
 refine (show pA _ _ _ _ ⟨iB 0 _, [], 0, []⟩ from ?_)
 refine xS 16 [0, 2] ?_
 refine kA ?_
 obtain ⟨vr2, hvr2, h0⟩ := fA h0
 refine nA 40 [0, 2, 4] (fun | 1 => some (.int .i64 vr2, []) | _ => none) rfl (fun _ _ => rC (sW hvr2)) ?_
 refine xS 56 [0, 2, 4, 8] ?_
 refine xI h0 rfl (fun h0 hb3 => ?_) (fun h0 hb3 => ?_)
 ·
  refine xS 88 [2, 3] ?_
  refine jA (oA ?_)
  obtain rfl := Option.some.inj h0
  refine mA [] ?_
  exact rG
 ·
  refine qA (iA ?_)
  obtain ⟨vr4, hvr4, h0⟩ := fA h0
  refine nA 88 [2, 3] (fun | 1 => some (.agg (cB.enc vr4), []) | _ => none) rfl (fun _ _ => rC (zes hvr4)) ?_
  refine jA ?_
  obtain rfl := Option.some.inj h0
  refine mA [] ?_
  exact rG
theorem zcl {fu : Nat} {runs1 : List (List aA)} {vat2 : List Int} {r : cB} (h0 : bO fu runs1 vat2 = some r) : jB Try.prog 77 [.psl 1 (runs1.map (sA 4 aA.enc)), .psl 1 (vat2.map (dA .i64))] (.agg (cB.enc r)) [] := by
 refine tB Try.func77 rfl (by decide) rL ?_
 dsimp only [Try.f77]
 rw [bO] at h0
 refine (show pA _ _ _ _ ⟨iB 0 _, [], 0, []⟩ from ?_)
 refine xS 8 [0, 1, 4] ?_
 obtain ⟨hc3, h0⟩ := pE h0
 refine xS 40 [0, 1, 4, 5] ?_
 refine xE ⟨[(0, .psl 1 (List.map (sA 4 aA.enc) runs1)), (1, .psl 1 (List.map (dA .i64) vat2)), (4, .ref 0 0 0 0), (5, .sl 24 0 2 0 ((List.replicate runs1.length (cA.mk [] false) : List cA).length))], [(0, ⟨0, true, true, 3, [[.nils, .nils, .int .i64 0]]⟩), (24, ⟨0, true, true, 2, List.map cA.enc (List.replicate runs1.length (cA.mk [] false) : List cA)⟩)], 40, []⟩ ?_
 refine kA ?_
 refine xS 64 [1, 4, 5, 13, 14, 15] ?_
 obtain ⟨x17, hxx17, h0⟩ := fA h0
 refine sD (fun s' => ∃ g26 : Nat, s'.nx ≤ 72 ∧ LeN [] s' ⟨[(4, .ref 0 0 0 0), (5, .sl 24 g26 2 0 x17.length)], [(0, ⟨0, true, true, 3, [[.nils, .nils, .int .i64 0]]⟩), (24, ⟨g26, true, true, 2, List.map cA.enc x17⟩)], 72, []⟩) ?_ ?_
 ·
  intro s' hs
  obtain ⟨g26, hn, hs⟩ := hs
  refine iA ?_
  refine dC [] hn hs ?_
  obtain ⟨vr27, hvr27, h0⟩ := fA h0
  refine nA 136 [4, 8] (fun | 1 => some (.tup [.agg (cB.enc vr27.1), .int .i64 vr27.2], []) | _ => none) rfl (fun _ _ => rC (zkU hvr27)) ?_
  refine xS 152 [4] ?_
  refine jA ?_
  obtain rfl := Option.some.inj h0
  refine mA [] ?_
  exact rG
 ·
  refine oD (ι := { p : Nat × Int × List cA × Nat // aI runs1 vat2 p.1 p.2.1 p.2.2.1 = some x17 }) (fun p => ⟨[(1, .psl 1 (List.map (dA .i64) vat2)), (4, .ref 0 0 0 0), (5, .sl 24 p.1.2.2.2 2 0 p.1.2.2.1.length), (13, .psl 1 (List.map (sA 4 aA.enc) runs1)), (14, .int .i64 (runs1.length : Int)), (15, .int .i64 p.1.2.1)], [(0, ⟨0, true, true, 3, [[.nils, .nils, .int .i64 0]]⟩), (24, ⟨p.1.2.2.2, true, true, 2, List.map cA.enc p.1.2.2.1⟩)], 64, []⟩) (fun p => p.1.1) ⟨(fu, 0, (List.replicate runs1.length (cA.mk [] false) : List cA), 0), hxx17⟩ ⟨rF, rE, rfl, rfl, trivial, trivial⟩ (fun _ => Nat.le_refl _) ?_
  rintro ⟨⟨fu, v18, keys19, g20⟩, h1⟩
  cases fu with
  | zero =>
   replace h1 : aI runs1 vat2 0 v18 keys19 = some x17 := h1
   rw [aI] at h1; cases h1
  | succ fu =>
   replace h1 : aI runs1 vat2 (fu + 1) v18 keys19 = some x17 := h1
   rw [aI] at h1
   refine (show pA _ _ _ _ ⟨[(1, .psl 1 (List.map (dA .i64) vat2)), (4, .ref 0 0 0 0), (5, .sl 24 g20 2 0 keys19.length), (13, .psl 1 (List.map (sA 4 aA.enc) runs1)), (14, .int .i64 (runs1.length : Int)), (15, .int .i64 v18)], [(0, ⟨0, true, true, 3, [[.nils, .nils, .int .i64 0]]⟩), (24, ⟨g20, true, true, 2, List.map cA.enc keys19⟩)], 64, []⟩ from ?_)
   refine xS 72 [1, 4, 5, 13, 14, 15, 16] ?_
   refine kA ?_
   refine xI h1 rfl (fun h1 hb21 => ?_) (fun h1 hb21 => ?_)
   ·
    refine qA (iA (kA (nC ?_)))
    obtain ⟨e22, he22, h1⟩ := fA h1
    obtain ⟨he22a, he22b, he22c⟩ := dB he22
    refine nA 112 [1, 4, 5, 6, 7, 13, 14, 15] (fun _ => none) rfl (fun _ _ => rS (rA he22a (rA he22b he22c))) ?_
    obtain ⟨e23, he23, h1⟩ := fA h1
    obtain ⟨he23a, he23b, he23c⟩ := dB he23
    obtain ⟨vr24, hvr24, h1⟩ := fA h1
    obtain ⟨e25, he25, h1⟩ := fA h1
    obtain ⟨he25a, he25b, he25c⟩ := dB he25
    refine eC 192 [1, 4, 5, 13, 14, 15] (fun | 7 => some (.agg (cA.enc vr24), []) | _ => none) rfl (fun _ _ => rB (rA he22a (rA he22b (rA he22c (rA he23a (rA he23b (rA he23c (rA he25a (rA he25b he25c)))))))) (yX hvr24)) ?_
    refine fC (iA ?_)
    refine xE ⟨[(1, .psl 1 (List.map (dA .i64) vat2)), (4, .ref 0 0 0 0), (5, .sl 24 g20 2 0 ((keys19.set v18.toNat vr24).length)), (13, .psl 1 (List.map (sA 4 aA.enc) runs1)), (14, .int .i64 (runs1.length : Int)), (15, .int .i64 v18)], [(0, ⟨0, true, true, 3, [[.nils, .nils, .int .i64 0]]⟩), (24, ⟨g20, true, true, 2, List.map cA.enc (keys19.set v18.toNat vr24)⟩)], 192, []⟩ ?_
    refine eC 208 [1, 4, 5, 13, 14, 15] (fun _ => none) rfl (fun _ _ => rS (rA he22a (rA he22b (rA he22c (rA he23a (rA he23b (rA he23c (rA he25a (rA he25b he25c))))))))) ?_
    refine iA ?_
    exact ⟨⟨(fu, (IntKind.i64.wrap (v18 + 1)), (keys19.set v18.toNat vr24), g20), h1⟩, ⟨rF, rE, rfl, rfl, trivial, trivial⟩, Nat.lt_succ_self _⟩
   ·
    refine fD (kB (kB (kD ?_)))
    obtain rfl := Option.some.inj h1
    exact ⟨g20, rL, ⟨rF, rE, rfl, rfl, trivial, trivial⟩⟩
theorem zlq {fu : Nat} {runs1 : List (List aA)} {r : gB × Int × Int} (h0 : rI fu runs1 = some r) : jB Try.prog 57 [.psl 1 (runs1.map (sA 4 aA.enc))] (.tup [.agg (gB.enc r.1), .int .i64 r.2.1, .int .i64 r.2.2]) [] := by
 refine tB Try.func57 rfl (by decide) rL ?_
 dsimp only [Try.f57]
 rw [rI] at h0
 refine (show pA _ _ _ _ ⟨iB 0 _, [], 0, []⟩ from ?_)
 refine xS 24 [0, 2] ?_
 refine kA ?_
 obtain ⟨vr2, hvr2, h0⟩ := fA h0
 refine nA 80 [0, 2, 5, 6] (fun | 1 => some (.tup [.int .i64 vr2.1, .int .i64 vr2.2], []) | _ => none) rfl (fun _ _ => rC (zaI hvr2)) ?_
 refine xS 96 [0, 2, 5, 6, 14] ?_
 refine xI h0 rfl (fun h0 hb3 => ?_) (fun h0 hb3 => ?_)
 ·
  refine xS 144 [2, 3, 4] ?_
  refine jA (oA ?_)
  obtain rfl := Option.some.inj h0
  refine mA [] ?_
  exact rG
 ·
  refine qA (iA ?_)
  obtain ⟨hc4, h0⟩ := pE h0
  refine xS 128 [0, 2, 7] ?_
  refine xE ⟨[(0, .psl 1 (List.map (sA 4 aA.enc) runs1)), (2, .ref 0 0 0 0), (7, .sl 112 0 1 0 ((List.replicate runs1.length 0 : List Int).length))], [(0, ⟨0, true, true, 5, [[.nils, .nils, .nils, .nils, .int .i64 0]]⟩), (112, ⟨0, true, true, 1, List.map (dA .i64) (List.replicate runs1.length 0 : List Int)⟩)], 128, []⟩ ?_
  obtain ⟨vr5, hvr5, h0⟩ := fA h0
  obtain ⟨vr6, hvr6, h0⟩ := fA h0
  refine nA 208 [2, 3, 4] (fun | 1 => some (.psl 1 (vr5.map (sA 4 aA.enc)), []) | 5 => some (.agg (cB.enc vr6), []) | _ => none) rfl (fun Kt hK => by
    try have q0 := zbi hvr5
    try have q1 := zcl hvr6
    exact rT) ?_
  refine jA ?_
  obtain rfl := Option.some.inj h0
  refine mA [] ?_
  exact rG
theorem wY {fu : Nat} {bottom1 : Bool} {r : fB} (h0 : sK fu bottom1 = some r) : jB Try.prog 58 [.bool bottom1] (.agg (fB.enc r)) [] := by
 refine tB Try.func58 rfl (by decide) rL ?_
 dsimp only [Try.f58]
 rw [sK] at h0
 refine (show pA _ _ _ _ ⟨iB 0 _, [], 0, []⟩ from ?_)
 refine xS 8 [0, 2] ?_
 refine xS 32 [2] ?_
 refine jA ?_
 obtain rfl := Option.some.inj h0
 refine mA [] ?_
 exact rG
theorem zmO {fu : Nat} {runs1 : List (List aA)} {bottom2 : Bool} {r : vB × Int × Int} (h0 : jP fu runs1 bottom2 = some r) : jB Try.prog 42 [.psl 1 (runs1.map (sA 4 aA.enc)), .bool bottom2] (.tup [.agg (vB.enc r.1), .int .i64 r.2.1, .int .i64 r.2.2]) [] := by
 refine tB Try.func42 rfl (by decide) rL ?_
 dsimp only [Try.f42]
 rw [jP] at h0
 refine (show pA _ _ _ _ ⟨iB 0 _, [], 0, []⟩ from ?_)
 refine xS 24 [0, 1, 4] ?_
 obtain ⟨vr3, hvr3, h0⟩ := fA h0
 refine nA 104 [1, 4, 5, 6, 7] (fun | 1 => some (.tup [.agg (gB.enc vr3.1), .int .i64 vr3.2.1, .int .i64 vr3.2.2], []) | _ => none) rfl (fun _ _ => rC (zlq hvr3)) ?_
 refine kA ?_
 refine xS 120 [1, 4, 5, 6, 7, 15] ?_
 refine xI h0 rfl (fun h0 hb4 => ?_) (fun h0 hb4 => ?_)
 ·
  refine xS 168 [4, 5, 6] ?_
  refine jA (oA ?_)
  obtain rfl := Option.some.inj h0
  refine mA [] ?_
  exact rG
 ·
  refine qA (iA ?_)
  obtain ⟨vr5, hvr5, h0⟩ := fA h0
  refine nD 176 [4, 5, 6] (fun | 2 => some (.agg (fB.enc vr5), []) | _ => none) rfl rfl rfl (fun _ _ => rCd (wY hvr5)) ?_
  refine jA ?_
  obtain rfl := Option.some.inj h0
  refine mA [] ?_
  exact rG
theorem zec {fu : Nat} {l1 : yA} {level2 : Int} {bottom3 : Bool} {r : bB} (h0 : uN fu l1 level2 bottom3 = some r) : jB Try.prog 23 [.agg (yA.enc l1), .int .i64 level2, .bool bottom3] (.agg (bB.enc r)) [] := by
 refine tB Try.func23 rfl (by decide) rL ?_
 dsimp only [Try.f23]
 rw [uN] at h0
 refine (show pA _ _ _ _ ⟨iB 0 _, [], 0, []⟩ from ?_)
 refine xS 16 [1, 2, 3, 6] ?_
 obtain ⟨e4, he4, h0⟩ := fA h0
 obtain ⟨he4a, he4b, he4c⟩ := dB he4
 refine nA 72 [1, 2, 6, 7] (fun _ => none) rfl (fun _ _ => rS (rA he4a (rA he4b he4c))) ?_
 obtain ⟨e5, he5, h0⟩ := fA h0
 have he5b := (dB he5).2.1
 have he5c := (kG 1 he5 rfl).1
 have he5a := (kG 1 he5 rfl).2
 obtain ⟨e6, he6, h0⟩ := fA h0
 have he6b := (dB he6).2.1
 have he6c := (kG 0 he6 rfl).1
 have he6a := (kG 0 he6 rfl).2
 obtain ⟨vr7, hvr7, h0⟩ := fA h0
 refine nD 224 [1, 6, 8] (fun | 10 => some (.tup [.agg (vB.enc vr7.1), .int .i64 vr7.2.1, .int .i64 vr7.2.2], []) | _ => none) rfl rfl rfl (fun _ _ => rBd (rA he4a (rA he4b (rA he4c (rA he5a (rA he5b (rA he5c (rA he6a (rA he6b he6c)))))))) (zmO hvr7)) ?_
 refine xE ⟨[(1, .int .i64 level2), (6, .ref 8 0 0 0), (8, .ref 192 0 0 0)], [(0, ⟨0, true, true, 2, [[.int .i64 l1.B, .psl 1 (List.map tA.enc l1.Levels)]]⟩), (8, ⟨0, true, true, 11, [[.int .i64 0, .nils, .nils, .nils, .nils, .int .i64 0, .bool false, .str [], .bool false, .nils, .int .i64 0]]⟩), (136, ⟨0, false, true, 1, List.map (sA 4 aA.enc) [e5.Entries, e6.Entries]⟩), (192, ⟨0, true, true, 10, [[.psl 1 (List.map (sA 4 aA.enc) vr7.1.Merge.Runs), .psl 1 (List.map (dA .i64) vr7.1.Merge.At), .psl 2 (List.map cA.enc vr7.1.Merge.Tree.Keys), .psl 1 (List.map (dA .i64) vr7.1.Merge.Tree.Lose), .int .i64 vr7.1.Merge.Tree.Win, .bool vr7.1.Shadow.Some, .str vr7.1.Shadow.Last, .bool vr7.1.Shadow.Bottom, .psl 4 (List.map aA.enc vr7.1.Out), .int .i64 vr7.1.Steps]]⟩)], 224, []⟩ ?_
 refine nA 256 [6] (fun _ => none) rfl (fun _ _ => rS (rA he4a (rA he4b (rA he4c (rA he5a (rA he5b (rA he5c (rA he6a (rA he6b he6c))))))))) ?_
 refine jA ?_
 obtain rfl := Option.some.inj h0
 refine mA [] ?_
 simp (maxSteps := 1000000) only [↓reduceIte, reduceCtorEq, Nat.reduceEqDiff, Nat.reduceLT, Nat.reduceLeDiff, Nat.reduceAdd, Nat.reduceMul, Int.reduceToNat, push_cast, mC, he4a, he4b, he4c, he5a, he5b, he5c, he6a, he6b, he6c]
 all_goals exact rH
theorem zbP {fu : Nat} {l1 : yA} {r : oB × Int} (h0 : wK fu l1 = some r) : jB Try.prog 8 [.agg (yA.enc l1)] (.tup [.agg (oB.enc r.1), .int .i64 r.2]) [] := by
 refine tB Try.func8 rfl (by decide) rL ?_
 dsimp only [Try.f8]
 rw [wK] at h0
 refine (show pA _ _ _ _ ⟨iB 0 _, [], 0, []⟩ from ?_)
 refine xS 24 [1, 2, 3] ?_
 refine kA ?_
 obtain ⟨vr2, hvr2, h0⟩ := fA h0
 refine nA 96 [1, 2, 3, 6] (fun | 1 => some (.tup [.int .i64 vr2.1, .int .i64 vr2.2.1, .int .i64 vr2.2.2], []) | _ => none) rfl (fun _ _ => rC (zcq hvr2)) ?_
 refine xS 112 [1, 2, 3, 6, 16] ?_
 refine xI h0 rfl (fun h0 hb3 => ?_) (fun h0 hb3 => ?_)
 ·
  refine xS 144 [2, 3] ?_
  refine jA (oA ?_)
  obtain rfl := Option.some.inj h0
  refine mA [] ?_
  exact rG
 ·
  refine qA (iA ?_)
  obtain ⟨vr4, hvr4, h0⟩ := fA h0
  refine nD 168 [1, 2, 3, 7] (fun | 2 => some (.int .i64 vr4, []) | _ => none) rfl rfl rfl (fun _ _ => rCd (zdy hvr4)) ?_
  refine kA ?_
  obtain ⟨vr5, hvr5, h0⟩ := fA h0
  refine nA 184 [1, 2, 3, 7, 25] (fun | 1 => some (.fn 41 [] [.pp [.int .i64 vr5.1, .psl 1 (vr5.2.map tA.enc)]], []) | _ => none) rfl (fun _ _ => rC (zc7 hvr5)) ?_
  refine nC ?_
  refine vZ rfl Try.func41 rfl (by decide) rL ?_
  intro RC6 hRC6
  have stRC6 : RC6.st = .ready ∧ RC6.pend = none := by rw [hRC6]; exact ⟨rfl, rfl⟩
  have okRC6 : bY 184 RC6 := by rw [hRC6]; exact And.intro (rR) rfl
  dsimp only [Try.f41]
  refine dC (s2 := ⟨[(0, .yld 184), (1, .pp [.int .i64 vr5.1, .psl 1 (List.map tA.enc vr5.2)])], [(0, ⟨0, true, true, 2, [[.int .i64 l1.B, .psl 1 (List.map tA.enc l1.Levels)]]⟩), (8, ⟨0, true, true, 4, [[.int .i64 0, .nils, .nils, .int .i64 0]]⟩), (152, ⟨0, true, true, 4, [[.int .i64 l1.B, .psl 1 (List.map tA.enc l1.Levels), .nils, .int .i64 (IntKind.i64.wrap (vr4 + 1))]]⟩)], 185, [(184, RC6)]⟩) [] rL ⟨rF, rE, rfl, rfl, (gC.consR rL rfl okRC6 rL trivial), trivial⟩ ?_
  refine xS 217 [0, 6, 7, 8] ?_
  refine zaz ?_
  refine dC (s2 := ⟨[(0, .yld 184), (6, .psl 1 (List.map tA.enc vr5.2)), (7, .int .i64 (vr5.2.length : Int)), (8, .int .i64 0)], [(0, ⟨0, true, true, 2, [[.int .i64 l1.B, .psl 1 (List.map tA.enc l1.Levels)]]⟩), (8, ⟨0, true, true, 4, [[.int .i64 0, .nils, .nils, .int .i64 0]]⟩), (152, ⟨0, true, false, 4, [[.int .i64 l1.B, .psl 1 (List.map tA.enc l1.Levels), .sl 217 0 11 0 0, .int .i64 (IntKind.i64.wrap (vr4 + 1))]]⟩), (217, ⟨0, true, true, 11, List.map bB.enc []⟩)], 218, [(184, RC6)]⟩) [(217, 11)] rL ⟨rF, rE, rfl, rfl, (gC.consR rL rfl okRC6 rL trivial), rN⟩ ?_
  obtain ⟨x26, hxx26, h0⟩ := fA h0
  refine sD (fun s' => ∃ g36 : Nat, s'.nx ≤ 226 ∧ LeN [] s' ⟨[], [(0, ⟨0, true, true, 2, [[.int .i64 l1.B, .psl 1 (List.map tA.enc l1.Levels)]]⟩), (8, ⟨0, true, true, 4, [[.int .i64 0, .nils, .nils, .int .i64 0]]⟩), (152, ⟨0, true, false, 4, [[.int .i64 l1.B, .psl 1 (List.map tA.enc l1.Levels), .sl 217 g36 11 0 x26.length, .int .i64 (IntKind.i64.wrap (vr4 + 1))]]⟩), (217, ⟨g36, true, true, 11, List.map bB.enc x26⟩)], 226, [(184, RC6)]⟩) ?_ ?_
  ·
   intro s' hs
   obtain ⟨g36, hn, hs⟩ := hs
   refine ⟨_, hn, hs, ?_⟩
   refine wR (fun _ _ => rT) ?_
   refine zbA stRC6 rfl ?_
   refine fC (iA ?_)
   refine xE ⟨[(1, .ref 0 0 0 0), (2, .ref 8 0 0 0), (3, .int .i64 0), (7, .ref 152 0 0 0), (25, .fn 41 [] [.pp [.int .i64 vr5.1, .psl 1 (List.map tA.enc vr5.2)]])], [(0, ⟨0, true, true, 2, [[.int .i64 l1.B, .psl 1 (List.map tA.enc l1.Levels)]]⟩), (8, ⟨0, true, true, 4, [[.int .i64 0, .nils, .nils, .int .i64 0]]⟩), (152, ⟨0, true, false, 4, [[.int .i64 l1.B, .psl 1 (List.map tA.enc l1.Levels), .sl 217 g36 11 0 x26.length, .int .i64 (IntKind.i64.wrap (vr4 + 1))]]⟩), (217, ⟨g36, true, true, 11, List.map bB.enc x26⟩)], 226, []⟩ ?_
   refine xS 250 [2, 3] ?_
   refine jA ?_
   obtain rfl := Option.some.inj h0
   refine mA [] ?_
   exact rG
  ·
   refine oD (ι := { p : Nat × Int × List bB × Nat // kH vr5 l1 p.1 p.2.1 p.2.2.1 = some x26 }) (fun p => ⟨[(0, .yld 184), (6, .psl 1 (List.map tA.enc vr5.2)), (7, .int .i64 (vr5.2.length : Int)), (8, .int .i64 p.1.2.1)], [(0, ⟨0, true, true, 2, [[.int .i64 l1.B, .psl 1 (List.map tA.enc l1.Levels)]]⟩), (8, ⟨0, true, true, 4, [[.int .i64 0, .nils, .nils, .int .i64 0]]⟩), (152, ⟨0, true, false, 4, [[.int .i64 l1.B, .psl 1 (List.map tA.enc l1.Levels), .sl 217 p.1.2.2.2 11 0 p.1.2.2.1.length, .int .i64 (IntKind.i64.wrap (vr4 + 1))]]⟩), (217, ⟨p.1.2.2.2, true, true, 11, List.map bB.enc p.1.2.2.1⟩)], 218, [(184, RC6)]⟩) (fun p => p.1.1) ⟨(fu, 0, [], 0), hxx26⟩ ⟨rF, rE, rfl, rfl, (gC.consR rL rfl okRC6 rL trivial), trivial⟩ (fun _ => Nat.le_refl _) ?_
   rintro ⟨⟨fu, level27, v28, g29⟩, h1⟩
   cases fu with
   | zero =>
   replace h1 : kH vr5 l1 0 level27 v28 = some x26 := h1
   rw [kH] at h1; cases h1
   | succ fu =>
    replace h1 : kH vr5 l1 (fu + 1) level27 v28 = some x26 := h1
    rw [kH] at h1
    refine (show pA _ _ _ _ ⟨[(0, .yld 184), (6, .psl 1 (List.map tA.enc vr5.2)), (7, .int .i64 (vr5.2.length : Int)), (8, .int .i64 level27)], [(0, ⟨0, true, true, 2, [[.int .i64 l1.B, .psl 1 (List.map tA.enc l1.Levels)]]⟩), (8, ⟨0, true, true, 4, [[.int .i64 0, .nils, .nils, .int .i64 0]]⟩), (152, ⟨0, true, false, 4, [[.int .i64 l1.B, .psl 1 (List.map tA.enc l1.Levels), .sl 217 g29 11 0 v28.length, .int .i64 (IntKind.i64.wrap (vr4 + 1))]]⟩), (217, ⟨g29, true, true, 11, List.map bB.enc v28⟩)], 218, [(184, RC6)]⟩ from ?_)
    refine xS 226 [0, 6, 7, 8, 9] ?_
    refine kA ?_
    refine xI h1 rfl (fun h1 hb30 => ?_) (fun h1 hb30 => ?_)
    ·
     refine qA (iA (kA (nC ?_)))
     obtain ⟨e31, he31, h1⟩ := fA h1
     obtain ⟨he31a, he31b, he31c⟩ := dB he31
     refine nA 274 [0, 3, 4, 6, 7, 8] (fun _ => none) rfl (fun _ _ => rS (rA he31a (rA he31b he31c))) ?_
     refine sH 10 rfl ?_
     refine kC (l' := List.range' 0 5 ++ (List.range' 5 5 ++ [])) rfl ?_
     refine pC 0 5 314 (List.range' 5 5 ++ []) (fun _ => none) rfl rfl rfl (fun _ _ => rS (rA he31a (rA he31b he31c))) ?_
     refine uJ (s2 := ⟨[(0, .yld 184), (3, .int .i64 level27), (4, .ref 250 0 0 0), (6, .psl 1 (List.map tA.enc vr5.2)), (7, .int .i64 (vr5.2.length : Int)), (8, .int .i64 level27), (13, .ref 250 0 0 0), (14, .psl 2 (List.map eB.enc e31.Runs)), (15, .int .i64 (e31.Runs.length : Int)), (16, .bool (decide ((e31.Runs.length : Int) = 2))), (17, .bool (decide ((e31.Runs.length : Int) = 2)))], [(0, ⟨0, true, true, 2, [[.int .i64 l1.B, .psl 1 (List.map tA.enc l1.Levels)]]⟩), (8, ⟨0, true, true, 4, [[.int .i64 0, .nils, .nils, .int .i64 0]]⟩), (152, ⟨0, true, false, 4, [[.int .i64 l1.B, .psl 1 (List.map tA.enc l1.Levels), .sl 217 g29 11 0 v28.length, .int .i64 (IntKind.i64.wrap (vr4 + 1))]]⟩), (217, ⟨g29, true, true, 11, List.map bB.enc v28⟩), (250, ⟨0, true, true, 1, [[.psl 2 (List.map eB.enc e31.Runs)]]⟩)], 314, [(184, RC6)]⟩) [] rL ⟨rF, rE, rfl, rfl, (gC.consR rL rfl okRC6 rL trivial), trivial⟩ ?_
     generalize hg32 : (decide ((e31.Runs.length : Int) = 2)) = b32
     cases b32 with
     | true =>
      replace h1 := lB h1 hg32
      refine kC (l' := List.range' 5 2 ++ (7 :: (List.range' 8 2 ++ []))) rfl ?_
      refine pC 5 2 330 (7 :: (List.range' 8 2 ++ [])) (fun _ => none) rfl rfl rfl (fun _ _ => rS (rA he31a (rA he31b he31c))) ?_
      refine zaC hRC6 rfl rfl rfl rfl rfl rfl rfl rfl rfl ?_
      refine dC (s2 := ⟨[(1, .ref 0 0 0 0), (2, .ref 8 0 0 0), (3, .int .i64 0), (7, .ref 152 0 0 0), (25, .fn 41 [] [.pp [.int .i64 vr5.1, .psl 1 (List.map tA.enc vr5.2)]]), (26, .int .i64 level27)], [(0, ⟨0, true, true, 2, [[.int .i64 l1.B, .psl 1 (List.map tA.enc l1.Levels)]]⟩), (8, ⟨0, true, true, 4, [[.int .i64 0, .nils, .nils, .int .i64 0]]⟩), (152, ⟨0, true, false, 4, [[.int .i64 l1.B, .psl 1 (List.map tA.enc l1.Levels), .sl 217 g29 11 0 v28.length, .int .i64 (IntKind.i64.wrap (vr4 + 1))]]⟩), (217, ⟨g29, true, true, 11, List.map bB.enc v28⟩), (250, ⟨0, true, true, 1, [[.psl 2 (List.map eB.enc e31.Runs)]]⟩)], 330, [(184, RC6)]⟩) [] rL ⟨rF, rE, rfl, rfl, (gC.consR rL rfl okRC6 rL trivial), trivial⟩ ?_
      refine eC 338 [1, 2, 3, 7, 8] (fun _ => none) rfl (fun _ _ => rS (rA he31a (rA he31b he31c))) ?_
      refine iA ?_
      refine ⟨RC6, rfl, stRC6.1, ?_⟩
      refine dC (s2 := ⟨[(1, .ref 0 0 0 0), (2, .ref 8 0 0 0), (3, .int .i64 0), (7, .ref 152 0 0 0), (8, .int .i64 level27)], [(0, ⟨0, true, true, 2, [[.int .i64 l1.B, .psl 1 (List.map tA.enc l1.Levels)]]⟩), (8, ⟨0, true, true, 4, [[.int .i64 0, .nils, .nils, .int .i64 0]]⟩), (152, ⟨0, true, false, 4, [[.int .i64 l1.B, .psl 1 (List.map tA.enc l1.Levels), .sl 217 g29 11 0 v28.length, .int .i64 (IntKind.i64.wrap (vr4 + 1))]]⟩), (217, ⟨g29, true, true, 11, List.map bB.enc v28⟩), (250, ⟨0, true, true, 1, [[.psl 2 (List.map eB.enc e31.Runs)]]⟩)], 338, [(184, { RC6 with st := .busy, pend := RC6.pend })]⟩) [] rL ⟨rF, rE, rfl, rfl, (gC.consR rL rfl okRC6 rL trivial), trivial⟩ ?_
      refine nC ?_
      obtain ⟨vr33, hvr33, h1⟩ := fA h1
      obtain ⟨vr34, hvr34, h1⟩ := fA h1
      obtain ⟨hc35, h1⟩ := pE h1
      refine zI 434 [2, 3, 7] (fun | 6 => some (.bool vr33, []) | 7 => some (.agg (bB.enc vr34), []) | _ => none) rfl rfl rfl (fun Kt hK => by
        try have q0 := gZ hvr33
        try have q1 := zec hvr34
        exact jF (rA he31a (rA he31b he31c))) ?_
      refine fC ?_
      refine zbk stRC6 rfl ?_
      refine uJ (s2 := ⟨[(0, .yld 184), (3, .int .i64 level27), (4, .ref 250 0 0 0), (6, .psl 1 (List.map tA.enc vr5.2)), (7, .int .i64 (vr5.2.length : Int)), (8, .int .i64 level27), (13, .ref 250 0 0 0), (14, .psl 2 (List.map eB.enc e31.Runs)), (15, .int .i64 (e31.Runs.length : Int)), (16, .bool true), (17, .bool true), (18, .yld 184), (19, .int .i64 level27), (20, .bool true)], [(0, ⟨0, true, true, 2, [[.int .i64 l1.B, .psl 1 (List.map tA.enc l1.Levels)]]⟩), (8, ⟨0, true, true, 4, [[.int .i64 0, .nils, .nils, .int .i64 0]]⟩), (152, ⟨0, true, false, 4, [[.int .i64 l1.B, .psl 1 (List.map tA.enc l1.Levels), .sl 217 (g29 + 1) 11 0 ((v28 ++ [vr34]).length), .int .i64 (IntKind.i64.wrap (vr4 + 1))]]⟩), (217, ⟨(g29 + 1), true, true, 11, List.map bB.enc (v28 ++ [vr34])⟩), (250, ⟨0, true, true, 1, [[.psl 2 (List.map eB.enc e31.Runs)]]⟩), (402, ⟨0, true, true, 11, List.map bB.enc [vr34]⟩)], 434, [(184, RC6)]⟩) [] rL ⟨rF, rE, rfl, rfl, (gC.consR rL rfl okRC6 rL trivial), trivial⟩ ?_
      refine kC (l' := List.range' 8 2 ++ []) rfl ?_
      refine pC 8 2 450 [] (fun _ => none) rfl rfl rfl (fun _ _ => rS (rA he31a (rA he31b he31c))) ?_
      refine iD ?_
      refine iA ?_
      refine dC (s2 := ⟨[(0, .yld 184), (6, .psl 1 (List.map tA.enc vr5.2)), (7, .int .i64 (vr5.2.length : Int)), (8, .int .i64 level27), (18, .yld 184), (19, .int .i64 level27), (20, .bool true), (21, .bool false), (22, .bool false)], [(0, ⟨0, true, true, 2, [[.int .i64 l1.B, .psl 1 (List.map tA.enc l1.Levels)]]⟩), (8, ⟨0, true, true, 4, [[.int .i64 0, .nils, .nils, .int .i64 0]]⟩), (152, ⟨0, true, false, 4, [[.int .i64 l1.B, .psl 1 (List.map tA.enc l1.Levels), .sl 217 (g29 + 1) 11 0 ((v28 ++ [vr34]).length), .int .i64 (IntKind.i64.wrap (vr4 + 1))]]⟩), (217, ⟨(g29 + 1), true, true, 11, List.map bB.enc (v28 ++ [vr34])⟩), (250, ⟨0, true, true, 1, [[.psl 2 (List.map eB.enc e31.Runs)]]⟩), (402, ⟨0, true, true, 11, List.map bB.enc [vr34]⟩)], 450, [(184, RC6)]⟩) [] rL ⟨rF, rE, rfl, rfl, (gC.consR rL rfl okRC6 rL trivial), trivial⟩ ?_
      refine bG rfl ?_
      refine qA (fC (iA ?_))
      refine eC 466 [0, 6, 7, 8, 18, 19, 20, 21] (fun _ => none) rfl (fun _ _ => rS (rA he31a (rA he31b he31c))) ?_
      refine iA ?_
      exact ⟨⟨(fu, (IntKind.i64.wrap (level27 + 1)), (v28 ++ [vr34]), (g29 + 1)), h1⟩, ⟨rF, rE, rfl, rfl, (gC.consR rL rfl okRC6 rL trivial), trivial⟩, Nat.lt_succ_self _⟩
     | false =>
      replace h1 := vA h1 hg32
      refine kC (l' := List.range' 5 5 ++ []) rfl ?_
      refine pC 5 5 354 [] (fun _ => none) rfl rfl rfl (fun _ _ => rS (rA he31a (rA he31b he31c))) ?_
      refine iD ?_
      refine iA ?_
      refine dC (s2 := ⟨[(0, .yld 184), (6, .psl 1 (List.map tA.enc vr5.2)), (7, .int .i64 (vr5.2.length : Int)), (8, .int .i64 level27), (22, .bool false)], [(0, ⟨0, true, true, 2, [[.int .i64 l1.B, .psl 1 (List.map tA.enc l1.Levels)]]⟩), (8, ⟨0, true, true, 4, [[.int .i64 0, .nils, .nils, .int .i64 0]]⟩), (152, ⟨0, true, false, 4, [[.int .i64 l1.B, .psl 1 (List.map tA.enc l1.Levels), .sl 217 g29 11 0 v28.length, .int .i64 (IntKind.i64.wrap (vr4 + 1))]]⟩), (217, ⟨g29, true, true, 11, List.map bB.enc v28⟩), (250, ⟨0, true, true, 1, [[.psl 2 (List.map eB.enc e31.Runs)]]⟩)], 354, [(184, RC6)]⟩) [] rL ⟨rF, rE, rfl, rfl, (gC.consR rL rfl okRC6 rL trivial), trivial⟩ ?_
      refine bG rfl ?_
      refine qA (fC (iA ?_))
      refine eC 370 [0, 6, 7, 8] (fun _ => none) rfl (fun _ _ => rS (rA he31a (rA he31b he31c))) ?_
      refine iA ?_
      exact ⟨⟨(fu, (IntKind.i64.wrap (level27 + 1)), v28, g29), h1⟩, ⟨rF, rE, rfl, rfl, (gC.consR rL rfl okRC6 rL trivial), trivial⟩, Nat.lt_succ_self _⟩
    ·
     refine fD (kB (kB (kD ?_)))
     obtain rfl := Option.some.inj h1
     exact ⟨g29, rL, ⟨rF, rE, rfl, rfl, (gC.consR rL rfl okRC6 rL trivial), trivial⟩⟩
theorem zkv {fu : Nat} {seq1 : Int} {seq2 : List tA} {r : List Int} (h0 : qM fu seq1 seq2 = some r) : jB Try.prog 48 [.fn 41 [] [.pp [.int .i64 seq1, .psl 1 (seq2.map tA.enc)]]] (.psl 1 (r.map (dA .i64))) [] := by
 refine tB Try.func48 rfl (by decide) rL ?_
 dsimp only [Try.f48]
 rw [qM] at h0
 refine (show pA _ _ _ _ ⟨iB 0 _, [], 0, []⟩ from ?_)
 refine xS 8 [0] ?_
 refine sH 3 rfl ?_
 refine kC (l' := List.range' 0 1 ++ (1 :: (List.range' 2 1 ++ []))) rfl ?_
 refine pC 0 1 16 (1 :: (List.range' 2 1 ++ [])) (fun _ => none) rfl rfl rfl (fun _ _ => rT) ?_
 refine dK rfl rfl rfl rfl rfl Try.func64 rfl (by decide) rfl rL ?_
 dsimp only [Try.f64]
 refine xE ⟨[(0, .nils), (1, .fn 41 [] [.pp [.int .i64 seq1, .psl 1 (List.map tA.enc seq2)]])], [], 16, []⟩ ?_
 refine xS 32 [1, 2, 4] ?_
 refine kA ?_
 refine xS 40 [2, 4, 6] ?_
 refine nC ?_
 refine vZ rfl Try.func41 rfl (by decide) rL ?_
 intro RC3 hRC3
 have stRC3 : RC3.st = .ready ∧ RC3.pend = none := by rw [hRC3]; exact ⟨rfl, rfl⟩
 have okRC3 : bY 40 RC3 := by rw [hRC3]; exact And.intro (rR) rfl
 dsimp only [Try.f41]
 refine dC (s2 := ⟨[(0, .yld 40), (1, .pp [.int .i64 seq1, .psl 1 (List.map tA.enc seq2)])], [(16, ⟨0, true, true, 1, [[.nils]]⟩)], 41, [(40, RC3)]⟩) [] rL ⟨rF, rE, rfl, rfl, (gC.consR rL rfl okRC3 rL trivial), trivial⟩ ?_
 refine xS 73 [0, 6, 7, 8] ?_
 refine zaz ?_
 refine dC (s2 := ⟨[(0, .yld 40), (6, .psl 1 (List.map tA.enc seq2)), (7, .int .i64 (seq2.length : Int)), (8, .int .i64 0)], [(16, ⟨0, true, false, 1, [[.sl 73 0 1 0 0]]⟩), (73, ⟨0, true, true, 1, List.map (dA .i64) []⟩)], 74, [(40, RC3)]⟩) [(73, 1)] rL ⟨rF, rE, rfl, rfl, (gC.consR rL rfl okRC3 rL trivial), rN⟩ ?_
 obtain ⟨x17, hxx17, h0⟩ := fA h0
 refine sD (fun s' => ∃ g25 : Nat, s'.nx ≤ 82 ∧ LeN [] s' ⟨[], [(16, ⟨0, true, false, 1, [[.sl 73 g25 1 0 x17.length]]⟩), (73, ⟨g25, true, true, 1, List.map (dA .i64) x17⟩)], 82, [(40, RC3)]⟩) ?_ ?_
 ·
  intro s' hs
  obtain ⟨g25, hn, hs⟩ := hs
  refine ⟨_, hn, hs, ?_⟩
  refine wR (fun _ _ => rT) ?_
  refine zbA stRC3 rfl ?_
  refine fC (iA ?_)
  refine xE ⟨[(2, .ref 16 0 0 0), (4, .nils), (6, .fn 41 [] [.pp [.int .i64 seq1, .psl 1 (List.map tA.enc seq2)]])], [(16, ⟨0, true, false, 1, [[.sl 73 g25 1 0 x17.length]]⟩), (73, ⟨g25, true, true, 1, List.map (dA .i64) x17⟩)], 82, []⟩ ?_
  refine xS 98 [4] ?_
  refine jA ?_
  refine qE (fun _ _ => rT) ?_
  refine xF ⟨[(0, .fn 41 [] [.pp [.int .i64 seq1, .psl 1 (List.map tA.enc seq2)]]), (3, .fn 41 [] [.pp [.int .i64 seq1, .psl 1 (List.map tA.enc seq2)]]), (4, .sl 73 g25 1 0 x17.length)], [(73, ⟨g25, true, true, 1, List.map (dA .i64) x17⟩)], 98, []⟩ ?_
  refine kC (l' := List.range' 2 1 ++ []) rfl ?_
  refine pC 2 1 106 [] (fun _ => none) rfl rfl rfl (fun _ _ => rT) ?_
  refine iD ?_
  refine iA ?_
  refine xE ⟨[(2, .sl 73 g25 1 0 x17.length)], [(73, ⟨g25, true, true, 1, List.map (dA .i64) x17⟩)], 106, []⟩ ?_
  refine jA ?_
  obtain rfl := Option.some.inj h0
  refine mA [] ?_
  exact rG
 ·
  refine oD (ι := { p : Nat × Int × List Int × Nat // jH seq2 p.1 p.2.1 p.2.2.1 = some x17 }) (fun p => ⟨[(0, .yld 40), (6, .psl 1 (List.map tA.enc seq2)), (7, .int .i64 (seq2.length : Int)), (8, .int .i64 p.1.2.1)], [(16, ⟨0, true, false, 1, [[.sl 73 p.1.2.2.2 1 0 p.1.2.2.1.length]]⟩), (73, ⟨p.1.2.2.2, true, true, 1, List.map (dA .i64) p.1.2.2.1⟩)], 74, [(40, RC3)]⟩) (fun p => p.1.1) ⟨(fu, 0, [], 0), hxx17⟩ ⟨rF, rE, rfl, rfl, (gC.consR rL rfl okRC3 rL trivial), trivial⟩ (fun _ => Nat.le_refl _) ?_
  rintro ⟨⟨fu, v18, v19, g20⟩, h1⟩
  cases fu with
  | zero =>
   replace h1 : jH seq2 0 v18 v19 = some x17 := h1
   rw [jH] at h1; cases h1
  | succ fu =>
   replace h1 : jH seq2 (fu + 1) v18 v19 = some x17 := h1
   rw [jH] at h1
   refine (show pA _ _ _ _ ⟨[(0, .yld 40), (6, .psl 1 (List.map tA.enc seq2)), (7, .int .i64 (seq2.length : Int)), (8, .int .i64 v18)], [(16, ⟨0, true, false, 1, [[.sl 73 g20 1 0 v19.length]]⟩), (73, ⟨g20, true, true, 1, List.map (dA .i64) v19⟩)], 74, [(40, RC3)]⟩ from ?_)
   refine xS 82 [0, 6, 7, 8, 9] ?_
   refine kA ?_
   refine xI h1 rfl (fun h1 hb21 => ?_) (fun h1 hb21 => ?_)
   ·
    refine qA (iA (kA (nC ?_)))
    obtain ⟨e22, he22, h1⟩ := fA h1
    obtain ⟨he22a, he22b, he22c⟩ := dB he22
    refine nA 130 [0, 3, 4, 6, 7, 8] (fun _ => none) rfl (fun _ _ => rS (rA he22a (rA he22b he22c))) ?_
    refine sH 10 rfl ?_
    refine kC (l' := List.range' 0 5 ++ (List.range' 5 5 ++ [])) rfl ?_
    refine pC 0 5 170 (List.range' 5 5 ++ []) (fun _ => none) rfl rfl rfl (fun _ _ => rS (rA he22a (rA he22b he22c))) ?_
    refine uJ (s2 := ⟨[(0, .yld 40), (3, .int .i64 v18), (4, .ref 106 0 0 0), (6, .psl 1 (List.map tA.enc seq2)), (7, .int .i64 (seq2.length : Int)), (8, .int .i64 v18), (13, .ref 106 0 0 0), (14, .psl 2 (List.map eB.enc e22.Runs)), (15, .int .i64 (e22.Runs.length : Int)), (16, .bool (decide ((e22.Runs.length : Int) = 2))), (17, .bool (decide ((e22.Runs.length : Int) = 2)))], [(16, ⟨0, true, false, 1, [[.sl 73 g20 1 0 v19.length]]⟩), (73, ⟨g20, true, true, 1, List.map (dA .i64) v19⟩), (106, ⟨0, true, true, 1, [[.psl 2 (List.map eB.enc e22.Runs)]]⟩)], 170, [(40, RC3)]⟩) [] rL ⟨rF, rE, rfl, rfl, (gC.consR rL rfl okRC3 rL trivial), trivial⟩ ?_
    generalize hg23 : (decide ((e22.Runs.length : Int) = 2)) = b23
    cases b23 with
    | true =>
     replace h1 := lB h1 hg23
     refine kC (l' := List.range' 5 2 ++ (7 :: (List.range' 8 2 ++ []))) rfl ?_
     refine pC 5 2 186 (7 :: (List.range' 8 2 ++ [])) (fun _ => none) rfl rfl rfl (fun _ _ => rS (rA he22a (rA he22b he22c))) ?_
     refine zaC hRC3 rfl rfl rfl rfl rfl rfl rfl rfl rfl ?_
     refine dC (s2 := ⟨[(2, .ref 16 0 0 0), (4, .nils), (6, .fn 41 [] [.pp [.int .i64 seq1, .psl 1 (List.map tA.enc seq2)]]), (7, .int .i64 v18)], [(16, ⟨0, true, false, 1, [[.sl 73 g20 1 0 v19.length]]⟩), (73, ⟨g20, true, true, 1, List.map (dA .i64) v19⟩), (106, ⟨0, true, true, 1, [[.psl 2 (List.map eB.enc e22.Runs)]]⟩)], 186, [(40, RC3)]⟩) [] rL ⟨rF, rE, rfl, rfl, (gC.consR rL rfl okRC3 rL trivial), trivial⟩ ?_
     refine eC 194 [2, 4, 5] (fun _ => none) rfl (fun _ _ => rS (rA he22a (rA he22b he22c))) ?_
     refine iA ?_
     refine ⟨RC3, rfl, stRC3.1, ?_⟩
     refine dC (s2 := ⟨[(2, .ref 16 0 0 0), (4, .nils), (5, .int .i64 v18)], [(16, ⟨0, true, false, 1, [[.sl 73 g20 1 0 v19.length]]⟩), (73, ⟨g20, true, true, 1, List.map (dA .i64) v19⟩), (106, ⟨0, true, true, 1, [[.psl 2 (List.map eB.enc e22.Runs)]]⟩)], 194, [(40, { RC3 with st := .busy, pend := RC3.pend })]⟩) [] rL ⟨rF, rE, rfl, rfl, (gC.consR rL rfl okRC3 rL trivial), trivial⟩ ?_
     refine nC ?_
     obtain ⟨hc24, h1⟩ := pE h1
     refine eC 234 [2, 4] (fun _ => none) rfl (fun _ _ => rS (rA he22a (rA he22b he22c))) ?_
     refine fC ?_
     refine zbk stRC3 rfl ?_
     refine uJ (s2 := ⟨[(0, .yld 40), (3, .int .i64 v18), (4, .ref 106 0 0 0), (6, .psl 1 (List.map tA.enc seq2)), (7, .int .i64 (seq2.length : Int)), (8, .int .i64 v18), (13, .ref 106 0 0 0), (14, .psl 2 (List.map eB.enc e22.Runs)), (15, .int .i64 (e22.Runs.length : Int)), (16, .bool true), (17, .bool true), (18, .yld 40), (19, .int .i64 v18), (20, .bool true)], [(16, ⟨0, true, false, 1, [[.sl 73 (g20 + 1) 1 0 ((v19 ++ [v18]).length)]]⟩), (73, ⟨(g20 + 1), true, true, 1, List.map (dA .i64) (v19 ++ [v18])⟩), (106, ⟨0, true, true, 1, [[.psl 2 (List.map eB.enc e22.Runs)]]⟩), (210, ⟨0, true, true, 1, List.map (dA .i64) [v18]⟩)], 234, [(40, RC3)]⟩) [] rL ⟨rF, rE, rfl, rfl, (gC.consR rL rfl okRC3 rL trivial), trivial⟩ ?_
     refine kC (l' := List.range' 8 2 ++ []) rfl ?_
     refine pC 8 2 250 [] (fun _ => none) rfl rfl rfl (fun _ _ => rS (rA he22a (rA he22b he22c))) ?_
     refine iD ?_
     refine iA ?_
     refine dC (s2 := ⟨[(0, .yld 40), (6, .psl 1 (List.map tA.enc seq2)), (7, .int .i64 (seq2.length : Int)), (8, .int .i64 v18), (18, .yld 40), (19, .int .i64 v18), (20, .bool true), (21, .bool false), (22, .bool false)], [(16, ⟨0, true, false, 1, [[.sl 73 (g20 + 1) 1 0 ((v19 ++ [v18]).length)]]⟩), (73, ⟨(g20 + 1), true, true, 1, List.map (dA .i64) (v19 ++ [v18])⟩), (106, ⟨0, true, true, 1, [[.psl 2 (List.map eB.enc e22.Runs)]]⟩), (210, ⟨0, true, true, 1, List.map (dA .i64) [v18]⟩)], 250, [(40, RC3)]⟩) [] rL ⟨rF, rE, rfl, rfl, (gC.consR rL rfl okRC3 rL trivial), trivial⟩ ?_
     refine bG rfl ?_
     refine qA (fC (iA ?_))
     refine eC 266 [0, 6, 7, 8, 18, 19, 20, 21] (fun _ => none) rfl (fun _ _ => rS (rA he22a (rA he22b he22c))) ?_
     refine iA ?_
     exact ⟨⟨(fu, (IntKind.i64.wrap (v18 + 1)), (v19 ++ [v18]), (g20 + 1)), h1⟩, ⟨rF, rE, rfl, rfl, (gC.consR rL rfl okRC3 rL trivial), trivial⟩, Nat.lt_succ_self _⟩
    | false =>
     replace h1 := vA h1 hg23
     refine kC (l' := List.range' 5 5 ++ []) rfl ?_
     refine pC 5 5 210 [] (fun _ => none) rfl rfl rfl (fun _ _ => rS (rA he22a (rA he22b he22c))) ?_
     refine iD ?_
     refine iA ?_
     refine dC (s2 := ⟨[(0, .yld 40), (6, .psl 1 (List.map tA.enc seq2)), (7, .int .i64 (seq2.length : Int)), (8, .int .i64 v18), (22, .bool false)], [(16, ⟨0, true, false, 1, [[.sl 73 g20 1 0 v19.length]]⟩), (73, ⟨g20, true, true, 1, List.map (dA .i64) v19⟩), (106, ⟨0, true, true, 1, [[.psl 2 (List.map eB.enc e22.Runs)]]⟩)], 210, [(40, RC3)]⟩) [] rL ⟨rF, rE, rfl, rfl, (gC.consR rL rfl okRC3 rL trivial), trivial⟩ ?_
     refine bG rfl ?_
     refine qA (fC (iA ?_))
     refine eC 226 [0, 6, 7, 8] (fun _ => none) rfl (fun _ _ => rS (rA he22a (rA he22b he22c))) ?_
     refine iA ?_
     exact ⟨⟨(fu, (IntKind.i64.wrap (v18 + 1)), v19, g20), h1⟩, ⟨rF, rE, rfl, rfl, (gC.consR rL rfl okRC3 rL trivial), trivial⟩, Nat.lt_succ_self _⟩
   ·
    refine fD (kB (kB (kD ?_)))
    obtain rfl := Option.some.inj h1
    exact ⟨g20, rL, ⟨rF, rE, rfl, rfl, (gC.consR rL rfl okRC3 rL trivial), trivial⟩⟩
theorem wL {fu : Nat} {s11 : List cA} {s22 : List cA} {r : Bool} (h0 : pL fu s11 s22 = some r) : jB Try.prog 68 [.psl 2 (s11.map cA.enc), .psl 2 (s22.map cA.enc)] (.bool r) [] := by
 refine tB Try.func68 rfl (by decide) rL ?_
 dsimp only [Try.f68]
 rw [pL] at h0
 refine (show pA _ _ _ _ ⟨iB 0 _, [], 0, []⟩ from ?_)
 refine xS 8 [0, 1] ?_
 refine kA ?_
 refine xS 48 [0, 1, 10] ?_
 refine xI h0 rfl (fun h0 hb3 => ?_) (fun h0 hb3 => ?_)
 ·
  refine xS 56 [4] ?_
  refine jA (oA ?_)
  obtain rfl := Option.some.inj h0
  refine mA [] ?_
  exact rG
 ·
  refine qA (iA (kA ?_))
  refine xS 72 [0, 1, 12, 13] ?_
  obtain ⟨x13, hxx13, h0⟩ := fA h0
  refine sD (fun s' => ∃ o19 : Unit, x13 = .inl o19 ∧ s'.nx ≤ 80 ∧ LeN [] s' ⟨[], [], 80, []⟩) ?_ ?_
  ·
   intro s' hs
   obtain ⟨o19, rfl, hn, hs⟩ := hs
   refine iA ?_
   refine dC [] hn hs ?_
   refine xS 88 [4] ?_
   refine jA ?_
   obtain rfl := Option.some.inj h0
   refine mA [] ?_
   exact rG
  ·
   refine oD (ι := { p : Nat × Int // pI s11 s22 p.1 p.2 = some x13 }) (fun p => ⟨[(0, .psl 2 (List.map cA.enc s11)), (1, .psl 2 (List.map cA.enc s22)), (12, .int .i64 (s11.length : Int)), (13, .int .i64 p.1.2)], [], 72, []⟩) (fun p => p.1.1) ⟨(fu, 0), hxx13⟩ ⟨rF, rE, rfl, rfl, trivial, trivial⟩ (fun _ => Nat.le_refl _) ?_
   rintro ⟨⟨fu, v14⟩, h1⟩
   cases fu with
   | zero =>
   replace h1 : pI s11 s22 0 v14 = some x13 := h1
   rw [pI] at h1; cases h1
   | succ fu =>
    replace h1 : pI s11 s22 (fu + 1) v14 = some x13 := h1
    rw [pI] at h1
    refine (show pA _ _ _ _ ⟨[(0, .psl 2 (List.map cA.enc s11)), (1, .psl 2 (List.map cA.enc s22)), (12, .int .i64 (s11.length : Int)), (13, .int .i64 v14)], [], 72, []⟩ from ?_)
    refine xS 80 [0, 1, 12, 13, 14] ?_
    refine kA ?_
    refine xI h1 rfl (fun h1 hb15 => ?_) (fun h1 hb15 => ?_)
    ·
     refine qA (iA (kA (nC ?_)))
     refine xS 96 [0, 1, 5, 12, 13] ?_
     obtain ⟨e16, he16, h1⟩ := fA h1
     obtain ⟨he16a, he16b, he16c⟩ := dB he16
     obtain ⟨e17, he17, h1⟩ := fA h1
     obtain ⟨he17a, he17b, he17c⟩ := dB he17
     refine nD 168 [0, 1, 12, 13, 24] (fun _ => none) rfl rfl rfl (fun _ _ => jF (rA he16a (rA he16b (rA he16c (rA he17a (rA he17b he17c)))))) ?_
     refine xI h1 rfl (fun h1 hb18 => ?_) (fun h1 hb18 => ?_)
     ·
      refine nA 176 [4] (fun _ => none) rfl (fun _ _ => rS (rA he16a (rA he16b (rA he16c (rA he17a (rA he17b he17c)))))) ?_
      refine jA ?_
      obtain rfl := Option.some.inj h1
      refine oC (oA (oA (zD (oA ?_))))
      obtain rfl := Option.some.inj h0
      refine mA [] ?_
      simp (maxSteps := 1000000) only [↓reduceIte, reduceCtorEq, Nat.reduceEqDiff, Nat.reduceLT, Nat.reduceLeDiff, Nat.reduceAdd, Nat.reduceMul, Int.reduceToNat, push_cast, mC, he16a, he16b, he16c, he17a, he17b, he17c]
      all_goals exact rH
     ·
      refine qA (fC (iA ?_))
      refine eC 184 [0, 1, 12, 13] (fun _ => none) rfl (fun _ _ => rS (rA he16a (rA he16b (rA he16c (rA he17a (rA he17b he17c)))))) ?_
      refine iA ?_
      exact ⟨⟨(fu, (IntKind.i64.wrap (v14 + 1))), h1⟩, ⟨rF, rE, rfl, rfl, trivial, trivial⟩, Nat.lt_succ_self _⟩
    ·
     refine fD (kB (kB (kD ?_)))
     obtain rfl := Option.some.inj h1
     exact ⟨_, rfl, rL, ⟨rF, rE, rfl, rfl, trivial, trivial⟩⟩
theorem oG {fu : Nat} {s11 : List Int} {s22 : List Int} {r : Bool} (h0 : vJ fu s11 s22 = some r) : jB Try.prog 67 [.psl 1 (s11.map (dA .i64)), .psl 1 (s22.map (dA .i64))] (.bool r) [] := by
 refine tB Try.func67 rfl (by decide) rL ?_
 dsimp only [Try.f67]
 rw [vJ] at h0
 refine (show pA _ _ _ _ ⟨iB 0 _, [], 0, []⟩ from ?_)
 refine xS 8 [0, 1] ?_
 refine kA ?_
 refine xS 48 [0, 1, 10] ?_
 refine xI h0 rfl (fun h0 hb3 => ?_) (fun h0 hb3 => ?_)
 ·
  refine xS 56 [4] ?_
  refine jA (oA ?_)
  obtain rfl := Option.some.inj h0
  refine mA [] ?_
  exact rG
 ·
  refine qA (iA (kA ?_))
  refine xS 72 [0, 1, 12, 13] ?_
  obtain ⟨x13, hxx13, h0⟩ := fA h0
  refine sD (fun s' => ∃ o19 : Unit, x13 = .inl o19 ∧ s'.nx ≤ 80 ∧ LeN [] s' ⟨[], [], 80, []⟩) ?_ ?_
  ·
   intro s' hs
   obtain ⟨o19, rfl, hn, hs⟩ := hs
   refine iA ?_
   refine dC [] hn hs ?_
   refine xS 88 [4] ?_
   refine jA ?_
   obtain rfl := Option.some.inj h0
   refine mA [] ?_
   exact rG
  ·
   refine oD (ι := { p : Nat × Int // oI s11 s22 p.1 p.2 = some x13 }) (fun p => ⟨[(0, .psl 1 (List.map (dA .i64) s11)), (1, .psl 1 (List.map (dA .i64) s22)), (12, .int .i64 (s11.length : Int)), (13, .int .i64 p.1.2)], [], 72, []⟩) (fun p => p.1.1) ⟨(fu, 0), hxx13⟩ ⟨rF, rE, rfl, rfl, trivial, trivial⟩ (fun _ => Nat.le_refl _) ?_
   rintro ⟨⟨fu, v14⟩, h1⟩
   cases fu with
   | zero =>
   replace h1 : oI s11 s22 0 v14 = some x13 := h1
   rw [oI] at h1; cases h1
   | succ fu =>
    replace h1 : oI s11 s22 (fu + 1) v14 = some x13 := h1
    rw [oI] at h1
    refine (show pA _ _ _ _ ⟨[(0, .psl 1 (List.map (dA .i64) s11)), (1, .psl 1 (List.map (dA .i64) s22)), (12, .int .i64 (s11.length : Int)), (13, .int .i64 v14)], [], 72, []⟩ from ?_)
    refine xS 80 [0, 1, 12, 13, 14] ?_
    refine kA ?_
    refine xI h1 rfl (fun h1 hb15 => ?_) (fun h1 hb15 => ?_)
    ·
     refine qA (iA (kA (nC ?_)))
     refine xS 96 [0, 1, 5, 12, 13] ?_
     obtain ⟨e16, he16, h1⟩ := fA h1
     obtain ⟨he16a, he16b, he16c⟩ := dB he16
     obtain ⟨e17, he17, h1⟩ := fA h1
     obtain ⟨he17a, he17b, he17c⟩ := dB he17
     refine nD 168 [0, 1, 12, 13, 24] (fun _ => none) rfl rfl rfl (fun _ _ => jF (rA he16a (rA he16b (rA he16c (rA he17a (rA he17b he17c)))))) ?_
     refine xI h1 rfl (fun h1 hb18 => ?_) (fun h1 hb18 => ?_)
     ·
      refine nA 176 [4] (fun _ => none) rfl (fun _ _ => rS (rA he16a (rA he16b (rA he16c (rA he17a (rA he17b he17c)))))) ?_
      refine jA ?_
      obtain rfl := Option.some.inj h1
      refine oC (oA (oA (zD (oA ?_))))
      obtain rfl := Option.some.inj h0
      refine mA [] ?_
      simp (maxSteps := 1000000) only [↓reduceIte, reduceCtorEq, Nat.reduceEqDiff, Nat.reduceLT, Nat.reduceLeDiff, Nat.reduceAdd, Nat.reduceMul, Int.reduceToNat, push_cast, mC, he16a, he16b, he16c, he17a, he17b, he17c]
      all_goals exact rH
     ·
      refine qA (fC (iA ?_))
      refine eC 184 [0, 1, 12, 13] (fun _ => none) rfl (fun _ _ => rS (rA he16a (rA he16b (rA he16c (rA he17a (rA he17b he17c)))))) ?_
      refine iA ?_
      exact ⟨⟨(fu, (IntKind.i64.wrap (v14 + 1))), h1⟩, ⟨rF, rE, rfl, rfl, trivial, trivial⟩, Nat.lt_succ_self _⟩
    ·
     refine fD (kB (kB (kD ?_)))
     obtain rfl := Option.some.inj h1
     exact ⟨_, rfl, rL, ⟨rF, rE, rfl, rfl, trivial, trivial⟩⟩
theorem zfT {fu : Nat} {a1 : cB} {b2 : cB} {r : Bool} (h0 : pQ fu a1 b2 = some r) : jB Try.prog 78 [.agg (cB.enc a1), .agg (cB.enc b2)] (.bool r) [] := by
 refine tB Try.func78 rfl (by decide) rL ?_
 dsimp only [Try.f78]
 rw [pQ] at h0
 refine (show pA _ _ _ _ ⟨iB 0 _, [], 0, []⟩ from ?_)
 refine xS 24 [2, 3] ?_
 obtain ⟨b4, hb4, h0⟩ := fA h0
 obtain ⟨b6, hb6, h0⟩ := fA h0
 refine eD (fr' := [(4, .bool b6)]) (hp' := [(0, ⟨0, true, true, 3, [[.psl 2 (List.map cA.enc a1.Keys), .psl 1 (List.map (dA .i64) a1.Lose), .int .i64 a1.Win]]⟩), (8, ⟨0, true, true, 3, [[.psl 2 (List.map cA.enc b2.Keys), .psl 1 (List.map (dA .i64) b2.Lose), .int .i64 b2.Win]]⟩)]) [0, 8] 184 [4] (fun | 10 => (pL fu a1.Keys b2.Keys).bind fun vr3 => some (.bool vr3, []) | 17 => (vJ fu a1.Lose b2.Lose).bind fun vr5 => some (.bool vr5, []) | _ => none) rfl (fun Kt hK => by
   cases hg7 : (decide (a1.Win = b2.Win)) with
   | false =>
    replace hb4 := vA hb4 hg7
    have hqb4 := Option.some.inj hb4
    cases b4 with
    | false =>
     replace hb6 := vA hb6 rfl
     have hqb6 := Option.some.inj hb6
     subst hqb6
     simp (maxSteps := 1000000) only [↓reduceIte, reduceCtorEq, Nat.reduceEqDiff, Nat.reduceLT, Nat.reduceLeDiff, Nat.reduceAdd, Nat.reduceMul, Int.reduceToNat, push_cast, ↓hg7]
     try simp only [↓hg7] at hK
     try have q0 := wL hvr3
     try have q1 := oG hvr5
     all_goals exact rU
    | true =>
     cases hqb4
   | true =>
    replace hb4 := lB hb4 hg7
    obtain ⟨vr3, hvr3, hb4⟩ := fA hb4
    have hqb4 := Option.some.inj hb4
    cases b4 with
    | false =>
     subst hqb4
     replace hb6 := vA hb6 rfl
     have hqb6 := Option.some.inj hb6
     subst hqb6
     simp (maxSteps := 1000000) only [↓reduceIte, reduceCtorEq, Nat.reduceEqDiff, Nat.reduceLT, Nat.reduceLeDiff, Nat.reduceAdd, Nat.reduceMul, Int.reduceToNat, push_cast, ↓hg7, hvr3]
     try simp only [↓hg7] at hK
     try have q0 := wL hvr3
     try have q1 := oG hvr5
     all_goals exact rU
    | true =>
     subst hqb4
     replace hb6 := lB hb6 rfl
     obtain ⟨vr5, hvr5, hb6⟩ := fA hb6
     have hqb6 := Option.some.inj hb6
     subst hqb6
     simp (maxSteps := 1000000) only [↓reduceIte, reduceCtorEq, Nat.reduceEqDiff, Nat.reduceLT, Nat.reduceLeDiff, Nat.reduceAdd, Nat.reduceMul, Int.reduceToNat, push_cast, ↓hg7, hvr3, hvr5]
     try simp only [↓hg7] at hK
     try have q0 := wL hvr3
     try have q1 := oG hvr5
     all_goals exact rU) ?_
 refine jA ?_
 obtain rfl := Option.some.inj h0
 refine mA [] ?_
 exact rG
theorem zmP {fu : Nat} {t1 : cB} {r : Int × Int} (h0 : kQ fu t1 = some r) : jB Try.prog 105 [.agg (cB.enc t1)] (.tup [.int .i64 r.1, .int .i64 r.2]) [] := by
 refine tB Try.func105 rfl (by decide) rL ?_
 dsimp only [Try.f105]
 rw [kQ] at h0
 refine (show pA _ _ _ _ ⟨iB 0 _, [], 0, []⟩ from ?_)
 refine xS 24 [1] ?_
 refine kA ?_
 obtain ⟨vr2, hvr2, h0⟩ := fA h0
 refine nA 56 [1, 4] (fun | 2 => some (.int .i64 vr2, []) | _ => none) rfl (fun _ _ => rC (sW hvr2)) ?_
 refine xS 72 [1, 4, 12] ?_
 refine xI h0 rfl (fun h0 hb3 => ?_) (fun h0 hb3 => ?_)
 ·
  refine xS 96 [2, 3] ?_
  refine jA (oA ?_)
  obtain rfl := Option.some.inj h0
  refine mA [] ?_
  exact rG
 ·
  refine qA (iA (kA ?_))
  refine xS 128 [1, 20] ?_
  refine xI h0 rfl (fun h0 hb4 => ?_) (fun h0 hb4 => ?_)
  ·
   refine xS 144 [2, 3] ?_
   refine jA (oA ?_)
   obtain rfl := Option.some.inj h0
   refine mA [] ?_
   exact rG
  ·
   refine qA (iA ?_)
   obtain ⟨vr5, hvr5, h0⟩ := fA h0
   refine nA 168 [1, 5] (fun | 2 => some (.agg (cB.enc vr5), []) | _ => none) rfl (fun _ _ => rC (zes hvr5)) ?_
   refine kA ?_
   refine xS 200 [1, 5, 25, 26, 27] ?_
   obtain ⟨x15, hxx15, h0⟩ := fA h0
   refine sD (fun s' => ∃ o21 : Unit, x15 = .inl o21 ∧ s'.nx ≤ 208 ∧ LeN [] s' ⟨[(1, .ref 0 0 0 0), (5, .ref 152 0 0 0)], [(0, ⟨0, true, true, 3, [[.psl 2 (List.map cA.enc t1.Keys), .psl 1 (List.map (dA .i64) t1.Lose), .int .i64 t1.Win]]⟩), (152, ⟨0, true, true, 3, [[.psl 2 (List.map cA.enc vr5.Keys), .psl 1 (List.map (dA .i64) vr5.Lose), .int .i64 vr5.Win]]⟩)], 208, []⟩) ?_ ?_
   ·
    intro s' hs
    obtain ⟨o21, rfl, hn, hs⟩ := hs
    refine iA ?_
    refine dC [] hn hs ?_
    refine kA ?_
    refine xS 248 [45] ?_
    refine xI h0 rfl (fun h0 hb22 => ?_) (fun h0 hb22 => ?_)
    ·
     refine xS 264 [2, 3] ?_
     refine jA (oA ?_)
     obtain rfl := Option.some.inj h0
     refine mA [] ?_
     exact rG
    ·
     refine qA (iA ?_)
     refine xS 264 [2, 3] ?_
     refine jA ?_
     obtain rfl := Option.some.inj h0
     refine mA [] ?_
     exact rG
   ·
    refine oD (ι := { p : Nat × Int // gI vr5 t1 p.1 p.2 = some x15 }) (fun p => ⟨[(1, .ref 0 0 0 0), (5, .ref 152 0 0 0), (25, .psl 1 (List.map (dA .i64) vr5.Lose)), (26, .int .i64 (vr5.Lose.length : Int)), (27, .int .i64 p.1.2)], [(0, ⟨0, true, true, 3, [[.psl 2 (List.map cA.enc t1.Keys), .psl 1 (List.map (dA .i64) t1.Lose), .int .i64 t1.Win]]⟩), (152, ⟨0, true, true, 3, [[.psl 2 (List.map cA.enc vr5.Keys), .psl 1 (List.map (dA .i64) vr5.Lose), .int .i64 vr5.Win]]⟩)], 200, []⟩) (fun p => p.1.1) ⟨(fu, 0), hxx15⟩ ⟨rF, rE, rfl, rfl, trivial, trivial⟩ (fun _ => Nat.le_refl _) ?_
    rintro ⟨⟨fu, v16⟩, h1⟩
    cases fu with
    | zero =>
   replace h1 : gI vr5 t1 0 v16 = some x15 := h1
   rw [gI] at h1; cases h1
    | succ fu =>
     replace h1 : gI vr5 t1 (fu + 1) v16 = some x15 := h1
     rw [gI] at h1
     refine (show pA _ _ _ _ ⟨[(1, .ref 0 0 0 0), (5, .ref 152 0 0 0), (25, .psl 1 (List.map (dA .i64) vr5.Lose)), (26, .int .i64 (vr5.Lose.length : Int)), (27, .int .i64 v16)], [(0, ⟨0, true, true, 3, [[.psl 2 (List.map cA.enc t1.Keys), .psl 1 (List.map (dA .i64) t1.Lose), .int .i64 t1.Win]]⟩), (152, ⟨0, true, true, 3, [[.psl 2 (List.map cA.enc vr5.Keys), .psl 1 (List.map (dA .i64) vr5.Lose), .int .i64 vr5.Win]]⟩)], 200, []⟩ from ?_)
     refine xS 208 [1, 5, 25, 26, 27, 28] ?_
     refine kA ?_
     refine xI h1 rfl (fun h1 hb17 => ?_) (fun h1 hb17 => ?_)
     ·
      refine qA (iA (kA (nC ?_)))
      obtain ⟨e18, he18, h1⟩ := fA h1
      obtain ⟨he18a, he18b, he18c⟩ := dB he18
      refine nA 248 [1, 5, 6, 7, 25, 26, 27] (fun _ => none) rfl (fun _ _ => rS (rA he18a (rA he18b he18c))) ?_
      obtain ⟨e19, he19, h1⟩ := fA h1
      obtain ⟨he19a, he19b, he19c⟩ := dB he19
      refine nA 304 [1, 5, 6, 25, 26, 27, 38] (fun _ => none) rfl (fun _ _ => rS (rA he18a (rA he18b (rA he18c (rA he19a (rA he19b he19c)))))) ?_
      refine xI h1 rfl (fun h1 hb20 => ?_) (fun h1 hb20 => ?_)
      ·
       refine nA 328 [2, 3] (fun _ => none) rfl (fun _ _ => rS (rA he18a (rA he18b (rA he18c (rA he19a (rA he19b he19c)))))) ?_
       refine jA ?_
       obtain rfl := Option.some.inj h1
       refine oC (oA (oA (zD (oA ?_))))
       obtain rfl := Option.some.inj h0
       refine mA [] ?_
       simp (maxSteps := 1000000) only [↓reduceIte, reduceCtorEq, Nat.reduceEqDiff, Nat.reduceLT, Nat.reduceLeDiff, Nat.reduceAdd, Nat.reduceMul, Int.reduceToNat, push_cast, mC, he18a, he18b, he18c, he19a, he19b, he19c]
       all_goals exact rH
      ·
       refine qA (fC (iA ?_))
       refine eC 320 [1, 5, 25, 26, 27] (fun _ => none) rfl (fun _ _ => rS (rA he18a (rA he18b (rA he18c (rA he19a (rA he19b he19c)))))) ?_
       refine iA ?_
       exact ⟨⟨(fu, (IntKind.i64.wrap (v16 + 1))), h1⟩, ⟨rF, rE, rfl, rfl, trivial, trivial⟩, Nat.lt_succ_self _⟩
     ·
      refine fD (kB (kB (kD ?_)))
      obtain rfl := Option.some.inj h1
      exact ⟨_, rfl, rL, ⟨rF, rE, rfl, rfl, trivial, trivial⟩⟩
theorem zew {fu : Nat} {t1 : cB} {r : Int} (h0 : dO fu t1 = some r) : jB Try.prog 95 [.agg (cB.enc t1)] (.int .i64 r) [] := by
 refine tB Try.func95 rfl (by decide) rL ?_
 dsimp only [Try.f95]
 rw [dO] at h0
 refine (show pA _ _ _ _ ⟨iB 0 _, [], 0, []⟩ from ?_)
 refine xS 16 [1] ?_
 refine kA ?_
 obtain ⟨vr2, hvr2, h0⟩ := fA h0
 refine nA 72 [1, 4] (fun | 1 => some (.tup [.int .i64 vr2.1, .int .i64 vr2.2], []) | _ => none) rfl (fun _ _ => rC (zmP hvr2)) ?_
 refine xS 88 [1, 4, 11] ?_
 refine xI h0 rfl (fun h0 hb3 => ?_) (fun h0 hb3 => ?_)
 ·
  refine xS 104 [2] ?_
  refine jA (oA ?_)
  obtain rfl := Option.some.inj h0
  refine mA [] ?_
  exact rG
 ·
  refine qA (iA (kA ?_))
  obtain ⟨e4, he4, h0⟩ := fA h0
  obtain ⟨he4a, he4b, he4c⟩ := dB he4
  refine nA 144 [19] (fun _ => none) rfl (fun _ _ => rS (rA he4a (rA he4b he4c))) ?_
  refine xI h0 rfl (fun h0 hb5 => ?_) (fun h0 hb5 => ?_)
  ·
   refine nA 152 [2] (fun _ => none) rfl (fun _ _ => rS (rA he4a (rA he4b he4c))) ?_
   refine jA (oA ?_)
   obtain rfl := Option.some.inj h0
   refine mA [] ?_
   simp (maxSteps := 1000000) only [↓reduceIte, reduceCtorEq, Nat.reduceEqDiff, Nat.reduceLT, Nat.reduceLeDiff, Nat.reduceAdd, Nat.reduceMul, Int.reduceToNat, push_cast, mC, he4a, he4b, he4c]
   all_goals exact rH
  ·
   refine qA (iA ?_)
   refine nA 152 [2] (fun _ => none) rfl (fun _ _ => rS (rA he4a (rA he4b he4c))) ?_
   refine jA ?_
   obtain rfl := Option.some.inj h0
   refine mA [] ?_
   simp (maxSteps := 1000000) only [↓reduceIte, reduceCtorEq, Nat.reduceEqDiff, Nat.reduceLT, Nat.reduceLeDiff, Nat.reduceAdd, Nat.reduceMul, Int.reduceToNat, push_cast, mC, he4a, he4b, he4c]
   all_goals exact rH
theorem zcV {fu : Nat} {t1 : cB} {r : Int × List UInt8 × Int} (h0 : tN fu t1 = some r) : jB Try.prog 79 [.agg (cB.enc t1)] (.tup [.int .i64 r.1, .str r.2.1, .int .i64 r.2.2]) [] := by
 refine tB Try.func79 rfl (by decide) rL ?_
 dsimp only [Try.f79]
 rw [tN] at h0
 refine (show pA _ _ _ _ ⟨iB 0 _, [], 0, []⟩ from ?_)
 refine xS 32 [1] ?_
 refine kA ?_
 obtain ⟨vr2, hvr2, h0⟩ := fA h0
 refine nA 56 [1, 5] (fun | 1 => some (.int .i64 vr2, []) | _ => none) rfl (fun _ _ => rC (zew hvr2)) ?_
 refine xS 72 [1, 5, 9] ?_
 refine xI h0 rfl (fun h0 hb3 => ?_) (fun h0 hb3 => ?_)
 ·
  refine xS 104 [2, 3, 4] ?_
  refine jA (oA ?_)
  obtain rfl := Option.some.inj h0
  refine mA [] ?_
  exact rG
 ·
  refine qA (iA ?_)
  obtain ⟨e4, he4, h0⟩ := fA h0
  obtain ⟨he4a, he4b, he4c⟩ := dB he4
  refine nD 168 [2, 3, 4] (fun _ => none) rfl rfl rfl (fun _ _ => jF (rA he4a (rA he4b he4c))) ?_
  refine jA ?_
  obtain rfl := Option.some.inj h0
  refine mA [] ?_
  simp (maxSteps := 1000000) only [↓reduceIte, reduceCtorEq, Nat.reduceEqDiff, Nat.reduceLT, Nat.reduceLeDiff, Nat.reduceAdd, Nat.reduceMul, Int.reduceToNat, push_cast, mC, he4a, he4b, he4c]
  all_goals exact rH
theorem zcj {fu : Nat} {vx1 : List UInt8} {r : Bool} (h0 : lQ fu vx1 = some r) : jB Try.prog 96 [.str vx1] (.bool r) [] := by
 refine tB Try.func96 rfl (by decide) rL ?_
 dsimp only [Try.f96]
 rw [lQ] at h0
 refine (show pA _ _ _ _ ⟨iB 0 _, [], 0, []⟩ from ?_)
 refine xS 8 [0] ?_
 refine xS 40 [2] ?_
 refine jA ?_
 obtain rfl := Option.some.inj h0
 refine mA [] ?_
 exact rG
theorem zc3 {fu : Nat} {vx1 : List UInt8} {y2 : List UInt8} {r : Int} (h0 : qK fu vx1 y2 = some r) : jB Try.prog 81 [.str vx1, .str y2] (.int .i64 r) [] := by
 refine tB Try.func81 rfl (by decide) rL ?_
 dsimp only [Try.f81]
 rw [qK] at h0
 refine (show pA _ _ _ _ ⟨iB 0 _, [], 0, []⟩ from ?_)
 refine xS 8 [0, 1] ?_
 obtain ⟨vr3, hvr3, h0⟩ := fA h0
 refine nA 32 [0, 1, 5] (fun | 1 => some (.bool vr3, []) | _ => none) rfl (fun _ _ => rC (zcj hvr3)) ?_
 obtain ⟨vr4, hvr4, h0⟩ := fA h0
 refine nA 56 [0, 1, 5, 6] (fun | 1 => some (.bool vr4, []) | _ => none) rfl (fun _ _ => rC (zcj hvr4)) ?_
 refine kA ?_
 refine xS 64 [0, 1, 6, 11] ?_
 refine xI h0 rfl (fun h0 hb5 => ?_) (fun h0 hb5 => ?_)
 ·
  refine kA ?_
  refine xS 72 [12] ?_
  refine xI h0 rfl (fun h0 hb6 => ?_) (fun h0 hb6 => ?_)
  ·
   refine xS 80 [4] ?_
   refine jA (oA (oA ?_))
   obtain rfl := Option.some.inj h0
   refine mA [] ?_
   exact rG
  ·
   refine qA (iA ?_)
   refine xS 80 [4] ?_
   refine jA (oA ?_)
   obtain rfl := Option.some.inj h0
   refine mA [] ?_
   exact rG
 ·
  refine qA (iA (kA ?_))
  refine xS 72 [0, 1, 13] ?_
  refine xI h0 rfl (fun h0 hb7 => ?_) (fun h0 hb7 => ?_)
  ·
   refine xS 80 [4] ?_
   refine jA (oA ?_)
   obtain rfl := Option.some.inj h0
   refine mA [] ?_
   exact rG
  ·
   refine qA (iA (kA ?_))
   refine xS 96 [0, 1, 16] ?_
   refine xI h0 rfl (fun h0 hb8 => ?_) (fun h0 hb8 => ?_)
   ·
    refine xS 104 [4] ?_
    refine jA (oA ?_)
    obtain rfl := Option.some.inj h0
    refine mA [] ?_
    exact rG
   ·
    refine qA (iA (kA ?_))
    refine xS 120 [19] ?_
    refine xI h0 rfl (fun h0 hb9 => ?_) (fun h0 hb9 => ?_)
    ·
     refine xS 128 [4] ?_
     refine jA (oA ?_)
     obtain rfl := Option.some.inj h0
     refine mA [] ?_
     exact rG
    ·
     refine qA (iA ?_)
     refine xS 128 [4] ?_
     refine jA ?_
     obtain rfl := Option.some.inj h0
     refine mA [] ?_
     exact rG
theorem zdT {fu : Nat} {vx1 : Int} {r : Bool} (h0 : xP fu vx1 = some r) : jB Try.prog 97 [.int .i64 vx1] (.bool r) [] := by
 refine tB Try.func97 rfl (by decide) rL ?_
 dsimp only [Try.f97]
 rw [xP] at h0
 refine (show pA _ _ _ _ ⟨iB 0 _, [], 0, []⟩ from ?_)
 refine xS 8 [0] ?_
 refine xS 40 [2] ?_
 refine jA ?_
 obtain rfl := Option.some.inj h0
 refine mA [] ?_
 exact rG
theorem zb1 {fu : Nat} {vx1 : Int} {y2 : Int} {r : Int} (h0 : dN fu vx1 y2 = some r) : jB Try.prog 82 [.int .i64 vx1, .int .i64 y2] (.int .i64 r) [] := by
 refine tB Try.func82 rfl (by decide) rL ?_
 dsimp only [Try.f82]
 rw [dN] at h0
 refine (show pA _ _ _ _ ⟨iB 0 _, [], 0, []⟩ from ?_)
 refine xS 8 [0, 1] ?_
 obtain ⟨vr3, hvr3, h0⟩ := fA h0
 refine nA 32 [0, 1, 5] (fun | 1 => some (.bool vr3, []) | _ => none) rfl (fun _ _ => rC (zdT hvr3)) ?_
 obtain ⟨vr4, hvr4, h0⟩ := fA h0
 refine nA 56 [0, 1, 5, 6] (fun | 1 => some (.bool vr4, []) | _ => none) rfl (fun _ _ => rC (zdT hvr4)) ?_
 refine kA ?_
 refine xS 64 [0, 1, 6, 11] ?_
 refine xI h0 rfl (fun h0 hb5 => ?_) (fun h0 hb5 => ?_)
 ·
  refine kA ?_
  refine xS 72 [12] ?_
  refine xI h0 rfl (fun h0 hb6 => ?_) (fun h0 hb6 => ?_)
  ·
   refine xS 80 [4] ?_
   refine jA (oA (oA ?_))
   obtain rfl := Option.some.inj h0
   refine mA [] ?_
   exact rG
  ·
   refine qA (iA ?_)
   refine xS 80 [4] ?_
   refine jA (oA ?_)
   obtain rfl := Option.some.inj h0
   refine mA [] ?_
   exact rG
 ·
  refine qA (iA (kA ?_))
  refine xS 72 [0, 1, 13] ?_
  refine xI h0 rfl (fun h0 hb7 => ?_) (fun h0 hb7 => ?_)
  ·
   refine xS 80 [4] ?_
   refine jA (oA ?_)
   obtain rfl := Option.some.inj h0
   refine mA [] ?_
   exact rG
  ·
   refine qA (iA (kA ?_))
   refine xS 96 [0, 1, 16] ?_
   refine xI h0 rfl (fun h0 hb8 => ?_) (fun h0 hb8 => ?_)
   ·
    refine xS 104 [4] ?_
    refine jA (oA ?_)
    obtain rfl := Option.some.inj h0
    refine mA [] ?_
    exact rG
   ·
    refine qA (iA (kA ?_))
    refine xS 120 [19] ?_
    refine xI h0 rfl (fun h0 hb9 => ?_) (fun h0 hb9 => ?_)
    ·
     refine xS 128 [4] ?_
     refine jA (oA ?_)
     obtain rfl := Option.some.inj h0
     refine mA [] ?_
     exact rG
    ·
     refine qA (iA ?_)
     refine xS 128 [4] ?_
     refine jA ?_
     obtain rfl := Option.some.inj h0
     refine mA [] ?_
     exact rG
theorem zbS {fu : Nat} {vals1 : List Int} {r : Int} (h0 : vM fu vals1 = some r) : jB Try.prog 80 [.psl 1 (vals1.map (dA .i64))] (.int .i64 r) [] := by
 refine tB Try.func80 rfl (by decide) rL ?_
 dsimp only [Try.f80]
 rw [vM] at h0
 refine (show pA _ _ _ _ ⟨iB 0 _, [], 0, []⟩ from ?_)
 refine xS 8 [0] ?_
 refine xS 16 [0, 3] ?_
 refine kA ?_
 refine xS 40 [3, 6, 7, 8] ?_
 obtain ⟨x9, hxx9, h0⟩ := fA h0
 refine sD (fun s' => ∃ o14 : Unit, x9 = .inl o14 ∧ s'.nx ≤ 48 ∧ LeN [] s' ⟨[(3, .int .i64 0)], [], 48, []⟩) ?_ ?_
 ·
  intro s' hs
  obtain ⟨o14, rfl, hn, hs⟩ := hs
  refine iA ?_
  refine dC [] hn hs ?_
  refine xS 64 [2] ?_
  refine jA ?_
  obtain rfl := Option.some.inj h0
  refine mA [] ?_
  exact rG
 ·
  refine oD (ι := { p : Nat × Int // lI vals1 p.1 p.2 = some x9 }) (fun p => ⟨[(3, .int .i64 0), (6, .psl 1 (List.map (dA .i64) vals1)), (7, .int .i64 (vals1.length : Int)), (8, .int .i64 p.1.2)], [], 40, []⟩) (fun p => p.1.1) ⟨(fu, 0), hxx9⟩ ⟨rF, rE, rfl, rfl, trivial, trivial⟩ (fun _ => Nat.le_refl _) ?_
  rintro ⟨⟨fu, v10⟩, h1⟩
  cases fu with
  | zero =>
   replace h1 : lI vals1 0 v10 = some x9 := h1
   rw [lI] at h1; cases h1
  | succ fu =>
   replace h1 : lI vals1 (fu + 1) v10 = some x9 := h1
   rw [lI] at h1
   refine (show pA _ _ _ _ ⟨[(3, .int .i64 0), (6, .psl 1 (List.map (dA .i64) vals1)), (7, .int .i64 (vals1.length : Int)), (8, .int .i64 v10)], [], 40, []⟩ from ?_)
   refine xS 48 [3, 6, 7, 8, 9] ?_
   refine kA ?_
   refine xI h1 rfl (fun h1 hb11 => ?_) (fun h1 hb11 => ?_)
   ·
    refine qA (iA (kA (nC ?_)))
    obtain ⟨e12, he12, h1⟩ := fA h1
    obtain ⟨he12a, he12b, he12c⟩ := dB he12
    refine nA 72 [3, 5, 6, 7, 8] (fun _ => none) rfl (fun _ _ => rS (rA he12a (rA he12b he12c))) ?_
    refine nA 96 [3, 5, 6, 7, 8, 14] (fun _ => none) rfl (fun _ _ => rS (rA he12a (rA he12b he12c))) ?_
    refine xI h1 rfl (fun h1 hb13 => ?_) (fun h1 hb13 => ?_)
    ·
     refine nA 112 [2] (fun _ => none) rfl (fun _ _ => rS (rA he12a (rA he12b he12c))) ?_
     refine jA ?_
     obtain rfl := Option.some.inj h1
     refine oC (oA (oA (zD (oA ?_))))
     obtain rfl := Option.some.inj h0
     refine mA [] ?_
     simp (maxSteps := 1000000) only [↓reduceIte, reduceCtorEq, Nat.reduceEqDiff, Nat.reduceLT, Nat.reduceLeDiff, Nat.reduceAdd, Nat.reduceMul, Int.reduceToNat, push_cast, mC, he12a, he12b, he12c]
     all_goals exact rH
    ·
     refine qA (fC (iA ?_))
     refine eC 112 [3, 6, 7, 8] (fun _ => none) rfl (fun _ _ => rS (rA he12a (rA he12b he12c))) ?_
     refine iA ?_
     exact ⟨⟨(fu, (IntKind.i64.wrap (v10 + 1))), h1⟩, ⟨rF, rE, rfl, rfl, trivial, trivial⟩, Nat.lt_succ_self _⟩
   ·
    refine fD (kB (kB (kD ?_)))
    obtain rfl := Option.some.inj h1
    exact ⟨_, rfl, rL, ⟨rF, rE, rfl, rfl, trivial, trivial⟩⟩
theorem zaE {fu : Nat} {vs1 : gB} {r : Int × Int} (h0 : cH fu vs1 = some r) : jB Try.prog 59 [.agg (gB.enc vs1)] (.tup [.int .i64 r.1, .int .i64 r.2]) [] := by
 refine tB Try.func59 rfl (by decide) rL ?_
 dsimp only [Try.f59]
 rw [cH] at h0
 refine (show pA _ _ _ _ ⟨iB 0 _, [], 0, []⟩ from ?_)
 refine xS 24 [1] ?_
 refine kA ?_
 obtain ⟨vr2, hvr2, h0⟩ := fA h0
 refine nA 88 [1, 4, 5] (fun | 2 => some (.tup [.int .i64 vr2.1, .int .i64 vr2.2], []) | _ => none) rfl (fun _ _ => rC (zaI hvr2)) ?_
 refine xS 104 [1, 4, 5, 19] ?_
 refine xI h0 rfl (fun h0 hb3 => ?_) (fun h0 hb3 => ?_)
 ·
  refine xS 136 [2, 3] ?_
  refine jA (oA ?_)
  obtain rfl := Option.some.inj h0
  refine mA [] ?_
  exact rG
 ·
  refine qA (iA (kA ?_))
  refine xS 160 [1, 28] ?_
  refine xI h0 rfl (fun h0 hb4 => ?_) (fun h0 hb4 => ?_)
  ·
   refine xS 176 [2, 3] ?_
   refine jA (oA ?_)
   obtain rfl := Option.some.inj h0
   refine mA [] ?_
   exact rG
  ·
   refine qA (iA (kA ?_))
   refine xS 192 [1, 30, 31, 32] ?_
   obtain ⟨x18, hxx18, h0⟩ := fA h0
   refine sD (fun s' => ∃ o26 : Unit, x18 = .inl o26 ∧ s'.nx ≤ 200 ∧ LeN [] s' ⟨[(1, .ref 0 0 0 0)], [(0, ⟨0, true, true, 5, [[.psl 1 (List.map (sA 4 aA.enc) vs1.Runs), .psl 1 (List.map (dA .i64) vs1.At), .psl 2 (List.map cA.enc vs1.Tree.Keys), .psl 1 (List.map (dA .i64) vs1.Tree.Lose), .int .i64 vs1.Tree.Win]]⟩)], 200, []⟩) ?_ ?_
   ·
    intro s' hs
    obtain ⟨o26, rfl, hn, hs⟩ := hs
    refine iA ?_
    refine dC [] hn hs ?_
    refine kA ?_
    obtain ⟨vr27, hvr27, h0⟩ := fA h0
    obtain ⟨vr28, hvr28, h0⟩ := fA h0
    refine nD 272 [1, 59] (fun | 6 => some (.agg (cB.enc vr27), []) | 7 => some (.bool vr28, []) | _ => none) rfl rfl rfl (fun Kt hK => by
      try have q0 := zcl hvr27
      try have q1 := zfT hvr28
      exact dG) ?_
    refine xI h0 rfl (fun h0 hb29 => ?_) (fun h0 hb29 => ?_)
    ·
     refine xS 288 [2, 3] ?_
     refine jA (oA ?_)
     obtain rfl := Option.some.inj h0
     refine mA [] ?_
     exact rG
    ·
     refine qA (iA ?_)
     obtain ⟨vr30, hvr30, h0⟩ := fA h0
     refine nA 352 [1, 3, 8, 9] (fun | 2 => some (.tup [.int .i64 vr30.1, .str vr30.2.1, .int .i64 vr30.2.2], []) | _ => none) rfl (fun _ _ => rC (zcV hvr30)) ?_
     refine kA ?_
     refine xS 368 [1, 8, 9, 68] ?_
     refine xI h0 rfl (fun h0 hb31 => ?_) (fun h0 hb31 => ?_)
     ·
      refine xS 384 [2, 3] ?_
      refine jA (oA ?_)
      obtain rfl := Option.some.inj h0
      refine mA [] ?_
      exact rG
     ·
      refine qA (iA (kA ?_))
      refine xS 400 [1, 8, 9, 70, 71, 72] ?_
      obtain ⟨x53, hxx53, h0⟩ := fA h0
      refine sD (fun s' => ∃ o65 : Unit, x53 = .inl o65 ∧ s'.nx ≤ 408 ∧ LeN [] s' ⟨[], [(0, ⟨0, true, true, 5, [[.psl 1 (List.map (sA 4 aA.enc) vs1.Runs), .psl 1 (List.map (dA .i64) vs1.At), .psl 2 (List.map cA.enc vs1.Tree.Keys), .psl 1 (List.map (dA .i64) vs1.Tree.Lose), .int .i64 vs1.Tree.Win]]⟩)], 408, []⟩) ?_ ?_
      ·
       intro s' hs
       obtain ⟨o65, rfl, hn, hs⟩ := hs
       refine iA ?_
       refine dC [] hn hs ?_
       refine xS 424 [2, 3] ?_
       refine jA ?_
       obtain rfl := Option.some.inj h0
       refine mA [] ?_
       exact rG
      ·
       refine oD (ι := { p : Nat × Int // zF vs1 vr30 p.1 p.2 = some x53 }) (fun p => ⟨[(1, .ref 0 0 0 0), (8, .int .i64 vr30.1), (9, .str vr30.2.1), (70, .psl 1 (List.map (dA .i64) vs1.At)), (71, .int .i64 (vs1.At.length : Int)), (72, .int .i64 p.1.2)], [(0, ⟨0, true, true, 5, [[.psl 1 (List.map (sA 4 aA.enc) vs1.Runs), .psl 1 (List.map (dA .i64) vs1.At), .psl 2 (List.map cA.enc vs1.Tree.Keys), .psl 1 (List.map (dA .i64) vs1.Tree.Lose), .int .i64 vs1.Tree.Win]]⟩)], 400, []⟩) (fun p => p.1.1) ⟨(fu, 0), hxx53⟩ ⟨rF, rE, rfl, rfl, trivial, trivial⟩ (fun _ => Nat.le_refl _) ?_
       rintro ⟨⟨fu, v54⟩, h1⟩
       cases fu with
       | zero =>
   replace h1 : zF vs1 vr30 0 v54 = some x53 := h1
   rw [zF] at h1; cases h1
       | succ fu =>
        replace h1 : zF vs1 vr30 (fu + 1) v54 = some x53 := h1
        rw [zF] at h1
        refine (show pA _ _ _ _ ⟨[(1, .ref 0 0 0 0), (8, .int .i64 vr30.1), (9, .str vr30.2.1), (70, .psl 1 (List.map (dA .i64) vs1.At)), (71, .int .i64 (vs1.At.length : Int)), (72, .int .i64 v54)], [(0, ⟨0, true, true, 5, [[.psl 1 (List.map (sA 4 aA.enc) vs1.Runs), .psl 1 (List.map (dA .i64) vs1.At), .psl 2 (List.map cA.enc vs1.Tree.Keys), .psl 1 (List.map (dA .i64) vs1.Tree.Lose), .int .i64 vs1.Tree.Win]]⟩)], 400, []⟩ from ?_)
        refine xS 408 [1, 8, 9, 70, 71, 72, 73] ?_
        refine kA ?_
        refine xI h1 rfl (fun h1 hb55 => ?_) (fun h1 hb55 => ?_)
        ·
         refine qA (iA (kA (nC ?_)))
         obtain ⟨e56, he56, h1⟩ := fA h1
         obtain ⟨he56a, he56b, he56c⟩ := dB he56
         refine nA 448 [1, 8, 9, 10, 11, 70, 71, 72] (fun _ => none) rfl (fun _ _ => rS (rA he56a (rA he56b he56c))) ?_
         obtain ⟨b62, hb62, h1⟩ := fA h1
         refine eD (fr' := [(1, .ref 0 0 0 0), (8, .int .i64 vr30.1), (9, .str vr30.2.1), (70, .psl 1 (List.map (dA .i64) vs1.At)), (71, .int .i64 (vs1.At.length : Int)), (72, .int .i64 v54), (98, .bool b62)]) (hp' := [(0, ⟨0, true, true, 5, [[.psl 1 (List.map (sA 4 aA.enc) vs1.Runs), .psl 1 (List.map (dA .i64) vs1.At), .psl 2 (List.map cA.enc vs1.Tree.Keys), .psl 1 (List.map (dA .i64) vs1.Tree.Lose), .int .i64 vs1.Tree.Win]]⟩)]) [0] 624 [1, 8, 9, 70, 71, 72, 98] (fun | 14 => (ix vs1.Runs v54).bind fun e57 => (ix e57 (IntKind.i64.wrap (e56 - 1))).bind fun e58 => (qK fu e58.Key vr30.2.1).bind fun vr59 => some (.int .i64 vr59, []) | 17 => (ix vs1.Runs v54).bind fun e57 => (ix e57 (IntKind.i64.wrap (e56 - 1))).bind fun e58 => (qK fu e58.Key vr30.2.1).bind fun vr59 => (dN fu v54 vr30.1).bind fun vr60 => some (.int .i64 vr60, []) | 19 => (ix vs1.Runs v54).bind fun e57 => (ix e57 (IntKind.i64.wrap (e56 - 1))).bind fun e58 => (qK fu e58.Key vr30.2.1).bind fun vr59 => (dN fu v54 vr30.1).bind fun vr60 => (vM fu [vr59, vr60]).bind fun vr61 => some (.int .i64 vr61, []) | _ => none) rfl (fun Kt hK => by
           cases hg63 : (decide (0 < e56)) with
           | false =>
            replace hb62 := vA hb62 hg63
            have hqb62 := Option.some.inj hb62
            subst hqb62
            simp (maxSteps := 1000000) only [↓reduceIte, reduceCtorEq, Nat.reduceEqDiff, Nat.reduceLT, Nat.reduceLeDiff, Nat.reduceAdd, Nat.reduceMul, Int.reduceToNat, push_cast, he56a, he56b, he56c, ↓hg63]
            try simp only [↓hg63] at hK
            try have q0 := zc3 hvr59
            try have q1 := zb1 hvr60
            try have q2 := zbS hvr61
            all_goals exact rU
           | true =>
            replace hb62 := lB hb62 hg63
            obtain ⟨e57, he57, hb62⟩ := fA hb62
            obtain ⟨he57a, he57b, he57c⟩ := dB he57
            obtain ⟨e58, he58, hb62⟩ := fA hb62
            obtain ⟨he58a, he58b, he58c⟩ := dB he58
            obtain ⟨vr59, hvr59, hb62⟩ := fA hb62
            obtain ⟨vr60, hvr60, hb62⟩ := fA hb62
            obtain ⟨vr61, hvr61, hb62⟩ := fA hb62
            have hqb62 := Option.some.inj hb62
            subst hqb62
            simp (maxSteps := 1000000) only [↓reduceIte, reduceCtorEq, Nat.reduceEqDiff, Nat.reduceLT, Nat.reduceLeDiff, Nat.reduceAdd, Nat.reduceMul, Int.reduceToNat, push_cast, he56a, he56b, he56c, ↓hg63, he57a, he57b, he57c, he57, he58a, he58b, he58c, he58, hvr59, hvr60, hvr61]
            try simp only [↓hg63] at hK
            try have q0 := zc3 hvr59
            try have q1 := zb1 hvr60
            try have q2 := zbS hvr61
            all_goals exact rU) ?_
         refine xE ⟨[(1, .ref 0 0 0 0), (8, .int .i64 vr30.1), (9, .str vr30.2.1), (70, .psl 1 (List.map (dA .i64) vs1.At)), (71, .int .i64 (vs1.At.length : Int)), (72, .int .i64 v54), (98, .bool b62)], [(0, ⟨0, true, true, 5, [[.psl 1 (List.map (sA 4 aA.enc) vs1.Runs), .psl 1 (List.map (dA .i64) vs1.At), .psl 2 (List.map cA.enc vs1.Tree.Keys), .psl 1 (List.map (dA .i64) vs1.Tree.Lose), .int .i64 vs1.Tree.Win]]⟩)], 624, []⟩ ?_
         refine xI h1 rfl (fun h1 hb64 => ?_) (fun h1 hb64 => ?_)
         ·
          refine nA 648 [2, 3] (fun _ => none) rfl (fun _ _ => rS (rA he56a (rA he56b he56c))) ?_
          refine jA ?_
          obtain rfl := Option.some.inj h1
          refine oC (oA (oA (zD (oA ?_))))
          obtain rfl := Option.some.inj h0
          refine mA [] ?_
          simp (maxSteps := 1000000) only [↓reduceIte, reduceCtorEq, Nat.reduceEqDiff, Nat.reduceLT, Nat.reduceLeDiff, Nat.reduceAdd, Nat.reduceMul, Int.reduceToNat, push_cast, mC, he56a, he56b, he56c]
          all_goals exact rH
         ·
          refine qA (fC (iA ?_))
          refine eC 640 [1, 8, 9, 70, 71, 72] (fun _ => none) rfl (fun _ _ => rS (rA he56a (rA he56b he56c))) ?_
          refine iA ?_
          exact ⟨⟨(fu, (IntKind.i64.wrap (v54 + 1))), h1⟩, ⟨rF, rE, rfl, rfl, trivial, trivial⟩, Nat.lt_succ_self _⟩
        ·
         refine fD (kB (kB (kD ?_)))
         obtain rfl := Option.some.inj h1
         exact ⟨_, rfl, rL, ⟨rF, rE, rfl, rfl, trivial, trivial⟩⟩
   ·
    refine oD (ι := { p : Nat × Int // tG vs1 p.1 p.2 = some x18 }) (fun p => ⟨[(1, .ref 0 0 0 0), (30, .psl 1 (List.map (dA .i64) vs1.At)), (31, .int .i64 (vs1.At.length : Int)), (32, .int .i64 p.1.2)], [(0, ⟨0, true, true, 5, [[.psl 1 (List.map (sA 4 aA.enc) vs1.Runs), .psl 1 (List.map (dA .i64) vs1.At), .psl 2 (List.map cA.enc vs1.Tree.Keys), .psl 1 (List.map (dA .i64) vs1.Tree.Lose), .int .i64 vs1.Tree.Win]]⟩)], 192, []⟩) (fun p => p.1.1) ⟨(fu, 0), hxx18⟩ ⟨rF, rE, rfl, rfl, trivial, trivial⟩ (fun _ => Nat.le_refl _) ?_
    rintro ⟨⟨fu, v19⟩, h1⟩
    cases fu with
    | zero =>
   replace h1 : tG vs1 0 v19 = some x18 := h1
   rw [tG] at h1; cases h1
    | succ fu =>
     replace h1 : tG vs1 (fu + 1) v19 = some x18 := h1
     rw [tG] at h1
     refine (show pA _ _ _ _ ⟨[(1, .ref 0 0 0 0), (30, .psl 1 (List.map (dA .i64) vs1.At)), (31, .int .i64 (vs1.At.length : Int)), (32, .int .i64 v19)], [(0, ⟨0, true, true, 5, [[.psl 1 (List.map (sA 4 aA.enc) vs1.Runs), .psl 1 (List.map (dA .i64) vs1.At), .psl 2 (List.map cA.enc vs1.Tree.Keys), .psl 1 (List.map (dA .i64) vs1.Tree.Lose), .int .i64 vs1.Tree.Win]]⟩)], 192, []⟩ from ?_)
     refine xS 200 [1, 30, 31, 32, 33] ?_
     refine kA ?_
     refine xI h1 rfl (fun h1 hb20 => ?_) (fun h1 hb20 => ?_)
     ·
      refine qA (iA (kA (nC ?_)))
      obtain ⟨e21, he21, h1⟩ := fA h1
      obtain ⟨he21a, he21b, he21c⟩ := dB he21
      refine nA 240 [1, 6, 7, 30, 31, 32] (fun _ => none) rfl (fun _ _ => rS (rA he21a (rA he21b he21c))) ?_
      obtain ⟨b23, hb23, h1⟩ := fA h1
      refine eD (fr' := [(1, .ref 0 0 0 0), (6, .int .i64 v19), (30, .psl 1 (List.map (dA .i64) vs1.At)), (31, .int .i64 (vs1.At.length : Int)), (32, .int .i64 v19), (48, .bool b23)]) (hp' := [(0, ⟨0, true, true, 5, [[.psl 1 (List.map (sA 4 aA.enc) vs1.Runs), .psl 1 (List.map (dA .i64) vs1.At), .psl 2 (List.map cA.enc vs1.Tree.Keys), .psl 1 (List.map (dA .i64) vs1.Tree.Lose), .int .i64 vs1.Tree.Win]]⟩)]) [0] 336 [1, 6, 30, 31, 32, 48] (fun _ => none) rfl (fun Kt hK => by
        cases hg24 : (decide (e21 < 0)) with
        | false =>
         replace hb23 := vA hb23 hg24
         obtain ⟨e22, he22, hb23⟩ := fA hb23
         obtain ⟨he22a, he22b, he22c⟩ := dB he22
         have hqb23 := Option.some.inj hb23
         subst hqb23
         simp (maxSteps := 1000000) only [↓reduceIte, reduceCtorEq, Nat.reduceEqDiff, Nat.reduceLT, Nat.reduceLeDiff, Nat.reduceAdd, Nat.reduceMul, Int.reduceToNat, push_cast, he21a, he21b, he21c, ↓hg24, he22a, he22b, he22c, he22]
         try simp only [↓hg24] at hK
         all_goals exact rU
        | true =>
         replace hb23 := lB hb23 hg24
         have hqb23 := Option.some.inj hb23
         subst hqb23
         simp (maxSteps := 1000000) only [↓reduceIte, reduceCtorEq, Nat.reduceEqDiff, Nat.reduceLT, Nat.reduceLeDiff, Nat.reduceAdd, Nat.reduceMul, Int.reduceToNat, push_cast, he21a, he21b, he21c, ↓hg24]
         try simp only [↓hg24] at hK
         all_goals exact rU) ?_
      refine xI h1 rfl (fun h1 hb25 => ?_) (fun h1 hb25 => ?_)
      ·
       refine nA 360 [2, 3] (fun _ => none) rfl (fun _ _ => rS (rA he21a (rA he21b he21c))) ?_
       refine jA ?_
       obtain rfl := Option.some.inj h1
       refine oC (oA (oA (zD (oA ?_))))
       obtain rfl := Option.some.inj h0
       refine mA [] ?_
       simp (maxSteps := 1000000) only [↓reduceIte, reduceCtorEq, Nat.reduceEqDiff, Nat.reduceLT, Nat.reduceLeDiff, Nat.reduceAdd, Nat.reduceMul, Int.reduceToNat, push_cast, mC, he21a, he21b, he21c]
       all_goals exact rH
      ·
       refine qA (fC (iA ?_))
       refine eC 352 [1, 30, 31, 32] (fun _ => none) rfl (fun _ _ => rS (rA he21a (rA he21b he21c))) ?_
       refine iA ?_
       exact ⟨⟨(fu, (IntKind.i64.wrap (v19 + 1))), h1⟩, ⟨rF, rE, rfl, rfl, trivial, trivial⟩, Nat.lt_succ_self _⟩
     ·
      refine fD (kB (kB (kD ?_)))
      obtain rfl := Option.some.inj h1
      exact ⟨_, rfl, rL, ⟨rF, rE, rfl, rfl, trivial, trivial⟩⟩
theorem zc0 {fu : Nat} {vr1 : List (List aA)} {vr2 : List Int} {vr3 : List cA} {vr4 : List Int} {vr5 : Int} {r : aA × Int × Int} (h0 : aL fu vr1 vr2 vr3 vr4 vr5 = some r) : jB Try.prog 89 [.pp [.psl 1 (vr1.map (sA 4 aA.enc)), .psl 1 (vr2.map (dA .i64)), .psl 2 (vr3.map cA.enc), .psl 1 (vr4.map (dA .i64)), .int .i64 vr5]] (.tup [.agg (aA.enc r.1), .int .i64 r.2.1, .int .i64 r.2.2]) [] := by
 refine tB Try.func89 rfl (by decide) rL ?_
 dsimp only [Try.f89]
 rw [aL] at h0
 refine (show pA _ _ _ _ ⟨iB 0 _, [], 0, []⟩ from ?_)
 refine xS 24 [0, 2] ?_
 obtain ⟨vr6, hvr6, h0⟩ := fA h0
 refine nA 128 [0, 2, 5, 7] (fun | 5 => some (.tup [.int .i64 vr6.1, .str vr6.2.1, .int .i64 vr6.2.2], []) | _ => none) rfl (fun _ _ => rC (zcV hvr6)) ?_
 refine kA ?_
 refine xS 144 [0, 2, 5, 7, 19] ?_
 refine xI h0 rfl (fun h0 hb7 => ?_) (fun h0 hb7 => ?_)
 ·
  refine xS 184 [2, 3, 4] ?_
  refine jA (oA ?_)
  obtain rfl := Option.some.inj h0
  refine mA [] ?_
  exact rG
 ·
  refine qA (iA ?_)
  obtain ⟨e8, he8, h0⟩ := fA h0
  obtain ⟨he8a, he8b, he8c⟩ := dB he8
  obtain ⟨e9, he9, h0⟩ := fA h0
  obtain ⟨he9a, he9b, he9c⟩ := dB he9
  obtain ⟨e10, he10, h0⟩ := fA h0
  obtain ⟨he10a, he10b, he10c⟩ := dB he10
  refine nD 320 [2, 3, 4] (fun _ => none) rfl rfl rfl (fun _ _ => jF (rA he8a (rA he8b (rA he8c (rA he9a (rA he9b (rA he9c (rA he10a (rA he10b he10c))))))))) ?_
  refine jA ?_
  obtain rfl := Option.some.inj h0
  refine mA [] ?_
  simp (maxSteps := 1000000) only [↓reduceIte, reduceCtorEq, Nat.reduceEqDiff, Nat.reduceLT, Nat.reduceLeDiff, Nat.reduceAdd, Nat.reduceMul, Int.reduceToNat, push_cast, mC, he8a, he8b, he8c, he9a, he9b, he9c, he10a, he10b, he10c]
  all_goals exact rH
theorem zev {fu : Nat} {vs1 : List cA} {r : List cA} (h0 : nQ fu vs1 = some r) : jB Try.prog 106 [.psl 2 (vs1.map cA.enc)] (.sl 0 0 2 0 r.length) [⟨0, true, true, 2, r.map cA.enc⟩] := by
 refine tB Try.func106 rfl (by decide) rL ?_
 dsimp only [Try.f106]
 rw [nQ] at h0
 refine (show pA _ _ _ _ ⟨iB 0 _, [], 0, []⟩ from ?_)
 refine xS 8 [0] ?_
 refine kA ?_
 cases hb2 : vs1.isEmpty with
 | true =>
  replace h0 := lB h0 hb2
  obtain rfl : vs1 = [] := List.isEmpty_iff.1 hb2
  refine xS 24 [0, 4] ?_
  refine xU rfl ?_ ?_
  ·
   skip
   refine xS 32 [2] ?_
   refine dC (s2 := ⟨[(2, .sl 32 0 2 0 0)], [(32, ⟨0, true, true, 2, List.map cA.enc []⟩)], 33, []⟩) [(32, 2)] rL ⟨rF, rE, rfl, rfl, trivial, rN⟩ ?_
   refine jA (oA ?_)
   obtain rfl := Option.some.inj h0
   refine mA [32] ?_
   exact rG
  ·
   skip
   refine qA (iA ?_)
   refine xS 56 [2] ?_
   refine xE ⟨[(2, .sl 24 1 2 0 0)], [(24, ⟨1, true, true, 2, List.map cA.enc []⟩)], 56, []⟩ ?_
   refine jA ?_
   obtain rfl := Option.some.inj h0
   refine mA [24] ?_
   exact rG
 | false =>
  replace h0 := vA h0 hb2
  refine nA 24 [0, 4] (fun _ => none) rfl (fun _ _ => rS hb2) ?_
  refine bG rfl ?_
  refine qA (iA ?_)
  obtain ⟨hc3, h0⟩ := pE h0
  refine nA 56 [2] (fun _ => none) rfl (fun _ _ => rS hb2) ?_
  refine xE ⟨[(2, .sl 24 1 2 0 vs1.length)], [(24, ⟨1, true, true, 2, List.map cA.enc vs1⟩)], 56, []⟩ ?_
  refine jA ?_
  obtain rfl := Option.some.inj h0
  refine mA [24] ?_
  simp (maxSteps := 1000000) only [↓reduceIte, reduceCtorEq, Nat.reduceEqDiff, Nat.reduceLT, Nat.reduceLeDiff, Nat.reduceAdd, Nat.reduceMul, Int.reduceToNat, push_cast, mC, hb2]
  all_goals exact rH
theorem zji {fu : Nat} {keys1 : List cA} {r : cB} (h0 : wT fu keys1 = some r) : jB Try.prog 104 [.psl 2 (keys1.map cA.enc)] (.agg [.sl 0 0 2 0 r.Keys.length, .sl 1 0 1 0 r.Lose.length, .int .i64 r.Win]) [⟨0, true, true, 2, r.Keys.map cA.enc⟩, ⟨0, true, true, 1, r.Lose.map (dA .i64)⟩] := by
 refine tB Try.func104 rfl (by decide) rL ?_
 dsimp only [Try.f104]
 rw [wT] at h0
 refine (show pA _ _ _ _ ⟨iB 0 _, [], 0, []⟩ from ?_)
 refine xS 8 [0, 2] ?_
 refine xS 32 [0, 2, 3] ?_
 obtain ⟨vr2, hvr2, h0⟩ := fA h0
 refine nA 56 [0, 2, 3, 4] (fun | 1 => some (.fn 110 [] [.pp [.psl 2 (vr2.map cA.enc)]], []) | _ => none) rfl (fun _ _ => rC (za0 hvr2)) ?_
 obtain ⟨hc3, h0⟩ := pE h0
 refine xS 88 [0, 2, 3, 4, 5] ?_
 refine xE ⟨[(0, .psl 2 (List.map cA.enc keys1)), (2, .ref 0 0 0 0), (3, .int .i64 (keys1.length : Int)), (4, .fn 110 [] [.pp [.psl 2 (List.map cA.enc vr2)]]), (5, .sl 72 0 1 0 ((List.replicate (IntKind.i64.wrap (2 * (keys1.length : Int))).toNat 0 : List Int).length))], [(0, ⟨0, true, true, 3, [[.nils, .nils, .int .i64 0]]⟩), (72, ⟨0, true, true, 1, List.map (dA .i64) (List.replicate (IntKind.i64.wrap (2 * (keys1.length : Int))).toNat 0 : List Int)⟩)], 88, []⟩ ?_
 obtain ⟨vr4, hvr4, h0⟩ := fA h0
 obtain ⟨hc5, h0⟩ := pE h0
 refine nD 144 [2, 3, 4, 5, 6] (fun | 1 => some (.sl 0 0 2 0 vr4.length, [⟨0, true, true, 2, vr4.map cA.enc⟩]) | _ => none) rfl rfl rfl (fun _ _ => rCd (zev hvr4)) ?_
 refine xE ⟨[(2, .ref 0 0 0 0), (3, .int .i64 (keys1.length : Int)), (4, .fn 110 [] [.pp [.psl 2 (List.map cA.enc vr2)]]), (5, .sl 72 0 1 0 ((List.replicate (IntKind.i64.wrap (2 * (keys1.length : Int))).toNat 0 : List Int).length)), (6, .ref 128 0 0 0)], [(0, ⟨0, true, true, 3, [[.nils, .nils, .int .i64 0]]⟩), (72, ⟨0, true, true, 1, List.map (dA .i64) (List.replicate (IntKind.i64.wrap (2 * (keys1.length : Int))).toNat 0 : List Int)⟩), (96, ⟨0, true, true, 2, List.map cA.enc vr4⟩), (112, ⟨0, true, true, 1, List.map (dA .i64) (List.replicate keys1.length 0 : List Int)⟩), (128, ⟨0, true, false, 3, [[.sl 96 0 2 0 vr4.length, .sl 112 0 1 0 ((List.replicate keys1.length 0 : List Int).length), .int .i64 0]]⟩)], 144, []⟩ ?_
 refine kA ?_
 refine xS 176 [2, 3, 4, 5, 6, 7] ?_
 obtain ⟨x33, hxx33, h0⟩ := fA h0
 refine sD (fun s' => ∃ g50 : Nat, ∃ g51 : Nat, s'.nx ≤ 192 ∧ LeN [] s' ⟨[(2, .ref 0 0 0 0), (5, .sl 72 g50 1 0 x33.1.length), (6, .ref 128 0 0 0)], [(0, ⟨0, true, true, 3, [[.nils, .nils, .int .i64 0]]⟩), (72, ⟨g50, true, true, 1, List.map (dA .i64) x33.1⟩), (96, ⟨0, true, true, 2, List.map cA.enc vr4⟩), (112, ⟨g51, true, true, 1, List.map (dA .i64) x33.2⟩), (128, ⟨0, true, false, 3, [[.sl 96 0 2 0 vr4.length, .sl 112 g51 1 0 x33.2.length, .int .i64 0]]⟩)], 192, []⟩) ?_ ?_
 ·
  intro s' hs
  obtain ⟨g50, g51, hn, hs⟩ := hs
  refine iA ?_
  refine dC [] hn hs ?_
  obtain ⟨e52, he52, h0⟩ := fA h0
  have he52b := (dB he52).2.1
  have he52c := (kG 1 he52 rfl).1
  have he52a := (kG 1 he52 rfl).2
  refine nA 232 [2, 6] (fun _ => none) rfl (fun _ _ => rS (rA he52a (rA he52b he52c))) ?_
  refine nA 248 [2] (fun _ => none) rfl (fun _ _ => rS (rA he52a (rA he52b he52c))) ?_
  refine jA ?_
  obtain rfl := Option.some.inj h0
  refine mA [96, 112] ?_
  simp (maxSteps := 1000000) only [↓reduceIte, reduceCtorEq, Nat.reduceEqDiff, Nat.reduceLT, Nat.reduceLeDiff, Nat.reduceAdd, Nat.reduceMul, Int.reduceToNat, push_cast, mC, he52a, he52b, he52c]
  all_goals exact rH
 ·
  refine oD (ι := { p : Nat × Int × List Int × List Int × Nat × Nat // dJ keys1 vr2 p.1 p.2.1 p.2.2.1 p.2.2.2.1 = some x33 }) (fun p => ⟨[(2, .ref 0 0 0 0), (3, .int .i64 (keys1.length : Int)), (4, .fn 110 [] [.pp [.psl 2 (List.map cA.enc vr2)]]), (5, .sl 72 p.1.2.2.2.2.1 1 0 p.1.2.2.1.length), (6, .ref 128 0 0 0), (7, .int .i64 p.1.2.1)], [(0, ⟨0, true, true, 3, [[.nils, .nils, .int .i64 0]]⟩), (72, ⟨p.1.2.2.2.2.1, true, true, 1, List.map (dA .i64) p.1.2.2.1⟩), (96, ⟨0, true, true, 2, List.map cA.enc vr4⟩), (112, ⟨p.1.2.2.2.2.2, true, true, 1, List.map (dA .i64) p.1.2.2.2.1⟩), (128, ⟨0, true, false, 3, [[.sl 96 0 2 0 vr4.length, .sl 112 p.1.2.2.2.2.2 1 0 p.1.2.2.2.1.length, .int .i64 0]]⟩)], 176, []⟩) (fun p => p.1.1) ⟨(fu, (IntKind.i64.wrap ((IntKind.i64.wrap (2 * (keys1.length : Int))) - 1)), (List.replicate (IntKind.i64.wrap (2 * (keys1.length : Int))).toNat 0 : List Int), (List.replicate keys1.length 0 : List Int), 0, 0), hxx33⟩ ⟨rF, rE, rfl, rfl, trivial, trivial⟩ (fun _ => Nat.le_refl _) ?_
  rintro ⟨⟨fu, i34, players35, v36, g37, g38⟩, h1⟩
  cases fu with
  | zero =>
   replace h1 : dJ keys1 vr2 0 i34 players35 v36 = some x33 := h1
   rw [dJ] at h1; cases h1
  | succ fu =>
   replace h1 : dJ keys1 vr2 (fu + 1) i34 players35 v36 = some x33 := h1
   rw [dJ] at h1
   refine (show pA _ _ _ _ ⟨[(2, .ref 0 0 0 0), (3, .int .i64 (keys1.length : Int)), (4, .fn 110 [] [.pp [.psl 2 (List.map cA.enc vr2)]]), (5, .sl 72 g37 1 0 players35.length), (6, .ref 128 0 0 0), (7, .int .i64 i34)], [(0, ⟨0, true, true, 3, [[.nils, .nils, .int .i64 0]]⟩), (72, ⟨g37, true, true, 1, List.map (dA .i64) players35⟩), (96, ⟨0, true, true, 2, List.map cA.enc vr4⟩), (112, ⟨g38, true, true, 1, List.map (dA .i64) v36⟩), (128, ⟨0, true, false, 3, [[.sl 96 0 2 0 vr4.length, .sl 112 g38 1 0 v36.length, .int .i64 0]]⟩)], 176, []⟩ from ?_)
   refine kA ?_
   refine xS 192 [2, 3, 4, 5, 6, 7, 26] ?_
   refine xI h1 rfl (fun h1 hb39 => ?_) (fun h1 hb39 => ?_)
   ·
    refine qA (iA (kA (nC (kA ?_))))
    refine xS 216 [2, 3, 4, 5, 6, 7, 31] ?_
    refine xI h1 rfl (fun h1 hb40 => ?_) (fun h1 hb40 => ?_)
    ·
     obtain ⟨e41, he41, h1⟩ := fA h1
     obtain ⟨he41a, he41b, he41c⟩ := dB he41
     refine nA 272 [2, 3, 4, 5, 6, 7] (fun _ => none) rfl (fun _ _ => rS (rA he41a (rA he41b he41c))) ?_
     refine xE ⟨[(2, .ref 0 0 0 0), (3, .int .i64 (keys1.length : Int)), (4, .fn 110 [] [.pp [.psl 2 (List.map cA.enc vr2)]]), (5, .sl 72 g37 1 0 ((players35.set i34.toNat (IntKind.i64.wrap (i34 - (keys1.length : Int)))).length)), (6, .ref 128 0 0 0), (7, .int .i64 i34)], [(0, ⟨0, true, true, 3, [[.nils, .nils, .int .i64 0]]⟩), (72, ⟨g37, true, true, 1, List.map (dA .i64) (players35.set i34.toNat (IntKind.i64.wrap (i34 - (keys1.length : Int))))⟩), (96, ⟨0, true, true, 2, List.map cA.enc vr4⟩), (112, ⟨g38, true, true, 1, List.map (dA .i64) v36⟩), (128, ⟨0, true, false, 3, [[.sl 96 0 2 0 vr4.length, .sl 112 g38 1 0 v36.length, .int .i64 0]]⟩)], 272, []⟩ ?_
     refine fD (kB (zdV (iA ?_)))
     refine eC 296 [2, 3, 4, 5, 6, 7] (fun _ => none) rfl (fun _ _ => rS (rA he41a (rA he41b he41c))) ?_
     refine iA ?_
     exact ⟨⟨(fu, (IntKind.i64.wrap (i34 - 1)), (players35.set i34.toNat (IntKind.i64.wrap (i34 - (keys1.length : Int)))), v36, g37, g38), h1⟩, ⟨rF, rE, rfl, rfl, trivial, trivial⟩, Nat.lt_succ_self _⟩
    ·
     refine qA (iA ?_)
     obtain ⟨e42, he42, h1⟩ := fA h1
     obtain ⟨he42a, he42b, he42c⟩ := dB he42
     obtain ⟨e43, he43, h1⟩ := fA h1
     obtain ⟨he43a, he43b, he43c⟩ := dB he43
     refine nD 320 [2, 3, 4, 5, 6, 7, 8, 9] (fun _ => none) rfl rfl rfl (fun _ _ => jF (rA he42a (rA he42b (rA he42c (rA he43a (rA he43b he43c)))))) ?_
     refine kA ?_
     obtain ⟨vr44, hvr44, h1⟩ := fA h1
     refine nA 360 [2, 3, 4, 5, 6, 7, 8, 9, 53] (fun | 3 => some (.bool vr44, []) | _ => none) rfl (fun _ _ => rB (rA he42a (rA he42b (rA he42c (rA he43a (rA he43b he43c))))) (lZ hvr44)) ?_
     refine xI h1 rfl (fun h1 hb45 => ?_) (fun h1 hb45 => ?_)
     ·
      refine eC 392 [2, 3, 4, 5, 6, 7, 8, 9] (fun _ => none) rfl (fun _ _ => rS (rA he42a (rA he42b (rA he42c (rA he43a (rA he43b he43c)))))) ?_
      refine iA ?_
      obtain ⟨e46, he46, h1⟩ := fA h1
      obtain ⟨he46a, he46b, he46c⟩ := dB he46
      obtain ⟨e47, he47, h1⟩ := fA h1
      obtain ⟨he47a, he47b, he47c⟩ := dB he47
      refine zI 480 [2, 3, 4, 5, 6, 7] (fun _ => none) rfl rfl rfl (fun _ _ => jF (rA he42a (rA he42b (rA he42c (rA he43a (rA he43b (rA he43c (rA he46a (rA he46b (rA he46c (rA he47a (rA he47b he47c)))))))))))) ?_
      refine fC (iA ?_)
      refine xE ⟨[(2, .ref 0 0 0 0), (3, .int .i64 (keys1.length : Int)), (4, .fn 110 [] [.pp [.psl 2 (List.map cA.enc vr2)]]), (5, .sl 72 g37 1 0 ((players35.set i34.toNat e43).length)), (6, .ref 128 0 0 0), (7, .int .i64 i34)], [(0, ⟨0, true, true, 3, [[.nils, .nils, .int .i64 0]]⟩), (72, ⟨g37, true, true, 1, List.map (dA .i64) (players35.set i34.toNat e43)⟩), (96, ⟨0, true, true, 2, List.map cA.enc vr4⟩), (112, ⟨g38, true, true, 1, List.map (dA .i64) (v36.set i34.toNat e42)⟩), (128, ⟨0, true, false, 3, [[.sl 96 0 2 0 vr4.length, .sl 112 g38 1 0 ((v36.set i34.toNat e42).length), .int .i64 0]]⟩)], 480, []⟩ ?_
      refine eC 504 [2, 3, 4, 5, 6, 7] (fun _ => none) rfl (fun _ _ => rS (rA he42a (rA he42b (rA he42c (rA he43a (rA he43b (rA he43c (rA he46a (rA he46b (rA he46c (rA he47a (rA he47b he47c)))))))))))) ?_
      refine iA ?_
      exact ⟨⟨(fu, (IntKind.i64.wrap (i34 - 1)), (players35.set i34.toNat e43), (v36.set i34.toNat e42), g37, g38), h1⟩, ⟨rF, rE, rfl, rfl, trivial, trivial⟩, Nat.lt_succ_self _⟩
     ·
      refine qA (iA ?_)
      obtain ⟨e48, he48, h1⟩ := fA h1
      obtain ⟨he48a, he48b, he48c⟩ := dB he48
      obtain ⟨e49, he49, h1⟩ := fA h1
      obtain ⟨he49a, he49b, he49c⟩ := dB he49
      refine zI 448 [2, 3, 4, 5, 6, 7] (fun _ => none) rfl rfl rfl (fun _ _ => jF (rA he42a (rA he42b (rA he42c (rA he43a (rA he43b (rA he43c (rA he48a (rA he48b (rA he48c (rA he49a (rA he49b he49c)))))))))))) ?_
      refine fC (iA ?_)
      refine xE ⟨[(2, .ref 0 0 0 0), (3, .int .i64 (keys1.length : Int)), (4, .fn 110 [] [.pp [.psl 2 (List.map cA.enc vr2)]]), (5, .sl 72 g37 1 0 ((players35.set i34.toNat e42).length)), (6, .ref 128 0 0 0), (7, .int .i64 i34)], [(0, ⟨0, true, true, 3, [[.nils, .nils, .int .i64 0]]⟩), (72, ⟨g37, true, true, 1, List.map (dA .i64) (players35.set i34.toNat e42)⟩), (96, ⟨0, true, true, 2, List.map cA.enc vr4⟩), (112, ⟨g38, true, true, 1, List.map (dA .i64) (v36.set i34.toNat e43)⟩), (128, ⟨0, true, false, 3, [[.sl 96 0 2 0 vr4.length, .sl 112 g38 1 0 ((v36.set i34.toNat e43).length), .int .i64 0]]⟩)], 448, []⟩ ?_
      refine eC 472 [2, 3, 4, 5, 6, 7] (fun _ => none) rfl (fun _ _ => rS (rA he42a (rA he42b (rA he42c (rA he43a (rA he43b (rA he43c (rA he48a (rA he48b (rA he48c (rA he49a (rA he49b he49c)))))))))))) ?_
      refine iA ?_
      exact ⟨⟨(fu, (IntKind.i64.wrap (i34 - 1)), (players35.set i34.toNat e42), (v36.set i34.toNat e43), g37, g38), h1⟩, ⟨rF, rE, rfl, rfl, trivial, trivial⟩, Nat.lt_succ_self _⟩
   ·
    refine fD (kB (kB (kD ?_)))
    obtain rfl := Option.some.inj h1
    exact ⟨g37, g38, rL, ⟨rF, rE, rfl, rfl, trivial, trivial⟩⟩
theorem zkp {fu : Nat} {keys1 : List cA} {r : cB × Int} (h0 : cS fu keys1 = some r) : jB Try.prog 94 [.psl 2 (keys1.map cA.enc)] (.tup [.agg [.sl 0 0 2 0 r.1.Keys.length, .sl 1 0 1 0 r.1.Lose.length, .int .i64 r.1.Win], .int .i64 r.2]) [⟨0, true, true, 2, r.1.Keys.map cA.enc⟩, ⟨0, true, true, 1, r.1.Lose.map (dA .i64)⟩] := by
 refine tB Try.func94 rfl (by decide) rL ?_
 dsimp only [Try.f94]
 rw [cS] at h0
 refine (show pA _ _ _ _ ⟨iB 0 _, [], 0, []⟩ from ?_)
 refine xS 16 [0, 2] ?_
 refine kA ?_
 obtain ⟨vr2, hvr2, h0⟩ := fA h0
 refine nA 40 [0, 2, 4] (fun | 1 => some (.int .i64 vr2, []) | _ => none) rfl (fun _ _ => rC (sW hvr2)) ?_
 refine xS 56 [0, 2, 4, 8] ?_
 refine xI h0 rfl (fun h0 hb3 => ?_) (fun h0 hb3 => ?_)
 ·
  refine xS 88 [2, 3] ?_
  refine dC (s2 := ⟨[(2, .ref 0 0 0 0), (3, .int .i64 vr2)], [(0, ⟨0, true, false, 3, [[.sl 88 0 2 0 0, .sl 89 0 1 0 0, .int .i64 0]]⟩), (88, ⟨0, true, true, 2, List.map cA.enc []⟩), (89, ⟨0, true, true, 1, List.map (dA .i64) []⟩)], 90, []⟩) [(88, 2), (89, 1)] rL ⟨rF, rE, rfl, rfl, trivial, rN⟩ ?_
  refine jA (oA ?_)
  obtain rfl := Option.some.inj h0
  refine mA [88, 89] ?_
  exact rG
 ·
  refine qA (iA ?_)
  obtain ⟨vr4, hvr4, h0⟩ := fA h0
  refine nA 88 [2, 3] (fun | 1 => some (.agg [.sl 0 0 2 0 vr4.Keys.length, .sl 1 0 1 0 vr4.Lose.length, .int .i64 vr4.Win], [⟨0, true, true, 2, vr4.Keys.map cA.enc⟩, ⟨0, true, true, 1, vr4.Lose.map (dA .i64)⟩]) | _ => none) rfl (fun _ _ => rC (zji hvr4)) ?_
  refine jA ?_
  obtain rfl := Option.some.inj h0
  refine mA [64, 65] ?_
  exact rG
theorem zeP {fu : Nat} {runs1 : List (List aA)} {vat2 : List Int} {r : cB} (h0 : nT fu runs1 vat2 = some r) : jB Try.prog 77 [.psl 1 (runs1.map (sA 4 aA.enc)), .psl 1 (vat2.map (dA .i64))] (.agg [.sl 0 0 2 0 r.Keys.length, .sl 1 0 1 0 r.Lose.length, .int .i64 r.Win]) [⟨0, true, true, 2, r.Keys.map cA.enc⟩, ⟨0, true, true, 1, r.Lose.map (dA .i64)⟩] := by
 refine tB Try.func77 rfl (by decide) rL ?_
 dsimp only [Try.f77]
 rw [nT] at h0
 refine (show pA _ _ _ _ ⟨iB 0 _, [], 0, []⟩ from ?_)
 refine xS 8 [0, 1, 4] ?_
 obtain ⟨hc3, h0⟩ := pE h0
 refine xS 40 [0, 1, 4, 5] ?_
 refine xE ⟨[(0, .psl 1 (List.map (sA 4 aA.enc) runs1)), (1, .psl 1 (List.map (dA .i64) vat2)), (4, .ref 0 0 0 0), (5, .sl 24 0 2 0 ((List.replicate runs1.length (cA.mk [] false) : List cA).length))], [(0, ⟨0, true, true, 3, [[.nils, .nils, .int .i64 0]]⟩), (24, ⟨0, true, true, 2, List.map cA.enc (List.replicate runs1.length (cA.mk [] false) : List cA)⟩)], 40, []⟩ ?_
 refine kA ?_
 refine xS 64 [1, 4, 5, 13, 14, 15] ?_
 obtain ⟨x17, hxx17, h0⟩ := fA h0
 refine sD (fun s' => ∃ g26 : Nat, s'.nx ≤ 72 ∧ LeN [] s' ⟨[(4, .ref 0 0 0 0), (5, .sl 24 g26 2 0 x17.length)], [(0, ⟨0, true, true, 3, [[.nils, .nils, .int .i64 0]]⟩), (24, ⟨g26, true, true, 2, List.map cA.enc x17⟩)], 72, []⟩) ?_ ?_
 ·
  intro s' hs
  obtain ⟨g26, hn, hs⟩ := hs
  refine iA ?_
  refine dC [] hn hs ?_
  obtain ⟨vr27, hvr27, h0⟩ := fA h0
  refine nA 136 [4, 8] (fun | 1 => some (.tup [.agg [.sl 0 0 2 0 vr27.1.Keys.length, .sl 1 0 1 0 vr27.1.Lose.length, .int .i64 vr27.1.Win], .int .i64 vr27.2], [⟨0, true, true, 2, vr27.1.Keys.map cA.enc⟩, ⟨0, true, true, 1, vr27.1.Lose.map (dA .i64)⟩]) | _ => none) rfl (fun _ _ => rC (zkp hvr27)) ?_
  refine xS 152 [4] ?_
  refine jA ?_
  obtain rfl := Option.some.inj h0
  refine mA [80, 81] ?_
  exact rG
 ·
  refine oD (ι := { p : Nat × Int × List cA × Nat // kK runs1 vat2 p.1 p.2.1 p.2.2.1 = some x17 }) (fun p => ⟨[(1, .psl 1 (List.map (dA .i64) vat2)), (4, .ref 0 0 0 0), (5, .sl 24 p.1.2.2.2 2 0 p.1.2.2.1.length), (13, .psl 1 (List.map (sA 4 aA.enc) runs1)), (14, .int .i64 (runs1.length : Int)), (15, .int .i64 p.1.2.1)], [(0, ⟨0, true, true, 3, [[.nils, .nils, .int .i64 0]]⟩), (24, ⟨p.1.2.2.2, true, true, 2, List.map cA.enc p.1.2.2.1⟩)], 64, []⟩) (fun p => p.1.1) ⟨(fu, 0, (List.replicate runs1.length (cA.mk [] false) : List cA), 0), hxx17⟩ ⟨rF, rE, rfl, rfl, trivial, trivial⟩ (fun _ => Nat.le_refl _) ?_
  rintro ⟨⟨fu, v18, keys19, g20⟩, h1⟩
  cases fu with
  | zero =>
   replace h1 : kK runs1 vat2 0 v18 keys19 = some x17 := h1
   rw [kK] at h1; cases h1
  | succ fu =>
   replace h1 : kK runs1 vat2 (fu + 1) v18 keys19 = some x17 := h1
   rw [kK] at h1
   refine (show pA _ _ _ _ ⟨[(1, .psl 1 (List.map (dA .i64) vat2)), (4, .ref 0 0 0 0), (5, .sl 24 g20 2 0 keys19.length), (13, .psl 1 (List.map (sA 4 aA.enc) runs1)), (14, .int .i64 (runs1.length : Int)), (15, .int .i64 v18)], [(0, ⟨0, true, true, 3, [[.nils, .nils, .int .i64 0]]⟩), (24, ⟨g20, true, true, 2, List.map cA.enc keys19⟩)], 64, []⟩ from ?_)
   refine xS 72 [1, 4, 5, 13, 14, 15, 16] ?_
   refine kA ?_
   refine xI h1 rfl (fun h1 hb21 => ?_) (fun h1 hb21 => ?_)
   ·
    refine qA (iA (kA (nC ?_)))
    obtain ⟨e22, he22, h1⟩ := fA h1
    obtain ⟨he22a, he22b, he22c⟩ := dB he22
    refine nA 112 [1, 4, 5, 6, 7, 13, 14, 15] (fun _ => none) rfl (fun _ _ => rS (rA he22a (rA he22b he22c))) ?_
    obtain ⟨e23, he23, h1⟩ := fA h1
    obtain ⟨he23a, he23b, he23c⟩ := dB he23
    obtain ⟨vr24, hvr24, h1⟩ := fA h1
    obtain ⟨e25, he25, h1⟩ := fA h1
    obtain ⟨he25a, he25b, he25c⟩ := dB he25
    refine eC 192 [1, 4, 5, 13, 14, 15] (fun | 7 => some (.agg (cA.enc vr24), []) | _ => none) rfl (fun _ _ => rB (rA he22a (rA he22b (rA he22c (rA he23a (rA he23b (rA he23c (rA he25a (rA he25b he25c)))))))) (yX hvr24)) ?_
    refine fC (iA ?_)
    refine xE ⟨[(1, .psl 1 (List.map (dA .i64) vat2)), (4, .ref 0 0 0 0), (5, .sl 24 g20 2 0 ((keys19.set v18.toNat vr24).length)), (13, .psl 1 (List.map (sA 4 aA.enc) runs1)), (14, .int .i64 (runs1.length : Int)), (15, .int .i64 v18)], [(0, ⟨0, true, true, 3, [[.nils, .nils, .int .i64 0]]⟩), (24, ⟨g20, true, true, 2, List.map cA.enc (keys19.set v18.toNat vr24)⟩)], 192, []⟩ ?_
    refine eC 208 [1, 4, 5, 13, 14, 15] (fun _ => none) rfl (fun _ _ => rS (rA he22a (rA he22b (rA he22c (rA he23a (rA he23b (rA he23c (rA he25a (rA he25b he25c))))))))) ?_
    refine iA ?_
    exact ⟨⟨(fu, (IntKind.i64.wrap (v18 + 1)), (keys19.set v18.toNat vr24), g20), h1⟩, ⟨rF, rE, rfl, rfl, trivial, trivial⟩, Nat.lt_succ_self _⟩
   ·
    refine fD (kB (kB (kD ?_)))
    obtain rfl := Option.some.inj h1
    exact ⟨g20, rL, ⟨rF, rE, rfl, rfl, trivial, trivial⟩⟩
theorem zm9 {fu : Nat} {runs1 : List (List aA)} {r : gB × Int × Int} (h0 : nR fu runs1 = some r) : jB Try.prog 57 [.psl 1 (runs1.map (sA 4 aA.enc))] (.tup [.agg [.psl 1 (List.map (sA 4 aA.enc) r.1.Runs), .sl 0 0 1 0 r.1.At.length, .psl 2 (List.map cA.enc r.1.Tree.Keys), .psl 1 (List.map (dA .i64) r.1.Tree.Lose), .int .i64 r.1.Tree.Win], .int .i64 r.2.1, .int .i64 r.2.2]) [⟨0, true, true, 1, r.1.At.map (dA .i64)⟩] := by
 refine tB Try.func57 rfl (by decide) rL ?_
 dsimp only [Try.f57]
 rw [nR] at h0
 refine (show pA _ _ _ _ ⟨iB 0 _, [], 0, []⟩ from ?_)
 refine xS 24 [0, 2] ?_
 refine kA ?_
 obtain ⟨vr2, hvr2, h0⟩ := fA h0
 refine nA 80 [0, 2, 5, 6] (fun | 1 => some (.tup [.int .i64 vr2.1, .int .i64 vr2.2], []) | _ => none) rfl (fun _ _ => rC (zaI hvr2)) ?_
 refine xS 96 [0, 2, 5, 6, 14] ?_
 refine xI h0 rfl (fun h0 hb3 => ?_) (fun h0 hb3 => ?_)
 ·
  refine xS 144 [2, 3, 4] ?_
  refine dC (s2 := ⟨[(2, .ref 0 0 0 0), (3, .int .i64 vr2.1), (4, .int .i64 vr2.2)], [(0, ⟨0, true, false, 5, [[.nils, .sl 144 0 1 0 0, .nils, .nils, .int .i64 0]]⟩), (144, ⟨0, true, true, 1, List.map (dA .i64) []⟩)], 145, []⟩) [(144, 1)] rL ⟨rF, rE, rfl, rfl, trivial, rN⟩ ?_
  refine jA (oA ?_)
  obtain rfl := Option.some.inj h0
  refine mA [144] ?_
  exact rG
 ·
  refine qA (iA ?_)
  obtain ⟨hc4, h0⟩ := pE h0
  refine xS 128 [0, 2, 7] ?_
  refine xE ⟨[(0, .psl 1 (List.map (sA 4 aA.enc) runs1)), (2, .ref 0 0 0 0), (7, .sl 112 0 1 0 ((List.replicate runs1.length 0 : List Int).length))], [(0, ⟨0, true, true, 5, [[.nils, .nils, .nils, .nils, .int .i64 0]]⟩), (112, ⟨0, true, true, 1, List.map (dA .i64) (List.replicate runs1.length 0 : List Int)⟩)], 128, []⟩ ?_
  obtain ⟨vr5, hvr5, h0⟩ := fA h0
  obtain ⟨vr6, hvr6, h0⟩ := fA h0
  refine nA 208 [2, 3, 4] (fun | 1 => some (.psl 1 (vr5.map (sA 4 aA.enc)), []) | 5 => some (.agg [.sl 0 0 2 0 vr6.Keys.length, .sl 1 0 1 0 vr6.Lose.length, .int .i64 vr6.Win], [⟨0, true, true, 2, vr6.Keys.map cA.enc⟩, ⟨0, true, true, 1, vr6.Lose.map (dA .i64)⟩]) | _ => none) rfl (fun Kt hK => by
    try have q0 := zbi hvr5
    try have q1 := zeP hvr6
    exact rT) ?_
  refine jA ?_
  obtain rfl := Option.some.inj h0
  refine mA [112] ?_
  exact rG
theorem zde {fu : Nat} {vs1 : List Int} {r : List Int} (h0 : lN fu vs1 = some r) : jB Try.prog 99 [.psl 1 (vs1.map (dA .i64))] (.sl 0 0 1 0 r.length) [⟨0, true, true, 1, r.map (dA .i64)⟩] := by
 refine tB Try.func99 rfl (by decide) rL ?_
 dsimp only [Try.f99]
 rw [lN] at h0
 refine (show pA _ _ _ _ ⟨iB 0 _, [], 0, []⟩ from ?_)
 refine xS 8 [0] ?_
 refine kA ?_
 cases hb2 : vs1.isEmpty with
 | true =>
  replace h0 := lB h0 hb2
  obtain rfl : vs1 = [] := List.isEmpty_iff.1 hb2
  refine xS 24 [0, 4] ?_
  refine xU rfl ?_ ?_
  ·
   skip
   refine xS 32 [2] ?_
   refine dC (s2 := ⟨[(2, .sl 32 0 1 0 0)], [(32, ⟨0, true, true, 1, List.map (dA .i64) []⟩)], 33, []⟩) [(32, 1)] rL ⟨rF, rE, rfl, rfl, trivial, rN⟩ ?_
   refine jA (oA ?_)
   obtain rfl := Option.some.inj h0
   refine mA [32] ?_
   exact rG
  ·
   skip
   refine qA (iA ?_)
   refine xS 56 [2] ?_
   refine xE ⟨[(2, .sl 24 1 1 0 0)], [(24, ⟨1, true, true, 1, List.map (dA .i64) []⟩)], 56, []⟩ ?_
   refine jA ?_
   obtain rfl := Option.some.inj h0
   refine mA [24] ?_
   exact rG
 | false =>
  replace h0 := vA h0 hb2
  refine nA 24 [0, 4] (fun _ => none) rfl (fun _ _ => rS hb2) ?_
  refine bG rfl ?_
  refine qA (iA ?_)
  obtain ⟨hc3, h0⟩ := pE h0
  refine nA 56 [2] (fun _ => none) rfl (fun _ _ => rS hb2) ?_
  refine xE ⟨[(2, .sl 24 1 1 0 vs1.length)], [(24, ⟨1, true, true, 1, List.map (dA .i64) vs1⟩)], 56, []⟩ ?_
  refine jA ?_
  obtain rfl := Option.some.inj h0
  refine mA [24] ?_
  simp (maxSteps := 1000000) only [↓reduceIte, reduceCtorEq, Nat.reduceEqDiff, Nat.reduceLT, Nat.reduceLeDiff, Nat.reduceAdd, Nat.reduceMul, Int.reduceToNat, push_cast, mC, hb2]
  all_goals exact rH
end Go.T
end
