/- Read changes nothing but its job, what was left is what Read uses and what is left then, and reading twice is reading the sum, of states that are not long and numbers up to 255; no other condition. -/
import Derived.Test.YtnlggkiekcpahaaCGt
import Derived.Test.YtnlggkiekcpahaaC1
set_option linter.unusedSimpArgs false
set_option linter.unusedVariables false
section
namespace Go.T
open Go Go.AM
structure oQ (l : dB) (i : Nat) (j : xA) : Prop where
  low : j.Work.Shadow.Bottom = true → jP l i = true
  at' : ∃ n, n ≤ mC (nC l i) ∧ j = aL l i j.Work.Shadow.Bottom n
structure zas (s : bB) : Prop where
  lev : tS s.Levels
  next : 1 ≤ s.NextId ∧ s.NextId ≤ 1000001 ∧ kG 0 (rM s.Levels.Levels) < s.NextId
  len : s.Jobs.length = (qC s.Levels).length
  job : ∀ k (h : k < s.Jobs.length) (h2 : k < (qC s.Levels).length), oQ s.Levels (qC s.Levels)[k] s.Jobs[k]
theorem zjr (s : bB) (hs : qH s.Levels) (hj : s.Jobs.length ≤ 1000) (hg : tS s.Levels) (hc : Ev (fun fu => vK fu s.Levels) (0, 0, 0)) :
    ∃ r, (Ev (fun fu => eF s (qB (qC s.Levels)) fu 0) r ∧ Ev (fun fu => yJ s (qB (qC s.Levels)) fu 0) r) ∧
      ((r = .inl () ∧ ∀ k, k < s.Jobs.length → ∀ h : k < s.Jobs.length, ∃ h2 : k < (qC s.Levels).length, oQ s.Levels (qC s.Levels)[k] s.Jobs[k]) ∨
       ∃ k v, k < s.Jobs.length ∧ (v.2 ≠ 0 ∧ ∀ h : k < s.Jobs.length, ¬ ∃ h2 : k < (qC s.Levels).length, oQ s.Levels (qC s.Levels)[k] s.Jobs[k]) ∧ r = .inr v) := by
  have h14 := hs.1
  obtain ⟨r, r1, r2⟩ := nK (β := Int × Int) (fun n r => Ev (fun fu => eF s (qB (qC s.Levels)) fu (n : Int)) r ∧ Ev (fun fu => yJ s (qB (qC s.Levels)) fu (n : Int)) r) s.Jobs.length
    (fun k => ∀ h : k < s.Jobs.length, ∃ h2 : k < (qC s.Levels).length, oQ s.Levels (qC s.Levels)[k] s.Jobs[k])
    (fun k v => v.2 ≠ 0 ∧ ∀ h : k < s.Jobs.length, ¬ ∃ h2 : k < (qC s.Levels).length, oQ s.Levels (qC s.Levels)[k] s.Jobs[k])
    ⟨Ev.succ (Ev.of (fun fu => by simp [eF]) (Ev.ret _)), Ev.succ (Ev.of (fun fu => by simp [yJ]) (Ev.ret _))⟩
    (fun k hk => by
      have d1 : decide ((k : Int) < (s.Jobs.length : Int)) = true := decide_eq_true (by omega)
      have ixj := yA s.Jobs k hk
      generalize hjk : s.Jobs[k] = j at ixj
      have bad : ∀ v : Int × Int, v.2 ≠ 0 → (¬ ∃ h2 : k < (qC s.Levels).length, oQ s.Levels (qC s.Levels)[k] j) → (v.2 ≠ 0 ∧ ∀ h : k < s.Jobs.length, ¬ ∃ h2 : k < (qC s.Levels).length, oQ s.Levels (qC s.Levels)[k] s.Jobs[k]) := fun v hv h => ⟨hv, fun _ => by rw [hjk]; exact h⟩
      by_cases hkd : k < (qC s.Levels).length
      · have d2 : decide (((qB (qC s.Levels)).length : Int) ≤ (k : Int)) = false := decide_eq_false (by rw [yF]; omega)
        have ixd := fF (qC s.Levels) k hkd
        obtain ⟨hi, h2⟩ := zdX s.Levels k hkd
        generalize hik : (qC s.Levels)[k] = i at ixd hi h2
        by_cases hl : j.Level = (i : Int)
        · have d3 : (!decide (j.Level = (i : Int))) = false := by rw [decide_eq_true hl]; rfl
          obtain ⟨hgr, hsn⟩ := zaS s.Levels hs hg i hi h2
          have lw := zd5
          have rlw := zge s.Levels hs hc hg i hi
          have c1 : ∃ b, b = (j.Work.Shadow.Bottom && !jP s.Levels i) := ⟨_, rfl⟩
          obtain ⟨cb, hcb⟩ := c1
          have e1 : ∀ fu, (if j.Work.Shadow.Bottom = true then (jL fu s.Levels (i : Int)).bind fun vr56 => some (!vr56) else some false) = some cb := fun fu => by
            rw [zd5 fu s.Levels h14 i, hcb]; cases j.Work.Shadow.Bottom <;> rfl
          have e2 : Ev (fun fu => if j.Work.Shadow.Bottom = true then (hY fu s.Levels (i : Int)).bind fun vr59 => some (!vr59) else some false) cb := by
            rw [hcb]
            cases j.Work.Shadow.Bottom with
            | true => exact Ev.bind rlw (Ev.ret _)
            | false => exact Ev.ret _
          cases cb with
          | true =>
            refine .inl ⟨((k : Int), 6), bad _ (show (6 : Int) ≠ 0 by decide) (fun ⟨_, ok⟩ => ?_), Ev.succ ?_, Ev.succ ?_⟩
            · have q := hcb.symm
              simp only [Bool.and_eq_true, Bool.not_eq_true'] at q
              have := ok.low q.1
              rw [hik, q.2] at this; cases this
            · simp only [eF, d1, ↓reduceIte, ixj, Option.bind_some, d2, Bool.false_eq_true, ixd, d3]
              simp only [hl, e1, Option.bind_some, ↓reduceIte]
              exact Ev.ret _
            · simp only [yJ, d1, ↓reduceIte, ixj, Option.bind_some, d2, Bool.false_eq_true, ixd, d3]
              simp only [hl]
              refine Ev.bind e2 ?_
              exact Ev.ret _
          | false =>
            obtain ⟨b1, b2⟩ := zfj s.Levels hs hg i j.Work.Shadow.Bottom hi h2
            obtain ⟨l1, l2⟩ := zW (nC s.Levels i) j.Work.Shadow.Bottom 0 hsn hgr (by omega)
            have h120 := hsn.few hgr
            by_cases hst : 0 ≤ j.Work.Steps ∧ j.Work.Steps ≤ ((mC (nC s.Levels i) : Nat) : Int)
            · obtain ⟨n, hn⟩ : ∃ n : Nat, j.Work.Steps = (n : Int) := ⟨j.Work.Steps.toNat, by omega⟩
              have hnt : n ≤ mC (nC s.Levels i) := by omega
              have hu : used (nC s.Levels i) 0 n = n := Nat.min_eq_left (by omega)
              obtain ⟨t1, t2⟩ := zb7 (nC s.Levels i) j.Work.Shadow.Bottom 0 n hsn hgr (by omega)
              rw [hu, Nat.zero_add] at t1 t2
              have f1 : decide ((n : Int) < 0) = false := decide_eq_false (by omega)
              have f2 : decide (((mC (nC s.Levels i) - 0 : Nat) : Int) < (n : Int)) = false := decide_eq_false (by omega)
              obtain ⟨x, x1, x2⟩ := zjQ (uC (nC s.Levels i) j.Work.Shadow.Bottom n) j.Work (hZ _ _ _ hsn hgr hnt)
              obtain ⟨y, y1, y2⟩ := zeU (uC (nC s.Levels i) j.Work.Shadow.Bottom n) j.Work (hZ _ _ _ hsn hgr hnt)
              obtain rfl : x = y := Bool.eq_iff_iff.2 (x2.trans y2.symm)
              have p1 : ∀ r, Ev (fun fu => if (!x) = true then some (.inr ((k : Int), 6)) else eF s (qB (qC s.Levels)) fu ((k + 1 : Nat) : Int)) r → Ev (fun fu => eF s (qB (qC s.Levels)) fu (k : Int)) r := fun r hr => by
                refine Ev.succ ?_
                simp only [eF, d1, ↓reduceIte, ixj, Option.bind_some, d2, Bool.false_eq_true, ixd, d3]
                simp only [hl, e1, Option.bind_some, Bool.false_eq_true, ↓reduceIte]
                refine Ev.bind b1 (Ev.bind (a := (((mC (nC s.Levels i) - 0 : Nat) : Int), 0)) l1 ?_)
                simp only [hn, f1, f2, Bool.false_eq_true, ↓reduceIte, Option.bind_some]
                refine Ev.bind (a := (uC (nC s.Levels i) j.Work.Shadow.Bottom n, (n : Int), 0)) t1 (Ev.bind x1 ?_)
                rw [oC k (by omega)]
                exact hr
              have p2 : ∀ r, Ev (fun fu => if (!x) = true then some (.inr ((k : Int), 6)) else yJ s (qB (qC s.Levels)) fu ((k + 1 : Nat) : Int)) r → Ev (fun fu => yJ s (qB (qC s.Levels)) fu (k : Int)) r := fun r hr => by
                refine Ev.succ ?_
                simp only [yJ, d1, ↓reduceIte, ixj, Option.bind_some, d2, Bool.false_eq_true, ixd, d3]
                simp only [hl]
                refine Ev.bind e2 ?_
                simp only [Bool.false_eq_true, ↓reduceIte]
                refine Ev.bind b2 (Ev.bind (a := (((mC (nC s.Levels i) - 0 : Nat) : Int), 0)) l2 ?_)
                simp only [hn, f1, f2, Bool.false_eq_true, ↓reduceIte, Option.bind_some]
                refine Ev.bind (a := (uC (nC s.Levels i) j.Work.Shadow.Bottom n, (n : Int), 0)) t2 (Ev.bind y1 ?_)
                rw [oC k (by omega)]
                exact hr
              cases x with
              | true =>
                have hw := x2.1 rfl
                refine .inr ⟨fun _ => ⟨hkd, ?_⟩, fun r hr => ⟨p1 r hr.1, p2 r hr.2⟩⟩
                rw [hjk, hik]
                refine ⟨fun hb => ?_, n, hnt, ?_⟩
                · have q := hcb.symm
                  rw [hb] at q
                  simpa using q
                · obtain ⟨jl, jw⟩ := j
                  simp only at hl hw
                  subst hl
                  show xA.mk (i : Int) jw = xA.mk (i : Int) (uC (nC s.Levels i) jw.Shadow.Bottom n)
                  rw [hw]
              | false =>
                refine .inl ⟨((k : Int), 6), bad _ (show (6 : Int) ≠ 0 by decide) (fun ⟨_, ok⟩ => ?_), p1 _ (Ev.ret _), p2 _ (Ev.ret _)⟩
                obtain ⟨n', hn', e⟩ := ok.at'
                rw [hik] at e
                have e3 : j.Work = uC (nC s.Levels i) j.Work.Shadow.Bottom n' := congrArg xA.Work e
                have e4 : j.Work.Steps = (n' : Int) := congrArg pB.Steps e3
                obtain rfl : n' = n := by omega
                have := x2.2 e3.symm
                cases this
            · have f3 : (if decide (j.Work.Steps < 0) = true then some true else some (decide (((mC (nC s.Levels i) - 0 : Nat) : Int) < j.Work.Steps))) = some true := by
                by_cases q : j.Work.Steps < 0
                · simp [q]
                · rw [if_neg (by simpa using q), decide_eq_true (by omega)]
              refine .inl ⟨((k : Int), 6), bad _ (show (6 : Int) ≠ 0 by decide) (fun ⟨_, ok⟩ => ?_), Ev.succ ?_, Ev.succ ?_⟩
              · obtain ⟨n', hn', e⟩ := ok.at'
                rw [hik] at e hn'
                have e3 : j.Work = uC (nC s.Levels i) j.Work.Shadow.Bottom n' := congrArg xA.Work e
                have e4 : j.Work.Steps = (n' : Int) := congrArg pB.Steps e3
                omega
              · simp only [eF, d1, ↓reduceIte, ixj, Option.bind_some, d2, Bool.false_eq_true, ixd, d3]
                simp only [hl, e1, Option.bind_some, Bool.false_eq_true, ↓reduceIte]
                refine Ev.bind b1 (Ev.bind (a := (((mC (nC s.Levels i) - 0 : Nat) : Int), 0)) l1 ?_)
                simp only [f3, Option.bind_some, ↓reduceIte]
                exact Ev.ret _
              · simp only [yJ, d1, ↓reduceIte, ixj, Option.bind_some, d2, Bool.false_eq_true, ixd, d3]
                simp only [hl]
                refine Ev.bind e2 ?_
                simp only [Bool.false_eq_true, ↓reduceIte]
                refine Ev.bind b2 (Ev.bind (a := (((mC (nC s.Levels i) - 0 : Nat) : Int), 0)) l2 ?_)
                simp only [f3, Option.bind_some, ↓reduceIte]
                exact Ev.ret _
        · have d3 : (!decide (j.Level = (i : Int))) = true := by rw [decide_eq_false hl]; rfl
          refine .inl ⟨((k : Int), 6), bad _ (show (6 : Int) ≠ 0 by decide) (fun ⟨_, ok⟩ => ?_), Ev.succ ?_, Ev.succ ?_⟩
          · obtain ⟨n', -, e⟩ := ok.at'
            rw [hik] at e
            exact hl (congrArg xA.Level e)
          · simp only [eF, d1, ↓reduceIte, ixj, Option.bind_some, d2, Bool.false_eq_true, ixd, d3]
            exact Ev.ret _
          · simp only [yJ, d1, ↓reduceIte, ixj, Option.bind_some, d2, Bool.false_eq_true, ixd, d3]
            exact Ev.ret _
      · have d2 : decide (((qB (qC s.Levels)).length : Int) ≤ (k : Int)) = true := decide_eq_true (by rw [yF]; omega)
        refine .inl ⟨((k : Int), 6), bad _ (show (6 : Int) ≠ 0 by decide) (fun ⟨h, _⟩ => hkd h), Ev.succ ?_, Ev.succ ?_⟩
        · simp only [eF, d1, ↓reduceIte, ixj, Option.bind_some, d2]
          exact Ev.ret _
        · simp only [yJ, d1, ↓reduceIte, ixj, Option.bind_some, d2]
          exact Ev.ret _)
  refine ⟨r, r1, ?_⟩
  rcases r2 with ⟨e, h⟩ | ⟨n, v, h1, h2, h3, -⟩
  · exact .inl ⟨e, h⟩
  · exact .inr ⟨n, v, h1, h2, h3⟩
theorem zcj (s : bB) (hs : qH s.Levels) (hj : s.Jobs.length ≤ 1000) : ∃ r, Ev (fun fu => eJ fu s) r ∧ Ev (fun fu => tM fu s) r ∧
    ((r = (0, 0) ∧ zas s ∧ Ev (fun fu => lJ fu s.Levels) (0, 0, 0) ∧ Ev (fun fu => vK fu s.Levels) (0, 0, 0)) ∨ r.2 ≠ 0) ∧
    (zas s → Ev (fun fu => lJ fu s.Levels) (0, 0, 0) → r = (0, 0)) := by
  obtain ⟨c, c1, c2, c3⟩ := zou s.Levels hs
  unfold eJ tM hM
  rcases c3 with ⟨rfl, hg⟩ | hc
  · have g1 := zf8 s.Levels hs
    have g2 := zh7 s.Levels hs c2
    obtain ⟨u1, u2⟩ := zcH s.Levels hs.1
    by_cases n1 : s.NextId < 1 ∨ 1000001 < s.NextId
    · have e : (if decide (s.NextId < 1) = true then some true else some (decide (1000001 < s.NextId))) = some true := by
        rcases n1 with h | h
        · simp [h]
        · by_cases q : s.NextId < 1 <;> simp [q, h]
      refine ⟨(-1, 7), Ev.bind c1 ?_, Ev.bind c2 ?_, .inr (by decide), fun hr _ => ?_⟩
      · simp only [decide_true, Bool.not_true, Bool.false_eq_true, ↓reduceIte, e, Option.bind_some]; exact Ev.ret _
      · simp only [decide_true, Bool.not_true, Bool.false_eq_true, ↓reduceIte, e, Option.bind_some]; exact Ev.ret _
      · have := hr.next; omega
    · have e : (if decide (s.NextId < 1) = true then some true else some (decide (1000001 < s.NextId))) = some false := by
        rw [decide_eq_false (show ¬ s.NextId < 1 by omega), decide_eq_false (show ¬ 1000001 < s.NextId by omega)]; rfl
      by_cases n2 : s.NextId ≤ kG 0 (rM s.Levels.Levels)
      · refine ⟨(-1, 6), Ev.bind c1 ?_, Ev.bind c2 ?_, .inr (by decide), fun hr _ => ?_⟩
        · simp only [decide_true, Bool.not_true, Bool.false_eq_true, ↓reduceIte, e, Option.bind_some]
          refine Ev.bind g1 ?_
          simp only [decide_eq_true n2, ↓reduceIte]; exact Ev.ret _
        · simp only [decide_true, Bool.not_true, Bool.false_eq_true, ↓reduceIte, e, Option.bind_some]
          refine Ev.bind (a := true) (Ev.bind g2 ?_) ?_
          · simp only [decide_eq_true n2]; exact Ev.ret _
          · simp only [↓reduceIte]; exact Ev.ret _
        · have := hr.next; omega
      · obtain ⟨r, ⟨r1, r1'⟩, r2⟩ := zjr s hs hj hg c2
        have p1 : ∀ v, Ev (fun fu => (eF s (qB (qC s.Levels)) fu 0).bind fun x48 => match x48 with | .inl _ => if decide ((s.Jobs.length : Int) < ((qB (qC s.Levels)).length : Int)) = true then some (-1, 4) else some (0, 0) | .inr y => some y) v → Ev (fun fu => (lJ fu s.Levels).bind fun vr2 => if (!decide (vr2.2.2 = 0)) = true then some (-1, vr2.2.2) else (if decide (s.NextId < 1) = true then some true else some (decide (1000001 < s.NextId))).bind fun b4 => if b4 = true then some (-1, 7) else (mM fu s.Levels).bind fun vr7 => if decide (s.NextId ≤ vr7) = true then some (-1, 6) else (some (s.Levels.B, s.Levels.Levels)).bind fun vr9 => (iN fu vr9.1 vr9.2).bind fun vr10 => (eF s vr10 fu 0).bind fun x48 => match x48 with | .inl _ => if decide ((s.Jobs.length : Int) < (vr10.length : Int)) = true then some (-1, 4) else some (0, 0) | .inr y => some y) v := fun v hv => by
          refine Ev.bind c1 ?_
          simp only [decide_true, Bool.not_true, Bool.false_eq_true, ↓reduceIte, e, Option.bind_some]
          refine Ev.bind g1 ?_
          simp only [decide_eq_false n2, Bool.false_eq_true, ↓reduceIte]
          exact Ev.bind u1 hv
        have p2 : ∀ v, Ev (fun fu => (yJ s (qB (qC s.Levels)) fu 0).bind fun x48 => match x48 with | .inl _ => if decide ((s.Jobs.length : Int) < ((qB (qC s.Levels)).length : Int)) = true then some (-1, 4) else some (0, 0) | .inr y => some y) v → Ev (fun fu => tM fu s) v := fun v hv => by
          unfold tM
          refine Ev.bind c2 ?_
          simp only [decide_true, Bool.not_true, Bool.false_eq_true, ↓reduceIte, e, Option.bind_some]
          refine Ev.bind (a := false) (Ev.bind g2 ?_) ?_
          · simp only [decide_eq_false n2]; exact Ev.ret _
          · simp only [Bool.false_eq_true, ↓reduceIte]
            exact Ev.bind u2 hv
        unfold tM at p2
        rcases r2 with ⟨rfl, h⟩ | ⟨k, v, hk, ⟨hv, hb⟩, rfl⟩
        · by_cases hlen : s.Jobs.length < (qC s.Levels).length
          · have d : decide ((s.Jobs.length : Int) < ((qB (qC s.Levels)).length : Int)) = true := decide_eq_true (by rw [yF]; omega)
            refine ⟨(-1, 4), p1 _ (Ev.bind r1 ?_), p2 _ (Ev.bind r1' ?_), .inr (by decide), fun hr _ => ?_⟩
            · simp only [d, ↓reduceIte]; exact Ev.ret _
            · simp only [d, ↓reduceIte]; exact Ev.ret _
            · have := hr.len; omega
          · have d : decide ((s.Jobs.length : Int) < ((qB (qC s.Levels)).length : Int)) = false := decide_eq_false (by rw [yF]; omega)
            have hl2 : s.Jobs.length = (qC s.Levels).length := by
              by_cases q : s.Jobs.length = 0
              · omega
              · obtain ⟨h2, -⟩ := h (s.Jobs.length - 1) (by omega) (by omega)
                omega
            refine ⟨(0, 0), p1 _ (Ev.bind r1 ?_), p2 _ (Ev.bind r1' ?_), .inl ⟨rfl, ⟨hg, ⟨by omega, by omega, by omega⟩, hl2, fun k h1 h2 => (h k h1 h1).2⟩, c1, c2⟩, fun _ _ => rfl⟩
            · simp only [d, Bool.false_eq_true, ↓reduceIte]; exact Ev.ret _
            · simp only [d, Bool.false_eq_true, ↓reduceIte]; exact Ev.ret _
        · refine ⟨v, p1 _ (Ev.bind r1 (Ev.ret _)), p2 _ (Ev.bind r1' (Ev.ret _)), .inr hv, fun hr _ => ?_⟩
          exact absurd ⟨by have := hr.len; omega, hr.job k hk (by have := hr.len; omega)⟩ (hb hk)
  · refine ⟨(-1, c.2.2), Ev.bind c1 ?_, Ev.bind c2 ?_, .inr hc, fun _ hl => ?_⟩
    · simp only [decide_eq_false hc, Bool.not_false, ↓reduceIte]; exact Ev.ret _
    · simp only [decide_eq_false hc, Bool.false_eq_true, ↓reduceIte, Option.bind_some, Bool.not_false]; exact Ev.ret _
    · have := Ev.uniq c1 hl; rw [this] at hc; exact absurd rfl hc
structure uG (s : bB) (level : Int) (k i : Nat) (b : Bool) (n : Nat) : Prop where
  due : (qC s.Levels)[k]? = some i
  lev : level = (i : Int)
  le : n ≤ mC (nC s.Levels i)
  job : s.Jobs[k]? = some (aL s.Levels i b n)
  low : b = true → jP s.Levels i = true
structure oH (s : bB) : Prop where
  small : qH s.Levels
  few : s.Jobs.length ≤ 1000
  right : zas s
  lc : Ev (fun fu => lJ fu s.Levels) (0, 0, 0)
  rlc : Ev (fun fu => vK fu s.Levels) (0, 0, 0)
theorem oH.check {s : bB} (h : oH s) : Ev (fun fu => eJ fu s) (0, 0) ∧ Ev (fun fu => tM fu s) (0, 0) := by
  obtain ⟨r, r1, r2, -, r4⟩ := zcj s h.small h.few
  rw [r4 h.right h.lc] at r1 r2
  exact ⟨r1, r2⟩
theorem zha (s : bB) (hs : qH s.Levels) (hj : s.Jobs.length ≤ 1000) : oH s ∨ ∃ r : Int × Int, r.2 ≠ 0 ∧ Ev (fun fu => eJ fu s) r ∧ Ev (fun fu => tM fu s) r := by
  obtain ⟨r, r1, r2, r3, -⟩ := zcj s hs hj
  rcases r3 with ⟨rfl, hr, h1, h2⟩ | h
  · exact .inl ⟨hs, hj, hr, h1, h2⟩
  · exact .inr ⟨r, h, r1, r2⟩
theorem uG.hk {s : bB} {level : Int} {k i n : Nat} {b : Bool} (w : uG s level k i b n) : k < s.Jobs.length := (List.getElem?_eq_some_iff.1 w.job).1
theorem uG.h2 {s : bB} {level : Int} {k i n : Nat} {b : Bool} (w : uG s level k i b n) : k < (qC s.Levels).length := (List.getElem?_eq_some_iff.1 w.due).1
theorem uG.at' {s : bB} {level : Int} {k i n : Nat} {b : Bool} (w : uG s level k i b n) : ∃ hi : i < s.Levels.Levels.length, s.Levels.Levels[i].Runs.length = 2 := by
  obtain ⟨h, e⟩ := List.getElem?_eq_some_iff.1 w.due
  have := zdX s.Levels k h
  rw [e] at this; exact this
theorem uG.good {s : bB} {level : Int} {k i n : Nat} {b : Bool} (h : oH s) (w : uG s level k i b n) : zC (nC s.Levels i) ∧ eK (nC s.Levels i) := by
  obtain ⟨q1, q2⟩ := w.at'
  exact zaS s.Levels h.small h.right.lev _ q1 q2
theorem zbZ {s : bB} (h : oH s) (k : Nat) (hk : k < s.Jobs.length) : ∃ (i : Nat) (b : Bool) (n : Nat), uG s (i : Int) k i b n := by
  have h2 : k < (qC s.Levels).length := by have := h.right.len; omega
  obtain ⟨hl, n, hn, e⟩ := h.right.job k hk h2
  exact ⟨_, _, n, List.getElem?_eq_getElem h2, rfl, hn, by rw [List.getElem?_eq_getElem hk]; exact congrArg some e, hl⟩
theorem zlf {s : bB} (h : oH s) : Ev (fun fu => zeW fu s) (qB (qC s.Levels), 0) ∧ Ev (fun fu => rY fu s) (qB (qC s.Levels), 0) := by
  obtain ⟨c1, c2⟩ := h.check
  obtain ⟨u1, u2⟩ := zcH s.Levels h.small.1
  constructor
  · unfold zeW hM
    refine Ev.bind c1 ?_
    simp only [decide_true, Bool.not_true, Bool.false_eq_true, ↓reduceIte, Option.bind_some]
    exact Ev.bind u1 (Ev.ret _)
  · unfold rY
    refine Ev.bind c2 ?_
    simp only [decide_true, Bool.not_true, Bool.false_eq_true, ↓reduceIte]
    exact Ev.bind u2 (Ev.ret _)
theorem zeD {s : bB} (h : oH s) (level : Int) :
    (∃ k i b n, uG s level k i b n ∧ Ev (fun fu => mG fu s level) ((k : Int), 0) ∧ Ev (fun fu => iM fu s level) ((k : Int), 0)) ∨
    (Ev (fun fu => mG fu s level) (0, 4) ∧ Ev (fun fu => iM fu s level) (0, 4)) := by
  obtain ⟨c1, c2⟩ := h.check
  obtain ⟨-, p2⟩ := zlf h
  have hlen := h.right.len
  have hfew := h.few
  obtain ⟨r, ⟨r1, r1'⟩, r2⟩ := nK (β := Int) (fun n r => Ev (fun fu => bG s.Jobs level fu (n : Int)) r ∧ Ev (fun fu => uT (qB (qC s.Levels), 0) level fu (n : Int)) (Sum.map id (fun v => (v, (0 : Int))) r)) s.Jobs.length
    (fun _ => True) (fun k v => v = (k : Int) ∧ ∃ h2 : k < (qC s.Levels).length, level = (((qC s.Levels)[k] : Nat) : Int))
    ⟨Ev.succ (Ev.of (fun fu => by simp [bG]) (Ev.ret _)), Ev.succ (Ev.of (fun fu => by simp [uT, yF, hlen]) (Ev.ret _))⟩
    (fun k hk => by
      have h2 : k < (qC s.Levels).length := by omega
      have d1 : decide ((k : Int) < (s.Jobs.length : Int)) = true := decide_eq_true (by omega)
      have d2 : decide ((k : Int) < ((qB (qC s.Levels)).length : Int)) = true := decide_eq_true (by rw [yF]; omega)
      obtain ⟨n, -, e⟩ := (h.right.job k hk h2).at'
      have hl : s.Jobs[k].Level = (((qC s.Levels)[k] : Nat) : Int) := by rw [e]; rfl
      by_cases q : (((qC s.Levels)[k] : Nat) : Int) = level
      · refine .inl ⟨(k : Int), ⟨rfl, h2, q.symm⟩, Ev.succ ?_, Ev.succ ?_⟩
        · simp only [bG, d1, ↓reduceIte, yA s.Jobs k hk, Option.bind_some, yM, hl, decide_eq_true q]
          exact Ev.ret _
        · simp only [uT, d2, ↓reduceIte, fF (qC s.Levels) k h2, Option.bind_some, decide_eq_true q]
          exact Ev.ret _
      · refine .inr ⟨trivial, fun r hr => ⟨Ev.succ ?_, Ev.succ ?_⟩⟩
        · simp only [bG, d1, ↓reduceIte, yA s.Jobs k hk, Option.bind_some, yM, hl, decide_eq_false q, Bool.false_eq_true, oC k (show k < 9223372036854775807 by omega)]
          exact hr.1
        · simp only [uT, d2, ↓reduceIte, fF (qC s.Levels) k h2, Option.bind_some, decide_eq_false q, Bool.false_eq_true, oC k (show k < 9223372036854775807 by omega)]
          exact hr.2)
  rcases r2 with ⟨rfl, -⟩ | ⟨k, v, hk, ⟨rfl, h2, hl⟩, rfl, -⟩
  · right
    constructor
    · unfold mG kO dM
      refine Ev.bind c1 ?_
      simp only [decide_true, Bool.not_true, Bool.false_eq_true, ↓reduceIte]
      refine Ev.bind (a := (0, 4)) (Ev.bind (a := -1) (Ev.bind r1 (Ev.ret _)) ?_) (Ev.ret _)
      exact Ev.ret _
    · unfold iM
      refine Ev.bind p2 ?_
      simp only [decide_true, Bool.not_true, Bool.false_eq_true, ↓reduceIte]
      exact Ev.bind r1' (Ev.ret _)
  · left
    obtain ⟨i, b, n, w⟩ := zbZ h k hk
    have hl' : level = (i : Int) := by
      have := w.due
      rw [List.getElem?_eq_getElem h2] at this
      rw [hl, Option.some.inj this]
    refine ⟨k, i, b, n, ⟨w.due, hl', w.le, w.job, w.low⟩, ?_, ?_⟩
    · unfold mG kO dM
      refine Ev.bind c1 ?_
      simp only [decide_true, Bool.not_true, Bool.false_eq_true, ↓reduceIte]
      refine Ev.bind (a := ((k : Int), 0)) (Ev.bind (a := (k : Int)) (Ev.bind r1 (Ev.ret _)) ?_) (Ev.ret _)
      simp only [decide_eq_false (show ¬ (k : Int) < 0 by omega), Bool.false_eq_true, ↓reduceIte]
      exact Ev.ret _
    · unfold iM
      refine Ev.bind p2 ?_
      simp only [decide_true, Bool.not_true, Bool.false_eq_true, ↓reduceIte]
      exact Ev.bind r1' (Ev.ret _)
theorem uG.uniq {s : bB} {level : Int} {k i n k' i' n' : Nat} {b b' : Bool} (w : uG s level k i b n) (w' : uG s level k' i' b' n') : k = k' ∧ i = i' ∧ b = b' ∧ n = n' := by
  have e := w.lev.symm.trans w'.lev
  obtain rfl : i = i' := by omega
  obtain ⟨h, e1⟩ := List.getElem?_eq_some_iff.1 w.due
  obtain ⟨h', e1'⟩ := List.getElem?_eq_some_iff.1 w'.due
  obtain rfl : k = k' := zoV s.Levels k k' h h' (e1.trans e1'.symm)
  have e2 := Option.some.inj (w.job.symm.trans w'.job)
  have e3 : (n : Int) = (n' : Int) := congrArg (fun j => j.Work.Steps) e2
  have e4 : b = b' := congrArg (fun j => j.Work.Shadow.Bottom) e2
  exact ⟨rfl, rfl, e4, by omega⟩
theorem zax {s : bB} (h : oH s) {level : Int} {k i n : Nat} {b : Bool} (w : uG s level k i b n) : Ev (fun fu => mG fu s level) ((k : Int), 0) ∧ Ev (fun fu => iM fu s level) ((k : Int), 0) := by
  obtain ⟨c1, c2⟩ := h.check
  rcases zeD h level with ⟨k', i', b', n', w', f1, f2⟩ | ⟨f1, f2⟩
  · obtain ⟨rfl, -⟩ := w.uniq w'
    exact ⟨f1, f2⟩
  · exfalso
    have hlen := h.right.len
    have hfew := h.few
    have : Ev (fun fu => dM fu s.Jobs level) (-1) ∨ True := .inr trivial
    obtain ⟨r, r1, r2⟩ := nK (β := Int) (fun n r => Ev (fun fu => bG s.Jobs level fu (n : Int)) r) s.Jobs.length
      (fun i => ∀ hi : i < s.Jobs.length, s.Jobs[i].Level ≠ level) (fun i v => v = (i : Int))
      (Ev.succ (Ev.of (fun fu => by simp [bG]) (Ev.ret _)))
      (fun i hi => by
        have d1 : decide ((i : Int) < (s.Jobs.length : Int)) = true := decide_eq_true (by omega)
        by_cases q : s.Jobs[i].Level = level
        · refine .inl ⟨(i : Int), rfl, Ev.succ ?_⟩
          simp only [bG, d1, ↓reduceIte, yA s.Jobs i hi, Option.bind_some, yM, decide_eq_true q]
          exact Ev.ret _
        · refine .inr ⟨fun _ => q, fun r hr => Ev.succ ?_⟩
          simp only [bG, d1, ↓reduceIte, yA s.Jobs i hi, Option.bind_some, yM, decide_eq_false q, Bool.false_eq_true, oC i (show i < 9223372036854775807 by omega)]
          exact hr)
    rcases r2 with ⟨rfl, hq⟩ | ⟨i, v, hi, rfl, rfl, -⟩
    · refine hq k w.hk w.hk ?_
      rw [(List.getElem?_eq_some_iff.1 w.job).2, w.lev]; rfl
    · have f : Ev (fun fu => mG fu s level) ((i : Int), 0) := by
        unfold mG kO dM
        refine Ev.bind c1 ?_
        simp only [decide_true, Bool.not_true, Bool.false_eq_true, ↓reduceIte]
        refine Ev.bind (a := ((i : Int), 0)) (Ev.bind (a := (i : Int)) (Ev.bind r1 (Ev.ret _)) ?_) (Ev.ret _)
        simp only [decide_eq_false (show ¬ (i : Int) < 0 by omega), Bool.false_eq_true, ↓reduceIte]
        exact Ev.ret _
      have := congrArg Prod.snd (Ev.uniq f f1)
      exact absurd this (show ¬ (0 : Int) = 4 by decide)
theorem zg8 {s : bB} {r : Int × Int} (hr : r.2 ≠ 0) (h1 : Ev (fun fu => eJ fu s) r) (h2 : Ev (fun fu => tM fu s) r) (level : Int) : Ev (fun fu => mG fu s level) (0, r.2) ∧ Ev (fun fu => iM fu s level) (0, r.2) := by
  constructor
  · unfold mG
    refine Ev.bind h1 ?_
    simp only [decide_eq_false hr, Bool.not_false, ↓reduceIte]
    exact Ev.ret _
  · unfold iM rY
    refine Ev.bind (a := ([], r.2)) (Ev.bind h2 ?_) ?_
    · simp only [decide_eq_false hr, Bool.not_false, ↓reduceIte]; exact Ev.ret _
    · simp only [decide_eq_false hr, Bool.not_false, ↓reduceIte]; exact Ev.ret _
theorem zbk {s : bB} (h : oH s) {level : Int} {k i n : Nat} {b : Bool} (w : uG s level k i b n) : Ev (fun fu => jI fu s level) (((mC (nC s.Levels i) - n : Nat) : Int), 0) ∧ Ev (fun fu => vU fu s level) (((mC (nC s.Levels i) - n : Nat) : Int), 0) := by
  obtain ⟨f1, f2⟩ := zax h w
  obtain ⟨hg, hsn⟩ := w.good h
  obtain ⟨l1, l2⟩ := zW _ b n hsn hg w.le
  have ixk : ix s.Jobs (k : Int) = some (aL s.Levels i b n) := by rw [mS]; exact w.job
  constructor
  · unfold jI
    refine Ev.bind f1 ?_
    simp only [decide_true, Bool.not_true, Bool.false_eq_true, ↓reduceIte, ixk, Option.bind_some]
    exact Ev.bind (a := (((mC (nC s.Levels i) - n : Nat) : Int), 0)) l1 (Ev.ret _)
  · unfold vU
    refine Ev.bind f2 ?_
    simp only [decide_true, Bool.not_true, Bool.false_eq_true, ↓reduceIte, ixk, Option.bind_some]
    exact Ev.bind (a := (((mC (nC s.Levels i) - n : Nat) : Int), 0)) l2 (Ev.ret _)
theorem zcm {s : bB} {e : Int} (he : e ≠ 0) (level : Int) (f1 : Ev (fun fu => mG fu s level) (0, e)) (f2 : Ev (fun fu => iM fu s level) (0, e)) : Ev (fun fu => jI fu s level) (0, e) ∧ Ev (fun fu => vU fu s level) (0, e) := by
  constructor
  · unfold jI
    refine Ev.bind f1 ?_
    simp only [decide_eq_false he, Bool.not_false, ↓reduceIte]
    exact Ev.ret _
  · unfold vU
    refine Ev.bind f2 ?_
    simp only [decide_eq_false he, Bool.not_false, ↓reduceIte]
    exact Ev.ret _
def xH (s : bB) (k i : Nat) (b : Bool) (n : Nat) : bB := ⟨s.Levels, s.Jobs.set k (aL s.Levels i b n), s.NextId⟩
theorem zeT {s : bB} (h : oH s) {level : Int} {k i n : Nat} {b : Bool} (w : uG s level k i b n) (m : Nat) (hm : m ≤ mC (nC s.Levels i)) : oH (xH s k i b m) ∧ uG (xH s k i b m) level k i b m := by
  have hk := w.hk
  obtain ⟨h2, hd⟩ := List.getElem?_eq_some_iff.1 w.due
  refine ⟨⟨h.small, by show (s.Jobs.set k _).length ≤ 1000; rw [List.length_set]; exact h.few, ⟨h.right.lev, h.right.next, ?_, ?_⟩, h.lc, h.rlc⟩, ⟨w.due, w.lev, hm, ?_, w.low⟩⟩
  · show (s.Jobs.set k _).length = _; rw [List.length_set]; exact h.right.len
  · intro j h1 h3
    have h1' : j < s.Jobs.length := by
      have : j < (s.Jobs.set k (aL s.Levels i b m)).length := h1
      rwa [List.length_set] at this
    have e : (xH s k i b m).Jobs[j] = if k = j then aL s.Levels i b m else s.Jobs[j] := by
      show (s.Jobs.set k (aL s.Levels i b m))[j]'(by rw [List.length_set]; exact h1') = _
      exact List.getElem_set ..
    rw [e]
    split
    · rename_i e2; subst e2
      have ok : oQ s.Levels i (aL s.Levels i b m) := ⟨fun hb => w.low hb, m, hm, rfl⟩
      rw [← hd] at ok ⊢
      rw [hd] at ok ⊢
      exact hd ▸ ok
    · exact h.right.job j h1' h3
  · show (s.Jobs.set k _)[k]? = _
    exact List.getElem?_set_self hk
theorem zaU {s : bB} (h : oH s) {level : Int} {k i n : Nat} {b : Bool} (w : uG s level k i b n) (q : Nat) (hlt : n < mC (nC s.Levels i)) :
    Ev (fun fu => jK fu s level (q : Int)) (xH s k i b (n + used (nC s.Levels i) n q), (used (nC s.Levels i) n q : Int), 0) ∧
    Ev (fun fu => zdO fu s level (q : Int)) (xH s k i b (n + used (nC s.Levels i) n q), (used (nC s.Levels i) n q : Int), 0) := by
  obtain ⟨c1, c2⟩ := h.check
  obtain ⟨f1, f2⟩ := zax h w
  obtain ⟨-, rl⟩ := zbk h w
  obtain ⟨hg, hsn⟩ := w.good h
  obtain ⟨l1, l2⟩ := zW _ b n hsn hg w.le
  obtain ⟨t1, t2⟩ := zb7 _ b n q hsn hg w.le
  have ixk : ix s.Jobs (k : Int) = some (aL s.Levels i b n) := by rw [mS]; exact w.job
  have d1 : decide ((q : Int) < 0) = false := decide_eq_false (by omega)
  have d2 : decide (((mC (nC s.Levels i) - n : Nat) : Int) = 0) = false := decide_eq_false (by omega)
  have hne : s.Jobs.isEmpty = false := by
    cases hj : s.Jobs with
    | nil => have := w.hk; rw [hj] at this; simp at this
    | cons => rfl
  have g : 2 * ((0 + s.Jobs.length) * 176) ≤ 281474976710656 := by have := h.few; omega
  constructor
  · unfold jK
    refine Ev.bind c1 ?_
    simp only [decide_true, Bool.not_true, Bool.false_eq_true, ↓reduceIte, d1]
    refine Ev.bind f1 ?_
    simp only [decide_true, Bool.not_true, Bool.false_eq_true, ↓reduceIte, ixk, Option.bind_some]
    refine Ev.bind (a := (((mC (nC s.Levels i) - n : Nat) : Int), 0)) l1 ?_
    simp only [d2, Bool.false_eq_true, ↓reduceIte]
    refine Ev.bind (a := (uC (nC s.Levels i) b (n + used (nC s.Levels i) n q), (used (nC s.Levels i) n q : Int), 0)) t1 ?_
    simp only [decide_true, Bool.not_true, Bool.false_eq_true, ↓reduceIte, qR, hne, if_pos g, Option.bind_some, ixk, Int.toNat_natCast]
    exact Ev.ret _
  · unfold zdO
    refine Ev.bind c2 ?_
    simp only [decide_true, ↓reduceIte, d1, Option.bind_some, Bool.false_eq_true, Bool.not_true]
    refine Ev.bind rl ?_
    simp only [decide_true, ↓reduceIte, d2, Option.bind_some, Bool.false_eq_true, Bool.not_true]
    refine Ev.bind f2 ?_
    simp only [ixk, Option.bind_some]
    refine Ev.bind (a := (uC (nC s.Levels i) b (n + used (nC s.Levels i) n q), (used (nC s.Levels i) n q : Int), 0)) t2 ?_
    simp only [if_pos g, Int.toNat_natCast]
    rw [w.lev]
    exact Ev.ret _
theorem zkO : tI 40 = some true := by kernel_rfl
theorem lV : Ev (fun fu => tI fu) true := Ev.mono (n := 40) (fun fu => zkN fu) zkO
theorem oW {β : Type} {L : Nat → Int → Option (Sum Unit β)} (len : Nat) (stop : Ev (fun fu => L fu (len : Int)) (.inl ())) (step : ∀ n, n < len → ∀ r, Ev (fun fu => L fu ((n + 1 : Nat) : Int)) r → Ev (fun fu => L fu (n : Int)) r) : Ev (fun fu => L fu 0) (.inl ()) := by
  obtain ⟨r, r1, r2⟩ := nK (β := β) (fun n r => Ev (fun fu => L fu (n : Int)) r) len (fun _ => True) (fun _ _ => False) stop (fun n hn => .inr ⟨trivial, step n hn⟩)
  rcases r2 with ⟨rfl, -⟩ | ⟨_, _, _, h, _⟩
  · exact r1
  · exact h.elim
theorem zi4 (l : List aA) (hl : l.length ≤ 1000000) : Ev (fun fu => yT fu l l) true := by
  have : Ev (fun fu => uL l l fu 0) (.inl ()) := oW l.length
    (Ev.succ (Ev.of (fun fu => by simp [uL]) (Ev.ret _)))
    (fun n hn r hr => Ev.succ (by
      have d : decide ((n : Int) < (l.length : Int)) = true := decide_eq_true (by omega)
      simp only [uL, d, ↓reduceIte, Option.bind_some, yA l n hn, dY, decide_true, Bool.not_true, Bool.false_eq_true, oC n (show n < 9223372036854775807 by omega)]
      exact hr))
  unfold yT
  exact Ev.bind this (Ev.of (fun fu => by simp) (Ev.ret _))
theorem zjX (l : List eB) (hl : l.length ≤ 1000) (hE : ∀ r ∈ l, r.Entries.length ≤ 1000000) : Ev (fun fu => dW fu l l) true := by
  have : Ev (fun fu => vM l l fu 0) (.inl ()) := oW l.length
    (Ev.succ (Ev.of (fun fu => by simp [vM]) (Ev.ret _)))
    (fun n hn r hr => Ev.succ (by
      have d : decide ((n : Int) < (l.length : Int)) = true := decide_eq_true (by omega)
      simp only [vM, d, ↓reduceIte, Option.bind_some, yA l n hn, tY, decide_true]
      refine Ev.bind (a := true) (Ev.bind (Ev.bind (zi4 _ (hE _ (List.getElem_mem hn))) (Ev.ret _)) (Ev.ret _)) ?_
      simp only [Bool.not_true, Bool.false_eq_true, ↓reduceIte, oC n (show n < 9223372036854775807 by omega)]
      exact hr))
  unfold dW
  simp only [decide_true, Bool.not_true, Bool.false_eq_true, ↓reduceIte]
  exact Ev.bind this (Ev.ret _)
theorem zgu (l : dB) (hs : qH l) : Ev (fun fu => fW fu l l) true := by
  have h14 := hs.1
  have : Ev (fun fu => uM l l fu 0) (.inl ()) := oW l.Levels.length
    (Ev.succ (Ev.of (fun fu => by simp [uM]) (Ev.ret _)))
    (fun n hn r hr => Ev.succ (by
      have d : decide ((n : Int) < (l.Levels.length : Int)) = true := decide_eq_true (by omega)
      have hx := hs.2 _ (List.getElem_mem hn)
      simp only [uM, d, ↓reduceIte, Option.bind_some, yA l.Levels n hn]
      refine Ev.bind (zjX _ (by have := hx.1; omega) (fun r hr => by have := (hx.2 r hr).1; omega)) ?_
      simp only [Bool.not_true, Bool.false_eq_true, ↓reduceIte, oC n (show n < 9223372036854775807 by omega)]
      exact hr))
  unfold fW
  simp only [decide_true, Bool.not_true, Bool.false_eq_true, ↓reduceIte, Option.bind_some]
  exact Ev.bind this (Ev.ret _)
theorem zb1 (j : xA) (hj : eQ j.Work) : Ev (fun fu => zQ fu j j) true := by
  unfold zQ
  simp only [decide_true, ↓reduceIte]
  exact Ev.bind (Ev.bind (zjN _ hj) (Ev.ret _)) (Ev.ret _)
theorem zi7 (s : bB) (hs : qH s.Levels) (hj : s.Jobs.length ≤ 1000) (hw : ∀ j ∈ s.Jobs, eQ j.Work) : Ev (fun fu => jO fu s s) true := by
  have : Ev (fun fu => bN s s fu 0) (.inl ()) := oW s.Jobs.length
    (Ev.succ (Ev.of (fun fu => by simp [bN]) (Ev.ret _)))
    (fun n hn r hr => Ev.succ (by
      have d : decide ((n : Int) < (s.Jobs.length : Int)) = true := decide_eq_true (by omega)
      simp only [bN, d, ↓reduceIte, Option.bind_some, yA s.Jobs n hn]
      refine Ev.bind (zb1 _ (hw _ (List.getElem_mem hn))) ?_
      simp only [Bool.not_true, Bool.false_eq_true, ↓reduceIte, oC n (show n < 9223372036854775807 by omega)]
      exact hr))
  unfold jO
  refine Ev.bind (zgu _ hs) ?_
  simp only [decide_true, Bool.not_true, Bool.false_eq_true, ↓reduceIte, Option.bind_some]
  exact Ev.bind this (Ev.ret _)
theorem oH.works {s : bB} (h : oH s) : ∀ j ∈ s.Jobs, eQ j.Work := by
  intro j hj
  obtain ⟨k, hk, rfl⟩ := List.mem_iff_getElem.1 hj
  obtain ⟨i, b, n, w⟩ := zbZ h k hk
  obtain ⟨hg, hsn⟩ := w.good h
  rw [(List.getElem?_eq_some_iff.1 w.job).2]
  exact hZ _ b n hsn hg w.le
theorem oH.self {s : bB} (h : oH s) : Ev (fun fu => jO fu s s) true := zi7 s h.small h.few h.works
theorem zkx (s : bB) : ∃ b, Ev (fun fu => iV fu s) b ∧ (b = false → qH s.Levels ∧ s.Jobs.length ≤ 14) := by
  have wide : ∀ l : List aA, ∃ b, Ev (fun fu => iT fu l) b := by
    intro l
    obtain ⟨r, r1, r2⟩ := nK (β := Bool) (fun n r => Ev (fun fu => uJ l fu (n : Int)) r) (min l.length 80) (fun _ => True) (fun _ v => v = true)
      (by
        refine Ev.succ (Ev.of (fun fu => ?_) (Ev.ret _))
        by_cases h : l.length ≤ 80
        · rw [Nat.min_eq_left h]; simp [uJ]
        · rw [Nat.min_eq_right (by omega)]; simp [uJ])
      (fun n hn => by
        have hl : n < l.length := Nat.lt_of_lt_of_le hn (Nat.min_le_left _ _)
        have h40 : n < 80 := Nat.lt_of_lt_of_le hn (Nat.min_le_right _ _)
        have d1 : decide ((n : Int) < (l.length : Int)) = true := decide_eq_true (by omega)
        have d2 : decide ((n : Int) < 80) = true := decide_eq_true (by omega)
        by_cases hk : (100 : Int) < (l[n].Key.length : Int)
        · exact .inl ⟨true, rfl, Ev.succ (Ev.of (fun fu => by simp only [uJ, d1, d2, yA l n hl, decide_eq_true hk, ↓reduceIte, Option.bind_some]) (Ev.ret _))⟩
        · by_cases hv : (100 : Int) < (l[n].Val.length : Int)
          · exact .inl ⟨true, rfl, Ev.succ (Ev.of (fun fu => by simp only [uJ, d1, d2, yA l n hl, decide_eq_false hk, decide_eq_true hv, Bool.false_eq_true, ↓reduceIte, Option.bind_some]) (Ev.ret _))⟩
          · refine .inr ⟨trivial, fun r hr => Ev.succ (Ev.of (fun fu => ?_) hr)⟩
            simp only [uJ, d1, d2, ↓reduceIte, Option.bind_some, yA l n hl, decide_eq_false hk, decide_eq_false hv, Bool.false_eq_true, oC n (show n < 9223372036854775807 by omega)])
    unfold iT
    rcases r2 with ⟨rfl, -⟩ | ⟨n, v, -, rfl, rfl, -⟩
    · exact ⟨_, Ev.bind r1 (Ev.ret _)⟩
    · exact ⟨_, Ev.bind r1 (Ev.ret _)⟩
  have inner : ∀ j : xA, ∃ r, Ev (fun fu => mJ j fu 0) r ∧ (r = .inl () ∨ r = .inr true) := by
    intro j
    obtain ⟨r, r1, r2⟩ := nK (β := Bool) (fun n r => Ev (fun fu => mJ j fu (n : Int)) r) (min j.Work.Merge.Runs.length 10) (fun _ => True) (fun _ v => v = true)
      (by
        refine Ev.succ (Ev.of (fun fu => ?_) (Ev.ret _))
        by_cases h : j.Work.Merge.Runs.length ≤ 10
        · rw [Nat.min_eq_left h]; simp [mJ]
        · rw [Nat.min_eq_right (by omega)]; simp [mJ])
      (fun n hn => by
        have hl : n < j.Work.Merge.Runs.length := Nat.lt_of_lt_of_le hn (Nat.min_le_left _ _)
        have h40 : n < 10 := Nat.lt_of_lt_of_le hn (Nat.min_le_right _ _)
        have d1 : decide ((n : Int) < (j.Work.Merge.Runs.length : Int)) = true := decide_eq_true (by omega)
        have d2 : decide ((n : Int) < 10) = true := decide_eq_true (by omega)
        obtain ⟨b, b1⟩ := wide j.Work.Merge.Runs[n]
        cases b with
        | true =>
          refine .inl ⟨true, rfl, Ev.succ ?_⟩
          simp only [mJ, d1, d2, ↓reduceIte, Option.bind_some, yA _ n hl]
          exact Ev.bind b1 (Ev.ret _)
        | false =>
          refine .inr ⟨trivial, fun r hr => Ev.succ ?_⟩
          simp only [mJ, d1, d2, ↓reduceIte, Option.bind_some, yA _ n hl, oC n (show n < 9223372036854775807 by omega)]
          exact Ev.bind b1 hr)
    refine ⟨r, r1, ?_⟩
    rcases r2 with ⟨rfl, -⟩ | ⟨n, v, -, rfl, rfl, -⟩
    · exact .inl rfl
    · exact .inr rfl
  obtain ⟨r, r1, r2⟩ := nK (β := Bool) (fun n r => Ev (fun fu => nJ s fu (n : Int)) r) (min s.Jobs.length 20) (fun _ => True) (fun _ v => v = true)
    (by
      refine Ev.succ (Ev.of (fun fu => ?_) (Ev.ret _))
      by_cases h : s.Jobs.length ≤ 20
      · rw [Nat.min_eq_left h]; simp [nJ]
      · rw [Nat.min_eq_right (by omega)]; simp [nJ])
    (fun n hn => by
      have hl : n < s.Jobs.length := Nat.lt_of_lt_of_le hn (Nat.min_le_left _ _)
      have h40 : n < 20 := Nat.lt_of_lt_of_le hn (Nat.min_le_right _ _)
      have d1 : decide ((n : Int) < (s.Jobs.length : Int)) = true := decide_eq_true (by omega)
      have d2 : decide ((n : Int) < 20) = true := decide_eq_true (by omega)
      obtain ⟨q, q1, q2⟩ := inner s.Jobs[n]
      rcases q2 with rfl | rfl
      · obtain ⟨b, b1⟩ := wide s.Jobs[n].Work.Out
        obtain ⟨c, hc⟩ : ∃ c : Bool, ∀ (f : Bool → Option (Sum Unit Bool)), (((((if b = true then some true else some (decide ((6 : Int) < (s.Jobs[n].Work.Merge.Runs.length : Int)))).bind fun b128 => (if b128 = true then some true else some (decide ((40 : Int) < (s.Jobs[n].Work.Merge.At.length : Int)))).bind fun b129 => (if b129 = true then some true else some (decide ((40 : Int) < (s.Jobs[n].Work.Merge.Tree.Keys.length : Int)))).bind fun b130 => (if b130 = true then some true else some (decide ((40 : Int) < (s.Jobs[n].Work.Merge.Tree.Lose.length : Int)))).bind fun b131 => (if b131 = true then some true else some (decide ((200 : Int) < (s.Jobs[n].Work.Shadow.Last.length : Int)))).bind fun b132 => f b132)))) = f c := by
          refine ⟨b || decide ((6 : Int) < (s.Jobs[n].Work.Merge.Runs.length : Int)) || decide ((40 : Int) < (s.Jobs[n].Work.Merge.At.length : Int)) || decide ((40 : Int) < (s.Jobs[n].Work.Merge.Tree.Keys.length : Int)) || decide ((40 : Int) < (s.Jobs[n].Work.Merge.Tree.Lose.length : Int)) || decide ((200 : Int) < (s.Jobs[n].Work.Shadow.Last.length : Int)), fun f => ?_⟩
          generalize decide ((6 : Int) < (s.Jobs[n].Work.Merge.Runs.length : Int)) = c1
          generalize decide ((40 : Int) < (s.Jobs[n].Work.Merge.At.length : Int)) = c2
          generalize decide ((40 : Int) < (s.Jobs[n].Work.Merge.Tree.Keys.length : Int)) = c3
          generalize decide ((40 : Int) < (s.Jobs[n].Work.Merge.Tree.Lose.length : Int)) = c4
          generalize decide ((200 : Int) < (s.Jobs[n].Work.Shadow.Last.length : Int)) = c5
          cases b <;> cases c1 <;> cases c2 <;> cases c3 <;> cases c4 <;> cases c5 <;> rfl
        cases c with
        | true =>
          refine .inl ⟨true, rfl, Ev.succ ?_⟩
          simp only [nJ, d1, d2, ↓reduceIte, Option.bind_some, yA s.Jobs n hl]
          refine Ev.bind q1 (Ev.bind b1 ?_)
          refine Ev.of (fun fu => hc _) ?_
          exact Ev.ret _
        | false =>
          refine .inr ⟨trivial, fun r hr => Ev.succ ?_⟩
          simp only [nJ, d1, d2, ↓reduceIte, Option.bind_some, yA s.Jobs n hl, oC n (show n < 9223372036854775807 by omega)]
          refine Ev.bind q1 (Ev.bind b1 ?_)
          refine Ev.of (fun fu => hc _) ?_
          exact hr
      · refine .inl ⟨true, rfl, Ev.succ ?_⟩
        simp only [nJ, d1, d2, ↓reduceIte, Option.bind_some, yA s.Jobs n hl]
        exact Ev.bind q1 (Ev.ret _))
  unfold iV
  rcases r2 with ⟨rfl, -⟩ | ⟨n, v, -, rfl, rfl, -⟩
  · by_cases h : (14 : Int) < (s.Jobs.length : Int)
    · refine ⟨true, Ev.bind r1 ?_, by simp⟩
      simp only [decide_eq_true h, ↓reduceIte, Option.bind_some]
      exact Ev.ret _
    · obtain ⟨b, b1, b2⟩ := zlN s.Levels
      refine ⟨b, Ev.bind r1 ?_, fun hb => ⟨b2 hb, by omega⟩⟩
      simp only [decide_eq_false h, Bool.false_eq_true, ↓reduceIte]
      exact Ev.bind (Ev.bind b1 (Ev.ret _)) (Ev.ret _)
  · exact ⟨true, Ev.bind r1 (Ev.ret _), by simp⟩
theorem zmB (runs : List (List aA)) (n k m : Nat) : used runs n k + used runs (n + used runs n k) m = used runs n (k + m) := by
  unfold used; omega
theorem zl3 (s : bB) (k i : Nat) (b : Bool) (n m : Nat) : xH (xH s k i b n) k i b m = xH s k i b m := by
  simp only [xH, List.set_set]
theorem zcr {v : Int} (h : 0 ≤ v ∧ v ≤ 255) : ∃ p : Nat, v = (p : Int) ∧ p ≤ 255 ∧ IntKind.i64.wrap v = (p : Int) := ⟨v.toNat, by omega, by omega, by rw [wr (by omega) (by omega)]; omega⟩
theorem zj0 (s : bB) (level : Int) (x : fE) (h0 : 0 ≤ x.e0 ∧ x.e0 ≤ 255) (h1 : 0 ≤ x.e1 ∧ x.e1 ≤ 255) : Ev (fun fu => nY fu s level x) true := by
  obtain ⟨f, f1, f2⟩ := zkx s
  obtain ⟨p, -, hp, wp⟩ := zcr h0
  obtain ⟨q, -, hq, wq⟩ := zcr h1
  unfold nY
  refine Ev.bind f1 ?_
  cases f with
  | true => exact Ev.bind lV (Ev.ret _)
  | false =>
    obtain ⟨hs, hj⟩ := f2 rfl
    simp only [Bool.false_eq_true, ↓reduceIte]
    have outG : ∀ (e : Int) (X : Nat → Int × Int → Option Bool), e ≠ 0 → Ev (fun fu => jI fu s level) (0, e) → Ev (fun fu => (jI fu s level).bind fun vr7 => (if (!decide (vr7.2 = 0)) = true then some true else some (decide (vr7.1 = 0))).bind fun b8 => if b8 = true then (tI fu).bind fun vr11 => some vr11 else X fu vr7) true := fun e X he hl => by
      refine Ev.bind hl ?_
      simp only [decide_eq_false he, Bool.not_false, ↓reduceIte, Option.bind_some]
      exact Ev.bind lV (Ev.ret _)
    rcases zha s hs (by omega) with hc | ⟨r, hr, c1, c2⟩
    · rcases zeD hc level with ⟨k, i, b, n, w, -, -⟩ | ⟨g1, g2⟩
      · obtain ⟨l1, -⟩ := zbk hc w
        obtain ⟨hg, hsn⟩ := w.good hc
        have h120 := hsn.few hg
        have hle := w.le
        generalize hT : mC (nC s.Levels i) = T at *
        by_cases hz : T - n = 0
        · refine Ev.bind l1 ?_
          have d : decide (((T - n : Nat) : Int) = 0) = true := decide_eq_true (by omega)
          simp only [decide_true, Bool.not_true, Bool.false_eq_true, ↓reduceIte, Option.bind_some, d]
          exact Ev.bind lV (Ev.ret _)
        · have d : decide (((T - n : Nat) : Int) = 0) = false := decide_eq_false (by omega)
          obtain ⟨fk, -⟩ := zax hc w
          obtain ⟨rd, -⟩ := zaU hc w p (by omega)
          have hu : used (nC s.Levels i) n p = min p (T - n) := by unfold used; rw [hT]
          have hu2 : used (nC s.Levels i) n (p + q) = min (p + q) (T - n) := by unfold used; rw [hT]
          have hadd := zmB (nC s.Levels i) n p q
          obtain ⟨rd2, -⟩ := zaU hc w (p + q) (by omega)
          generalize hU : used (nC s.Levels i) n p = u at *
          obtain ⟨ct, wt⟩ := zeT hc w (n + u) (by omega)
          obtain ⟨lt, -⟩ := zbk ct wt
          have wpq : IntKind.i64.wrap ((p : Int) + (q : Int)) = ((p + q : Nat) : Int) := by rw [wr (by omega) (by omega)]; omega
          refine Ev.bind l1 ?_
          simp only [decide_true, Bool.not_true, Bool.false_eq_true, ↓reduceIte, Option.bind_some, d]
          refine Ev.bind fk ?_
          rw [wp]
          refine Ev.bind rd ?_
          have dlen : decide (((xH s k i b (n + u)).Jobs.length : Int) = (s.Jobs.length : Int)) = true := decide_eq_true (by
            show ((s.Jobs.set k _).length : Int) = _; rw [List.length_set])
          have dnx : decide ((xH s k i b (n + u)).NextId = s.NextId) = true := decide_eq_true rfl
          simp only [decide_true, Bool.not_true, Bool.false_eq_true, ↓reduceIte, Option.bind_some, dnx, dlen]
          have lp : Ev (fun fu => gM s ((k : Int), 0) (xH s k i b (n + u), (u : Int), 0) fu 0) (.inl ()) := oW s.Jobs.length
            (Ev.succ (Ev.of (fun fu => by simp [gM]) (Ev.ret _)))
            (fun j hjl r hr => Ev.succ (by
              have d1 : decide ((j : Int) < (s.Jobs.length : Int)) = true := decide_eq_true (by omega)
              simp only [gM, d1, ↓reduceIte, oC j (show j < 9223372036854775807 by omega)]
              by_cases e : j = k
              · have d2 : (!decide ((j : Int) = (k : Int))) = false := by rw [decide_eq_true (by omega)]; rfl
                simp only [d2, Bool.false_eq_true, ↓reduceIte, Option.bind_some]
                exact hr
              · have d2 : (!decide ((j : Int) = (k : Int))) = true := by rw [decide_eq_false (by omega)]; rfl
                have ixj : ix (xH s k i b (n + u)).Jobs (j : Int) = some s.Jobs[j] := by
                  rw [mS]
                  show (s.Jobs.set k _)[j]? = _
                  rw [List.getElem?_set_ne (fun h => e h.symm)]
                  exact List.getElem?_eq_getElem hjl
                simp only [d2, ↓reduceIte, yA s.Jobs j hjl, ixj, Option.bind_some]
                refine Ev.bind (a := false) (Ev.bind (zb1 _ (hc.works _ (List.getElem_mem hjl))) (Ev.ret _)) ?_
                simp only [Bool.false_eq_true, ↓reduceIte]
                exact hr))
          refine Ev.bind lp ?_
          have hT2 : mC (nC (xH s k i b (n + u)).Levels i) = T := hT
          rw [hT2] at lt
          refine Ev.bind lt ?_
          have w1 : IntKind.i64.wrap ((u : Int) + ((T - (n + u) : Nat) : Int)) = ((T - n : Nat) : Int) := by rw [wr (by omega) (by omega)]; omega
          simp only [decide_true, Bool.not_true, Bool.false_eq_true, ↓reduceIte, Option.bind_some, w1, wq, wpq]
          refine Ev.bind rd2 ?_
          simp only [decide_true, Bool.not_true, Bool.false_eq_true, ↓reduceIte]
          by_cases hz2 : T - (n + u) = 0
          · have d3 : decide (((T - (n + u) : Nat) : Int) = 0) = true := decide_eq_true (by omega)
            have e1 : used (nC s.Levels i) n (p + q) = u := by omega
            have e2 : u = T - n := by omega
            rw [e1]
            simp only [d3, ↓reduceIte]
            have d4 : decide ((u : Int) = ((T - n : Nat) : Int)) = true := decide_eq_true (by omega)
            simp only [d4, ↓reduceIte]
            refine Ev.bind (Ev.bind ct.self (Ev.ret _)) ?_
            simp only [↓reduceIte]
            exact Ev.bind (Ev.bind lV (Ev.ret _)) (Ev.ret _)
          · have d3 : decide (((T - (n + u) : Nat) : Int) = 0) = false := decide_eq_false (by omega)
            obtain ⟨rd3, -⟩ := zaU ct wt q (by rw [hT2]; omega)
            rw [zl3] at rd3
            have e4 : used (nC (xH s k i b (n + u)).Levels i) (n + u) q = used (nC s.Levels i) (n + u) q := rfl
            rw [e4] at rd3
            generalize used (nC s.Levels i) (n + u) q = v at *
            have e5 : n + u + v = n + used (nC s.Levels i) n (p + q) := by omega
            rw [e5] at rd3
            obtain ⟨cb, -⟩ := zeT hc w (n + used (nC s.Levels i) n (p + q)) (by omega)
            simp only [d3, Bool.false_eq_true, ↓reduceIte]
            refine Ev.bind rd3 ?_
            have w2 : IntKind.i64.wrap ((u : Int) + (v : Int)) = ((u + v : Nat) : Int) := by rw [wr (by omega) (by omega)]; omega
            have d5 : decide (((u + v : Nat) : Int) = (used (nC s.Levels i) n (p + q) : Int)) = true := decide_eq_true (by omega)
            simp only [decide_true, ↓reduceIte, w2, d5, Option.bind_some]
            refine Ev.bind (Ev.bind cb.self (Ev.ret _)) ?_
            simp only [↓reduceIte]
            exact Ev.bind (Ev.bind lV (Ev.ret _)) (Ev.ret _)
      · obtain ⟨l1, -⟩ := zcm (by decide) level g1 g2
        exact outG 4 _ (by decide) l1
    · obtain ⟨g1, g2⟩ := zg8 hr c1 c2 level
      obtain ⟨l1, -⟩ := zcm hr level g1 g2
      exact outG _ _ hr l1
end Go.T
end
section
namespace Go.T
open Go Go.AM Go.Proofs
set_option maxRecDepth 100000
set_option maxHeartbeats 4000000
set_option linter.unusedVariables false
theorem zaI {fu : Nat} {k1 : List UInt8} {r : Int} (h0 : cN fu k1 = some r) : lB Try.prog 102 [.str k1] (.int .i64 r) [] := by
 refine sB Try.func102 rfl (by decide) rL ?_
 dsimp only [Try.f102]
 rw [cN] at h0
 refine (show pA _ _ _ _ ⟨kB 0 _, [], 0, []⟩ from ?_)
 refine xS 8 [0] ?_
 refine kA ?_
 refine xS 32 [5] ?_
 refine xI h0 rfl (fun h0 hb2 => ?_) (fun h0 hb2 => ?_)
 ·
  refine xS 40 [2] ?_
  refine jA (mA ?_)
  obtain rfl := Option.some.inj h0
  refine nA [] ?_
  exact rG
 ·
  refine qA (gA ?_)
  refine xS 40 [2] ?_
  refine jA ?_
  obtain rfl := Option.some.inj h0
  refine nA [] ?_
  exact rG
theorem zag {fu : Nat} {vx1 : aA} {r : Int} (h0 : cM fu vx1 = some r) : lB Try.prog 92 [.agg (aA.enc vx1)] (.int .i64 r) [] := by
 refine sB Try.func92 rfl (by decide) rL ?_
 dsimp only [Try.f92]
 rw [cM] at h0
 refine (show pA _ _ _ _ ⟨kB 0 _, [], 0, []⟩ from ?_)
 refine xS 16 [1] ?_
 refine kA (jC ?_)
 obtain ⟨vr2, hvr2, h0⟩ := eA h0
 obtain ⟨b3, hb3, h0⟩ := eA h0
 refine dD (fr' := [(1, .ref 0 0 0 0), (3, .bool b3)]) (hp' := [(0, ⟨0, true, true, 4, [[.str vx1.Key, .str vx1.Val, .bool vx1.Dead, .int .i64 vx1.Seq]]⟩)]) [0] 104 [1, 3] (fun | 2 => some (.int .i64 vr2, []) | _ => none) rfl (fun Kt hK => by
   cases hg4 : (!(decide (vr2 = 0))) with
   | false =>
    replace hb3 := vA hb3 hg4
    have hqb3 := Option.some.inj hb3
    subst hqb3
    simp (maxSteps := 1000000) only [↓reduceIte, reduceCtorEq, Nat.reduceEqDiff, Nat.reduceLT, Nat.reduceLeDiff, Nat.reduceAdd, Nat.reduceMul, Int.reduceToNat, push_cast, ↓hg4]
    try simp only [↓hg4] at hK
    try have q0 := zaI hvr2
    all_goals exact rU
   | true =>
    replace hb3 := iB hb3 hg4
    have hqb3 := Option.some.inj hb3
    subst hqb3
    simp (maxSteps := 1000000) only [↓reduceIte, reduceCtorEq, Nat.reduceEqDiff, Nat.reduceLT, Nat.reduceLeDiff, Nat.reduceAdd, Nat.reduceMul, Int.reduceToNat, push_cast, ↓hg4]
    try simp only [↓hg4] at hK
    try have q0 := zaI hvr2
    all_goals exact rU) ?_
 refine xI h0 rfl (fun h0 hb5 => ?_) (fun h0 hb5 => ?_)
 ·
  refine xS 112 [2] ?_
  refine jA (kC (mA ?_))
  obtain rfl := Option.some.inj h0
  refine nA [] ?_
  exact rG
 ·
  obtain ⟨b6, hb6, h0⟩ := eA h0
  refine dD (fr' := [(1, .ref 0 0 0 0), (14, .bool b6)]) (hp' := [(0, ⟨0, true, true, 4, [[.str vx1.Key, .str vx1.Val, .bool vx1.Dead, .int .i64 vx1.Seq]]⟩)]) [0] 168 [1, 14] (fun _ => none) rfl (fun Kt hK => by
    cases hg7 : vx1.Dead with
    | false =>
     replace hb6 := vA hb6 hg7
     have hqb6 := Option.some.inj hb6
     subst hqb6
     simp (maxSteps := 1000000) only [↓reduceIte, reduceCtorEq, Nat.reduceEqDiff, Nat.reduceLT, Nat.reduceLeDiff, Nat.reduceAdd, Nat.reduceMul, Int.reduceToNat, push_cast, ↓hg7]
     try simp only [↓hg7] at hK
     all_goals exact rU
    | true =>
     replace hb6 := iB hb6 hg7
     have hqb6 := Option.some.inj hb6
     subst hqb6
     simp (maxSteps := 1000000) only [↓reduceIte, reduceCtorEq, Nat.reduceEqDiff, Nat.reduceLT, Nat.reduceLeDiff, Nat.reduceAdd, Nat.reduceMul, Int.reduceToNat, push_cast, ↓hg7]
     try simp only [↓hg7] at hK
     all_goals exact rU) ?_
  refine xI h0 rfl (fun h0 hb8 => ?_) (fun h0 hb8 => ?_)
  ·
   refine xS 176 [2] ?_
   refine jA (kC (mA ?_))
   obtain rfl := Option.some.inj h0
   refine nA [] ?_
   exact rG
  ·
   obtain ⟨b9, hb9, h0⟩ := eA h0
   refine dD (fr' := [(22, .bool b9)]) (hp' := [(0, ⟨0, true, true, 4, [[.str vx1.Key, .str vx1.Val, .bool vx1.Dead, .int .i64 vx1.Seq]]⟩)]) [0] 240 [22] (fun _ => none) rfl (fun Kt hK => by
     cases hg10 : (decide (vx1.Seq < 1)) with
     | false =>
      replace hb9 := vA hb9 hg10
      have hqb9 := Option.some.inj hb9
      subst hqb9
      simp (maxSteps := 1000000) only [↓reduceIte, reduceCtorEq, Nat.reduceEqDiff, Nat.reduceLT, Nat.reduceLeDiff, Nat.reduceAdd, Nat.reduceMul, Int.reduceToNat, push_cast, ↓hg10]
      try simp only [↓hg10] at hK
      all_goals exact rU
     | true =>
      replace hb9 := iB hb9 hg10
      have hqb9 := Option.some.inj hb9
      subst hqb9
      simp (maxSteps := 1000000) only [↓reduceIte, reduceCtorEq, Nat.reduceEqDiff, Nat.reduceLT, Nat.reduceLeDiff, Nat.reduceAdd, Nat.reduceMul, Int.reduceToNat, push_cast, ↓hg10]
      try simp only [↓hg10] at hK
      all_goals exact rU) ?_
   refine xI h0 rfl (fun h0 hb11 => ?_) (fun h0 hb11 => ?_)
   ·
    refine xS 248 [2] ?_
    refine jA (kC (mA ?_))
    obtain rfl := Option.some.inj h0
    refine nA [] ?_
    exact rG
   ·
    refine qA (cC (gA ?_))
    refine xS 248 [2] ?_
    refine jA ?_
    obtain rfl := Option.some.inj h0
    refine nA [] ?_
    exact rG
theorem zct {fu : Nat} {l1 : List aA} {r : Int × Int} (h0 : pJ fu l1 = some r) : lB Try.prog 74 [.psl 4 (l1.map aA.enc)] (.tup [.int .i64 r.1, .int .i64 r.2]) [] := by
 refine sB Try.func74 rfl (by decide) rL ?_
 dsimp only [Try.f74]
 rw [pJ] at h0
 refine (show pA _ _ _ _ ⟨kB 0 _, [], 0, []⟩ from ?_)
 refine xS 16 [0] ?_
 refine kA ?_
 refine xS 40 [0, 9] ?_
 refine xI h0 rfl (fun h0 hb2 => ?_) (fun h0 hb2 => ?_)
 ·
  refine xS 56 [2, 3] ?_
  refine jA (mA ?_)
  obtain rfl := Option.some.inj h0
  refine nA [] ?_
  exact rG
 ·
  refine qA (gA (kA ?_))
  refine xS 64 [0, 10, 11, 12] ?_
  obtain ⟨x16, hxx16, h0⟩ := eA h0
  refine lD (fun s' => ∃ o26 : Unit, x16 = .inl o26 ∧ s'.nx ≤ 72 ∧ LeN [] s' ⟨[], [], 72, []⟩) ?_ ?_
  ·
   intro s' hs
   obtain ⟨o26, rfl, hn, hs⟩ := hs
   refine gA ?_
   refine zB [] hn hs ?_
   refine xS 88 [2, 3] ?_
   refine jA ?_
   obtain rfl := Option.some.inj h0
   refine nA [] ?_
   exact rG
  ·
   refine kD (ι := { p : Nat × Int // qF l1 p.1 p.2 = some x16 }) (fun p => ⟨[(0, .psl 4 (List.map aA.enc l1)), (10, .psl 4 (List.map aA.enc l1)), (11, .int .i64 (l1.length : Int)), (12, .int .i64 p.1.2)], [], 64, []⟩) (fun p => p.1.1) ⟨(fu, 0), hxx16⟩ ⟨rF, rE, rfl, rfl, trivial, trivial⟩ (fun _ => Nat.le_refl _) ?_
   rintro ⟨⟨fu, v17⟩, h1⟩
   cases fu with
   | zero =>
   replace h1 : qF l1 0 v17 = some x16 := h1
   rw [qF] at h1; cases h1
   | succ fu =>
    replace h1 : qF l1 (fu + 1) v17 = some x16 := h1
    rw [qF] at h1
    refine (show pA _ _ _ _ ⟨[(0, .psl 4 (List.map aA.enc l1)), (10, .psl 4 (List.map aA.enc l1)), (11, .int .i64 (l1.length : Int)), (12, .int .i64 v17)], [], 64, []⟩ from ?_)
    refine xS 72 [0, 10, 11, 12, 13] ?_
    refine kA ?_
    refine xI h1 rfl (fun h1 hb18 => ?_) (fun h1 hb18 => ?_)
    ·
     refine qA (gA (kA (jC ?_)))
     obtain ⟨e19, he19, h1⟩ := eA h1
     obtain ⟨he19a, he19b, he19c⟩ := fB he19
     refine oA 120 [0, 4, 5, 10, 11, 12] (fun _ => none) rfl (fun _ _ => rS (rA he19a (rA he19b he19c))) ?_
     refine kA ?_
     obtain ⟨vr20, hvr20, h1⟩ := eA h1
     refine oA 144 [0, 4, 5, 6, 10, 11, 12] (fun | 1 => some (.int .i64 vr20, []) | _ => none) rfl (fun _ _ => rB (rA he19a (rA he19b he19c)) (zag hvr20)) ?_
     refine oA 160 [0, 4, 5, 6, 10, 11, 12, 20] (fun _ => none) rfl (fun _ _ => rS (rA he19a (rA he19b he19c))) ?_
     refine xI h1 rfl (fun h1 hb21 => ?_) (fun h1 hb21 => ?_)
     ·
      refine oA 192 [2, 3] (fun _ => none) rfl (fun _ _ => rS (rA he19a (rA he19b he19c))) ?_
      refine jA ?_
      obtain rfl := Option.some.inj h1
      refine mA (kC (mA (mA (uD (mA ?_)))))
      obtain rfl := Option.some.inj h0
      refine nA [] ?_
      simp (maxSteps := 1000000) only [↓reduceIte, reduceCtorEq, Nat.reduceEqDiff, Nat.reduceLT, Nat.reduceLeDiff, Nat.reduceAdd, Nat.reduceMul, Int.reduceToNat, push_cast, lC, he19a, he19b, he19c]
      all_goals exact rH
     ·
      refine qA (gA ?_)
      obtain ⟨b23, hb23, h1⟩ := eA h1
      refine uY (fr' := [(0, .psl 4 (List.map aA.enc l1)), (4, .int .i64 v17), (10, .psl 4 (List.map aA.enc l1)), (11, .int .i64 (l1.length : Int)), (12, .int .i64 v17), (35, .bool b23)]) (hp' := [(96, ⟨0, true, true, 4, [[.str e19.Key, .str e19.Val, .bool e19.Dead, .int .i64 e19.Seq]]⟩)]) [96] 264 [0, 4, 10, 11, 12, 35] (fun _ => none) rfl rfl rfl (fun Kt hK => by
        cases hg24 : (decide (0 < v17)) with
        | false =>
         replace hb23 := vA hb23 hg24
         have hqb23 := Option.some.inj hb23
         subst hqb23
         simp (maxSteps := 1000000) only [↓reduceIte, reduceCtorEq, Nat.reduceEqDiff, Nat.reduceLT, Nat.reduceLeDiff, Nat.reduceAdd, Nat.reduceMul, Int.reduceToNat, push_cast, he19a, he19b, he19c, ↓hg24]
         try simp only [↓hg24] at hK
         all_goals exact dP
        | true =>
         replace hb23 := iB hb23 hg24
         obtain ⟨e22, he22, hb23⟩ := eA hb23
         obtain ⟨he22a, he22b, he22c⟩ := fB he22
         have hqb23 := Option.some.inj hb23
         subst hqb23
         simp (maxSteps := 1000000) only [↓reduceIte, reduceCtorEq, Nat.reduceEqDiff, Nat.reduceLT, Nat.reduceLeDiff, Nat.reduceAdd, Nat.reduceMul, Int.reduceToNat, push_cast, he19a, he19b, he19c, ↓hg24, he22a, he22b, he22c, he22]
         try simp only [↓hg24] at hK
         all_goals exact dP) ?_
      refine xI h1 rfl (fun h1 hb25 => ?_) (fun h1 hb25 => ?_)
      ·
       refine oA 288 [2, 3] (fun _ => none) rfl (fun _ _ => rS (rA he19a (rA he19b he19c))) ?_
       refine jA ?_
       obtain rfl := Option.some.inj h1
       refine kC (mA (mA (uD (mA ?_))))
       obtain rfl := Option.some.inj h0
       refine nA [] ?_
       simp (maxSteps := 1000000) only [↓reduceIte, reduceCtorEq, Nat.reduceEqDiff, Nat.reduceLT, Nat.reduceLeDiff, Nat.reduceAdd, Nat.reduceMul, Int.reduceToNat, push_cast, lC, he19a, he19b, he19c]
       all_goals exact rH
      ·
       refine qA (cC (gA ?_))
       refine iC 280 [0, 10, 11, 12] (fun _ => none) rfl (fun _ _ => rS (rA he19a (rA he19b he19c))) ?_
       refine gA ?_
       exact ⟨⟨(fu, (IntKind.i64.wrap (v17 + 1))), h1⟩, ⟨rF, rE, rfl, rfl, trivial, trivial⟩, Nat.lt_succ_self _⟩
    ·
     refine vC (jB (jB (bD ?_)))
     obtain rfl := Option.some.inj h1
     exact ⟨_, rfl, rL, ⟨rF, rE, rfl, rfl, trivial, trivial⟩⟩
theorem zjS {fu : Nat} {vr1 : eB} {r : Int × Int} (h0 : uR fu vr1 = some r) : lB Try.prog 56 [.agg (eB.enc vr1)] (.tup [.int .i64 r.1, .int .i64 r.2]) [] := by
 refine sB Try.func56 rfl (by decide) rL ?_
 dsimp only [Try.f56]
 rw [uR] at h0
 refine (show pA _ _ _ _ ⟨kB 0 _, [], 0, []⟩ from ?_)
 refine xS 24 [1] ?_
 refine kA ?_
 obtain ⟨b2, hb2, h0⟩ := eA h0
 refine dD (fr' := [(1, .ref 0 0 0 0), (11, .bool b2)]) (hp' := [(0, ⟨0, true, true, 2, [[.int .i64 vr1.Id, .psl 4 (List.map aA.enc vr1.Entries)]]⟩)]) [0] 88 [1, 11] (fun _ => none) rfl (fun Kt hK => by
   cases hg3 : (decide (vr1.Id < 1)) with
   | false =>
    replace hb2 := vA hb2 hg3
    have hqb2 := Option.some.inj hb2
    subst hqb2
    simp (maxSteps := 1000000) only [↓reduceIte, reduceCtorEq, Nat.reduceEqDiff, Nat.reduceLT, Nat.reduceLeDiff, Nat.reduceAdd, Nat.reduceMul, Int.reduceToNat, push_cast, ↓hg3]
    try simp only [↓hg3] at hK
    all_goals exact rU
   | true =>
    replace hb2 := iB hb2 hg3
    have hqb2 := Option.some.inj hb2
    subst hqb2
    simp (maxSteps := 1000000) only [↓reduceIte, reduceCtorEq, Nat.reduceEqDiff, Nat.reduceLT, Nat.reduceLeDiff, Nat.reduceAdd, Nat.reduceMul, Int.reduceToNat, push_cast, ↓hg3]
    try simp only [↓hg3] at hK
    all_goals exact rU) ?_
 refine xI h0 rfl (fun h0 hb4 => ?_) (fun h0 hb4 => ?_)
 ·
  refine xS 104 [2, 3] ?_
  refine jA (mA ?_)
  obtain rfl := Option.some.inj h0
  refine nA [] ?_
  exact rG
 ·
  refine qA (gA ?_)
  obtain ⟨vr5, hvr5, h0⟩ := eA h0
  refine oA 144 [2, 3] (fun | 2 => some (.tup [.int .i64 vr5.1, .int .i64 vr5.2], []) | _ => none) rfl (fun _ _ => rC (zct hvr5)) ?_
  refine jA ?_
  obtain rfl := Option.some.inj h0
  refine nA [] ?_
  exact rG
theorem zkA {fu : Nat} {vr1 : eB} {most2 : Int} {r : Int} (h0 : qQ fu vr1 most2 = some r) : lB Try.prog 40 [.agg (eB.enc vr1), .int .i64 most2] (.int .i64 r) [] := by
 refine sB Try.func40 rfl (by decide) rL ?_
 dsimp only [Try.f40]
 rw [qQ] at h0
 refine (show pA _ _ _ _ ⟨kB 0 _, [], 0, []⟩ from ?_)
 refine xS 16 [1, 2] ?_
 refine kA ?_
 obtain ⟨vr3, hvr3, h0⟩ := eA h0
 refine oA 72 [1, 2, 6] (fun | 1 => some (.tup [.int .i64 vr3.1, .int .i64 vr3.2], []) | _ => none) rfl (fun _ _ => rC (zjS hvr3)) ?_
 refine xS 88 [1, 2, 6, 14] ?_
 refine xI h0 rfl (fun h0 hb4 => ?_) (fun h0 hb4 => ?_)
 ·
  refine xS 104 [4] ?_
  refine jA (mA ?_)
  obtain rfl := Option.some.inj h0
  refine nA [] ?_
  exact rG
 ·
  refine qA (gA (kA ?_))
  refine xS 120 [1, 7] ?_
  refine jC ?_
  refine xS 144 [1, 7, 19] ?_
  refine xI h0 rfl (fun h0 hb5 => ?_) (fun h0 hb5 => ?_)
  ·
   refine xS 152 [4] ?_
   refine jA (kC (mA ?_))
   obtain rfl := Option.some.inj h0
   refine nA [] ?_
   exact rG
  ·
   refine xS 176 [22] ?_
   refine xI h0 rfl (fun h0 hb6 => ?_) (fun h0 hb6 => ?_)
   ·
    refine xS 184 [4] ?_
    refine jA (kC (mA ?_))
    obtain rfl := Option.some.inj h0
    refine nA [] ?_
    exact rG
   ·
    refine qA (cC (gA ?_))
    refine xS 184 [4] ?_
    refine jA ?_
    obtain rfl := Option.some.inj h0
    refine nA [] ?_
    exact rG
theorem zdy {fu : Nat} {l1 : dB} {r : Int × Int × Int} (h0 : lJ fu l1 = some r) : lB Try.prog 20 [.agg (dB.enc l1)] (.tup [.int .i64 r.1, .int .i64 r.2.1, .int .i64 r.2.2]) [] := by
 refine zgQ Try.func20 rfl (by decide) rL ?_
 dsimp only [Try.f20]
 rw [lJ] at h0
 refine (show zO _ _ _ _ ⟨kB 0 _, [], 0, []⟩ from ?_)
 refine zbK ?_
 refine xR 32 [1, 2, 3, 4] ?_
 refine gA (zhy (zbK (jC ?_)))
 obtain ⟨b2, hb2, h0⟩ := eA h0
 refine dD (fr' := [(1, .ref 0 0 0 0), (2, .int .i64 0), (3, .int .i64 0), (4, .int .i64 0), (11, .bool b2)]) (hp' := [(0, ⟨0, true, true, 2, [[.int .i64 l1.B, .psl 1 (List.map sA.enc l1.Levels)]]⟩)]) [0] 104 [1, 2, 3, 4, 11] (fun _ => none) rfl (fun Kt hK => by
   cases hg3 : (decide (l1.B < 1)) with
   | false =>
    replace hb2 := vA hb2 hg3
    have hqb2 := Option.some.inj hb2
    subst hqb2
    simp (maxSteps := 1000000) only [↓reduceIte, reduceCtorEq, Nat.reduceEqDiff, Nat.reduceLT, Nat.reduceLeDiff, Nat.reduceAdd, Nat.reduceMul, Int.reduceToNat, push_cast, ↓hg3]
    try simp only [↓hg3] at hK
    all_goals exact rU
   | true =>
    replace hb2 := iB hb2 hg3
    have hqb2 := Option.some.inj hb2
    subst hqb2
    simp (maxSteps := 1000000) only [↓reduceIte, reduceCtorEq, Nat.reduceEqDiff, Nat.reduceLT, Nat.reduceLeDiff, Nat.reduceAdd, Nat.reduceMul, Int.reduceToNat, push_cast, ↓hg3]
    try simp only [↓hg3] at hK
    all_goals exact rU) ?_
 refine xI h0 rfl (fun h0 hb4 => ?_) (fun h0 hb4 => ?_)
 ·
  refine xS 128 [2, 3, 4] ?_
  refine jA (kC (mA ?_))
  obtain rfl := Option.some.inj h0
  refine nA [] ?_
  exact rG
 ·
  refine xS 144 [1, 2, 3, 4, 20] ?_
  refine xI h0 rfl (fun h0 hb5 => ?_) (fun h0 hb5 => ?_)
  ·
   refine xS 168 [2, 3, 4] ?_
   refine jA (kC (mA ?_))
   obtain rfl := Option.some.inj h0
   refine nA [] ?_
   exact rG
  ·
   refine qA (cC (gA (zbK ?_)))
   refine sV 2 rfl ?_
   refine fC (l' := 0 :: (List.range' 1 1 ++ [])) rfl ?_
   refine zjf rfl rfl rfl rfl ?_
   refine iJ (s2 := ⟨[(1, .ref 0 0 0 0), (2, .int .i64 0), (3, .int .i64 0), (4, .int .i64 0), (20, .bool (decide (12 < (l1.Levels.length : Int)))), (25, .mp 144)], [(0, ⟨0, true, true, 2, [[.int .i64 l1.B, .psl 1 (List.map sA.enc l1.Levels)]]⟩)], 152, [(144, (aF (eE (fun n : Int => AV.int .i64 n) AV.bool ([] : List (Int × Bool)))))]⟩) [] rL ⟨rF, rE, rfl, rfl, (dC.consM rL rfl trivial), trivial⟩ ?_
   refine fC (l' := List.range' 1 1 ++ []) rfl ?_
   refine pC 1 1 160 [] (fun _ => none) rfl rfl rfl (fun _ _ => rT) ?_
   refine mD ?_
   refine gA ?_
   refine fwp_re (s2 := ⟨[(1, .ref 0 0 0 0), (2, .int .i64 0), (3, .int .i64 0), (4, .int .i64 0), (5, .mp 144)], [(0, ⟨0, true, true, 2, [[.int .i64 l1.B, .psl 1 (List.map sA.enc l1.Levels)]]⟩)], 160, [(144, (aF (eE (fun n : Int => AV.int .i64 n) AV.bool ([] : List (Int × Bool)))))]⟩) [] rL ⟨rF, rE, rfl, rfl, (dC.consM rL rfl trivial), trivial⟩ ?_
   refine zgw (l := 144) rfl rfl rfl rfl rfl rfl rfl rfl rL rfl rfl rfl rfl rfl cY ?_
   refine zB (s2 := ⟨[(1, .ref 0 0 0 0), (2, .int .i64 0), (3, .int .i64 0), (4, .int .i64 0), (5, .mp 144)], [(0, ⟨0, true, true, 2, [[.int .i64 l1.B, .psl 1 (List.map sA.enc l1.Levels)]]⟩)], 160, [(144, (aF (eE (fun n : Int => AV.int .i64 n) AV.bool ([] : List (Int × Bool)))))]⟩) [] rL ⟨rF, rE, rfl, rfl, (dC.consM rL rfl trivial), trivial⟩ ?_
   refine kA ?_
   refine zc7 ?_
   refine gA (kA ?_)
   refine xS 192 [1, 2, 3, 4, 5, 28, 29, 30] ?_
   obtain ⟨x162, hxx162, h0⟩ := eA h0
   refine lD (fun s' => s'.nx ≤ 552 ∧ LeN [] s' ⟨[(1, .ref 0 0 0 0), (2, .int .i64 x162.1), (3, .int .i64 x162.2.1), (4, .int .i64 x162.2.2.1)], [(0, ⟨0, true, true, 2, [[.int .i64 l1.B, .psl 1 (List.map sA.enc l1.Levels)]]⟩)], 552, [(144, (aF (eE (fun n : Int => AV.int .i64 n) AV.bool x162.2.2.2)))]⟩) ?_ ?_
   ·
    intro s' hs
    obtain ⟨hn, hs⟩ := hs
    refine gA ?_
    refine zB [] hn hs ?_
    refine kA ?_
    refine xS 568 [1, 2, 3, 4, 71] ?_
    refine xI h0 rfl (fun h0 hb217 => ?_) (fun h0 hb217 => ?_)
    ·
     refine xS 616 [2, 3, 4] ?_
     refine jA (mA (zbz rfl rfl ?_))
     obtain rfl := Option.some.inj h0
     refine nA [] ?_
     exact rG
    ·
     refine qA (gA (kA ?_))
     refine xS 600 [1, 10] ?_
     obtain ⟨b219, hb219, h0⟩ := eA h0
     refine dD (fr' := [(10, .int .i64 (l1.Levels.length : Int)), (90, .bool b219)]) (hp' := [(0, ⟨0, true, true, 2, [[.int .i64 l1.B, .psl 1 (List.map sA.enc l1.Levels)]]⟩)]) [0, 144] 704 [10, 90] (fun _ => none) rfl (fun Kt hK => by
       cases hg220 : (decide (0 < (l1.Levels.length : Int))) with
       | false =>
        replace hb219 := vA hb219 hg220
        have hqb219 := Option.some.inj hb219
        subst hqb219
        simp (maxSteps := 1000000) only [↓reduceIte, reduceCtorEq, Nat.reduceEqDiff, Nat.reduceLT, Nat.reduceLeDiff, Nat.reduceAdd, Nat.reduceMul, Int.reduceToNat, push_cast, ↓hg220]
        try simp only [↓hg220] at hK
        all_goals exact rU
       | true =>
        replace hb219 := iB hb219 hg220
        obtain ⟨e218, he218, hb219⟩ := eA hb219
        obtain ⟨he218a, he218b, he218c⟩ := fB he218
        have hqb219 := Option.some.inj hb219
        subst hqb219
        simp (maxSteps := 1000000) only [↓reduceIte, reduceCtorEq, Nat.reduceEqDiff, Nat.reduceLT, Nat.reduceLeDiff, Nat.reduceAdd, Nat.reduceMul, Int.reduceToNat, push_cast, ↓hg220, he218a, he218b, he218c, he218]
        try simp only [↓hg220] at hK
        all_goals exact rU) ?_
     refine xI h0 rfl (fun h0 hb221 => ?_) (fun h0 hb221 => ?_)
     ·
      refine xS 744 [2, 3, 4] ?_
      refine jA (mA (zbz rfl rfl ?_))
      obtain rfl := Option.some.inj h0
      refine nA [] ?_
      exact rG
     ·
      refine qA (gA ?_)
      refine xS 728 [2, 3, 4] ?_
      refine jA (zbz rfl rfl ?_)
      obtain rfl := Option.some.inj h0
      refine nA [] ?_
      exact rG
   ·
    refine kD (ι := { p : Nat × Int × Int × Int × (List (Int × Bool)) × Int // dG l1 p.1 p.2.1 p.2.2.1 p.2.2.2.1 p.2.2.2.2.1 p.2.2.2.2.2 = some x162 }) (fun p => ⟨[(1, .ref 0 0 0 0), (2, .int .i64 p.1.2.2.2.2.2), (3, .int .i64 p.1.2.1), (4, .int .i64 p.1.2.2.1), (5, .mp 144), (28, .psl 1 (List.map sA.enc l1.Levels)), (29, .int .i64 (l1.Levels.length : Int)), (30, .int .i64 p.1.2.2.2.1)], [(0, ⟨0, true, true, 2, [[.int .i64 l1.B, .psl 1 (List.map sA.enc l1.Levels)]]⟩)], 192, [(144, (aF (eE (fun n : Int => AV.int .i64 n) AV.bool p.1.2.2.2.2.1)))]⟩) (fun p => p.1.1) ⟨(fu, 0, 0, 0, ([] : List (Int × Bool)), 0), hxx162⟩ ⟨rF, rE, rfl, rfl, (dC.consM rL rfl trivial), trivial⟩ (fun _ => Nat.le_refl _) ?_
    rintro ⟨⟨fu, run163, e164, v165, v166, level167⟩, h1⟩
    cases fu with
    | zero =>
   replace h1 : dG l1 0 run163 e164 v165 v166 level167 = some x162 := h1
   rw [dG] at h1; cases h1
    | succ fu =>
     replace h1 : dG l1 (fu + 1) run163 e164 v165 v166 level167 = some x162 := h1
     rw [dG] at h1
     refine (show pA _ _ _ _ ⟨[(1, .ref 0 0 0 0), (2, .int .i64 level167), (3, .int .i64 run163), (4, .int .i64 e164), (5, .mp 144), (28, .psl 1 (List.map sA.enc l1.Levels)), (29, .int .i64 (l1.Levels.length : Int)), (30, .int .i64 v165)], [(0, ⟨0, true, true, 2, [[.int .i64 l1.B, .psl 1 (List.map sA.enc l1.Levels)]]⟩)], 192, [(144, (aF (eE (fun n : Int => AV.int .i64 n) AV.bool v166)))]⟩ from ?_)
     refine xS 200 [1, 2, 3, 4, 5, 28, 29, 30, 31] ?_
     refine kA ?_
     refine xI h1 rfl (fun h1 hb168 => ?_) (fun h1 hb168 => ?_)
     ·
      refine qA (gA (kA (jC ?_)))
      obtain ⟨e169, he169, h1⟩ := eA h1
      obtain ⟨he169a, he169b, he169c⟩ := fB he169
      refine oA 248 [1, 4, 5, 6, 7, 28, 29, 30] (fun _ => none) rfl (fun _ _ => rS (rA he169a (rA he169b he169c))) ?_
      refine oA 272 [1, 2, 3, 4, 5, 6, 7, 28, 29, 30] (fun _ => none) rfl (fun _ _ => rS (rA he169a (rA he169b he169c))) ?_
      refine kA ?_
      refine oA 304 [1, 2, 3, 4, 5, 6, 7, 28, 29, 30, 39] (fun _ => none) rfl (fun _ _ => rS (rA he169a (rA he169b he169c))) ?_
      refine xI h1 rfl (fun h1 hb170 => ?_) (fun h1 hb170 => ?_)
      ·
       refine oA 312 [1, 2, 3, 4] (fun _ => none) rfl (fun _ _ => rS (rA he169a (rA he169b he169c))) ?_
       refine vC (jB (nQ (by decide) (jB (jB (bD ?_)))))
       obtain rfl := Option.some.inj h1
       exact ⟨rL, ⟨rF, rE, rfl, rfl, (dC.consM rL rfl trivial), trivial⟩⟩
      ·
       refine qA (gA ?_)
       refine oA 336 [1, 2, 3, 4, 5, 6, 28, 29, 30, 41, 42, 43] (fun _ => none) rfl (fun _ _ => rS (rA he169a (rA he169b he169c))) ?_
       obtain ⟨x202, hxx202, h1⟩ := eA h1
       refine lD (fun s' => ∃ o215 : Int × Int × (List (Int × Bool)), x202 = .inl o215 ∧ s'.nx ≤ 344 ∧ LeN [] s' ⟨[(1, .ref 0 0 0 0), (2, .int .i64 v165), (3, .int .i64 o215.1), (4, .int .i64 o215.2.1), (5, .mp 144), (28, .psl 1 (List.map sA.enc l1.Levels)), (29, .int .i64 (l1.Levels.length : Int)), (30, .int .i64 v165)], [(0, ⟨0, true, true, 2, [[.int .i64 l1.B, .psl 1 (List.map sA.enc l1.Levels)]]⟩)], 344, [(144, (aF (eE (fun n : Int => AV.int .i64 n) AV.bool o215.2.2)))]⟩) ?_ ?_
       ·
        intro s' hs
        obtain ⟨o215, rfl, hn, hs⟩ := hs
        refine cC (gA ?_)
        refine zB [] hn hs ?_
        refine iC 360 [1, 2, 3, 4, 5, 28, 29, 30] (fun _ => none) rfl (fun _ _ => rS (rA he169a (rA he169b he169c))) ?_
        refine gA ?_
        exact ⟨⟨(fu, o215.1, o215.2.1, (IntKind.i64.wrap (v165 + 1)), o215.2.2, v165), h1⟩, ⟨rF, rE, rfl, rfl, (dC.consM rL rfl trivial), trivial⟩, Nat.lt_succ_self _⟩
       ·
        refine kD (ι := { p : Nat × Int × Int × (List (Int × Bool)) × Int // sF e169 v165 l1 p.1 p.2.1 p.2.2.1 p.2.2.2.1 p.2.2.2.2 = some x202 }) (fun p => ⟨[(1, .ref 0 0 0 0), (2, .int .i64 v165), (3, .int .i64 p.1.2.2.2.2), (4, .int .i64 p.1.2.1), (5, .mp 144), (6, .int .i64 v165), (28, .psl 1 (List.map sA.enc l1.Levels)), (29, .int .i64 (l1.Levels.length : Int)), (30, .int .i64 v165), (41, .psl 2 (List.map eB.enc e169.Runs)), (42, .int .i64 (e169.Runs.length : Int)), (43, .int .i64 p.1.2.2.1)], [(0, ⟨0, true, true, 2, [[.int .i64 l1.B, .psl 1 (List.map sA.enc l1.Levels)]]⟩)], 336, [(144, (aF (eE (fun n : Int => AV.int .i64 n) AV.bool p.1.2.2.2.1)))]⟩) (fun p => p.1.1) ⟨(fu, e164, 0, v166, 0), hxx202⟩ ⟨rF, rE, rfl, rfl, (dC.consM rL rfl trivial), trivial⟩ (fun _ => Nat.le_refl _) ?_
        rintro ⟨⟨fu, e203, v204, v205, run206⟩, h2⟩
        cases fu with
        | zero =>
   replace h2 : sF e169 v165 l1 0 e203 v204 v205 run206 = some x202 := h2
   rw [sF] at h2; cases h2
        | succ fu =>
         replace h2 : sF e169 v165 l1 (fu + 1) e203 v204 v205 run206 = some x202 := h2
         rw [sF] at h2
         refine (show pA _ _ _ _ ⟨[(1, .ref 0 0 0 0), (2, .int .i64 v165), (3, .int .i64 run206), (4, .int .i64 e203), (5, .mp 144), (6, .int .i64 v165), (28, .psl 1 (List.map sA.enc l1.Levels)), (29, .int .i64 (l1.Levels.length : Int)), (30, .int .i64 v165), (41, .psl 2 (List.map eB.enc e169.Runs)), (42, .int .i64 (e169.Runs.length : Int)), (43, .int .i64 v204)], [(0, ⟨0, true, true, 2, [[.int .i64 l1.B, .psl 1 (List.map sA.enc l1.Levels)]]⟩)], 336, [(144, (aF (eE (fun n : Int => AV.int .i64 n) AV.bool v205)))]⟩ from ?_)
         refine oA 344 [1, 2, 3, 4, 5, 6, 28, 29, 30, 41, 42, 43, 44] (fun _ => none) rfl (fun _ _ => rS (rA he169a (rA he169b he169c))) ?_
         refine kA ?_
         refine xI h2 rfl (fun h2 hb207 => ?_) (fun h2 hb207 => ?_)
         ·
          refine qA (gA (kA (jC ?_)))
          obtain ⟨e208, he208, h2⟩ := eA h2
          obtain ⟨he208a, he208b, he208c⟩ := fB he208
          refine oA 392 [1, 2, 5, 6, 8, 9, 28, 29, 30, 41, 42, 43] (fun _ => none) rfl (fun _ _ => rS (rA he169a (rA he169b (rA he169c (rA he208a (rA he208b he208c)))))) ?_
          refine oA 408 [1, 2, 3, 5, 6, 9, 28, 29, 30, 41, 42, 43] (fun _ => none) rfl (fun _ _ => rS (rA he169a (rA he169b (rA he169c (rA he208a (rA he208b he208c)))))) ?_
          refine kA ?_
          obtain ⟨hc209, h2⟩ := cF h2
          obtain ⟨vr210, hvr210, h2⟩ := eA h2
          refine jD 464 [1, 2, 3, 4, 5, 6, 9, 28, 29, 30, 41, 42, 43] (fun | 5 => some (.int .i64 vr210, []) | _ => none) rfl rfl rfl (fun _ _ => cQ (rA he169a (rA he169b (rA he169c (rA he208a (rA he208b he208c))))) (zkA hvr210)) ?_
          refine mH 8 rfl ?_
          refine fC (l' := List.range' 0 3 ++ (List.range' 3 5 ++ [])) rfl ?_
          refine pC 0 3 488 (List.range' 3 5 ++ []) (fun _ => none) rfl rfl rfl (fun _ _ => rS (rA he169a (rA he169b (rA he169c (rA he208a (rA he208b he208c)))))) ?_
          refine iJ (s2 := ⟨[(1, .ref 0 0 0 0), (2, .int .i64 v165), (3, .int .i64 v204), (4, .int .i64 vr210), (5, .mp 144), (6, .int .i64 v165), (9, .ref 368 0 0 0), (28, .psl 1 (List.map sA.enc l1.Levels)), (29, .int .i64 (l1.Levels.length : Int)), (30, .int .i64 v165), (41, .psl 2 (List.map eB.enc e169.Runs)), (42, .int .i64 (e169.Runs.length : Int)), (43, .int .i64 v204), (55, .int .i64 vr210), (56, .bool (decide (vr210 = 0))), (57, .bool (decide (vr210 = 0)))], [(0, ⟨0, true, true, 2, [[.int .i64 l1.B, .psl 1 (List.map sA.enc l1.Levels)]]⟩), (368, ⟨0, true, true, 2, [[.int .i64 e208.Id, .psl 4 (List.map aA.enc e208.Entries)]]⟩)], 488, [(144, (aF (eE (fun n : Int => AV.int .i64 n) AV.bool v205)))]⟩) [] rL ⟨rF, rE, rfl, rfl, (dC.consM rL rfl trivial), trivial⟩ ?_
          generalize hg211 : (decide (vr210 = 0)) = b211
          cases b211 with
          | true =>
           replace h2 := iB h2 hg211
           refine fC (l' := List.range' 3 3 ++ (6 :: (List.range' 7 1 ++ []))) rfl ?_
           refine pC 3 3 512 (6 :: (List.range' 7 1 ++ [])) (fun _ => none) rfl rfl rfl (fun _ _ => rS (rA he169a (rA he169b (rA he169c (rA he208a (rA he208b he208c)))))) ?_
           refine zoY (l := 144) (ek := (fun n : Int => AV.int .i64 n)) (ev := AV.bool) (m := v205) (n := e208.Id) (z := false) rfl rfl rfl rfl cY xZ zoA (fun _ => rfl) rfl rfl rfl ?_
           refine iJ (s2 := ⟨[(1, .ref 0 0 0 0), (2, .int .i64 v165), (3, .int .i64 v204), (4, .int .i64 vr210), (5, .mp 144), (6, .int .i64 v165), (9, .ref 368 0 0 0), (28, .psl 1 (List.map sA.enc l1.Levels)), (29, .int .i64 (l1.Levels.length : Int)), (30, .int .i64 v165), (41, .psl 2 (List.map eB.enc e169.Runs)), (42, .int .i64 (e169.Runs.length : Int)), (43, .int .i64 v204), (55, .int .i64 vr210), (56, .bool true), (57, .bool true), (58, .mp 144), (59, .ref 368 0 0 0), (60, .int .i64 e208.Id), (61, .bool ((bF v205 e208.Id).getD false))], [(0, ⟨0, true, true, 2, [[.int .i64 l1.B, .psl 1 (List.map sA.enc l1.Levels)]]⟩), (368, ⟨0, true, true, 2, [[.int .i64 e208.Id, .psl 4 (List.map aA.enc e208.Entries)]]⟩)], 520, [(144, (aF (eE (fun n : Int => AV.int .i64 n) AV.bool v205)))]⟩) [] rL ⟨rF, rE, rfl, rfl, (dC.consM rL rfl trivial), trivial⟩ ?_
           refine fC (l' := List.range' 7 1 ++ []) rfl ?_
           refine pC 7 1 528 [] (fun _ => none) rfl rfl rfl (fun _ _ => rS (rA he169a (rA he169b (rA he169c (rA he208a (rA he208b he208c)))))) ?_
           refine mD ?_
           refine gA ?_
           refine zB (s2 := ⟨[(1, .ref 0 0 0 0), (2, .int .i64 v165), (3, .int .i64 v204), (4, .int .i64 vr210), (5, .mp 144), (6, .int .i64 v165), (9, .ref 368 0 0 0), (28, .psl 1 (List.map sA.enc l1.Levels)), (29, .int .i64 (l1.Levels.length : Int)), (30, .int .i64 v165), (41, .psl 2 (List.map eB.enc e169.Runs)), (42, .int .i64 (e169.Runs.length : Int)), (43, .int .i64 v204), (58, .mp 144), (59, .ref 368 0 0 0), (60, .int .i64 e208.Id), (61, .bool ((bF v205 e208.Id).getD false)), (62, .bool ((bF v205 e208.Id).getD false))], [(0, ⟨0, true, true, 2, [[.int .i64 l1.B, .psl 1 (List.map sA.enc l1.Levels)]]⟩), (368, ⟨0, true, true, 2, [[.int .i64 e208.Id, .psl 4 (List.map aA.enc e208.Entries)]]⟩)], 528, [(144, (aF (eE (fun n : Int => AV.int .i64 n) AV.bool v205)))]⟩) [] rL ⟨rF, rE, rfl, rfl, (dC.consM rL rfl trivial), trivial⟩ ?_
           refine xI h2 rfl (fun h2 hb212 => ?_) (fun h2 hb212 => ?_)
           ·
            refine iC 536 [1, 2, 3, 4, 5, 6, 9, 28, 29, 30, 41, 42, 43, 58, 59, 60, 61] (fun _ => none) rfl (fun _ _ => rS (rA he169a (rA he169b (rA he169c (rA he208a (rA he208b he208c)))))) ?_
            refine gA (kA ?_)
            refine oA 552 [1, 2, 3, 4, 5, 6, 9, 28, 29, 30, 41, 42, 43, 58, 59, 60, 61, 64] (fun _ => none) rfl (fun _ _ => rS (rA he169a (rA he169b (rA he169c (rA he208a (rA he208b he208c)))))) ?_
            refine wQ rfl ?_
            refine vC ?_
            obtain rfl := Option.some.inj h2
            refine jB (nQ (by decide) (jB (jB (zaC (by decide) (nQ (by decide) (jB (jB (bD ?_))))))))
            obtain rfl := Option.some.inj h1
            exact ⟨rL, ⟨rF, rE, rfl, rfl, (dC.consM rL rfl trivial), trivial⟩⟩
           ·
            refine qA (gA (kA ?_))
            refine oA 544 [1, 2, 3, 4, 5, 6, 9, 28, 29, 30, 41, 42, 43, 58, 59, 60, 61, 64] (fun _ => none) rfl (fun _ _ => rS (rA he169a (rA he169b (rA he169c (rA he208a (rA he208b he208c)))))) ?_
            refine xI h2 rfl (fun h2 hb213 => ?_) (fun h2 hb213 => ?_)
            ·
             refine vC ?_
             obtain rfl := Option.some.inj h2
             refine jB (nQ (by decide) (jB (jB (zaC (by decide) (nQ (by decide) (jB (jB (bD ?_))))))))
             obtain rfl := Option.some.inj h1
             exact ⟨rL, ⟨rF, rE, rfl, rfl, (dC.consM rL rfl trivial), trivial⟩⟩
            ·
             refine qA (gA ?_)
             refine sV 4 rfl ?_
             refine fC (l' := List.range' 0 3 ++ (3 :: (List.range' 4 0 ++ []))) rfl ?_
             refine pC 0 3 568 (3 :: (List.range' 4 0 ++ [])) (fun _ => none) rfl rfl rfl (fun _ _ => rS (rA he169a (rA he169b (rA he169c (rA he208a (rA he208b he208c)))))) ?_
             refine zdR (l := 144) (ek := (fun n : Int => AV.int .i64 n)) (ev := AV.bool) (m := v205) (n := e208.Id) (y := true) rfl rfl rfl rfl cY xZ (fun _ => rfl) rfl rfl rfl rfl ?_
             refine iJ (s2 := ⟨[(1, .ref 0 0 0 0), (2, .int .i64 v165), (3, .int .i64 v204), (4, .int .i64 vr210), (5, .mp 144), (6, .int .i64 v165), (9, .ref 368 0 0 0), (28, .psl 1 (List.map sA.enc l1.Levels)), (29, .int .i64 (l1.Levels.length : Int)), (30, .int .i64 v165), (41, .psl 2 (List.map eB.enc e169.Runs)), (42, .int .i64 (e169.Runs.length : Int)), (43, .int .i64 v204), (58, .mp 144), (59, .ref 368 0 0 0), (60, .int .i64 e208.Id), (61, .bool ((bF v205 e208.Id).getD false)), (64, .bool (!(decide (vr210 = 0)))), (65, .mp 144), (66, .ref 368 0 0 0), (67, .int .i64 e208.Id)], [(0, ⟨0, true, true, 2, [[.int .i64 l1.B, .psl 1 (List.map sA.enc l1.Levels)]]⟩), (368, ⟨0, true, true, 2, [[.int .i64 e208.Id, .psl 4 (List.map aA.enc e208.Entries)]]⟩)], 576, [(144, (aF (eE (fun n : Int => AV.int .i64 n) AV.bool (kF v205 e208.Id true))))]⟩) [] rL ⟨rF, rE, rfl, rfl, (dC.consM rL rfl trivial), trivial⟩ ?_
             refine fC (l' := []) rfl ?_
             refine mD ?_
             refine cC (gA ?_)
             refine zB (s2 := ⟨[(1, .ref 0 0 0 0), (2, .int .i64 v165), (3, .int .i64 v204), (4, .int .i64 vr210), (5, .mp 144), (6, .int .i64 v165), (28, .psl 1 (List.map sA.enc l1.Levels)), (29, .int .i64 (l1.Levels.length : Int)), (30, .int .i64 v165), (41, .psl 2 (List.map eB.enc e169.Runs)), (42, .int .i64 (e169.Runs.length : Int)), (43, .int .i64 v204), (58, .mp 144), (59, .ref 368 0 0 0), (60, .int .i64 e208.Id), (61, .bool ((bF v205 e208.Id).getD false))], [(0, ⟨0, true, true, 2, [[.int .i64 l1.B, .psl 1 (List.map sA.enc l1.Levels)]]⟩), (368, ⟨0, true, true, 2, [[.int .i64 e208.Id, .psl 4 (List.map aA.enc e208.Entries)]]⟩)], 576, [(144, (aF (eE (fun n : Int => AV.int .i64 n) AV.bool (kF v205 e208.Id true))))]⟩) [] rL ⟨rF, rE, rfl, rfl, (dC.consM rL rfl trivial), trivial⟩ ?_
             refine iC 592 [1, 2, 3, 4, 5, 6, 28, 29, 30, 41, 42, 43, 58, 59, 60, 61] (fun _ => none) rfl (fun _ _ => rS (rA he169a (rA he169b (rA he169c (rA he208a (rA he208b he208c)))))) ?_
             refine gA ?_
             exact ⟨⟨(fu, vr210, (IntKind.i64.wrap (v204 + 1)), (kF v205 e208.Id true), v204), h2⟩, ⟨rF, rE, rfl, rfl, (dC.consM rL rfl trivial), trivial⟩, Nat.lt_succ_self _⟩
          | false =>
           replace h2 := vA h2 hg211
           refine fC (l' := List.range' 3 5 ++ []) rfl ?_
           refine pC 3 5 528 [] (fun _ => none) rfl rfl rfl (fun _ _ => rS (rA he169a (rA he169b (rA he169c (rA he208a (rA he208b he208c)))))) ?_
           refine mD ?_
           refine gA ?_
           refine zB (s2 := ⟨[(1, .ref 0 0 0 0), (2, .int .i64 v165), (3, .int .i64 v204), (4, .int .i64 vr210), (5, .mp 144), (6, .int .i64 v165), (9, .ref 368 0 0 0), (28, .psl 1 (List.map sA.enc l1.Levels)), (29, .int .i64 (l1.Levels.length : Int)), (30, .int .i64 v165), (41, .psl 2 (List.map eB.enc e169.Runs)), (42, .int .i64 (e169.Runs.length : Int)), (43, .int .i64 v204), (62, .bool false)], [(0, ⟨0, true, true, 2, [[.int .i64 l1.B, .psl 1 (List.map sA.enc l1.Levels)]]⟩), (368, ⟨0, true, true, 2, [[.int .i64 e208.Id, .psl 4 (List.map aA.enc e208.Entries)]]⟩)], 528, [(144, (aF (eE (fun n : Int => AV.int .i64 n) AV.bool v205)))]⟩) [] rL ⟨rF, rE, rfl, rfl, (dC.consM rL rfl trivial), trivial⟩ ?_
           refine wF rfl ?_
           refine qA (gA (kA ?_))
           refine oA 544 [1, 2, 3, 4, 5, 6, 9, 28, 29, 30, 41, 42, 43, 64] (fun _ => none) rfl (fun _ _ => rS (rA he169a (rA he169b (rA he169c (rA he208a (rA he208b he208c)))))) ?_
           refine xI h2 rfl (fun h2 hb214 => ?_) (fun h2 hb214 => ?_)
           ·
            refine vC ?_
            obtain rfl := Option.some.inj h2
            refine jB (nQ (by decide) (jB (jB (zaC (by decide) (nQ (by decide) (jB (jB (bD ?_))))))))
            obtain rfl := Option.some.inj h1
            exact ⟨rL, ⟨rF, rE, rfl, rfl, (dC.consM rL rfl trivial), trivial⟩⟩
           ·
            refine qA (gA ?_)
            refine sV 4 rfl ?_
            refine fC (l' := List.range' 0 3 ++ (3 :: (List.range' 4 0 ++ []))) rfl ?_
            refine pC 0 3 568 (3 :: (List.range' 4 0 ++ [])) (fun _ => none) rfl rfl rfl (fun _ _ => rS (rA he169a (rA he169b (rA he169c (rA he208a (rA he208b he208c)))))) ?_
            refine zdR (l := 144) (ek := (fun n : Int => AV.int .i64 n)) (ev := AV.bool) (m := v205) (n := e208.Id) (y := true) rfl rfl rfl rfl cY xZ (fun _ => rfl) rfl rfl rfl rfl ?_
            refine iJ (s2 := ⟨[(1, .ref 0 0 0 0), (2, .int .i64 v165), (3, .int .i64 v204), (4, .int .i64 vr210), (5, .mp 144), (6, .int .i64 v165), (9, .ref 368 0 0 0), (28, .psl 1 (List.map sA.enc l1.Levels)), (29, .int .i64 (l1.Levels.length : Int)), (30, .int .i64 v165), (41, .psl 2 (List.map eB.enc e169.Runs)), (42, .int .i64 (e169.Runs.length : Int)), (43, .int .i64 v204), (64, .bool (!(decide (vr210 = 0)))), (65, .mp 144), (66, .ref 368 0 0 0), (67, .int .i64 e208.Id)], [(0, ⟨0, true, true, 2, [[.int .i64 l1.B, .psl 1 (List.map sA.enc l1.Levels)]]⟩), (368, ⟨0, true, true, 2, [[.int .i64 e208.Id, .psl 4 (List.map aA.enc e208.Entries)]]⟩)], 576, [(144, (aF (eE (fun n : Int => AV.int .i64 n) AV.bool (kF v205 e208.Id true))))]⟩) [] rL ⟨rF, rE, rfl, rfl, (dC.consM rL rfl trivial), trivial⟩ ?_
            refine fC (l' := []) rfl ?_
            refine mD ?_
            refine cC (gA ?_)
            refine zB (s2 := ⟨[(1, .ref 0 0 0 0), (2, .int .i64 v165), (3, .int .i64 v204), (4, .int .i64 vr210), (5, .mp 144), (6, .int .i64 v165), (28, .psl 1 (List.map sA.enc l1.Levels)), (29, .int .i64 (l1.Levels.length : Int)), (30, .int .i64 v165), (41, .psl 2 (List.map eB.enc e169.Runs)), (42, .int .i64 (e169.Runs.length : Int)), (43, .int .i64 v204)], [(0, ⟨0, true, true, 2, [[.int .i64 l1.B, .psl 1 (List.map sA.enc l1.Levels)]]⟩)], 576, [(144, (aF (eE (fun n : Int => AV.int .i64 n) AV.bool (kF v205 e208.Id true))))]⟩) [] rL ⟨rF, rE, rfl, rfl, (dC.consM rL rfl trivial), trivial⟩ ?_
            refine iC 592 [1, 2, 3, 4, 5, 6, 28, 29, 30, 41, 42, 43] (fun _ => none) rfl (fun _ _ => rS (rA he169a (rA he169b (rA he169c (rA he208a (rA he208b he208c)))))) ?_
            refine gA ?_
            exact ⟨⟨(fu, vr210, (IntKind.i64.wrap (v204 + 1)), (kF v205 e208.Id true), v204), h2⟩, ⟨rF, rE, rfl, rfl, (dC.consM rL rfl trivial), trivial⟩, Nat.lt_succ_self _⟩
         ·
          refine vC (jB (jB (bD ?_)))
          obtain rfl := Option.some.inj h2
          exact ⟨_, rfl, rL, ⟨rF, rE, rfl, rfl, (dC.consM rL rfl trivial), trivial⟩⟩
     ·
      refine vC (jB (jB (bD ?_)))
      obtain rfl := Option.some.inj h1
      exact ⟨rL, ⟨rF, rE, rfl, rfl, (dC.consM rL rfl trivial), trivial⟩⟩
theorem zdg {fu : Nat} {l1 : dB} {r : Int} (h0 : mM fu l1 = some r) : lB Try.prog 21 [.agg (dB.enc l1)] (.int .i64 r) [] := by
 refine sB Try.func21 rfl (by decide) rL ?_
 dsimp only [Try.f21]
 rw [mM] at h0
 refine (show pA _ _ _ _ ⟨kB 0 _, [], 0, []⟩ from ?_)
 refine xS 16 [1, 2] ?_
 refine kA ?_
 refine xS 48 [2, 8, 9, 10] ?_
 obtain ⟨x30, hxx30, h0⟩ := eA h0
 refine lD (fun s' => s'.nx ≤ 56 ∧ LeN [] s' ⟨[(2, .int .i64 x30)], [], 56, []⟩) ?_ ?_
 ·
  intro s' hs
  obtain ⟨hn, hs⟩ := hs
  refine gA ?_
  refine zB [] hn hs ?_
  refine xS 72 [2] ?_
  refine jA ?_
  obtain rfl := Option.some.inj h0
  refine nA [] ?_
  exact rG
 ·
  refine kD (ι := { p : Nat × Int × Int // wH l1 p.1 p.2.1 p.2.2 = some x30 }) (fun p => ⟨[(2, .int .i64 p.1.2.1), (8, .psl 1 (List.map sA.enc l1.Levels)), (9, .int .i64 (l1.Levels.length : Int)), (10, .int .i64 p.1.2.2)], [], 48, []⟩) (fun p => p.1.1) ⟨(fu, 0, 0), hxx30⟩ ⟨rF, rE, rfl, rfl, trivial, trivial⟩ (fun _ => Nat.le_refl _) ?_
  rintro ⟨⟨fu, best31, v32⟩, h1⟩
  cases fu with
  | zero =>
   replace h1 : wH l1 0 best31 v32 = some x30 := h1
   rw [wH] at h1; cases h1
  | succ fu =>
   replace h1 : wH l1 (fu + 1) best31 v32 = some x30 := h1
   rw [wH] at h1
   refine (show pA _ _ _ _ ⟨[(2, .int .i64 best31), (8, .psl 1 (List.map sA.enc l1.Levels)), (9, .int .i64 (l1.Levels.length : Int)), (10, .int .i64 v32)], [], 48, []⟩ from ?_)
   refine xS 56 [2, 8, 9, 10, 11] ?_
   refine kA ?_
   refine xI h1 rfl (fun h1 hb33 => ?_) (fun h1 hb33 => ?_)
   ·
    refine qA (gA (kA (jC ?_)))
    obtain ⟨e34, he34, h1⟩ := eA h1
    obtain ⟨he34a, he34b, he34c⟩ := fB he34
    refine oA 88 [2, 4, 8, 9, 10] (fun _ => none) rfl (fun _ _ => rS (rA he34a (rA he34b he34c))) ?_
    refine oA 120 [2, 8, 9, 10, 15, 16, 17] (fun _ => none) rfl (fun _ _ => rS (rA he34a (rA he34b he34c))) ?_
    obtain ⟨x41, hxx41, h1⟩ := eA h1
    refine lD (fun s' => s'.nx ≤ 128 ∧ LeN [] s' ⟨[(2, .int .i64 x41), (8, .psl 1 (List.map sA.enc l1.Levels)), (9, .int .i64 (l1.Levels.length : Int)), (10, .int .i64 v32)], [], 128, []⟩) ?_ ?_
    ·
     intro s' hs
     obtain ⟨hn, hs⟩ := hs
     refine cC (gA ?_)
     refine zB [] hn hs ?_
     refine iC 144 [2, 8, 9, 10] (fun _ => none) rfl (fun _ _ => rS (rA he34a (rA he34b he34c))) ?_
     refine gA ?_
     exact ⟨⟨(fu, x41, (IntKind.i64.wrap (v32 + 1))), h1⟩, ⟨rF, rE, rfl, rfl, trivial, trivial⟩, Nat.lt_succ_self _⟩
    ·
     refine kD (ι := { p : Nat × Int × Int // aI e34 p.1 p.2.1 p.2.2 = some x41 }) (fun p => ⟨[(2, .int .i64 p.1.2.1), (8, .psl 1 (List.map sA.enc l1.Levels)), (9, .int .i64 (l1.Levels.length : Int)), (10, .int .i64 v32), (15, .psl 2 (List.map eB.enc e34.Runs)), (16, .int .i64 (e34.Runs.length : Int)), (17, .int .i64 p.1.2.2)], [], 120, []⟩) (fun p => p.1.1) ⟨(fu, best31, 0), hxx41⟩ ⟨rF, rE, rfl, rfl, trivial, trivial⟩ (fun _ => Nat.le_refl _) ?_
     rintro ⟨⟨fu, best42, v43⟩, h2⟩
     cases fu with
     | zero =>
   replace h2 : aI e34 0 best42 v43 = some x41 := h2
   rw [aI] at h2; cases h2
     | succ fu =>
      replace h2 : aI e34 (fu + 1) best42 v43 = some x41 := h2
      rw [aI] at h2
      refine (show pA _ _ _ _ ⟨[(2, .int .i64 best42), (8, .psl 1 (List.map sA.enc l1.Levels)), (9, .int .i64 (l1.Levels.length : Int)), (10, .int .i64 v32), (15, .psl 2 (List.map eB.enc e34.Runs)), (16, .int .i64 (e34.Runs.length : Int)), (17, .int .i64 v43)], [], 120, []⟩ from ?_)
      refine oA 128 [2, 8, 9, 10, 15, 16, 17, 18] (fun _ => none) rfl (fun _ _ => rS (rA he34a (rA he34b he34c))) ?_
      refine kA ?_
      refine xI h2 rfl (fun h2 hb44 => ?_) (fun h2 hb44 => ?_)
      ·
       refine qA (gA (kA (jC ?_)))
       obtain ⟨e45, he45, h2⟩ := eA h2
       obtain ⟨he45a, he45b, he45c⟩ := fB he45
       refine oA 160 [2, 6, 8, 9, 10, 15, 16, 17] (fun _ => none) rfl (fun _ _ => rS (rA he34a (rA he34b (rA he34c (rA he45a (rA he45b he45c)))))) ?_
       refine iC 200 [2, 8, 9, 10, 15, 16, 17] (fun _ => none) rfl (fun _ _ => rS (rA he34a (rA he34b (rA he34c (rA he45a (rA he45b he45c)))))) ?_
       refine cC (gA ?_)
       refine iC 216 [2, 8, 9, 10, 15, 16, 17] (fun _ => none) rfl (fun _ _ => rS (rA he34a (rA he34b (rA he34c (rA he45a (rA he45b he45c)))))) ?_
       refine gA ?_
       exact ⟨⟨(fu, (if best42 < e45.Id then e45.Id else best42), (IntKind.i64.wrap (v43 + 1))), h2⟩, ⟨rF, rE, rfl, rfl, trivial, trivial⟩, Nat.lt_succ_self _⟩
      ·
       refine vC (jB (jB (bD ?_)))
       obtain rfl := Option.some.inj h2
       exact ⟨rL, ⟨rF, rE, rfl, rfl, trivial, trivial⟩⟩
   ·
    refine vC (jB (jB (bD ?_)))
    obtain rfl := Option.some.inj h1
    exact ⟨rL, ⟨rF, rE, rfl, rfl, trivial, trivial⟩⟩
theorem zez {fu : Nat} {l1 : dB} {r : Int × List sA} (h0 : hM fu l1 = some r) : lB Try.prog 22 [.agg (dB.enc l1)] (.fn 41 [] [.pp [.int .i64 r.1, .psl 1 (r.2.map sA.enc)]]) [] := by
 refine sB Try.func22 rfl (by decide) rL ?_
 dsimp only [Try.f22]
 rw [hM] at h0
 refine (show pA _ _ _ _ ⟨kB 0 _, [], 0, []⟩ from ?_)
 refine xS 16 [1] ?_
 refine xS 32 [2] ?_
 refine jA ?_
 obtain rfl := Option.some.inj h0
 refine nA [] ?_
 exact rG
theorem zbI {fu : Nat} {l1 : dB} {level2 : Int} {r : Bool} (h0 : jL fu l1 level2 = some r) : lB Try.prog 24 [.agg (dB.enc l1), .int .i64 level2] (.bool r) [] := by
 refine sB Try.func24 rfl (by decide) rL ?_
 dsimp only [Try.f24]
 rw [jL] at h0
 refine (show pA _ _ _ _ ⟨kB 0 _, [], 0, []⟩ from ?_)
 refine xS 16 [1, 2] ?_
 refine xS 72 [4] ?_
 refine jA ?_
 obtain rfl := Option.some.inj h0
 refine nA [] ?_
 exact rG
theorem zbT {fu : Nat} {runs1 : List (List aA)} {r : Int × Int} (h0 : zJ fu runs1 = some r) : lB Try.prog 75 [.psl 1 (runs1.map (wA 4 aA.enc))] (.tup [.int .i64 r.1, .int .i64 r.2]) [] := by
 refine sB Try.func75 rfl (by decide) rL ?_
 dsimp only [Try.f75]
 rw [zJ] at h0
 refine (show pA _ _ _ _ ⟨kB 0 _, [], 0, []⟩ from ?_)
 refine xS 16 [0] ?_
 refine kA (jC ?_)
 refine xS 48 [0, 8] ?_
 refine xI h0 rfl (fun h0 hb2 => ?_) (fun h0 hb2 => ?_)
 ·
  refine xS 64 [2, 3] ?_
  refine jA (kC (mA ?_))
  obtain rfl := Option.some.inj h0
  refine nA [] ?_
  exact rG
 ·
  refine xS 80 [0, 12] ?_
  refine xI h0 rfl (fun h0 hb3 => ?_) (fun h0 hb3 => ?_)
  ·
   refine xS 96 [2, 3] ?_
   refine jA (kC (mA ?_))
   obtain rfl := Option.some.inj h0
   refine nA [] ?_
   exact rG
  ·
   refine qA (cC (gA (kA ?_)))
   refine xS 104 [16, 17, 18] ?_
   obtain ⟨x13, hxx13, h0⟩ := eA h0
   refine lD (fun s' => ∃ o19 : Unit, x13 = .inl o19 ∧ s'.nx ≤ 112 ∧ LeN [] s' ⟨[], [], 112, []⟩) ?_ ?_
   ·
    intro s' hs
    obtain ⟨o19, rfl, hn, hs⟩ := hs
    refine gA ?_
    refine zB [] hn hs ?_
    refine xS 128 [2, 3] ?_
    refine jA ?_
    obtain rfl := Option.some.inj h0
    refine nA [] ?_
    exact rG
   ·
    refine kD (ι := { p : Nat × Int // nF runs1 p.1 p.2 = some x13 }) (fun p => ⟨[(16, .psl 1 (List.map (wA 4 aA.enc) runs1)), (17, .int .i64 (runs1.length : Int)), (18, .int .i64 p.1.2)], [], 104, []⟩) (fun p => p.1.1) ⟨(fu, 0), hxx13⟩ ⟨rF, rE, rfl, rfl, trivial, trivial⟩ (fun _ => Nat.le_refl _) ?_
    rintro ⟨⟨fu, v14⟩, h1⟩
    cases fu with
    | zero =>
   replace h1 : nF runs1 0 v14 = some x13 := h1
   rw [nF] at h1; cases h1
    | succ fu =>
     replace h1 : nF runs1 (fu + 1) v14 = some x13 := h1
     rw [nF] at h1
     refine (show pA _ _ _ _ ⟨[(16, .psl 1 (List.map (wA 4 aA.enc) runs1)), (17, .int .i64 (runs1.length : Int)), (18, .int .i64 v14)], [], 104, []⟩ from ?_)
     refine xS 112 [16, 17, 18, 19] ?_
     refine kA ?_
     refine xI h1 rfl (fun h1 hb15 => ?_) (fun h1 hb15 => ?_)
     ·
      refine qA (gA (kA (jC ?_)))
      obtain ⟨e16, he16, h1⟩ := eA h1
      obtain ⟨he16a, he16b, he16c⟩ := fB he16
      refine oA 152 [4, 5, 16, 17, 18] (fun _ => none) rfl (fun _ _ => rS (rA he16a (rA he16b he16c))) ?_
      obtain ⟨vr17, hvr17, h1⟩ := eA h1
      refine oA 208 [4, 7, 16, 17, 18] (fun | 1 => some (.tup [.int .i64 vr17.1, .int .i64 vr17.2], []) | _ => none) rfl (fun _ _ => rB (rA he16a (rA he16b he16c)) (zct hvr17)) ?_
      refine oA 224 [4, 7, 16, 17, 18, 29] (fun _ => none) rfl (fun _ _ => rS (rA he16a (rA he16b he16c))) ?_
      refine xI h1 rfl (fun h1 hb18 => ?_) (fun h1 hb18 => ?_)
      ·
       refine oA 256 [2, 3] (fun _ => none) rfl (fun _ _ => rS (rA he16a (rA he16b he16c))) ?_
       refine jA ?_
       obtain rfl := Option.some.inj h1
       refine kC (mA (mA (uD (mA ?_))))
       obtain rfl := Option.some.inj h0
       refine nA [] ?_
       simp (maxSteps := 1000000) only [↓reduceIte, reduceCtorEq, Nat.reduceEqDiff, Nat.reduceLT, Nat.reduceLeDiff, Nat.reduceAdd, Nat.reduceMul, Int.reduceToNat, push_cast, lC, he16a, he16b, he16c]
       all_goals exact rH
      ·
       refine qA (cC (gA ?_))
       refine iC 240 [16, 17, 18] (fun _ => none) rfl (fun _ _ => rS (rA he16a (rA he16b he16c))) ?_
       refine gA ?_
       exact ⟨⟨(fu, (IntKind.i64.wrap (v14 + 1))), h1⟩, ⟨rF, rE, rfl, rfl, trivial, trivial⟩, Nat.lt_succ_self _⟩
     ·
      refine vC (jB (jB (bD ?_)))
      obtain rfl := Option.some.inj h1
      exact ⟨_, rfl, rL, ⟨rF, rE, rfl, rfl, trivial, trivial⟩⟩
theorem zaP {fu : Nat} {vs1 : List (List aA)} {r : List (List aA)} (h0 : eL fu vs1 = some r) : lB Try.prog 76 [.psl 1 (vs1.map (wA 4 aA.enc))] (.psl 1 (r.map (wA 4 aA.enc))) [] := by
 refine sB Try.func76 rfl (by decide) rL ?_
 dsimp only [Try.f76]
 rw [eL] at h0
 refine (show pA _ _ _ _ ⟨kB 0 _, [], 0, []⟩ from ?_)
 refine xS 8 [0] ?_
 refine kA ?_
 cases hb2 : vs1.isEmpty with
 | true =>
  replace h0 := iB h0 hb2
  obtain rfl : vs1 = [] := List.isEmpty_iff.1 hb2
  refine xS 24 [0, 4] ?_
  refine oV rfl ?_ ?_
  ·
   skip
   refine xS 32 [2] ?_
   refine jA (mA ?_)
   obtain rfl := Option.some.inj h0
   refine nA [] ?_
   exact rG
  ·
   skip
   refine qA (gA ?_)
   refine xS 56 [2] ?_
   refine xE ⟨[(2, .sl 24 1 1 0 0)], [(24, ⟨1, true, true, 1, List.map (wA 4 aA.enc) []⟩)], 56, []⟩ ?_
   refine jA ?_
   obtain rfl := Option.some.inj h0
   refine nA [] ?_
   exact rG
 | false =>
  replace h0 := vA h0 hb2
  refine oA 24 [0, 4] (fun _ => none) rfl (fun _ _ => rS hb2) ?_
  refine wF rfl ?_
  refine qA (gA ?_)
  obtain ⟨hc3, h0⟩ := cF h0
  refine oA 56 [2] (fun _ => none) rfl (fun _ _ => rS hb2) ?_
  refine xE ⟨[(2, .sl 24 1 1 0 vs1.length)], [(24, ⟨1, true, true, 1, List.map (wA 4 aA.enc) vs1⟩)], 56, []⟩ ?_
  refine jA ?_
  obtain rfl := Option.some.inj h0
  refine nA [] ?_
  simp (maxSteps := 1000000) only [↓reduceIte, reduceCtorEq, Nat.reduceEqDiff, Nat.reduceLT, Nat.reduceLeDiff, Nat.reduceAdd, Nat.reduceMul, Int.reduceToNat, push_cast, lC, hb2]
  all_goals exact rH
theorem eZ {fu : Nat} {l1 : List aA} {vat2 : Int} {r : cA} (h0 : dJ fu l1 vat2 = some r) : lB Try.prog 93 [.psl 4 (l1.map aA.enc), .int .i64 vat2] (.agg (cA.enc r)) [] := by
 refine sB Try.func93 rfl (by decide) rL ?_
 dsimp only [Try.f93]
 rw [dJ] at h0
 refine (show pA _ _ _ _ ⟨kB 0 _, [], 0, []⟩ from ?_)
 refine xS 8 [0, 1, 4] ?_
 refine kA ?_
 refine xS 40 [0, 1, 4, 8] ?_
 refine xI h0 rfl (fun h0 hb3 => ?_) (fun h0 hb3 => ?_)
 ·
  refine xS 56 [4] ?_
  refine jA (mA ?_)
  obtain rfl := Option.some.inj h0
  refine nA [] ?_
  exact rG
 ·
  refine qA (gA ?_)
  obtain ⟨e4, he4, h0⟩ := eA h0
  obtain ⟨he4a, he4b, he4c⟩ := fB he4
  refine oA 96 [4] (fun _ => none) rfl (fun _ _ => rS (rA he4a (rA he4b he4c))) ?_
  refine jA ?_
  obtain rfl := Option.some.inj h0
  refine nA [] ?_
  simp (maxSteps := 1000000) only [↓reduceIte, reduceCtorEq, Nat.reduceEqDiff, Nat.reduceLT, Nat.reduceLeDiff, Nat.reduceAdd, Nat.reduceMul, Int.reduceToNat, push_cast, lC, he4a, he4b, he4c]
  all_goals exact rH
theorem zib {fu : Nat} {k1 : cA} {r : Bool} (h0 : yR fu k1 = some r) : lB Try.prog 109 [.agg (cA.enc k1)] (.bool r) [] := by
 refine sB Try.func109 rfl (by decide) rL ?_
 dsimp only [Try.f109]
 rw [yR] at h0
 refine (show pA _ _ _ _ ⟨kB 0 _, [], 0, []⟩ from ?_)
 refine xS 16 [1] ?_
 obtain ⟨b2, hb2, h0⟩ := eA h0
 refine dD (fr' := [(2, .bool b2)]) (hp' := [(0, ⟨0, true, true, 2, [[.str k1.Key, .bool k1.Done]]⟩)]) [0] 80 [2] (fun _ => none) rfl (fun Kt hK => by
   cases hg3 : k1.Done with
   | false =>
    replace hb2 := vA hb2 hg3
    have hqb2 := Option.some.inj hb2
    subst hqb2
    simp (maxSteps := 1000000) only [↓reduceIte, reduceCtorEq, Nat.reduceEqDiff, Nat.reduceLT, Nat.reduceLeDiff, Nat.reduceAdd, Nat.reduceMul, Int.reduceToNat, push_cast, ↓hg3]
    try simp only [↓hg3] at hK
    all_goals exact rU
   | true =>
    replace hb2 := iB hb2 hg3
    have hqb2 := Option.some.inj hb2
    subst hqb2
    simp (maxSteps := 1000000) only [↓reduceIte, reduceCtorEq, Nat.reduceEqDiff, Nat.reduceLT, Nat.reduceLeDiff, Nat.reduceAdd, Nat.reduceMul, Int.reduceToNat, push_cast, ↓hg3]
    try simp only [↓hg3] at hK
    all_goals exact rU) ?_
 refine jA ?_
 obtain rfl := Option.some.inj h0
 refine nA [] ?_
 exact rG
theorem zfa {fu : Nat} {vs1 : List cA} {r : Int} (h0 : sR fu vs1 = some r) : lB Try.prog 111 [.psl 2 (vs1.map cA.enc), .fn 109 [] []] (.int .i64 r) [] := by
 refine sB Try.func111 rfl (by decide) rL ?_
 dsimp only [Try.f111]
 rw [sR] at h0
 refine (show pA _ _ _ _ ⟨kB 0 _, [], 0, []⟩ from ?_)
 refine xS 8 [0, 1] ?_
 refine kA ?_
 refine xS 32 [0, 1, 7, 8] ?_
 obtain ⟨x11, hxx11, h0⟩ := eA h0
 refine lD (fun s' => ∃ o17 : Unit, x11 = .inl o17 ∧ s'.nx ≤ 40 ∧ LeN [] s' ⟨[], [], 40, []⟩) ?_ ?_
 ·
  intro s' hs
  obtain ⟨o17, rfl, hn, hs⟩ := hs
  refine gA ?_
  refine zB [] hn hs ?_
  refine xS 48 [4] ?_
  refine jA ?_
  obtain rfl := Option.some.inj h0
  refine nA [] ?_
  exact rG
 ·
  refine kD (ι := { p : Nat × Int // eI vs1 p.1 p.2 = some x11 }) (fun p => ⟨[(0, .psl 2 (List.map cA.enc vs1)), (1, .fn 109 [] []), (7, .int .i64 (vs1.length : Int)), (8, .int .i64 p.1.2)], [], 32, []⟩) (fun p => p.1.1) ⟨(fu, 0), hxx11⟩ ⟨rF, rE, rfl, rfl, trivial, trivial⟩ (fun _ => Nat.le_refl _) ?_
  rintro ⟨⟨fu, v12⟩, h1⟩
  cases fu with
  | zero =>
   replace h1 : eI vs1 0 v12 = some x11 := h1
   rw [eI] at h1; cases h1
  | succ fu =>
   replace h1 : eI vs1 (fu + 1) v12 = some x11 := h1
   rw [eI] at h1
   refine (show pA _ _ _ _ ⟨[(0, .psl 2 (List.map cA.enc vs1)), (1, .fn 109 [] []), (7, .int .i64 (vs1.length : Int)), (8, .int .i64 v12)], [], 32, []⟩ from ?_)
   refine xS 40 [0, 1, 7, 8, 9] ?_
   refine kA ?_
   refine xI h1 rfl (fun h1 hb13 => ?_) (fun h1 hb13 => ?_)
   ·
    refine qA (gA (kA (jC ?_)))
    refine xS 56 [0, 1, 5, 7, 8] ?_
    obtain ⟨e14, he14, h1⟩ := eA h1
    obtain ⟨he14a, he14b, he14c⟩ := fB he14
    obtain ⟨vr15, hvr15, h1⟩ := eA h1
    refine oA 104 [0, 1, 5, 7, 8, 16] (fun | 5 => some (.bool vr15, []) | _ => none) rfl (fun _ _ => rB (rA he14a (rA he14b he14c)) (zib hvr15)) ?_
    refine xI h1 rfl (fun h1 hb16 => ?_) (fun h1 hb16 => ?_)
    ·
     refine oA 120 [4] (fun _ => none) rfl (fun _ _ => rS (rA he14a (rA he14b he14c))) ?_
     refine jA ?_
     obtain rfl := Option.some.inj h1
     refine kC (mA (mA (uD (mA ?_))))
     obtain rfl := Option.some.inj h0
     refine nA [] ?_
     simp (maxSteps := 1000000) only [↓reduceIte, reduceCtorEq, Nat.reduceEqDiff, Nat.reduceLT, Nat.reduceLeDiff, Nat.reduceAdd, Nat.reduceMul, Int.reduceToNat, push_cast, lC, he14a, he14b, he14c]
     all_goals exact rH
    ·
     refine qA (cC (gA ?_))
     refine iC 120 [0, 1, 7, 8] (fun _ => none) rfl (fun _ _ => rS (rA he14a (rA he14b he14c))) ?_
     refine gA ?_
     exact ⟨⟨(fu, (IntKind.i64.wrap (v12 + 1))), h1⟩, ⟨rF, rE, rfl, rfl, trivial, trivial⟩, Nat.lt_succ_self _⟩
   ·
    refine vC (jB (jB (bD ?_)))
    obtain rfl := Option.some.inj h1
    exact ⟨_, rfl, rL, ⟨rF, rE, rfl, rfl, trivial, trivial⟩⟩
theorem zno {fu : Nat} {vs1 : List cA} {r : Bool} (h0 : dS fu vs1 = some r) : lB Try.prog 108 [.psl 2 (vs1.map cA.enc), .fn 109 [] []] (.bool r) [] := by
 refine sB Try.func108 rfl (by decide) rL ?_
 dsimp only [Try.f108]
 rw [dS] at h0
 refine (show pA _ _ _ _ ⟨kB 0 _, [], 0, []⟩ from ?_)
 refine xS 8 [0, 1] ?_
 obtain ⟨vr2, hvr2, h0⟩ := eA h0
 refine oA 48 [4] (fun | 2 => some (.int .i64 vr2, []) | _ => none) rfl (fun _ _ => rC (zfa hvr2)) ?_
 refine jA ?_
 obtain rfl := Option.some.inj h0
 refine nA [] ?_
 exact rG
theorem eY {fu : Nat} {keys1 : List cA} {r : Int} (h0 : rK fu keys1 = some r) : lB Try.prog 103 [.psl 2 (keys1.map cA.enc)] (.int .i64 r) [] := by
 refine sB Try.func103 rfl (by decide) rL ?_
 dsimp only [Try.f103]
 rw [rK] at h0
 refine (show pA _ _ _ _ ⟨kB 0 _, [], 0, []⟩ from ?_)
 refine xS 8 [0] ?_
 refine kA (jC ?_)
 refine xS 40 [0, 3] ?_
 refine xI h0 rfl (fun h0 hb2 => ?_) (fun h0 hb2 => ?_)
 ·
  refine xS 48 [2] ?_
  refine jA (kC (mA ?_))
  obtain rfl := Option.some.inj h0
  refine nA [] ?_
  exact rG
 ·
  refine xS 72 [0, 7] ?_
  refine xI h0 rfl (fun h0 hb3 => ?_) (fun h0 hb3 => ?_)
  ·
   refine xS 80 [2] ?_
   refine jA (kC (mA ?_))
   obtain rfl := Option.some.inj h0
   refine nA [] ?_
   exact rG
  ·
   obtain ⟨vr4, hvr4, h0⟩ := eA h0
   refine oA 96 [11] (fun | 1 => some (.bool vr4, []) | _ => none) rfl (fun _ _ => rC (zno hvr4)) ?_
   refine xI h0 rfl (fun h0 hb5 => ?_) (fun h0 hb5 => ?_)
   ·
    refine xS 104 [2] ?_
    refine jA (kC (mA ?_))
    obtain rfl := Option.some.inj h0
    refine nA [] ?_
    exact rG
   ·
    refine qA (cC (gA ?_))
    refine xS 104 [2] ?_
    refine jA ?_
    obtain rfl := Option.some.inj h0
    refine nA [] ?_
    exact rG
theorem zbJ {fu : Nat} {keys1 : List cA} {r : List cA} (h0 : zM fu keys1 = some r) : lB Try.prog 107 [.psl 2 (keys1.map cA.enc)] (.fn 110 [] [.pp [.psl 2 (r.map cA.enc)]]) [] := by
 refine sB Try.func107 rfl (by decide) rL ?_
 dsimp only [Try.f107]
 rw [zM] at h0
 refine (show pA _ _ _ _ ⟨kB 0 _, [], 0, []⟩ from ?_)
 refine xS 16 [1] ?_
 refine xS 32 [2] ?_
 refine jA ?_
 obtain rfl := Option.some.inj h0
 refine nA [] ?_
 exact rG
theorem zgK {fu : Nat} {vs1 : List cA} {r : List cA} (h0 : tR fu vs1 = some r) : lB Try.prog 106 [.psl 2 (vs1.map cA.enc)] (.psl 2 (r.map cA.enc)) [] := by
 refine sB Try.func106 rfl (by decide) rL ?_
 dsimp only [Try.f106]
 rw [tR] at h0
 refine (show pA _ _ _ _ ⟨kB 0 _, [], 0, []⟩ from ?_)
 refine xS 8 [0] ?_
 refine kA ?_
 cases hb2 : vs1.isEmpty with
 | true =>
  replace h0 := iB h0 hb2
  obtain rfl : vs1 = [] := List.isEmpty_iff.1 hb2
  refine xS 24 [0, 4] ?_
  refine oV rfl ?_ ?_
  ·
   skip
   refine xS 32 [2] ?_
   refine jA (mA ?_)
   obtain rfl := Option.some.inj h0
   refine nA [] ?_
   exact rG
  ·
   skip
   refine qA (gA ?_)
   refine xS 56 [2] ?_
   refine xE ⟨[(2, .sl 24 1 2 0 0)], [(24, ⟨1, true, true, 2, List.map cA.enc []⟩)], 56, []⟩ ?_
   refine jA ?_
   obtain rfl := Option.some.inj h0
   refine nA [] ?_
   exact rG
 | false =>
  replace h0 := vA h0 hb2
  refine oA 24 [0, 4] (fun _ => none) rfl (fun _ _ => rS hb2) ?_
  refine wF rfl ?_
  refine qA (gA ?_)
  obtain ⟨hc3, h0⟩ := cF h0
  refine oA 56 [2] (fun _ => none) rfl (fun _ _ => rS hb2) ?_
  refine xE ⟨[(2, .sl 24 1 2 0 vs1.length)], [(24, ⟨1, true, true, 2, List.map cA.enc vs1⟩)], 56, []⟩ ?_
  refine jA ?_
  obtain rfl := Option.some.inj h0
  refine nA [] ?_
  simp (maxSteps := 1000000) only [↓reduceIte, reduceCtorEq, Nat.reduceEqDiff, Nat.reduceLT, Nat.reduceLeDiff, Nat.reduceAdd, Nat.reduceMul, Int.reduceToNat, push_cast, lC, hb2]
  all_goals exact rH
theorem zbG {fu : Nat} {p1 : Int} {q2 : Int} {p3 : List cA} {r : Bool} (h0 : lN fu p1 q2 p3 = some r) : lB Try.prog 110 [.int .i64 p1, .int .i64 q2, .pp [.psl 2 (p3.map cA.enc)]] (.bool r) [] := by
 refine sB Try.func110 rfl (by decide) rL ?_
 dsimp only [Try.f110]
 rw [lN] at h0
 refine (show pA _ _ _ _ ⟨kB 0 _, [], 0, []⟩ from ?_)
 refine xS 8 [0, 1, 2] ?_
 obtain ⟨e4, he4, h0⟩ := eA h0
 obtain ⟨he4a, he4b, he4c⟩ := fB he4
 obtain ⟨e5, he5, h0⟩ := eA h0
 obtain ⟨he5a, he5b, he5c⟩ := fB he5
 refine jD 104 [0, 1, 6, 7] (fun _ => none) rfl rfl rfl (fun _ _ => uE (rA he4a (rA he4b (rA he4c (rA he5a (rA he5b he5c)))))) ?_
 refine kA (jC ?_)
 refine oA 152 [0, 1, 6, 7, 16] (fun _ => none) rfl (fun _ _ => rS (rA he4a (rA he4b (rA he4c (rA he5a (rA he5b he5c)))))) ?_
 refine xI h0 rfl (fun h0 hb6 => ?_) (fun h0 hb6 => ?_)
 ·
  refine oA 176 [5] (fun _ => none) rfl (fun _ _ => rS (rA he4a (rA he4b (rA he4c (rA he5a (rA he5b he5c)))))) ?_
  refine jA (kC (mA ?_))
  obtain rfl := Option.some.inj h0
  refine nA [] ?_
  simp (maxSteps := 1000000) only [↓reduceIte, reduceCtorEq, Nat.reduceEqDiff, Nat.reduceLT, Nat.reduceLeDiff, Nat.reduceAdd, Nat.reduceMul, Int.reduceToNat, push_cast, lC, he4a, he4b, he4c, he5a, he5b, he5c]
  all_goals exact rH
 ·
  refine oA 200 [0, 1, 6, 7, 24] (fun _ => none) rfl (fun _ _ => rS (rA he4a (rA he4b (rA he4c (rA he5a (rA he5b he5c)))))) ?_
  refine xI h0 rfl (fun h0 hb7 => ?_) (fun h0 hb7 => ?_)
  ·
   refine oA 248 [5] (fun _ => none) rfl (fun _ _ => rS (rA he4a (rA he4b (rA he4c (rA he5a (rA he5b he5c)))))) ?_
   refine jA (kC (mA ?_))
   obtain rfl := Option.some.inj h0
   refine nA [] ?_
   simp (maxSteps := 1000000) only [↓reduceIte, reduceCtorEq, Nat.reduceEqDiff, Nat.reduceLT, Nat.reduceLeDiff, Nat.reduceAdd, Nat.reduceMul, Int.reduceToNat, push_cast, lC, he4a, he4b, he4c, he5a, he5b, he5c]
   all_goals exact rH
  ·
   refine qA (cC (gA ?_))
   refine oA 232 [5] (fun _ => none) rfl (fun _ _ => rS (rA he4a (rA he4b (rA he4c (rA he5a (rA he5b he5c)))))) ?_
   refine jA ?_
   obtain rfl := Option.some.inj h0
   refine nA [] ?_
   simp (maxSteps := 1000000) only [↓reduceIte, reduceCtorEq, Nat.reduceEqDiff, Nat.reduceLT, Nat.reduceLeDiff, Nat.reduceAdd, Nat.reduceMul, Int.reduceToNat, push_cast, lC, he4a, he4b, he4c, he5a, he5b, he5c]
   all_goals exact rH
theorem zd7 {fu : Nat} {keys1 : List cA} {r : zA} (h0 : vO fu keys1 = some r) : lB Try.prog 104 [.psl 2 (keys1.map cA.enc)] (.agg (zA.enc r)) [] := by
 refine sB Try.func104 rfl (by decide) rL ?_
 dsimp only [Try.f104]
 rw [vO] at h0
 refine (show pA _ _ _ _ ⟨kB 0 _, [], 0, []⟩ from ?_)
 refine xS 8 [0, 2] ?_
 refine xS 32 [0, 2, 3] ?_
 obtain ⟨vr2, hvr2, h0⟩ := eA h0
 refine oA 56 [0, 2, 3, 4] (fun | 1 => some (.fn 110 [] [.pp [.psl 2 (vr2.map cA.enc)]], []) | _ => none) rfl (fun _ _ => rC (zbJ hvr2)) ?_
 obtain ⟨hc3, h0⟩ := cF h0
 refine xS 88 [0, 2, 3, 4, 5] ?_
 refine xE ⟨[(0, .psl 2 (List.map cA.enc keys1)), (2, .ref 0 0 0 0), (3, .int .i64 (keys1.length : Int)), (4, .fn 110 [] [.pp [.psl 2 (List.map cA.enc vr2)]]), (5, .sl 72 0 1 0 ((List.replicate (IntKind.i64.wrap (2 * (keys1.length : Int))).toNat 0 : List Int).length))], [(0, ⟨0, true, true, 3, [[.nils, .nils, .int .i64 0]]⟩), (72, ⟨0, true, true, 1, List.map (iA .i64) (List.replicate (IntKind.i64.wrap (2 * (keys1.length : Int))).toNat 0 : List Int)⟩)], 88, []⟩ ?_
 obtain ⟨vr4, hvr4, h0⟩ := eA h0
 obtain ⟨hc5, h0⟩ := cF h0
 refine jD 144 [2, 3, 4, 5, 6] (fun | 1 => some (.psl 2 (vr4.map cA.enc), []) | _ => none) rfl rfl rfl (fun _ _ => rCd (zgK hvr4)) ?_
 refine xE ⟨[(2, .ref 0 0 0 0), (3, .int .i64 (keys1.length : Int)), (4, .fn 110 [] [.pp [.psl 2 (List.map cA.enc vr2)]]), (5, .sl 72 0 1 0 ((List.replicate (IntKind.i64.wrap (2 * (keys1.length : Int))).toNat 0 : List Int).length)), (6, .ref 128 0 0 0)], [(0, ⟨0, true, true, 3, [[.nils, .nils, .int .i64 0]]⟩), (72, ⟨0, true, true, 1, List.map (iA .i64) (List.replicate (IntKind.i64.wrap (2 * (keys1.length : Int))).toNat 0 : List Int)⟩), (112, ⟨0, true, true, 1, List.map (iA .i64) (List.replicate keys1.length 0 : List Int)⟩), (128, ⟨0, true, false, 3, [[.psl 2 (List.map cA.enc vr4), .sl 112 0 1 0 ((List.replicate keys1.length 0 : List Int).length), .int .i64 0]]⟩)], 144, []⟩ ?_
 refine kA ?_
 refine xS 176 [2, 3, 4, 5, 6, 7] ?_
 obtain ⟨x33, hxx33, h0⟩ := eA h0
 refine lD (fun s' => ∃ g50 : Nat, ∃ g51 : Nat, s'.nx ≤ 192 ∧ LeN [] s' ⟨[(2, .ref 0 0 0 0), (5, .sl 72 g50 1 0 x33.1.length), (6, .ref 128 0 0 0)], [(0, ⟨0, true, true, 3, [[.nils, .nils, .int .i64 0]]⟩), (72, ⟨g50, true, true, 1, List.map (iA .i64) x33.1⟩), (112, ⟨g51, true, true, 1, List.map (iA .i64) x33.2⟩), (128, ⟨0, true, false, 3, [[.psl 2 (List.map cA.enc vr4), .sl 112 g51 1 0 x33.2.length, .int .i64 0]]⟩)], 192, []⟩) ?_ ?_
 ·
  intro s' hs
  obtain ⟨g50, g51, hn, hs⟩ := hs
  refine gA ?_
  refine zB [] hn hs ?_
  obtain ⟨e52, he52, h0⟩ := eA h0
  have he52b := (fB he52).2.1
  have he52c := (nH 1 he52 rfl).1
  have he52a := (nH 1 he52 rfl).2
  refine oA 232 [2, 6] (fun _ => none) rfl (fun _ _ => rS (rA he52a (rA he52b he52c))) ?_
  refine oA 248 [2] (fun _ => none) rfl (fun _ _ => rS (rA he52a (rA he52b he52c))) ?_
  refine jA ?_
  obtain rfl := Option.some.inj h0
  refine nA [] ?_
  simp (maxSteps := 1000000) only [↓reduceIte, reduceCtorEq, Nat.reduceEqDiff, Nat.reduceLT, Nat.reduceLeDiff, Nat.reduceAdd, Nat.reduceMul, Int.reduceToNat, push_cast, lC, he52a, he52b, he52c]
  all_goals exact rH
 ·
  refine kD (ι := { p : Nat × Int × List Int × List Int × Nat × Nat // xG keys1 vr2 p.1 p.2.1 p.2.2.1 p.2.2.2.1 = some x33 }) (fun p => ⟨[(2, .ref 0 0 0 0), (3, .int .i64 (keys1.length : Int)), (4, .fn 110 [] [.pp [.psl 2 (List.map cA.enc vr2)]]), (5, .sl 72 p.1.2.2.2.2.1 1 0 p.1.2.2.1.length), (6, .ref 128 0 0 0), (7, .int .i64 p.1.2.1)], [(0, ⟨0, true, true, 3, [[.nils, .nils, .int .i64 0]]⟩), (72, ⟨p.1.2.2.2.2.1, true, true, 1, List.map (iA .i64) p.1.2.2.1⟩), (112, ⟨p.1.2.2.2.2.2, true, true, 1, List.map (iA .i64) p.1.2.2.2.1⟩), (128, ⟨0, true, false, 3, [[.psl 2 (List.map cA.enc vr4), .sl 112 p.1.2.2.2.2.2 1 0 p.1.2.2.2.1.length, .int .i64 0]]⟩)], 176, []⟩) (fun p => p.1.1) ⟨(fu, (IntKind.i64.wrap ((IntKind.i64.wrap (2 * (keys1.length : Int))) - 1)), (List.replicate (IntKind.i64.wrap (2 * (keys1.length : Int))).toNat 0 : List Int), (List.replicate keys1.length 0 : List Int), 0, 0), hxx33⟩ ⟨rF, rE, rfl, rfl, trivial, trivial⟩ (fun _ => Nat.le_refl _) ?_
  rintro ⟨⟨fu, i34, players35, v36, g37, g38⟩, h1⟩
  cases fu with
  | zero =>
   replace h1 : xG keys1 vr2 0 i34 players35 v36 = some x33 := h1
   rw [xG] at h1; cases h1
  | succ fu =>
   replace h1 : xG keys1 vr2 (fu + 1) i34 players35 v36 = some x33 := h1
   rw [xG] at h1
   refine (show pA _ _ _ _ ⟨[(2, .ref 0 0 0 0), (3, .int .i64 (keys1.length : Int)), (4, .fn 110 [] [.pp [.psl 2 (List.map cA.enc vr2)]]), (5, .sl 72 g37 1 0 players35.length), (6, .ref 128 0 0 0), (7, .int .i64 i34)], [(0, ⟨0, true, true, 3, [[.nils, .nils, .int .i64 0]]⟩), (72, ⟨g37, true, true, 1, List.map (iA .i64) players35⟩), (112, ⟨g38, true, true, 1, List.map (iA .i64) v36⟩), (128, ⟨0, true, false, 3, [[.psl 2 (List.map cA.enc vr4), .sl 112 g38 1 0 v36.length, .int .i64 0]]⟩)], 176, []⟩ from ?_)
   refine kA ?_
   refine xS 192 [2, 3, 4, 5, 6, 7, 26] ?_
   refine xI h1 rfl (fun h1 hb39 => ?_) (fun h1 hb39 => ?_)
   ·
    refine qA (gA (kA (jC (kA ?_))))
    refine xS 216 [2, 3, 4, 5, 6, 7, 31] ?_
    refine xI h1 rfl (fun h1 hb40 => ?_) (fun h1 hb40 => ?_)
    ·
     obtain ⟨e41, he41, h1⟩ := eA h1
     obtain ⟨he41a, he41b, he41c⟩ := fB he41
     refine oA 272 [2, 3, 4, 5, 6, 7] (fun _ => none) rfl (fun _ _ => rS (rA he41a (rA he41b he41c))) ?_
     refine xE ⟨[(2, .ref 0 0 0 0), (3, .int .i64 (keys1.length : Int)), (4, .fn 110 [] [.pp [.psl 2 (List.map cA.enc vr2)]]), (5, .sl 72 g37 1 0 ((players35.set i34.toNat (IntKind.i64.wrap (i34 - (keys1.length : Int)))).length)), (6, .ref 128 0 0 0), (7, .int .i64 i34)], [(0, ⟨0, true, true, 3, [[.nils, .nils, .int .i64 0]]⟩), (72, ⟨g37, true, true, 1, List.map (iA .i64) (players35.set i34.toNat (IntKind.i64.wrap (i34 - (keys1.length : Int))))⟩), (112, ⟨g38, true, true, 1, List.map (iA .i64) v36⟩), (128, ⟨0, true, false, 3, [[.psl 2 (List.map cA.enc vr4), .sl 112 g38 1 0 v36.length, .int .i64 0]]⟩)], 272, []⟩ ?_
     refine vC (jB (zdD (gA ?_)))
     refine iC 296 [2, 3, 4, 5, 6, 7] (fun _ => none) rfl (fun _ _ => rS (rA he41a (rA he41b he41c))) ?_
     refine gA ?_
     exact ⟨⟨(fu, (IntKind.i64.wrap (i34 - 1)), (players35.set i34.toNat (IntKind.i64.wrap (i34 - (keys1.length : Int)))), v36, g37, g38), h1⟩, ⟨rF, rE, rfl, rfl, trivial, trivial⟩, Nat.lt_succ_self _⟩
    ·
     refine qA (gA ?_)
     obtain ⟨e42, he42, h1⟩ := eA h1
     obtain ⟨he42a, he42b, he42c⟩ := fB he42
     obtain ⟨e43, he43, h1⟩ := eA h1
     obtain ⟨he43a, he43b, he43c⟩ := fB he43
     refine jD 320 [2, 3, 4, 5, 6, 7, 8, 9] (fun _ => none) rfl rfl rfl (fun _ _ => uE (rA he42a (rA he42b (rA he42c (rA he43a (rA he43b he43c)))))) ?_
     refine kA ?_
     obtain ⟨vr44, hvr44, h1⟩ := eA h1
     refine oA 360 [2, 3, 4, 5, 6, 7, 8, 9, 53] (fun | 3 => some (.bool vr44, []) | _ => none) rfl (fun _ _ => rB (rA he42a (rA he42b (rA he42c (rA he43a (rA he43b he43c))))) (zbG hvr44)) ?_
     refine xI h1 rfl (fun h1 hb45 => ?_) (fun h1 hb45 => ?_)
     ·
      refine iC 392 [2, 3, 4, 5, 6, 7, 8, 9] (fun _ => none) rfl (fun _ _ => rS (rA he42a (rA he42b (rA he42c (rA he43a (rA he43b he43c)))))) ?_
      refine gA ?_
      obtain ⟨e46, he46, h1⟩ := eA h1
      obtain ⟨he46a, he46b, he46c⟩ := fB he46
      obtain ⟨e47, he47, h1⟩ := eA h1
      obtain ⟨he47a, he47b, he47c⟩ := fB he47
      refine aJ 480 [2, 3, 4, 5, 6, 7] (fun _ => none) rfl rfl rfl (fun _ _ => uE (rA he42a (rA he42b (rA he42c (rA he43a (rA he43b (rA he43c (rA he46a (rA he46b (rA he46c (rA he47a (rA he47b he47c)))))))))))) ?_
      refine cC (gA ?_)
      refine xE ⟨[(2, .ref 0 0 0 0), (3, .int .i64 (keys1.length : Int)), (4, .fn 110 [] [.pp [.psl 2 (List.map cA.enc vr2)]]), (5, .sl 72 g37 1 0 ((players35.set i34.toNat e43).length)), (6, .ref 128 0 0 0), (7, .int .i64 i34)], [(0, ⟨0, true, true, 3, [[.nils, .nils, .int .i64 0]]⟩), (72, ⟨g37, true, true, 1, List.map (iA .i64) (players35.set i34.toNat e43)⟩), (112, ⟨g38, true, true, 1, List.map (iA .i64) (v36.set i34.toNat e42)⟩), (128, ⟨0, true, false, 3, [[.psl 2 (List.map cA.enc vr4), .sl 112 g38 1 0 ((v36.set i34.toNat e42).length), .int .i64 0]]⟩)], 480, []⟩ ?_
      refine iC 504 [2, 3, 4, 5, 6, 7] (fun _ => none) rfl (fun _ _ => rS (rA he42a (rA he42b (rA he42c (rA he43a (rA he43b (rA he43c (rA he46a (rA he46b (rA he46c (rA he47a (rA he47b he47c)))))))))))) ?_
      refine gA ?_
      exact ⟨⟨(fu, (IntKind.i64.wrap (i34 - 1)), (players35.set i34.toNat e43), (v36.set i34.toNat e42), g37, g38), h1⟩, ⟨rF, rE, rfl, rfl, trivial, trivial⟩, Nat.lt_succ_self _⟩
     ·
      refine qA (gA ?_)
      obtain ⟨e48, he48, h1⟩ := eA h1
      obtain ⟨he48a, he48b, he48c⟩ := fB he48
      obtain ⟨e49, he49, h1⟩ := eA h1
      obtain ⟨he49a, he49b, he49c⟩ := fB he49
      refine aJ 448 [2, 3, 4, 5, 6, 7] (fun _ => none) rfl rfl rfl (fun _ _ => uE (rA he42a (rA he42b (rA he42c (rA he43a (rA he43b (rA he43c (rA he48a (rA he48b (rA he48c (rA he49a (rA he49b he49c)))))))))))) ?_
      refine cC (gA ?_)
      refine xE ⟨[(2, .ref 0 0 0 0), (3, .int .i64 (keys1.length : Int)), (4, .fn 110 [] [.pp [.psl 2 (List.map cA.enc vr2)]]), (5, .sl 72 g37 1 0 ((players35.set i34.toNat e42).length)), (6, .ref 128 0 0 0), (7, .int .i64 i34)], [(0, ⟨0, true, true, 3, [[.nils, .nils, .int .i64 0]]⟩), (72, ⟨g37, true, true, 1, List.map (iA .i64) (players35.set i34.toNat e42)⟩), (112, ⟨g38, true, true, 1, List.map (iA .i64) (v36.set i34.toNat e43)⟩), (128, ⟨0, true, false, 3, [[.psl 2 (List.map cA.enc vr4), .sl 112 g38 1 0 ((v36.set i34.toNat e43).length), .int .i64 0]]⟩)], 448, []⟩ ?_
      refine iC 472 [2, 3, 4, 5, 6, 7] (fun _ => none) rfl (fun _ _ => rS (rA he42a (rA he42b (rA he42c (rA he43a (rA he43b (rA he43c (rA he48a (rA he48b (rA he48c (rA he49a (rA he49b he49c)))))))))))) ?_
      refine gA ?_
      exact ⟨⟨(fu, (IntKind.i64.wrap (i34 - 1)), (players35.set i34.toNat e42), (v36.set i34.toNat e43), g37, g38), h1⟩, ⟨rF, rE, rfl, rfl, trivial, trivial⟩, Nat.lt_succ_self _⟩
   ·
    refine vC (jB (jB (bD ?_)))
    obtain rfl := Option.some.inj h1
    exact ⟨g37, g38, rL, ⟨rF, rE, rfl, rfl, trivial, trivial⟩⟩
theorem zjA {fu : Nat} {keys1 : List cA} {r : zA × Int} (h0 : gQ fu keys1 = some r) : lB Try.prog 94 [.psl 2 (keys1.map cA.enc)] (.tup [.agg (zA.enc r.1), .int .i64 r.2]) [] := by
 refine sB Try.func94 rfl (by decide) rL ?_
 dsimp only [Try.f94]
 rw [gQ] at h0
 refine (show pA _ _ _ _ ⟨kB 0 _, [], 0, []⟩ from ?_)
 refine xS 16 [0, 2] ?_
 refine kA ?_
 obtain ⟨vr2, hvr2, h0⟩ := eA h0
 refine oA 40 [0, 2, 4] (fun | 1 => some (.int .i64 vr2, []) | _ => none) rfl (fun _ _ => rC (eY hvr2)) ?_
 refine xS 56 [0, 2, 4, 8] ?_
 refine xI h0 rfl (fun h0 hb3 => ?_) (fun h0 hb3 => ?_)
 ·
  refine xS 88 [2, 3] ?_
  refine jA (mA ?_)
  obtain rfl := Option.some.inj h0
  refine nA [] ?_
  exact rG
 ·
  refine qA (gA ?_)
  obtain ⟨vr4, hvr4, h0⟩ := eA h0
  refine oA 88 [2, 3] (fun | 1 => some (.agg (zA.enc vr4), []) | _ => none) rfl (fun _ _ => rC (zd7 hvr4)) ?_
  refine jA ?_
  obtain rfl := Option.some.inj h0
  refine nA [] ?_
  exact rG
theorem zeL {fu : Nat} {runs1 : List (List aA)} {vat2 : List Int} {r : zA} (h0 : tN fu runs1 vat2 = some r) : lB Try.prog 77 [.psl 1 (runs1.map (wA 4 aA.enc)), .psl 1 (vat2.map (iA .i64))] (.agg (zA.enc r)) [] := by
 refine sB Try.func77 rfl (by decide) rL ?_
 dsimp only [Try.f77]
 rw [tN] at h0
 refine (show pA _ _ _ _ ⟨kB 0 _, [], 0, []⟩ from ?_)
 refine xS 8 [0, 1, 4] ?_
 obtain ⟨hc3, h0⟩ := cF h0
 refine xS 40 [0, 1, 4, 5] ?_
 refine xE ⟨[(0, .psl 1 (List.map (wA 4 aA.enc) runs1)), (1, .psl 1 (List.map (iA .i64) vat2)), (4, .ref 0 0 0 0), (5, .sl 24 0 2 0 ((List.replicate runs1.length (cA.mk [] false) : List cA).length))], [(0, ⟨0, true, true, 3, [[.nils, .nils, .int .i64 0]]⟩), (24, ⟨0, true, true, 2, List.map cA.enc (List.replicate runs1.length (cA.mk [] false) : List cA)⟩)], 40, []⟩ ?_
 refine kA ?_
 refine xS 64 [1, 4, 5, 13, 14, 15] ?_
 obtain ⟨x17, hxx17, h0⟩ := eA h0
 refine lD (fun s' => ∃ g26 : Nat, s'.nx ≤ 72 ∧ LeN [] s' ⟨[(4, .ref 0 0 0 0), (5, .sl 24 g26 2 0 x17.length)], [(0, ⟨0, true, true, 3, [[.nils, .nils, .int .i64 0]]⟩), (24, ⟨g26, true, true, 2, List.map cA.enc x17⟩)], 72, []⟩) ?_ ?_
 ·
  intro s' hs
  obtain ⟨g26, hn, hs⟩ := hs
  refine gA ?_
  refine zB [] hn hs ?_
  obtain ⟨vr27, hvr27, h0⟩ := eA h0
  refine oA 136 [4, 8] (fun | 1 => some (.tup [.agg (zA.enc vr27.1), .int .i64 vr27.2], []) | _ => none) rfl (fun _ _ => rC (zjA hvr27)) ?_
  refine xS 152 [4] ?_
  refine jA ?_
  obtain rfl := Option.some.inj h0
  refine nA [] ?_
  exact rG
 ·
  refine kD (ι := { p : Nat × Int × List cA × Nat // zH runs1 vat2 p.1 p.2.1 p.2.2.1 = some x17 }) (fun p => ⟨[(1, .psl 1 (List.map (iA .i64) vat2)), (4, .ref 0 0 0 0), (5, .sl 24 p.1.2.2.2 2 0 p.1.2.2.1.length), (13, .psl 1 (List.map (wA 4 aA.enc) runs1)), (14, .int .i64 (runs1.length : Int)), (15, .int .i64 p.1.2.1)], [(0, ⟨0, true, true, 3, [[.nils, .nils, .int .i64 0]]⟩), (24, ⟨p.1.2.2.2, true, true, 2, List.map cA.enc p.1.2.2.1⟩)], 64, []⟩) (fun p => p.1.1) ⟨(fu, 0, (List.replicate runs1.length (cA.mk [] false) : List cA), 0), hxx17⟩ ⟨rF, rE, rfl, rfl, trivial, trivial⟩ (fun _ => Nat.le_refl _) ?_
  rintro ⟨⟨fu, v18, keys19, g20⟩, h1⟩
  cases fu with
  | zero =>
   replace h1 : zH runs1 vat2 0 v18 keys19 = some x17 := h1
   rw [zH] at h1; cases h1
  | succ fu =>
   replace h1 : zH runs1 vat2 (fu + 1) v18 keys19 = some x17 := h1
   rw [zH] at h1
   refine (show pA _ _ _ _ ⟨[(1, .psl 1 (List.map (iA .i64) vat2)), (4, .ref 0 0 0 0), (5, .sl 24 g20 2 0 keys19.length), (13, .psl 1 (List.map (wA 4 aA.enc) runs1)), (14, .int .i64 (runs1.length : Int)), (15, .int .i64 v18)], [(0, ⟨0, true, true, 3, [[.nils, .nils, .int .i64 0]]⟩), (24, ⟨g20, true, true, 2, List.map cA.enc keys19⟩)], 64, []⟩ from ?_)
   refine xS 72 [1, 4, 5, 13, 14, 15, 16] ?_
   refine kA ?_
   refine xI h1 rfl (fun h1 hb21 => ?_) (fun h1 hb21 => ?_)
   ·
    refine qA (gA (kA (jC ?_)))
    obtain ⟨e22, he22, h1⟩ := eA h1
    obtain ⟨he22a, he22b, he22c⟩ := fB he22
    refine oA 112 [1, 4, 5, 6, 7, 13, 14, 15] (fun _ => none) rfl (fun _ _ => rS (rA he22a (rA he22b he22c))) ?_
    obtain ⟨e23, he23, h1⟩ := eA h1
    obtain ⟨he23a, he23b, he23c⟩ := fB he23
    obtain ⟨vr24, hvr24, h1⟩ := eA h1
    obtain ⟨e25, he25, h1⟩ := eA h1
    obtain ⟨he25a, he25b, he25c⟩ := fB he25
    refine iC 192 [1, 4, 5, 13, 14, 15] (fun | 7 => some (.agg (cA.enc vr24), []) | _ => none) rfl (fun _ _ => rB (rA he22a (rA he22b (rA he22c (rA he23a (rA he23b (rA he23c (rA he25a (rA he25b he25c)))))))) (eZ hvr24)) ?_
    refine cC (gA ?_)
    refine xE ⟨[(1, .psl 1 (List.map (iA .i64) vat2)), (4, .ref 0 0 0 0), (5, .sl 24 g20 2 0 ((keys19.set v18.toNat vr24).length)), (13, .psl 1 (List.map (wA 4 aA.enc) runs1)), (14, .int .i64 (runs1.length : Int)), (15, .int .i64 v18)], [(0, ⟨0, true, true, 3, [[.nils, .nils, .int .i64 0]]⟩), (24, ⟨g20, true, true, 2, List.map cA.enc (keys19.set v18.toNat vr24)⟩)], 192, []⟩ ?_
    refine iC 208 [1, 4, 5, 13, 14, 15] (fun _ => none) rfl (fun _ _ => rS (rA he22a (rA he22b (rA he22c (rA he23a (rA he23b (rA he23c (rA he25a (rA he25b he25c))))))))) ?_
    refine gA ?_
    exact ⟨⟨(fu, (IntKind.i64.wrap (v18 + 1)), (keys19.set v18.toNat vr24), g20), h1⟩, ⟨rF, rE, rfl, rfl, trivial, trivial⟩, Nat.lt_succ_self _⟩
   ·
    refine vC (jB (jB (bD ?_)))
    obtain rfl := Option.some.inj h1
    exact ⟨g20, rL, ⟨rF, rE, rfl, rfl, trivial, trivial⟩⟩
theorem zj4 {fu : Nat} {runs1 : List (List aA)} {r : gB × Int × Int} (h0 : cI fu runs1 = some r) : lB Try.prog 57 [.psl 1 (runs1.map (wA 4 aA.enc))] (.tup [.agg (gB.enc r.1), .int .i64 r.2.1, .int .i64 r.2.2]) [] := by
 refine sB Try.func57 rfl (by decide) rL ?_
 dsimp only [Try.f57]
 rw [cI] at h0
 refine (show pA _ _ _ _ ⟨kB 0 _, [], 0, []⟩ from ?_)
 refine xS 24 [0, 2] ?_
 refine kA ?_
 obtain ⟨vr2, hvr2, h0⟩ := eA h0
 refine oA 80 [0, 2, 5, 6] (fun | 1 => some (.tup [.int .i64 vr2.1, .int .i64 vr2.2], []) | _ => none) rfl (fun _ _ => rC (zbT hvr2)) ?_
 refine xS 96 [0, 2, 5, 6, 14] ?_
 refine xI h0 rfl (fun h0 hb3 => ?_) (fun h0 hb3 => ?_)
 ·
  refine xS 144 [2, 3, 4] ?_
  refine jA (mA ?_)
  obtain rfl := Option.some.inj h0
  refine nA [] ?_
  exact rG
 ·
  refine qA (gA ?_)
  obtain ⟨hc4, h0⟩ := cF h0
  refine xS 128 [0, 2, 7] ?_
  refine xE ⟨[(0, .psl 1 (List.map (wA 4 aA.enc) runs1)), (2, .ref 0 0 0 0), (7, .sl 112 0 1 0 ((List.replicate runs1.length 0 : List Int).length))], [(0, ⟨0, true, true, 5, [[.nils, .nils, .nils, .nils, .int .i64 0]]⟩), (112, ⟨0, true, true, 1, List.map (iA .i64) (List.replicate runs1.length 0 : List Int)⟩)], 128, []⟩ ?_
  obtain ⟨vr5, hvr5, h0⟩ := eA h0
  obtain ⟨vr6, hvr6, h0⟩ := eA h0
  refine oA 208 [2, 3, 4] (fun | 1 => some (.psl 1 (vr5.map (wA 4 aA.enc)), []) | 5 => some (.agg (zA.enc vr6), []) | _ => none) rfl (fun Kt hK => by
    try have q0 := zaP hvr5
    try have q1 := zeL hvr6
    exact rT) ?_
  refine jA ?_
  obtain rfl := Option.some.inj h0
  refine nA [] ?_
  exact rG
theorem zaY {fu : Nat} {bottom1 : Bool} {r : mB} (h0 : kL fu bottom1 = some r) : lB Try.prog 58 [.bool bottom1] (.agg (mB.enc r)) [] := by
 refine sB Try.func58 rfl (by decide) rL ?_
 dsimp only [Try.f58]
 rw [kL] at h0
 refine (show pA _ _ _ _ ⟨kB 0 _, [], 0, []⟩ from ?_)
 refine xS 8 [0, 2] ?_
 refine xS 32 [2] ?_
 refine jA ?_
 obtain rfl := Option.some.inj h0
 refine nA [] ?_
 exact rG
theorem zkD {fu : Nat} {runs1 : List (List aA)} {bottom2 : Bool} {r : pB × Int × Int} (h0 : iQ fu runs1 bottom2 = some r) : lB Try.prog 42 [.psl 1 (runs1.map (wA 4 aA.enc)), .bool bottom2] (.tup [.agg (pB.enc r.1), .int .i64 r.2.1, .int .i64 r.2.2]) [] := by
 refine sB Try.func42 rfl (by decide) rL ?_
 dsimp only [Try.f42]
 rw [iQ] at h0
 refine (show pA _ _ _ _ ⟨kB 0 _, [], 0, []⟩ from ?_)
 refine xS 24 [0, 1, 4] ?_
 obtain ⟨vr3, hvr3, h0⟩ := eA h0
 refine oA 104 [1, 4, 5, 6, 7] (fun | 1 => some (.tup [.agg (gB.enc vr3.1), .int .i64 vr3.2.1, .int .i64 vr3.2.2], []) | _ => none) rfl (fun _ _ => rC (zj4 hvr3)) ?_
 refine kA ?_
 refine xS 120 [1, 4, 5, 6, 7, 15] ?_
 refine xI h0 rfl (fun h0 hb4 => ?_) (fun h0 hb4 => ?_)
 ·
  refine xS 168 [4, 5, 6] ?_
  refine jA (mA ?_)
  obtain rfl := Option.some.inj h0
  refine nA [] ?_
  exact rG
 ·
  refine qA (gA ?_)
  obtain ⟨vr5, hvr5, h0⟩ := eA h0
  refine jD 176 [4, 5, 6] (fun | 2 => some (.agg (mB.enc vr5), []) | _ => none) rfl rfl rfl (fun _ _ => rCd (zaY hvr5)) ?_
  refine jA ?_
  obtain rfl := Option.some.inj h0
  refine nA [] ?_
  exact rG
theorem zdH {fu : Nat} {l1 : dB} {level2 : Int} {bottom3 : Bool} {r : xA} (h0 : eO fu l1 level2 bottom3 = some r) : lB Try.prog 23 [.agg (dB.enc l1), .int .i64 level2, .bool bottom3] (.agg (xA.enc r)) [] := by
 refine sB Try.func23 rfl (by decide) rL ?_
 dsimp only [Try.f23]
 rw [eO] at h0
 refine (show pA _ _ _ _ ⟨kB 0 _, [], 0, []⟩ from ?_)
 refine xS 16 [1, 2, 3, 6] ?_
 obtain ⟨e4, he4, h0⟩ := eA h0
 obtain ⟨he4a, he4b, he4c⟩ := fB he4
 refine oA 72 [1, 2, 6, 7] (fun _ => none) rfl (fun _ _ => rS (rA he4a (rA he4b he4c))) ?_
 obtain ⟨e5, he5, h0⟩ := eA h0
 have he5b := (fB he5).2.1
 have he5c := (nH 1 he5 rfl).1
 have he5a := (nH 1 he5 rfl).2
 obtain ⟨e6, he6, h0⟩ := eA h0
 have he6b := (fB he6).2.1
 have he6c := (nH 0 he6 rfl).1
 have he6a := (nH 0 he6 rfl).2
 obtain ⟨vr7, hvr7, h0⟩ := eA h0
 refine jD 224 [1, 6, 8] (fun | 10 => some (.tup [.agg (pB.enc vr7.1), .int .i64 vr7.2.1, .int .i64 vr7.2.2], []) | _ => none) rfl rfl rfl (fun _ _ => cQ (rA he4a (rA he4b (rA he4c (rA he5a (rA he5b (rA he5c (rA he6a (rA he6b he6c)))))))) (zkD hvr7)) ?_
 refine xE ⟨[(1, .int .i64 level2), (6, .ref 8 0 0 0), (8, .ref 192 0 0 0)], [(8, ⟨0, true, true, 11, [[.int .i64 0, .nils, .nils, .nils, .nils, .int .i64 0, .bool false, .str [], .bool false, .nils, .int .i64 0]]⟩), (192, ⟨0, true, true, 10, [[.psl 1 (List.map (wA 4 aA.enc) vr7.1.Merge.Runs), .psl 1 (List.map (iA .i64) vr7.1.Merge.At), .psl 2 (List.map cA.enc vr7.1.Merge.Tree.Keys), .psl 1 (List.map (iA .i64) vr7.1.Merge.Tree.Lose), .int .i64 vr7.1.Merge.Tree.Win, .bool vr7.1.Shadow.Some, .str vr7.1.Shadow.Last, .bool vr7.1.Shadow.Bottom, .psl 4 (List.map aA.enc vr7.1.Out), .int .i64 vr7.1.Steps]]⟩)], 224, []⟩ ?_
 refine oA 256 [6] (fun _ => none) rfl (fun _ _ => rS (rA he4a (rA he4b (rA he4c (rA he5a (rA he5b (rA he5c (rA he6a (rA he6b he6c))))))))) ?_
 refine jA ?_
 obtain rfl := Option.some.inj h0
 refine nA [] ?_
 simp (maxSteps := 1000000) only [↓reduceIte, reduceCtorEq, Nat.reduceEqDiff, Nat.reduceLT, Nat.reduceLeDiff, Nat.reduceAdd, Nat.reduceMul, Int.reduceToNat, push_cast, lC, he4a, he4b, he4c, he5a, he5b, he5c, he6a, he6b, he6c]
 all_goals exact rH
theorem zhk {fu : Nat} {seq1 : Int} {seq2 : List sA} {r : List Int} (h0 : iN fu seq1 seq2 = some r) : lB Try.prog 48 [.fn 41 [] [.pp [.int .i64 seq1, .psl 1 (seq2.map sA.enc)]]] (.psl 1 (r.map (iA .i64))) [] := by
 refine sB Try.func48 rfl (by decide) rL ?_
 dsimp only [Try.f48]
 rw [iN] at h0
 refine (show pA _ _ _ _ ⟨kB 0 _, [], 0, []⟩ from ?_)
 refine xS 8 [0] ?_
 refine mH 3 rfl ?_
 refine fC (l' := List.range' 0 1 ++ (1 :: (List.range' 2 1 ++ []))) rfl ?_
 refine pC 0 1 16 (1 :: (List.range' 2 1 ++ [])) (fun _ => none) rfl rfl rfl (fun _ _ => rT) ?_
 refine xJ rfl rfl rfl rfl rfl Try.func64 rfl (by decide) rfl rL ?_
 dsimp only [Try.f64]
 refine xE ⟨[(0, .nils), (1, .fn 41 [] [.pp [.int .i64 seq1, .psl 1 (List.map sA.enc seq2)]])], [], 16, []⟩ ?_
 refine xS 32 [1, 2, 4] ?_
 refine kA ?_
 refine xS 40 [2, 4, 6] ?_
 refine jC ?_
 refine zbE rfl Try.func41 rfl (by decide) rL ?_
 intro RC3 hRC3
 have stRC3 : RC3.st = .ready ∧ RC3.pend = none := by rw [hRC3]; exact ⟨rfl, rfl⟩
 have okRC3 : cZ 40 RC3 := by rw [hRC3]; exact And.intro (rR) rfl
 dsimp only [Try.f41]
 refine zB (s2 := ⟨[(0, .yld 40), (1, .pp [.int .i64 seq1, .psl 1 (List.map sA.enc seq2)])], [(16, ⟨0, true, true, 1, [[.nils]]⟩)], 41, [(40, RC3)]⟩) [] rL ⟨rF, rE, rfl, rfl, (dC.consR rL rfl okRC3 rL trivial), trivial⟩ ?_
 refine xS 73 [0, 6, 7, 8] ?_
 refine zat ?_
 refine zB (s2 := ⟨[(0, .yld 40), (6, .psl 1 (List.map sA.enc seq2)), (7, .int .i64 (seq2.length : Int)), (8, .int .i64 0)], [(16, ⟨0, true, false, 1, [[.sl 73 0 1 0 0]]⟩), (73, ⟨0, true, true, 1, List.map (iA .i64) []⟩)], 74, [(40, RC3)]⟩) [(73, 1)] rL ⟨rF, rE, rfl, rfl, (dC.consR rL rfl okRC3 rL trivial), rN⟩ ?_
 obtain ⟨x17, hxx17, h0⟩ := eA h0
 refine lD (fun s' => ∃ g25 : Nat, s'.nx ≤ 82 ∧ LeN [] s' ⟨[], [(16, ⟨0, true, false, 1, [[.sl 73 g25 1 0 x17.length]]⟩), (73, ⟨g25, true, true, 1, List.map (iA .i64) x17⟩)], 82, [(40, RC3)]⟩) ?_ ?_
 ·
  intro s' hs
  obtain ⟨g25, hn, hs⟩ := hs
  refine ⟨_, hn, hs, ?_⟩
  refine iS (fun _ _ => rT) ?_
  refine zau stRC3 rfl ?_
  refine cC (gA ?_)
  refine xE ⟨[(2, .ref 16 0 0 0), (4, .nils), (6, .fn 41 [] [.pp [.int .i64 seq1, .psl 1 (List.map sA.enc seq2)]])], [(16, ⟨0, true, false, 1, [[.sl 73 g25 1 0 x17.length]]⟩), (73, ⟨g25, true, true, 1, List.map (iA .i64) x17⟩)], 82, []⟩ ?_
  refine xS 98 [4] ?_
  refine jA ?_
  refine oE (fun _ _ => rT) ?_
  refine xF ⟨[(0, .fn 41 [] [.pp [.int .i64 seq1, .psl 1 (List.map sA.enc seq2)]]), (3, .fn 41 [] [.pp [.int .i64 seq1, .psl 1 (List.map sA.enc seq2)]]), (4, .sl 73 g25 1 0 x17.length)], [(73, ⟨g25, true, true, 1, List.map (iA .i64) x17⟩)], 98, []⟩ ?_
  refine fC (l' := List.range' 2 1 ++ []) rfl ?_
  refine pC 2 1 106 [] (fun _ => none) rfl rfl rfl (fun _ _ => rT) ?_
  refine mD ?_
  refine gA ?_
  refine xE ⟨[(2, .sl 73 g25 1 0 x17.length)], [(73, ⟨g25, true, true, 1, List.map (iA .i64) x17⟩)], 106, []⟩ ?_
  refine jA ?_
  obtain rfl := Option.some.inj h0
  refine nA [] ?_
  exact rG
 ·
  refine kD (ι := { p : Nat × Int × List Int × Nat // jH seq2 p.1 p.2.1 p.2.2.1 = some x17 }) (fun p => ⟨[(0, .yld 40), (6, .psl 1 (List.map sA.enc seq2)), (7, .int .i64 (seq2.length : Int)), (8, .int .i64 p.1.2.1)], [(16, ⟨0, true, false, 1, [[.sl 73 p.1.2.2.2 1 0 p.1.2.2.1.length]]⟩), (73, ⟨p.1.2.2.2, true, true, 1, List.map (iA .i64) p.1.2.2.1⟩)], 74, [(40, RC3)]⟩) (fun p => p.1.1) ⟨(fu, 0, [], 0), hxx17⟩ ⟨rF, rE, rfl, rfl, (dC.consR rL rfl okRC3 rL trivial), trivial⟩ (fun _ => Nat.le_refl _) ?_
  rintro ⟨⟨fu, v18, v19, g20⟩, h1⟩
  cases fu with
  | zero =>
   replace h1 : jH seq2 0 v18 v19 = some x17 := h1
   rw [jH] at h1; cases h1
  | succ fu =>
   replace h1 : jH seq2 (fu + 1) v18 v19 = some x17 := h1
   rw [jH] at h1
   refine (show pA _ _ _ _ ⟨[(0, .yld 40), (6, .psl 1 (List.map sA.enc seq2)), (7, .int .i64 (seq2.length : Int)), (8, .int .i64 v18)], [(16, ⟨0, true, false, 1, [[.sl 73 g20 1 0 v19.length]]⟩), (73, ⟨g20, true, true, 1, List.map (iA .i64) v19⟩)], 74, [(40, RC3)]⟩ from ?_)
   refine xS 82 [0, 6, 7, 8, 9] ?_
   refine kA ?_
   refine xI h1 rfl (fun h1 hb21 => ?_) (fun h1 hb21 => ?_)
   ·
    refine qA (gA (kA (jC ?_)))
    obtain ⟨e22, he22, h1⟩ := eA h1
    obtain ⟨he22a, he22b, he22c⟩ := fB he22
    refine oA 130 [0, 3, 4, 6, 7, 8] (fun _ => none) rfl (fun _ _ => rS (rA he22a (rA he22b he22c))) ?_
    refine mH 10 rfl ?_
    refine fC (l' := List.range' 0 5 ++ (List.range' 5 5 ++ [])) rfl ?_
    refine pC 0 5 170 (List.range' 5 5 ++ []) (fun _ => none) rfl rfl rfl (fun _ _ => rS (rA he22a (rA he22b he22c))) ?_
    refine iJ (s2 := ⟨[(0, .yld 40), (3, .int .i64 v18), (4, .ref 106 0 0 0), (6, .psl 1 (List.map sA.enc seq2)), (7, .int .i64 (seq2.length : Int)), (8, .int .i64 v18), (13, .ref 106 0 0 0), (14, .psl 2 (List.map eB.enc e22.Runs)), (15, .int .i64 (e22.Runs.length : Int)), (16, .bool (decide ((e22.Runs.length : Int) = 2))), (17, .bool (decide ((e22.Runs.length : Int) = 2)))], [(16, ⟨0, true, false, 1, [[.sl 73 g20 1 0 v19.length]]⟩), (73, ⟨g20, true, true, 1, List.map (iA .i64) v19⟩), (106, ⟨0, true, true, 1, [[.psl 2 (List.map eB.enc e22.Runs)]]⟩)], 170, [(40, RC3)]⟩) [] rL ⟨rF, rE, rfl, rfl, (dC.consR rL rfl okRC3 rL trivial), trivial⟩ ?_
    generalize hg23 : (decide ((e22.Runs.length : Int) = 2)) = b23
    cases b23 with
    | true =>
     replace h1 := iB h1 hg23
     refine fC (l' := List.range' 5 2 ++ (7 :: (List.range' 8 2 ++ []))) rfl ?_
     refine pC 5 2 186 (7 :: (List.range' 8 2 ++ [])) (fun _ => none) rfl rfl rfl (fun _ _ => rS (rA he22a (rA he22b he22c))) ?_
     refine za6 hRC3 rfl rfl rfl rfl rfl rfl rfl rfl rfl ?_
     refine zB (s2 := ⟨[(2, .ref 16 0 0 0), (4, .nils), (6, .fn 41 [] [.pp [.int .i64 seq1, .psl 1 (List.map sA.enc seq2)]]), (7, .int .i64 v18)], [(16, ⟨0, true, false, 1, [[.sl 73 g20 1 0 v19.length]]⟩), (73, ⟨g20, true, true, 1, List.map (iA .i64) v19⟩), (106, ⟨0, true, true, 1, [[.psl 2 (List.map eB.enc e22.Runs)]]⟩)], 186, [(40, RC3)]⟩) [] rL ⟨rF, rE, rfl, rfl, (dC.consR rL rfl okRC3 rL trivial), trivial⟩ ?_
     refine iC 194 [2, 4, 5] (fun _ => none) rfl (fun _ _ => rS (rA he22a (rA he22b he22c))) ?_
     refine gA ?_
     refine ⟨RC3, rfl, stRC3.1, ?_⟩
     refine zB (s2 := ⟨[(2, .ref 16 0 0 0), (4, .nils), (5, .int .i64 v18)], [(16, ⟨0, true, false, 1, [[.sl 73 g20 1 0 v19.length]]⟩), (73, ⟨g20, true, true, 1, List.map (iA .i64) v19⟩), (106, ⟨0, true, true, 1, [[.psl 2 (List.map eB.enc e22.Runs)]]⟩)], 194, [(40, { RC3 with st := .busy, pend := RC3.pend })]⟩) [] rL ⟨rF, rE, rfl, rfl, (dC.consR rL rfl okRC3 rL trivial), trivial⟩ ?_
     refine jC ?_
     obtain ⟨hc24, h1⟩ := cF h1
     refine iC 234 [2, 4] (fun _ => none) rfl (fun _ _ => rS (rA he22a (rA he22b he22c))) ?_
     refine cC ?_
     refine zaw stRC3 rfl ?_
     refine iJ (s2 := ⟨[(0, .yld 40), (3, .int .i64 v18), (4, .ref 106 0 0 0), (6, .psl 1 (List.map sA.enc seq2)), (7, .int .i64 (seq2.length : Int)), (8, .int .i64 v18), (13, .ref 106 0 0 0), (14, .psl 2 (List.map eB.enc e22.Runs)), (15, .int .i64 (e22.Runs.length : Int)), (16, .bool true), (17, .bool true), (18, .yld 40), (19, .int .i64 v18), (20, .bool true)], [(16, ⟨0, true, false, 1, [[.sl 73 (g20 + 1) 1 0 ((v19 ++ [v18]).length)]]⟩), (73, ⟨(g20 + 1), true, true, 1, List.map (iA .i64) (v19 ++ [v18])⟩), (106, ⟨0, true, true, 1, [[.psl 2 (List.map eB.enc e22.Runs)]]⟩)], 234, [(40, RC3)]⟩) [] rL ⟨rF, rE, rfl, rfl, (dC.consR rL rfl okRC3 rL trivial), trivial⟩ ?_
     refine fC (l' := List.range' 8 2 ++ []) rfl ?_
     refine pC 8 2 250 [] (fun _ => none) rfl rfl rfl (fun _ _ => rS (rA he22a (rA he22b he22c))) ?_
     refine mD ?_
     refine gA ?_
     refine zB (s2 := ⟨[(0, .yld 40), (6, .psl 1 (List.map sA.enc seq2)), (7, .int .i64 (seq2.length : Int)), (8, .int .i64 v18), (18, .yld 40), (19, .int .i64 v18), (20, .bool true), (21, .bool false), (22, .bool false)], [(16, ⟨0, true, false, 1, [[.sl 73 (g20 + 1) 1 0 ((v19 ++ [v18]).length)]]⟩), (73, ⟨(g20 + 1), true, true, 1, List.map (iA .i64) (v19 ++ [v18])⟩)], 250, [(40, RC3)]⟩) [] rL ⟨rF, rE, rfl, rfl, (dC.consR rL rfl okRC3 rL trivial), trivial⟩ ?_
     refine wF rfl ?_
     refine qA (cC (gA ?_))
     refine iC 266 [0, 6, 7, 8, 18, 19, 20, 21] (fun _ => none) rfl (fun _ _ => rS (rA he22a (rA he22b he22c))) ?_
     refine gA ?_
     exact ⟨⟨(fu, (IntKind.i64.wrap (v18 + 1)), (v19 ++ [v18]), (g20 + 1)), h1⟩, ⟨rF, rE, rfl, rfl, (dC.consR rL rfl okRC3 rL trivial), trivial⟩, Nat.lt_succ_self _⟩
    | false =>
     replace h1 := vA h1 hg23
     refine fC (l' := List.range' 5 5 ++ []) rfl ?_
     refine pC 5 5 210 [] (fun _ => none) rfl rfl rfl (fun _ _ => rS (rA he22a (rA he22b he22c))) ?_
     refine mD ?_
     refine gA ?_
     refine zB (s2 := ⟨[(0, .yld 40), (6, .psl 1 (List.map sA.enc seq2)), (7, .int .i64 (seq2.length : Int)), (8, .int .i64 v18), (22, .bool false)], [(16, ⟨0, true, false, 1, [[.sl 73 g20 1 0 v19.length]]⟩), (73, ⟨g20, true, true, 1, List.map (iA .i64) v19⟩)], 210, [(40, RC3)]⟩) [] rL ⟨rF, rE, rfl, rfl, (dC.consR rL rfl okRC3 rL trivial), trivial⟩ ?_
     refine wF rfl ?_
     refine qA (cC (gA ?_))
     refine iC 226 [0, 6, 7, 8] (fun _ => none) rfl (fun _ _ => rS (rA he22a (rA he22b he22c))) ?_
     refine gA ?_
     exact ⟨⟨(fu, (IntKind.i64.wrap (v18 + 1)), v19, g20), h1⟩, ⟨rF, rE, rfl, rfl, (dC.consR rL rfl okRC3 rL trivial), trivial⟩, Nat.lt_succ_self _⟩
   ·
    refine vC (jB (jB (bD ?_)))
    obtain rfl := Option.some.inj h1
    exact ⟨g20, rL, ⟨rF, rE, rfl, rfl, (dC.consR rL rfl okRC3 rL trivial), trivial⟩⟩
theorem oL {fu : Nat} {s11 : List cA} {s22 : List cA} {r : Bool} (h0 : uK fu s11 s22 = some r) : lB Try.prog 68 [.psl 2 (s11.map cA.enc), .psl 2 (s22.map cA.enc)] (.bool r) [] := by
 refine sB Try.func68 rfl (by decide) rL ?_
 dsimp only [Try.f68]
 rw [uK] at h0
 refine (show pA _ _ _ _ ⟨kB 0 _, [], 0, []⟩ from ?_)
 refine xS 8 [0, 1] ?_
 refine kA ?_
 refine xS 48 [0, 1, 10] ?_
 refine xI h0 rfl (fun h0 hb3 => ?_) (fun h0 hb3 => ?_)
 ·
  refine xS 56 [4] ?_
  refine jA (mA ?_)
  obtain rfl := Option.some.inj h0
  refine nA [] ?_
  exact rG
 ·
  refine qA (gA (kA ?_))
  refine xS 72 [0, 1, 12, 13] ?_
  obtain ⟨x13, hxx13, h0⟩ := eA h0
  refine lD (fun s' => ∃ o19 : Unit, x13 = .inl o19 ∧ s'.nx ≤ 80 ∧ LeN [] s' ⟨[], [], 80, []⟩) ?_ ?_
  ·
   intro s' hs
   obtain ⟨o19, rfl, hn, hs⟩ := hs
   refine gA ?_
   refine zB [] hn hs ?_
   refine xS 88 [4] ?_
   refine jA ?_
   obtain rfl := Option.some.inj h0
   refine nA [] ?_
   exact rG
  ·
   refine kD (ι := { p : Nat × Int // yH s11 s22 p.1 p.2 = some x13 }) (fun p => ⟨[(0, .psl 2 (List.map cA.enc s11)), (1, .psl 2 (List.map cA.enc s22)), (12, .int .i64 (s11.length : Int)), (13, .int .i64 p.1.2)], [], 72, []⟩) (fun p => p.1.1) ⟨(fu, 0), hxx13⟩ ⟨rF, rE, rfl, rfl, trivial, trivial⟩ (fun _ => Nat.le_refl _) ?_
   rintro ⟨⟨fu, v14⟩, h1⟩
   cases fu with
   | zero =>
   replace h1 : yH s11 s22 0 v14 = some x13 := h1
   rw [yH] at h1; cases h1
   | succ fu =>
    replace h1 : yH s11 s22 (fu + 1) v14 = some x13 := h1
    rw [yH] at h1
    refine (show pA _ _ _ _ ⟨[(0, .psl 2 (List.map cA.enc s11)), (1, .psl 2 (List.map cA.enc s22)), (12, .int .i64 (s11.length : Int)), (13, .int .i64 v14)], [], 72, []⟩ from ?_)
    refine xS 80 [0, 1, 12, 13, 14] ?_
    refine kA ?_
    refine xI h1 rfl (fun h1 hb15 => ?_) (fun h1 hb15 => ?_)
    ·
     refine qA (gA (kA (jC ?_)))
     refine xS 96 [0, 1, 5, 12, 13] ?_
     obtain ⟨e16, he16, h1⟩ := eA h1
     obtain ⟨he16a, he16b, he16c⟩ := fB he16
     obtain ⟨e17, he17, h1⟩ := eA h1
     obtain ⟨he17a, he17b, he17c⟩ := fB he17
     refine jD 168 [0, 1, 12, 13, 24] (fun _ => none) rfl rfl rfl (fun _ _ => uE (rA he16a (rA he16b (rA he16c (rA he17a (rA he17b he17c)))))) ?_
     refine xI h1 rfl (fun h1 hb18 => ?_) (fun h1 hb18 => ?_)
     ·
      refine oA 176 [4] (fun _ => none) rfl (fun _ _ => rS (rA he16a (rA he16b (rA he16c (rA he17a (rA he17b he17c)))))) ?_
      refine jA ?_
      obtain rfl := Option.some.inj h1
      refine kC (mA (mA (uD (mA ?_))))
      obtain rfl := Option.some.inj h0
      refine nA [] ?_
      simp (maxSteps := 1000000) only [↓reduceIte, reduceCtorEq, Nat.reduceEqDiff, Nat.reduceLT, Nat.reduceLeDiff, Nat.reduceAdd, Nat.reduceMul, Int.reduceToNat, push_cast, lC, he16a, he16b, he16c, he17a, he17b, he17c]
      all_goals exact rH
     ·
      refine qA (cC (gA ?_))
      refine iC 184 [0, 1, 12, 13] (fun _ => none) rfl (fun _ _ => rS (rA he16a (rA he16b (rA he16c (rA he17a (rA he17b he17c)))))) ?_
      refine gA ?_
      exact ⟨⟨(fu, (IntKind.i64.wrap (v14 + 1))), h1⟩, ⟨rF, rE, rfl, rfl, trivial, trivial⟩, Nat.lt_succ_self _⟩
    ·
     refine vC (jB (jB (bD ?_)))
     obtain rfl := Option.some.inj h1
     exact ⟨_, rfl, rL, ⟨rF, rE, rfl, rfl, trivial, trivial⟩⟩
theorem jG {fu : Nat} {s11 : List Int} {s22 : List Int} {r : Bool} (h0 : aK fu s11 s22 = some r) : lB Try.prog 67 [.psl 1 (s11.map (iA .i64)), .psl 1 (s22.map (iA .i64))] (.bool r) [] := by
 refine sB Try.func67 rfl (by decide) rL ?_
 dsimp only [Try.f67]
 rw [aK] at h0
 refine (show pA _ _ _ _ ⟨kB 0 _, [], 0, []⟩ from ?_)
 refine xS 8 [0, 1] ?_
 refine kA ?_
 refine xS 48 [0, 1, 10] ?_
 refine xI h0 rfl (fun h0 hb3 => ?_) (fun h0 hb3 => ?_)
 ·
  refine xS 56 [4] ?_
  refine jA (mA ?_)
  obtain rfl := Option.some.inj h0
  refine nA [] ?_
  exact rG
 ·
  refine qA (gA (kA ?_))
  refine xS 72 [0, 1, 12, 13] ?_
  obtain ⟨x13, hxx13, h0⟩ := eA h0
  refine lD (fun s' => ∃ o19 : Unit, x13 = .inl o19 ∧ s'.nx ≤ 80 ∧ LeN [] s' ⟨[], [], 80, []⟩) ?_ ?_
  ·
   intro s' hs
   obtain ⟨o19, rfl, hn, hs⟩ := hs
   refine gA ?_
   refine zB [] hn hs ?_
   refine xS 88 [4] ?_
   refine jA ?_
   obtain rfl := Option.some.inj h0
   refine nA [] ?_
   exact rG
  ·
   refine kD (ι := { p : Nat × Int // oI s11 s22 p.1 p.2 = some x13 }) (fun p => ⟨[(0, .psl 1 (List.map (iA .i64) s11)), (1, .psl 1 (List.map (iA .i64) s22)), (12, .int .i64 (s11.length : Int)), (13, .int .i64 p.1.2)], [], 72, []⟩) (fun p => p.1.1) ⟨(fu, 0), hxx13⟩ ⟨rF, rE, rfl, rfl, trivial, trivial⟩ (fun _ => Nat.le_refl _) ?_
   rintro ⟨⟨fu, v14⟩, h1⟩
   cases fu with
   | zero =>
   replace h1 : oI s11 s22 0 v14 = some x13 := h1
   rw [oI] at h1; cases h1
   | succ fu =>
    replace h1 : oI s11 s22 (fu + 1) v14 = some x13 := h1
    rw [oI] at h1
    refine (show pA _ _ _ _ ⟨[(0, .psl 1 (List.map (iA .i64) s11)), (1, .psl 1 (List.map (iA .i64) s22)), (12, .int .i64 (s11.length : Int)), (13, .int .i64 v14)], [], 72, []⟩ from ?_)
    refine xS 80 [0, 1, 12, 13, 14] ?_
    refine kA ?_
    refine xI h1 rfl (fun h1 hb15 => ?_) (fun h1 hb15 => ?_)
    ·
     refine qA (gA (kA (jC ?_)))
     refine xS 96 [0, 1, 5, 12, 13] ?_
     obtain ⟨e16, he16, h1⟩ := eA h1
     obtain ⟨he16a, he16b, he16c⟩ := fB he16
     obtain ⟨e17, he17, h1⟩ := eA h1
     obtain ⟨he17a, he17b, he17c⟩ := fB he17
     refine jD 168 [0, 1, 12, 13, 24] (fun _ => none) rfl rfl rfl (fun _ _ => uE (rA he16a (rA he16b (rA he16c (rA he17a (rA he17b he17c)))))) ?_
     refine xI h1 rfl (fun h1 hb18 => ?_) (fun h1 hb18 => ?_)
     ·
      refine oA 176 [4] (fun _ => none) rfl (fun _ _ => rS (rA he16a (rA he16b (rA he16c (rA he17a (rA he17b he17c)))))) ?_
      refine jA ?_
      obtain rfl := Option.some.inj h1
      refine kC (mA (mA (uD (mA ?_))))
      obtain rfl := Option.some.inj h0
      refine nA [] ?_
      simp (maxSteps := 1000000) only [↓reduceIte, reduceCtorEq, Nat.reduceEqDiff, Nat.reduceLT, Nat.reduceLeDiff, Nat.reduceAdd, Nat.reduceMul, Int.reduceToNat, push_cast, lC, he16a, he16b, he16c, he17a, he17b, he17c]
      all_goals exact rH
     ·
      refine qA (cC (gA ?_))
      refine iC 184 [0, 1, 12, 13] (fun _ => none) rfl (fun _ _ => rS (rA he16a (rA he16b (rA he16c (rA he17a (rA he17b he17c)))))) ?_
      refine gA ?_
      exact ⟨⟨(fu, (IntKind.i64.wrap (v14 + 1))), h1⟩, ⟨rF, rE, rfl, rfl, trivial, trivial⟩, Nat.lt_succ_self _⟩
    ·
     refine vC (jB (jB (bD ?_)))
     obtain rfl := Option.some.inj h1
     exact ⟨_, rfl, rL, ⟨rF, rE, rfl, rfl, trivial, trivial⟩⟩
theorem zg3 {fu : Nat} {a1 : zA} {b2 : zA} {r : Bool} (h0 : kP fu a1 b2 = some r) : lB Try.prog 78 [.agg (zA.enc a1), .agg (zA.enc b2)] (.bool r) [] := by
 refine sB Try.func78 rfl (by decide) rL ?_
 dsimp only [Try.f78]
 rw [kP] at h0
 refine (show pA _ _ _ _ ⟨kB 0 _, [], 0, []⟩ from ?_)
 refine xS 24 [2, 3] ?_
 obtain ⟨b4, hb4, h0⟩ := eA h0
 obtain ⟨b6, hb6, h0⟩ := eA h0
 refine dD (fr' := [(4, .bool b6)]) (hp' := [(0, ⟨0, true, true, 3, [[.psl 2 (List.map cA.enc a1.Keys), .psl 1 (List.map (iA .i64) a1.Lose), .int .i64 a1.Win]]⟩), (8, ⟨0, true, true, 3, [[.psl 2 (List.map cA.enc b2.Keys), .psl 1 (List.map (iA .i64) b2.Lose), .int .i64 b2.Win]]⟩)]) [0, 8] 184 [4] (fun | 10 => (uK fu a1.Keys b2.Keys).bind fun vr3 => some (.bool vr3, []) | 17 => (aK fu a1.Lose b2.Lose).bind fun vr5 => some (.bool vr5, []) | _ => none) rfl (fun Kt hK => by
   cases hg7 : (decide (a1.Win = b2.Win)) with
   | false =>
    replace hb4 := vA hb4 hg7
    have hqb4 := Option.some.inj hb4
    cases b4 with
    | false =>
     replace hb6 := vA hb6 rfl
     have hqb6 := Option.some.inj hb6
     subst hqb6
     simp (maxSteps := 1000000) only [↓reduceIte, reduceCtorEq, Nat.reduceEqDiff, Nat.reduceLT, Nat.reduceLeDiff, Nat.reduceAdd, Nat.reduceMul, Int.reduceToNat, push_cast, ↓hg7]
     try simp only [↓hg7] at hK
     try have q0 := oL hvr3
     try have q1 := jG hvr5
     all_goals exact rU
    | true =>
     cases hqb4
   | true =>
    replace hb4 := iB hb4 hg7
    obtain ⟨vr3, hvr3, hb4⟩ := eA hb4
    have hqb4 := Option.some.inj hb4
    cases b4 with
    | false =>
     subst hqb4
     replace hb6 := vA hb6 rfl
     have hqb6 := Option.some.inj hb6
     subst hqb6
     simp (maxSteps := 1000000) only [↓reduceIte, reduceCtorEq, Nat.reduceEqDiff, Nat.reduceLT, Nat.reduceLeDiff, Nat.reduceAdd, Nat.reduceMul, Int.reduceToNat, push_cast, ↓hg7, hvr3]
     try simp only [↓hg7] at hK
     try have q0 := oL hvr3
     try have q1 := jG hvr5
     all_goals exact rU
    | true =>
     subst hqb4
     replace hb6 := iB hb6 rfl
     obtain ⟨vr5, hvr5, hb6⟩ := eA hb6
     have hqb6 := Option.some.inj hb6
     subst hqb6
     simp (maxSteps := 1000000) only [↓reduceIte, reduceCtorEq, Nat.reduceEqDiff, Nat.reduceLT, Nat.reduceLeDiff, Nat.reduceAdd, Nat.reduceMul, Int.reduceToNat, push_cast, ↓hg7, hvr3, hvr5]
     try simp only [↓hg7] at hK
     try have q0 := oL hvr3
     try have q1 := jG hvr5
     all_goals exact rU) ?_
 refine jA ?_
 obtain rfl := Option.some.inj h0
 refine nA [] ?_
 exact rG
theorem ziD {fu : Nat} {t1 : zA} {r : Int × Int} (h0 : nP fu t1 = some r) : lB Try.prog 105 [.agg (zA.enc t1)] (.tup [.int .i64 r.1, .int .i64 r.2]) [] := by
 refine sB Try.func105 rfl (by decide) rL ?_
 dsimp only [Try.f105]
 rw [nP] at h0
 refine (show pA _ _ _ _ ⟨kB 0 _, [], 0, []⟩ from ?_)
 refine xS 24 [1] ?_
 refine kA ?_
 obtain ⟨vr2, hvr2, h0⟩ := eA h0
 refine oA 56 [1, 4] (fun | 2 => some (.int .i64 vr2, []) | _ => none) rfl (fun _ _ => rC (eY hvr2)) ?_
 refine xS 72 [1, 4, 12] ?_
 refine xI h0 rfl (fun h0 hb3 => ?_) (fun h0 hb3 => ?_)
 ·
  refine xS 96 [2, 3] ?_
  refine jA (mA ?_)
  obtain rfl := Option.some.inj h0
  refine nA [] ?_
  exact rG
 ·
  refine qA (gA (kA ?_))
  refine xS 128 [1, 20] ?_
  refine xI h0 rfl (fun h0 hb4 => ?_) (fun h0 hb4 => ?_)
  ·
   refine xS 144 [2, 3] ?_
   refine jA (mA ?_)
   obtain rfl := Option.some.inj h0
   refine nA [] ?_
   exact rG
  ·
   refine qA (gA ?_)
   obtain ⟨vr5, hvr5, h0⟩ := eA h0
   refine oA 168 [1, 5] (fun | 2 => some (.agg (zA.enc vr5), []) | _ => none) rfl (fun _ _ => rC (zd7 hvr5)) ?_
   refine kA ?_
   refine xS 200 [1, 5, 25, 26, 27] ?_
   obtain ⟨x15, hxx15, h0⟩ := eA h0
   refine lD (fun s' => ∃ o21 : Unit, x15 = .inl o21 ∧ s'.nx ≤ 208 ∧ LeN [] s' ⟨[(1, .ref 0 0 0 0), (5, .ref 152 0 0 0)], [(0, ⟨0, true, true, 3, [[.psl 2 (List.map cA.enc t1.Keys), .psl 1 (List.map (iA .i64) t1.Lose), .int .i64 t1.Win]]⟩), (152, ⟨0, true, true, 3, [[.psl 2 (List.map cA.enc vr5.Keys), .psl 1 (List.map (iA .i64) vr5.Lose), .int .i64 vr5.Win]]⟩)], 208, []⟩) ?_ ?_
   ·
    intro s' hs
    obtain ⟨o21, rfl, hn, hs⟩ := hs
    refine gA ?_
    refine zB [] hn hs ?_
    refine kA ?_
    refine xS 248 [45] ?_
    refine xI h0 rfl (fun h0 hb22 => ?_) (fun h0 hb22 => ?_)
    ·
     refine xS 264 [2, 3] ?_
     refine jA (mA ?_)
     obtain rfl := Option.some.inj h0
     refine nA [] ?_
     exact rG
    ·
     refine qA (gA ?_)
     refine xS 264 [2, 3] ?_
     refine jA ?_
     obtain rfl := Option.some.inj h0
     refine nA [] ?_
     exact rG
   ·
    refine kD (ι := { p : Nat × Int // gI vr5 t1 p.1 p.2 = some x15 }) (fun p => ⟨[(1, .ref 0 0 0 0), (5, .ref 152 0 0 0), (25, .psl 1 (List.map (iA .i64) vr5.Lose)), (26, .int .i64 (vr5.Lose.length : Int)), (27, .int .i64 p.1.2)], [(0, ⟨0, true, true, 3, [[.psl 2 (List.map cA.enc t1.Keys), .psl 1 (List.map (iA .i64) t1.Lose), .int .i64 t1.Win]]⟩), (152, ⟨0, true, true, 3, [[.psl 2 (List.map cA.enc vr5.Keys), .psl 1 (List.map (iA .i64) vr5.Lose), .int .i64 vr5.Win]]⟩)], 200, []⟩) (fun p => p.1.1) ⟨(fu, 0), hxx15⟩ ⟨rF, rE, rfl, rfl, trivial, trivial⟩ (fun _ => Nat.le_refl _) ?_
    rintro ⟨⟨fu, v16⟩, h1⟩
    cases fu with
    | zero =>
   replace h1 : gI vr5 t1 0 v16 = some x15 := h1
   rw [gI] at h1; cases h1
    | succ fu =>
     replace h1 : gI vr5 t1 (fu + 1) v16 = some x15 := h1
     rw [gI] at h1
     refine (show pA _ _ _ _ ⟨[(1, .ref 0 0 0 0), (5, .ref 152 0 0 0), (25, .psl 1 (List.map (iA .i64) vr5.Lose)), (26, .int .i64 (vr5.Lose.length : Int)), (27, .int .i64 v16)], [(0, ⟨0, true, true, 3, [[.psl 2 (List.map cA.enc t1.Keys), .psl 1 (List.map (iA .i64) t1.Lose), .int .i64 t1.Win]]⟩), (152, ⟨0, true, true, 3, [[.psl 2 (List.map cA.enc vr5.Keys), .psl 1 (List.map (iA .i64) vr5.Lose), .int .i64 vr5.Win]]⟩)], 200, []⟩ from ?_)
     refine xS 208 [1, 5, 25, 26, 27, 28] ?_
     refine kA ?_
     refine xI h1 rfl (fun h1 hb17 => ?_) (fun h1 hb17 => ?_)
     ·
      refine qA (gA (kA (jC ?_)))
      obtain ⟨e18, he18, h1⟩ := eA h1
      obtain ⟨he18a, he18b, he18c⟩ := fB he18
      refine oA 248 [1, 5, 6, 7, 25, 26, 27] (fun _ => none) rfl (fun _ _ => rS (rA he18a (rA he18b he18c))) ?_
      obtain ⟨e19, he19, h1⟩ := eA h1
      obtain ⟨he19a, he19b, he19c⟩ := fB he19
      refine oA 304 [1, 5, 6, 25, 26, 27, 38] (fun _ => none) rfl (fun _ _ => rS (rA he18a (rA he18b (rA he18c (rA he19a (rA he19b he19c)))))) ?_
      refine xI h1 rfl (fun h1 hb20 => ?_) (fun h1 hb20 => ?_)
      ·
       refine oA 328 [2, 3] (fun _ => none) rfl (fun _ _ => rS (rA he18a (rA he18b (rA he18c (rA he19a (rA he19b he19c)))))) ?_
       refine jA ?_
       obtain rfl := Option.some.inj h1
       refine kC (mA (mA (uD (mA ?_))))
       obtain rfl := Option.some.inj h0
       refine nA [] ?_
       simp (maxSteps := 1000000) only [↓reduceIte, reduceCtorEq, Nat.reduceEqDiff, Nat.reduceLT, Nat.reduceLeDiff, Nat.reduceAdd, Nat.reduceMul, Int.reduceToNat, push_cast, lC, he18a, he18b, he18c, he19a, he19b, he19c]
       all_goals exact rH
      ·
       refine qA (cC (gA ?_))
       refine iC 320 [1, 5, 25, 26, 27] (fun _ => none) rfl (fun _ _ => rS (rA he18a (rA he18b (rA he18c (rA he19a (rA he19b he19c)))))) ?_
       refine gA ?_
       exact ⟨⟨(fu, (IntKind.i64.wrap (v16 + 1))), h1⟩, ⟨rF, rE, rfl, rfl, trivial, trivial⟩, Nat.lt_succ_self _⟩
     ·
      refine vC (jB (jB (bD ?_)))
      obtain rfl := Option.some.inj h1
      exact ⟨_, rfl, rL, ⟨rF, rE, rfl, rfl, trivial, trivial⟩⟩
theorem zcw {fu : Nat} {t1 : zA} {r : Int} (h0 : qN fu t1 = some r) : lB Try.prog 95 [.agg (zA.enc t1)] (.int .i64 r) [] := by
 refine sB Try.func95 rfl (by decide) rL ?_
 dsimp only [Try.f95]
 rw [qN] at h0
 refine (show pA _ _ _ _ ⟨kB 0 _, [], 0, []⟩ from ?_)
 refine xS 16 [1] ?_
 refine kA ?_
 obtain ⟨vr2, hvr2, h0⟩ := eA h0
 refine oA 72 [1, 4] (fun | 1 => some (.tup [.int .i64 vr2.1, .int .i64 vr2.2], []) | _ => none) rfl (fun _ _ => rC (ziD hvr2)) ?_
 refine xS 88 [1, 4, 11] ?_
 refine xI h0 rfl (fun h0 hb3 => ?_) (fun h0 hb3 => ?_)
 ·
  refine xS 104 [2] ?_
  refine jA (mA ?_)
  obtain rfl := Option.some.inj h0
  refine nA [] ?_
  exact rG
 ·
  refine qA (gA (kA ?_))
  obtain ⟨e4, he4, h0⟩ := eA h0
  obtain ⟨he4a, he4b, he4c⟩ := fB he4
  refine oA 144 [19] (fun _ => none) rfl (fun _ _ => rS (rA he4a (rA he4b he4c))) ?_
  refine xI h0 rfl (fun h0 hb5 => ?_) (fun h0 hb5 => ?_)
  ·
   refine oA 152 [2] (fun _ => none) rfl (fun _ _ => rS (rA he4a (rA he4b he4c))) ?_
   refine jA (mA ?_)
   obtain rfl := Option.some.inj h0
   refine nA [] ?_
   simp (maxSteps := 1000000) only [↓reduceIte, reduceCtorEq, Nat.reduceEqDiff, Nat.reduceLT, Nat.reduceLeDiff, Nat.reduceAdd, Nat.reduceMul, Int.reduceToNat, push_cast, lC, he4a, he4b, he4c]
   all_goals exact rH
  ·
   refine qA (gA ?_)
   refine oA 152 [2] (fun _ => none) rfl (fun _ _ => rS (rA he4a (rA he4b he4c))) ?_
   refine jA ?_
   obtain rfl := Option.some.inj h0
   refine nA [] ?_
   simp (maxSteps := 1000000) only [↓reduceIte, reduceCtorEq, Nat.reduceEqDiff, Nat.reduceLT, Nat.reduceLeDiff, Nat.reduceAdd, Nat.reduceMul, Int.reduceToNat, push_cast, lC, he4a, he4b, he4c]
   all_goals exact rH
theorem zdE {fu : Nat} {t1 : zA} {r : Int × List UInt8 × Int} (h0 : pN fu t1 = some r) : lB Try.prog 79 [.agg (zA.enc t1)] (.tup [.int .i64 r.1, .str r.2.1, .int .i64 r.2.2]) [] := by
 refine sB Try.func79 rfl (by decide) rL ?_
 dsimp only [Try.f79]
 rw [pN] at h0
 refine (show pA _ _ _ _ ⟨kB 0 _, [], 0, []⟩ from ?_)
 refine xS 32 [1] ?_
 refine kA ?_
 obtain ⟨vr2, hvr2, h0⟩ := eA h0
 refine oA 56 [1, 5] (fun | 1 => some (.int .i64 vr2, []) | _ => none) rfl (fun _ _ => rC (zcw hvr2)) ?_
 refine xS 72 [1, 5, 9] ?_
 refine xI h0 rfl (fun h0 hb3 => ?_) (fun h0 hb3 => ?_)
 ·
  refine xS 104 [2, 3, 4] ?_
  refine jA (mA ?_)
  obtain rfl := Option.some.inj h0
  refine nA [] ?_
  exact rG
 ·
  refine qA (gA ?_)
  obtain ⟨e4, he4, h0⟩ := eA h0
  obtain ⟨he4a, he4b, he4c⟩ := fB he4
  refine jD 168 [2, 3, 4] (fun _ => none) rfl rfl rfl (fun _ _ => uE (rA he4a (rA he4b he4c))) ?_
  refine jA ?_
  obtain rfl := Option.some.inj h0
  refine nA [] ?_
  simp (maxSteps := 1000000) only [↓reduceIte, reduceCtorEq, Nat.reduceEqDiff, Nat.reduceLT, Nat.reduceLeDiff, Nat.reduceAdd, Nat.reduceMul, Int.reduceToNat, push_cast, lC, he4a, he4b, he4c]
  all_goals exact rH
theorem zd9 {fu : Nat} {vx1 : List UInt8} {r : Bool} (h0 : vP fu vx1 = some r) : lB Try.prog 96 [.str vx1] (.bool r) [] := by
 refine sB Try.func96 rfl (by decide) rL ?_
 dsimp only [Try.f96]
 rw [vP] at h0
 refine (show pA _ _ _ _ ⟨kB 0 _, [], 0, []⟩ from ?_)
 refine xS 8 [0] ?_
 refine xS 40 [2] ?_
 refine jA ?_
 obtain rfl := Option.some.inj h0
 refine nA [] ?_
 exact rG
theorem zdn {fu : Nat} {vx1 : List UInt8} {y2 : List UInt8} {r : Int} (h0 : cL fu vx1 y2 = some r) : lB Try.prog 81 [.str vx1, .str y2] (.int .i64 r) [] := by
 refine sB Try.func81 rfl (by decide) rL ?_
 dsimp only [Try.f81]
 rw [cL] at h0
 refine (show pA _ _ _ _ ⟨kB 0 _, [], 0, []⟩ from ?_)
 refine xS 8 [0, 1] ?_
 obtain ⟨vr3, hvr3, h0⟩ := eA h0
 refine oA 32 [0, 1, 5] (fun | 1 => some (.bool vr3, []) | _ => none) rfl (fun _ _ => rC (zd9 hvr3)) ?_
 obtain ⟨vr4, hvr4, h0⟩ := eA h0
 refine oA 56 [0, 1, 5, 6] (fun | 1 => some (.bool vr4, []) | _ => none) rfl (fun _ _ => rC (zd9 hvr4)) ?_
 refine kA ?_
 refine xS 64 [0, 1, 6, 11] ?_
 refine xI h0 rfl (fun h0 hb5 => ?_) (fun h0 hb5 => ?_)
 ·
  refine kA ?_
  refine xS 72 [12] ?_
  refine xI h0 rfl (fun h0 hb6 => ?_) (fun h0 hb6 => ?_)
  ·
   refine xS 80 [4] ?_
   refine jA (mA (mA ?_))
   obtain rfl := Option.some.inj h0
   refine nA [] ?_
   exact rG
  ·
   refine qA (gA ?_)
   refine xS 80 [4] ?_
   refine jA (mA ?_)
   obtain rfl := Option.some.inj h0
   refine nA [] ?_
   exact rG
 ·
  refine qA (gA (kA ?_))
  refine xS 72 [0, 1, 13] ?_
  refine xI h0 rfl (fun h0 hb7 => ?_) (fun h0 hb7 => ?_)
  ·
   refine xS 80 [4] ?_
   refine jA (mA ?_)
   obtain rfl := Option.some.inj h0
   refine nA [] ?_
   exact rG
  ·
   refine qA (gA (kA ?_))
   refine xS 96 [0, 1, 16] ?_
   refine xI h0 rfl (fun h0 hb8 => ?_) (fun h0 hb8 => ?_)
   ·
    refine xS 104 [4] ?_
    refine jA (mA ?_)
    obtain rfl := Option.some.inj h0
    refine nA [] ?_
    exact rG
   ·
    refine qA (gA (kA ?_))
    refine xS 120 [19] ?_
    refine xI h0 rfl (fun h0 hb9 => ?_) (fun h0 hb9 => ?_)
    ·
     refine xS 128 [4] ?_
     refine jA (mA ?_)
     obtain rfl := Option.some.inj h0
     refine nA [] ?_
     exact rG
    ·
     refine qA (gA ?_)
     refine xS 128 [4] ?_
     refine jA ?_
     obtain rfl := Option.some.inj h0
     refine nA [] ?_
     exact rG
theorem zeJ {fu : Nat} {vx1 : Int} {r : Bool} (h0 : tQ fu vx1 = some r) : lB Try.prog 97 [.int .i64 vx1] (.bool r) [] := by
 refine sB Try.func97 rfl (by decide) rL ?_
 dsimp only [Try.f97]
 rw [tQ] at h0
 refine (show pA _ _ _ _ ⟨kB 0 _, [], 0, []⟩ from ?_)
 refine xS 8 [0] ?_
 refine xS 40 [2] ?_
 refine jA ?_
 obtain rfl := Option.some.inj h0
 refine nA [] ?_
 exact rG
theorem zeO {fu : Nat} {vx1 : Int} {y2 : Int} {r : Int} (h0 : oM fu vx1 y2 = some r) : lB Try.prog 82 [.int .i64 vx1, .int .i64 y2] (.int .i64 r) [] := by
 refine sB Try.func82 rfl (by decide) rL ?_
 dsimp only [Try.f82]
 rw [oM] at h0
 refine (show pA _ _ _ _ ⟨kB 0 _, [], 0, []⟩ from ?_)
 refine xS 8 [0, 1] ?_
 obtain ⟨vr3, hvr3, h0⟩ := eA h0
 refine oA 32 [0, 1, 5] (fun | 1 => some (.bool vr3, []) | _ => none) rfl (fun _ _ => rC (zeJ hvr3)) ?_
 obtain ⟨vr4, hvr4, h0⟩ := eA h0
 refine oA 56 [0, 1, 5, 6] (fun | 1 => some (.bool vr4, []) | _ => none) rfl (fun _ _ => rC (zeJ hvr4)) ?_
 refine kA ?_
 refine xS 64 [0, 1, 6, 11] ?_
 refine xI h0 rfl (fun h0 hb5 => ?_) (fun h0 hb5 => ?_)
 ·
  refine kA ?_
  refine xS 72 [12] ?_
  refine xI h0 rfl (fun h0 hb6 => ?_) (fun h0 hb6 => ?_)
  ·
   refine xS 80 [4] ?_
   refine jA (mA (mA ?_))
   obtain rfl := Option.some.inj h0
   refine nA [] ?_
   exact rG
  ·
   refine qA (gA ?_)
   refine xS 80 [4] ?_
   refine jA (mA ?_)
   obtain rfl := Option.some.inj h0
   refine nA [] ?_
   exact rG
 ·
  refine qA (gA (kA ?_))
  refine xS 72 [0, 1, 13] ?_
  refine xI h0 rfl (fun h0 hb7 => ?_) (fun h0 hb7 => ?_)
  ·
   refine xS 80 [4] ?_
   refine jA (mA ?_)
   obtain rfl := Option.some.inj h0
   refine nA [] ?_
   exact rG
  ·
   refine qA (gA (kA ?_))
   refine xS 96 [0, 1, 16] ?_
   refine xI h0 rfl (fun h0 hb8 => ?_) (fun h0 hb8 => ?_)
   ·
    refine xS 104 [4] ?_
    refine jA (mA ?_)
    obtain rfl := Option.some.inj h0
    refine nA [] ?_
    exact rG
   ·
    refine qA (gA (kA ?_))
    refine xS 120 [19] ?_
    refine xI h0 rfl (fun h0 hb9 => ?_) (fun h0 hb9 => ?_)
    ·
     refine xS 128 [4] ?_
     refine jA (mA ?_)
     obtain rfl := Option.some.inj h0
     refine nA [] ?_
     exact rG
    ·
     refine qA (gA ?_)
     refine xS 128 [4] ?_
     refine jA ?_
     obtain rfl := Option.some.inj h0
     refine nA [] ?_
     exact rG
theorem zdV {fu : Nat} {vals1 : List Int} {r : Int} (h0 : fM fu vals1 = some r) : lB Try.prog 80 [.psl 1 (vals1.map (iA .i64))] (.int .i64 r) [] := by
 refine sB Try.func80 rfl (by decide) rL ?_
 dsimp only [Try.f80]
 rw [fM] at h0
 refine (show pA _ _ _ _ ⟨kB 0 _, [], 0, []⟩ from ?_)
 refine xS 8 [0] ?_
 refine xS 16 [0, 3] ?_
 refine kA ?_
 refine xS 40 [3, 6, 7, 8] ?_
 obtain ⟨x9, hxx9, h0⟩ := eA h0
 refine lD (fun s' => ∃ o14 : Unit, x9 = .inl o14 ∧ s'.nx ≤ 48 ∧ LeN [] s' ⟨[(3, .int .i64 0)], [], 48, []⟩) ?_ ?_
 ·
  intro s' hs
  obtain ⟨o14, rfl, hn, hs⟩ := hs
  refine gA ?_
  refine zB [] hn hs ?_
  refine xS 64 [2] ?_
  refine jA ?_
  obtain rfl := Option.some.inj h0
  refine nA [] ?_
  exact rG
 ·
  refine kD (ι := { p : Nat × Int // mI vals1 p.1 p.2 = some x9 }) (fun p => ⟨[(3, .int .i64 0), (6, .psl 1 (List.map (iA .i64) vals1)), (7, .int .i64 (vals1.length : Int)), (8, .int .i64 p.1.2)], [], 40, []⟩) (fun p => p.1.1) ⟨(fu, 0), hxx9⟩ ⟨rF, rE, rfl, rfl, trivial, trivial⟩ (fun _ => Nat.le_refl _) ?_
  rintro ⟨⟨fu, v10⟩, h1⟩
  cases fu with
  | zero =>
   replace h1 : mI vals1 0 v10 = some x9 := h1
   rw [mI] at h1; cases h1
  | succ fu =>
   replace h1 : mI vals1 (fu + 1) v10 = some x9 := h1
   rw [mI] at h1
   refine (show pA _ _ _ _ ⟨[(3, .int .i64 0), (6, .psl 1 (List.map (iA .i64) vals1)), (7, .int .i64 (vals1.length : Int)), (8, .int .i64 v10)], [], 40, []⟩ from ?_)
   refine xS 48 [3, 6, 7, 8, 9] ?_
   refine kA ?_
   refine xI h1 rfl (fun h1 hb11 => ?_) (fun h1 hb11 => ?_)
   ·
    refine qA (gA (kA (jC ?_)))
    obtain ⟨e12, he12, h1⟩ := eA h1
    obtain ⟨he12a, he12b, he12c⟩ := fB he12
    refine oA 72 [3, 5, 6, 7, 8] (fun _ => none) rfl (fun _ _ => rS (rA he12a (rA he12b he12c))) ?_
    refine oA 96 [3, 5, 6, 7, 8, 14] (fun _ => none) rfl (fun _ _ => rS (rA he12a (rA he12b he12c))) ?_
    refine xI h1 rfl (fun h1 hb13 => ?_) (fun h1 hb13 => ?_)
    ·
     refine oA 112 [2] (fun _ => none) rfl (fun _ _ => rS (rA he12a (rA he12b he12c))) ?_
     refine jA ?_
     obtain rfl := Option.some.inj h1
     refine kC (mA (mA (uD (mA ?_))))
     obtain rfl := Option.some.inj h0
     refine nA [] ?_
     simp (maxSteps := 1000000) only [↓reduceIte, reduceCtorEq, Nat.reduceEqDiff, Nat.reduceLT, Nat.reduceLeDiff, Nat.reduceAdd, Nat.reduceMul, Int.reduceToNat, push_cast, lC, he12a, he12b, he12c]
     all_goals exact rH
    ·
     refine qA (cC (gA ?_))
     refine iC 112 [3, 6, 7, 8] (fun _ => none) rfl (fun _ _ => rS (rA he12a (rA he12b he12c))) ?_
     refine gA ?_
     exact ⟨⟨(fu, (IntKind.i64.wrap (v10 + 1))), h1⟩, ⟨rF, rE, rfl, rfl, trivial, trivial⟩, Nat.lt_succ_self _⟩
   ·
    refine vC (jB (jB (bD ?_)))
    obtain rfl := Option.some.inj h1
    exact ⟨_, rfl, rL, ⟨rF, rE, rfl, rfl, trivial, trivial⟩⟩
theorem zbp {fu : Nat} {vs1 : gB} {r : Int × Int} (h0 : wG fu vs1 = some r) : lB Try.prog 59 [.agg (gB.enc vs1)] (.tup [.int .i64 r.1, .int .i64 r.2]) [] := by
 refine sB Try.func59 rfl (by decide) rL ?_
 dsimp only [Try.f59]
 rw [wG] at h0
 refine (show pA _ _ _ _ ⟨kB 0 _, [], 0, []⟩ from ?_)
 refine xS 24 [1] ?_
 refine kA ?_
 obtain ⟨vr2, hvr2, h0⟩ := eA h0
 refine oA 88 [1, 4, 5] (fun | 2 => some (.tup [.int .i64 vr2.1, .int .i64 vr2.2], []) | _ => none) rfl (fun _ _ => rC (zbT hvr2)) ?_
 refine xS 104 [1, 4, 5, 19] ?_
 refine xI h0 rfl (fun h0 hb3 => ?_) (fun h0 hb3 => ?_)
 ·
  refine xS 136 [2, 3] ?_
  refine jA (mA ?_)
  obtain rfl := Option.some.inj h0
  refine nA [] ?_
  exact rG
 ·
  refine qA (gA (kA ?_))
  refine xS 160 [1, 28] ?_
  refine xI h0 rfl (fun h0 hb4 => ?_) (fun h0 hb4 => ?_)
  ·
   refine xS 176 [2, 3] ?_
   refine jA (mA ?_)
   obtain rfl := Option.some.inj h0
   refine nA [] ?_
   exact rG
  ·
   refine qA (gA (kA ?_))
   refine xS 192 [1, 30, 31, 32] ?_
   obtain ⟨x18, hxx18, h0⟩ := eA h0
   refine lD (fun s' => ∃ o26 : Unit, x18 = .inl o26 ∧ s'.nx ≤ 200 ∧ LeN [] s' ⟨[(1, .ref 0 0 0 0)], [(0, ⟨0, true, true, 5, [[.psl 1 (List.map (wA 4 aA.enc) vs1.Runs), .psl 1 (List.map (iA .i64) vs1.At), .psl 2 (List.map cA.enc vs1.Tree.Keys), .psl 1 (List.map (iA .i64) vs1.Tree.Lose), .int .i64 vs1.Tree.Win]]⟩)], 200, []⟩) ?_ ?_
   ·
    intro s' hs
    obtain ⟨o26, rfl, hn, hs⟩ := hs
    refine gA ?_
    refine zB [] hn hs ?_
    refine kA ?_
    obtain ⟨vr27, hvr27, h0⟩ := eA h0
    obtain ⟨vr28, hvr28, h0⟩ := eA h0
    refine jD 272 [1, 59] (fun | 6 => some (.agg (zA.enc vr27), []) | 7 => some (.bool vr28, []) | _ => none) rfl rfl rfl (fun Kt hK => by
      try have q0 := zeL hvr27
      try have q1 := zg3 hvr28
      exact vG) ?_
    refine xI h0 rfl (fun h0 hb29 => ?_) (fun h0 hb29 => ?_)
    ·
     refine xS 288 [2, 3] ?_
     refine jA (mA ?_)
     obtain rfl := Option.some.inj h0
     refine nA [] ?_
     exact rG
    ·
     refine qA (gA ?_)
     obtain ⟨vr30, hvr30, h0⟩ := eA h0
     refine oA 352 [1, 3, 8, 9] (fun | 2 => some (.tup [.int .i64 vr30.1, .str vr30.2.1, .int .i64 vr30.2.2], []) | _ => none) rfl (fun _ _ => rC (zdE hvr30)) ?_
     refine kA ?_
     refine xS 368 [1, 8, 9, 68] ?_
     refine xI h0 rfl (fun h0 hb31 => ?_) (fun h0 hb31 => ?_)
     ·
      refine xS 384 [2, 3] ?_
      refine jA (mA ?_)
      obtain rfl := Option.some.inj h0
      refine nA [] ?_
      exact rG
     ·
      refine qA (gA (kA ?_))
      refine xS 400 [1, 8, 9, 70, 71, 72] ?_
      obtain ⟨x53, hxx53, h0⟩ := eA h0
      refine lD (fun s' => ∃ o65 : Unit, x53 = .inl o65 ∧ s'.nx ≤ 408 ∧ LeN [] s' ⟨[], [(0, ⟨0, true, true, 5, [[.psl 1 (List.map (wA 4 aA.enc) vs1.Runs), .psl 1 (List.map (iA .i64) vs1.At), .psl 2 (List.map cA.enc vs1.Tree.Keys), .psl 1 (List.map (iA .i64) vs1.Tree.Lose), .int .i64 vs1.Tree.Win]]⟩)], 408, []⟩) ?_ ?_
      ·
       intro s' hs
       obtain ⟨o65, rfl, hn, hs⟩ := hs
       refine gA ?_
       refine zB [] hn hs ?_
       refine xS 424 [2, 3] ?_
       refine jA ?_
       obtain rfl := Option.some.inj h0
       refine nA [] ?_
       exact rG
      ·
       refine kD (ι := { p : Nat × Int // vF vs1 vr30 p.1 p.2 = some x53 }) (fun p => ⟨[(1, .ref 0 0 0 0), (8, .int .i64 vr30.1), (9, .str vr30.2.1), (70, .psl 1 (List.map (iA .i64) vs1.At)), (71, .int .i64 (vs1.At.length : Int)), (72, .int .i64 p.1.2)], [(0, ⟨0, true, true, 5, [[.psl 1 (List.map (wA 4 aA.enc) vs1.Runs), .psl 1 (List.map (iA .i64) vs1.At), .psl 2 (List.map cA.enc vs1.Tree.Keys), .psl 1 (List.map (iA .i64) vs1.Tree.Lose), .int .i64 vs1.Tree.Win]]⟩)], 400, []⟩) (fun p => p.1.1) ⟨(fu, 0), hxx53⟩ ⟨rF, rE, rfl, rfl, trivial, trivial⟩ (fun _ => Nat.le_refl _) ?_
       rintro ⟨⟨fu, v54⟩, h1⟩
       cases fu with
       | zero =>
   replace h1 : vF vs1 vr30 0 v54 = some x53 := h1
   rw [vF] at h1; cases h1
       | succ fu =>
        replace h1 : vF vs1 vr30 (fu + 1) v54 = some x53 := h1
        rw [vF] at h1
        refine (show pA _ _ _ _ ⟨[(1, .ref 0 0 0 0), (8, .int .i64 vr30.1), (9, .str vr30.2.1), (70, .psl 1 (List.map (iA .i64) vs1.At)), (71, .int .i64 (vs1.At.length : Int)), (72, .int .i64 v54)], [(0, ⟨0, true, true, 5, [[.psl 1 (List.map (wA 4 aA.enc) vs1.Runs), .psl 1 (List.map (iA .i64) vs1.At), .psl 2 (List.map cA.enc vs1.Tree.Keys), .psl 1 (List.map (iA .i64) vs1.Tree.Lose), .int .i64 vs1.Tree.Win]]⟩)], 400, []⟩ from ?_)
        refine xS 408 [1, 8, 9, 70, 71, 72, 73] ?_
        refine kA ?_
        refine xI h1 rfl (fun h1 hb55 => ?_) (fun h1 hb55 => ?_)
        ·
         refine qA (gA (kA (jC ?_)))
         obtain ⟨e56, he56, h1⟩ := eA h1
         obtain ⟨he56a, he56b, he56c⟩ := fB he56
         refine oA 448 [1, 8, 9, 10, 11, 70, 71, 72] (fun _ => none) rfl (fun _ _ => rS (rA he56a (rA he56b he56c))) ?_
         obtain ⟨b62, hb62, h1⟩ := eA h1
         refine dD (fr' := [(1, .ref 0 0 0 0), (8, .int .i64 vr30.1), (9, .str vr30.2.1), (70, .psl 1 (List.map (iA .i64) vs1.At)), (71, .int .i64 (vs1.At.length : Int)), (72, .int .i64 v54), (98, .bool b62)]) (hp' := [(0, ⟨0, true, true, 5, [[.psl 1 (List.map (wA 4 aA.enc) vs1.Runs), .psl 1 (List.map (iA .i64) vs1.At), .psl 2 (List.map cA.enc vs1.Tree.Keys), .psl 1 (List.map (iA .i64) vs1.Tree.Lose), .int .i64 vs1.Tree.Win]]⟩)]) [0] 624 [1, 8, 9, 70, 71, 72, 98] (fun | 14 => (ix vs1.Runs v54).bind fun e57 => (ix e57 (IntKind.i64.wrap (e56 - 1))).bind fun e58 => (cL fu e58.Key vr30.2.1).bind fun vr59 => some (.int .i64 vr59, []) | 17 => (ix vs1.Runs v54).bind fun e57 => (ix e57 (IntKind.i64.wrap (e56 - 1))).bind fun e58 => (cL fu e58.Key vr30.2.1).bind fun vr59 => (oM fu v54 vr30.1).bind fun vr60 => some (.int .i64 vr60, []) | 19 => (ix vs1.Runs v54).bind fun e57 => (ix e57 (IntKind.i64.wrap (e56 - 1))).bind fun e58 => (cL fu e58.Key vr30.2.1).bind fun vr59 => (oM fu v54 vr30.1).bind fun vr60 => (fM fu [vr59, vr60]).bind fun vr61 => some (.int .i64 vr61, []) | _ => none) rfl (fun Kt hK => by
           cases hg63 : (decide (0 < e56)) with
           | false =>
            replace hb62 := vA hb62 hg63
            have hqb62 := Option.some.inj hb62
            subst hqb62
            simp (maxSteps := 1000000) only [↓reduceIte, reduceCtorEq, Nat.reduceEqDiff, Nat.reduceLT, Nat.reduceLeDiff, Nat.reduceAdd, Nat.reduceMul, Int.reduceToNat, push_cast, he56a, he56b, he56c, ↓hg63]
            try simp only [↓hg63] at hK
            try have q0 := zdn hvr59
            try have q1 := zeO hvr60
            try have q2 := zdV hvr61
            all_goals exact rU
           | true =>
            replace hb62 := iB hb62 hg63
            obtain ⟨e57, he57, hb62⟩ := eA hb62
            obtain ⟨he57a, he57b, he57c⟩ := fB he57
            obtain ⟨e58, he58, hb62⟩ := eA hb62
            obtain ⟨he58a, he58b, he58c⟩ := fB he58
            obtain ⟨vr59, hvr59, hb62⟩ := eA hb62
            obtain ⟨vr60, hvr60, hb62⟩ := eA hb62
            obtain ⟨vr61, hvr61, hb62⟩ := eA hb62
            have hqb62 := Option.some.inj hb62
            subst hqb62
            simp (maxSteps := 1000000) only [↓reduceIte, reduceCtorEq, Nat.reduceEqDiff, Nat.reduceLT, Nat.reduceLeDiff, Nat.reduceAdd, Nat.reduceMul, Int.reduceToNat, push_cast, he56a, he56b, he56c, ↓hg63, he57a, he57b, he57c, he57, he58a, he58b, he58c, he58, hvr59, hvr60, hvr61]
            try simp only [↓hg63] at hK
            try have q0 := zdn hvr59
            try have q1 := zeO hvr60
            try have q2 := zdV hvr61
            all_goals exact rU) ?_
         refine xE ⟨[(1, .ref 0 0 0 0), (8, .int .i64 vr30.1), (9, .str vr30.2.1), (70, .psl 1 (List.map (iA .i64) vs1.At)), (71, .int .i64 (vs1.At.length : Int)), (72, .int .i64 v54), (98, .bool b62)], [(0, ⟨0, true, true, 5, [[.psl 1 (List.map (wA 4 aA.enc) vs1.Runs), .psl 1 (List.map (iA .i64) vs1.At), .psl 2 (List.map cA.enc vs1.Tree.Keys), .psl 1 (List.map (iA .i64) vs1.Tree.Lose), .int .i64 vs1.Tree.Win]]⟩)], 624, []⟩ ?_
         refine xI h1 rfl (fun h1 hb64 => ?_) (fun h1 hb64 => ?_)
         ·
          refine oA 648 [2, 3] (fun _ => none) rfl (fun _ _ => rS (rA he56a (rA he56b he56c))) ?_
          refine jA ?_
          obtain rfl := Option.some.inj h1
          refine kC (mA (mA (uD (mA ?_))))
          obtain rfl := Option.some.inj h0
          refine nA [] ?_
          simp (maxSteps := 1000000) only [↓reduceIte, reduceCtorEq, Nat.reduceEqDiff, Nat.reduceLT, Nat.reduceLeDiff, Nat.reduceAdd, Nat.reduceMul, Int.reduceToNat, push_cast, lC, he56a, he56b, he56c]
          all_goals exact rH
         ·
          refine qA (cC (gA ?_))
          refine iC 640 [1, 8, 9, 70, 71, 72] (fun _ => none) rfl (fun _ _ => rS (rA he56a (rA he56b he56c))) ?_
          refine gA ?_
          exact ⟨⟨(fu, (IntKind.i64.wrap (v54 + 1))), h1⟩, ⟨rF, rE, rfl, rfl, trivial, trivial⟩, Nat.lt_succ_self _⟩
        ·
         refine vC (jB (jB (bD ?_)))
         obtain rfl := Option.some.inj h1
         exact ⟨_, rfl, rL, ⟨rF, rE, rfl, rfl, trivial, trivial⟩⟩
   ·
    refine kD (ι := { p : Nat × Int // qG vs1 p.1 p.2 = some x18 }) (fun p => ⟨[(1, .ref 0 0 0 0), (30, .psl 1 (List.map (iA .i64) vs1.At)), (31, .int .i64 (vs1.At.length : Int)), (32, .int .i64 p.1.2)], [(0, ⟨0, true, true, 5, [[.psl 1 (List.map (wA 4 aA.enc) vs1.Runs), .psl 1 (List.map (iA .i64) vs1.At), .psl 2 (List.map cA.enc vs1.Tree.Keys), .psl 1 (List.map (iA .i64) vs1.Tree.Lose), .int .i64 vs1.Tree.Win]]⟩)], 192, []⟩) (fun p => p.1.1) ⟨(fu, 0), hxx18⟩ ⟨rF, rE, rfl, rfl, trivial, trivial⟩ (fun _ => Nat.le_refl _) ?_
    rintro ⟨⟨fu, v19⟩, h1⟩
    cases fu with
    | zero =>
   replace h1 : qG vs1 0 v19 = some x18 := h1
   rw [qG] at h1; cases h1
    | succ fu =>
     replace h1 : qG vs1 (fu + 1) v19 = some x18 := h1
     rw [qG] at h1
     refine (show pA _ _ _ _ ⟨[(1, .ref 0 0 0 0), (30, .psl 1 (List.map (iA .i64) vs1.At)), (31, .int .i64 (vs1.At.length : Int)), (32, .int .i64 v19)], [(0, ⟨0, true, true, 5, [[.psl 1 (List.map (wA 4 aA.enc) vs1.Runs), .psl 1 (List.map (iA .i64) vs1.At), .psl 2 (List.map cA.enc vs1.Tree.Keys), .psl 1 (List.map (iA .i64) vs1.Tree.Lose), .int .i64 vs1.Tree.Win]]⟩)], 192, []⟩ from ?_)
     refine xS 200 [1, 30, 31, 32, 33] ?_
     refine kA ?_
     refine xI h1 rfl (fun h1 hb20 => ?_) (fun h1 hb20 => ?_)
     ·
      refine qA (gA (kA (jC ?_)))
      obtain ⟨e21, he21, h1⟩ := eA h1
      obtain ⟨he21a, he21b, he21c⟩ := fB he21
      refine oA 240 [1, 6, 7, 30, 31, 32] (fun _ => none) rfl (fun _ _ => rS (rA he21a (rA he21b he21c))) ?_
      obtain ⟨b23, hb23, h1⟩ := eA h1
      refine dD (fr' := [(1, .ref 0 0 0 0), (6, .int .i64 v19), (30, .psl 1 (List.map (iA .i64) vs1.At)), (31, .int .i64 (vs1.At.length : Int)), (32, .int .i64 v19), (48, .bool b23)]) (hp' := [(0, ⟨0, true, true, 5, [[.psl 1 (List.map (wA 4 aA.enc) vs1.Runs), .psl 1 (List.map (iA .i64) vs1.At), .psl 2 (List.map cA.enc vs1.Tree.Keys), .psl 1 (List.map (iA .i64) vs1.Tree.Lose), .int .i64 vs1.Tree.Win]]⟩)]) [0] 336 [1, 6, 30, 31, 32, 48] (fun _ => none) rfl (fun Kt hK => by
        cases hg24 : (decide (e21 < 0)) with
        | false =>
         replace hb23 := vA hb23 hg24
         obtain ⟨e22, he22, hb23⟩ := eA hb23
         obtain ⟨he22a, he22b, he22c⟩ := fB he22
         have hqb23 := Option.some.inj hb23
         subst hqb23
         simp (maxSteps := 1000000) only [↓reduceIte, reduceCtorEq, Nat.reduceEqDiff, Nat.reduceLT, Nat.reduceLeDiff, Nat.reduceAdd, Nat.reduceMul, Int.reduceToNat, push_cast, he21a, he21b, he21c, ↓hg24, he22a, he22b, he22c, he22]
         try simp only [↓hg24] at hK
         all_goals exact rU
        | true =>
         replace hb23 := iB hb23 hg24
         have hqb23 := Option.some.inj hb23
         subst hqb23
         simp (maxSteps := 1000000) only [↓reduceIte, reduceCtorEq, Nat.reduceEqDiff, Nat.reduceLT, Nat.reduceLeDiff, Nat.reduceAdd, Nat.reduceMul, Int.reduceToNat, push_cast, he21a, he21b, he21c, ↓hg24]
         try simp only [↓hg24] at hK
         all_goals exact rU) ?_
      refine xI h1 rfl (fun h1 hb25 => ?_) (fun h1 hb25 => ?_)
      ·
       refine oA 360 [2, 3] (fun _ => none) rfl (fun _ _ => rS (rA he21a (rA he21b he21c))) ?_
       refine jA ?_
       obtain rfl := Option.some.inj h1
       refine kC (mA (mA (uD (mA ?_))))
       obtain rfl := Option.some.inj h0
       refine nA [] ?_
       simp (maxSteps := 1000000) only [↓reduceIte, reduceCtorEq, Nat.reduceEqDiff, Nat.reduceLT, Nat.reduceLeDiff, Nat.reduceAdd, Nat.reduceMul, Int.reduceToNat, push_cast, lC, he21a, he21b, he21c]
       all_goals exact rH
      ·
       refine qA (cC (gA ?_))
       refine iC 352 [1, 30, 31, 32] (fun _ => none) rfl (fun _ _ => rS (rA he21a (rA he21b he21c))) ?_
       refine gA ?_
       exact ⟨⟨(fu, (IntKind.i64.wrap (v19 + 1))), h1⟩, ⟨rF, rE, rfl, rfl, trivial, trivial⟩, Nat.lt_succ_self _⟩
     ·
      refine vC (jB (jB (bD ?_)))
      obtain rfl := Option.some.inj h1
      exact ⟨_, rfl, rL, ⟨rF, rE, rfl, rfl, trivial, trivial⟩⟩
theorem zcZ {fu : Nat} {vr1 : List (List aA)} {vr2 : List Int} {vr3 : List cA} {vr4 : List Int} {vr5 : Int} {r : aA × Int × Int} (h0 : bL fu vr1 vr2 vr3 vr4 vr5 = some r) : lB Try.prog 89 [.pp [.psl 1 (vr1.map (wA 4 aA.enc)), .psl 1 (vr2.map (iA .i64)), .psl 2 (vr3.map cA.enc), .psl 1 (vr4.map (iA .i64)), .int .i64 vr5]] (.tup [.agg (aA.enc r.1), .int .i64 r.2.1, .int .i64 r.2.2]) [] := by
 refine sB Try.func89 rfl (by decide) rL ?_
 dsimp only [Try.f89]
 rw [bL] at h0
 refine (show pA _ _ _ _ ⟨kB 0 _, [], 0, []⟩ from ?_)
 refine xS 24 [0, 2] ?_
 obtain ⟨vr6, hvr6, h0⟩ := eA h0
 refine oA 128 [0, 2, 5, 7] (fun | 5 => some (.tup [.int .i64 vr6.1, .str vr6.2.1, .int .i64 vr6.2.2], []) | _ => none) rfl (fun _ _ => rC (zdE hvr6)) ?_
 refine kA ?_
 refine xS 144 [0, 2, 5, 7, 19] ?_
 refine xI h0 rfl (fun h0 hb7 => ?_) (fun h0 hb7 => ?_)
 ·
  refine xS 184 [2, 3, 4] ?_
  refine jA (mA ?_)
  obtain rfl := Option.some.inj h0
  refine nA [] ?_
  exact rG
 ·
  refine qA (gA ?_)
  obtain ⟨e8, he8, h0⟩ := eA h0
  obtain ⟨he8a, he8b, he8c⟩ := fB he8
  obtain ⟨e9, he9, h0⟩ := eA h0
  obtain ⟨he9a, he9b, he9c⟩ := fB he9
  obtain ⟨e10, he10, h0⟩ := eA h0
  obtain ⟨he10a, he10b, he10c⟩ := fB he10
  refine jD 320 [2, 3, 4] (fun _ => none) rfl rfl rfl (fun _ _ => uE (rA he8a (rA he8b (rA he8c (rA he9a (rA he9b (rA he9c (rA he10a (rA he10b he10c))))))))) ?_
  refine jA ?_
  obtain rfl := Option.some.inj h0
  refine nA [] ?_
  simp (maxSteps := 1000000) only [↓reduceIte, reduceCtorEq, Nat.reduceEqDiff, Nat.reduceLT, Nat.reduceLeDiff, Nat.reduceAdd, Nat.reduceMul, Int.reduceToNat, push_cast, lC, he8a, he8b, he8c, he9a, he9b, he9c, he10a, he10b, he10c]
  all_goals exact rH
theorem zdQ {fu : Nat} {vs1 : List cA} {r : List cA} (h0 : gP fu vs1 = some r) : lB Try.prog 106 [.psl 2 (vs1.map cA.enc)] (.sl 0 0 2 0 r.length) [⟨0, true, true, 2, r.map cA.enc⟩] := by
 refine sB Try.func106 rfl (by decide) rL ?_
 dsimp only [Try.f106]
 rw [gP] at h0
 refine (show pA _ _ _ _ ⟨kB 0 _, [], 0, []⟩ from ?_)
 refine xS 8 [0] ?_
 refine kA ?_
 cases hb2 : vs1.isEmpty with
 | true =>
  replace h0 := iB h0 hb2
  obtain rfl : vs1 = [] := List.isEmpty_iff.1 hb2
  refine xS 24 [0, 4] ?_
  refine oV rfl ?_ ?_
  ·
   skip
   refine xS 32 [2] ?_
   refine zB (s2 := ⟨[(2, .sl 32 0 2 0 0)], [(32, ⟨0, true, true, 2, List.map cA.enc []⟩)], 33, []⟩) [(32, 2)] rL ⟨rF, rE, rfl, rfl, trivial, rN⟩ ?_
   refine jA (mA ?_)
   obtain rfl := Option.some.inj h0
   refine nA [32] ?_
   exact rG
  ·
   skip
   refine qA (gA ?_)
   refine xS 56 [2] ?_
   refine xE ⟨[(2, .sl 24 1 2 0 0)], [(24, ⟨1, true, true, 2, List.map cA.enc []⟩)], 56, []⟩ ?_
   refine jA ?_
   obtain rfl := Option.some.inj h0
   refine nA [24] ?_
   exact rG
 | false =>
  replace h0 := vA h0 hb2
  refine oA 24 [0, 4] (fun _ => none) rfl (fun _ _ => rS hb2) ?_
  refine wF rfl ?_
  refine qA (gA ?_)
  obtain ⟨hc3, h0⟩ := cF h0
  refine oA 56 [2] (fun _ => none) rfl (fun _ _ => rS hb2) ?_
  refine xE ⟨[(2, .sl 24 1 2 0 vs1.length)], [(24, ⟨1, true, true, 2, List.map cA.enc vs1⟩)], 56, []⟩ ?_
  refine jA ?_
  obtain rfl := Option.some.inj h0
  refine nA [24] ?_
  simp (maxSteps := 1000000) only [↓reduceIte, reduceCtorEq, Nat.reduceEqDiff, Nat.reduceLT, Nat.reduceLeDiff, Nat.reduceAdd, Nat.reduceMul, Int.reduceToNat, push_cast, lC, hb2]
  all_goals exact rH
theorem zkd {fu : Nat} {keys1 : List cA} {r : zA} (h0 : oS fu keys1 = some r) : lB Try.prog 104 [.psl 2 (keys1.map cA.enc)] (.agg [.sl 0 0 2 0 r.Keys.length, .sl 1 0 1 0 r.Lose.length, .int .i64 r.Win]) [⟨0, true, true, 2, r.Keys.map cA.enc⟩, ⟨0, true, true, 1, r.Lose.map (iA .i64)⟩] := by
 refine sB Try.func104 rfl (by decide) rL ?_
 dsimp only [Try.f104]
 rw [oS] at h0
 refine (show pA _ _ _ _ ⟨kB 0 _, [], 0, []⟩ from ?_)
 refine xS 8 [0, 2] ?_
 refine xS 32 [0, 2, 3] ?_
 obtain ⟨vr2, hvr2, h0⟩ := eA h0
 refine oA 56 [0, 2, 3, 4] (fun | 1 => some (.fn 110 [] [.pp [.psl 2 (vr2.map cA.enc)]], []) | _ => none) rfl (fun _ _ => rC (zbJ hvr2)) ?_
 obtain ⟨hc3, h0⟩ := cF h0
 refine xS 88 [0, 2, 3, 4, 5] ?_
 refine xE ⟨[(0, .psl 2 (List.map cA.enc keys1)), (2, .ref 0 0 0 0), (3, .int .i64 (keys1.length : Int)), (4, .fn 110 [] [.pp [.psl 2 (List.map cA.enc vr2)]]), (5, .sl 72 0 1 0 ((List.replicate (IntKind.i64.wrap (2 * (keys1.length : Int))).toNat 0 : List Int).length))], [(0, ⟨0, true, true, 3, [[.nils, .nils, .int .i64 0]]⟩), (72, ⟨0, true, true, 1, List.map (iA .i64) (List.replicate (IntKind.i64.wrap (2 * (keys1.length : Int))).toNat 0 : List Int)⟩)], 88, []⟩ ?_
 obtain ⟨vr4, hvr4, h0⟩ := eA h0
 obtain ⟨hc5, h0⟩ := cF h0
 refine jD 144 [2, 3, 4, 5, 6] (fun | 1 => some (.sl 0 0 2 0 vr4.length, [⟨0, true, true, 2, vr4.map cA.enc⟩]) | _ => none) rfl rfl rfl (fun _ _ => rCd (zdQ hvr4)) ?_
 refine xE ⟨[(2, .ref 0 0 0 0), (3, .int .i64 (keys1.length : Int)), (4, .fn 110 [] [.pp [.psl 2 (List.map cA.enc vr2)]]), (5, .sl 72 0 1 0 ((List.replicate (IntKind.i64.wrap (2 * (keys1.length : Int))).toNat 0 : List Int).length)), (6, .ref 128 0 0 0)], [(0, ⟨0, true, true, 3, [[.nils, .nils, .int .i64 0]]⟩), (72, ⟨0, true, true, 1, List.map (iA .i64) (List.replicate (IntKind.i64.wrap (2 * (keys1.length : Int))).toNat 0 : List Int)⟩), (96, ⟨0, true, true, 2, List.map cA.enc vr4⟩), (112, ⟨0, true, true, 1, List.map (iA .i64) (List.replicate keys1.length 0 : List Int)⟩), (128, ⟨0, true, false, 3, [[.sl 96 0 2 0 vr4.length, .sl 112 0 1 0 ((List.replicate keys1.length 0 : List Int).length), .int .i64 0]]⟩)], 144, []⟩ ?_
 refine kA ?_
 refine xS 176 [2, 3, 4, 5, 6, 7] ?_
 obtain ⟨x33, hxx33, h0⟩ := eA h0
 refine lD (fun s' => ∃ g50 : Nat, ∃ g51 : Nat, s'.nx ≤ 192 ∧ LeN [] s' ⟨[(2, .ref 0 0 0 0), (5, .sl 72 g50 1 0 x33.1.length), (6, .ref 128 0 0 0)], [(0, ⟨0, true, true, 3, [[.nils, .nils, .int .i64 0]]⟩), (72, ⟨g50, true, true, 1, List.map (iA .i64) x33.1⟩), (96, ⟨0, true, true, 2, List.map cA.enc vr4⟩), (112, ⟨g51, true, true, 1, List.map (iA .i64) x33.2⟩), (128, ⟨0, true, false, 3, [[.sl 96 0 2 0 vr4.length, .sl 112 g51 1 0 x33.2.length, .int .i64 0]]⟩)], 192, []⟩) ?_ ?_
 ·
  intro s' hs
  obtain ⟨g50, g51, hn, hs⟩ := hs
  refine gA ?_
  refine zB [] hn hs ?_
  obtain ⟨e52, he52, h0⟩ := eA h0
  have he52b := (fB he52).2.1
  have he52c := (nH 1 he52 rfl).1
  have he52a := (nH 1 he52 rfl).2
  refine oA 232 [2, 6] (fun _ => none) rfl (fun _ _ => rS (rA he52a (rA he52b he52c))) ?_
  refine oA 248 [2] (fun _ => none) rfl (fun _ _ => rS (rA he52a (rA he52b he52c))) ?_
  refine jA ?_
  obtain rfl := Option.some.inj h0
  refine nA [96, 112] ?_
  simp (maxSteps := 1000000) only [↓reduceIte, reduceCtorEq, Nat.reduceEqDiff, Nat.reduceLT, Nat.reduceLeDiff, Nat.reduceAdd, Nat.reduceMul, Int.reduceToNat, push_cast, lC, he52a, he52b, he52c]
  all_goals exact rH
 ·
  refine kD (ι := { p : Nat × Int × List Int × List Int × Nat × Nat // yI keys1 vr2 p.1 p.2.1 p.2.2.1 p.2.2.2.1 = some x33 }) (fun p => ⟨[(2, .ref 0 0 0 0), (3, .int .i64 (keys1.length : Int)), (4, .fn 110 [] [.pp [.psl 2 (List.map cA.enc vr2)]]), (5, .sl 72 p.1.2.2.2.2.1 1 0 p.1.2.2.1.length), (6, .ref 128 0 0 0), (7, .int .i64 p.1.2.1)], [(0, ⟨0, true, true, 3, [[.nils, .nils, .int .i64 0]]⟩), (72, ⟨p.1.2.2.2.2.1, true, true, 1, List.map (iA .i64) p.1.2.2.1⟩), (96, ⟨0, true, true, 2, List.map cA.enc vr4⟩), (112, ⟨p.1.2.2.2.2.2, true, true, 1, List.map (iA .i64) p.1.2.2.2.1⟩), (128, ⟨0, true, false, 3, [[.sl 96 0 2 0 vr4.length, .sl 112 p.1.2.2.2.2.2 1 0 p.1.2.2.2.1.length, .int .i64 0]]⟩)], 176, []⟩) (fun p => p.1.1) ⟨(fu, (IntKind.i64.wrap ((IntKind.i64.wrap (2 * (keys1.length : Int))) - 1)), (List.replicate (IntKind.i64.wrap (2 * (keys1.length : Int))).toNat 0 : List Int), (List.replicate keys1.length 0 : List Int), 0, 0), hxx33⟩ ⟨rF, rE, rfl, rfl, trivial, trivial⟩ (fun _ => Nat.le_refl _) ?_
  rintro ⟨⟨fu, i34, players35, v36, g37, g38⟩, h1⟩
  cases fu with
  | zero =>
   replace h1 : yI keys1 vr2 0 i34 players35 v36 = some x33 := h1
   rw [yI] at h1; cases h1
  | succ fu =>
   replace h1 : yI keys1 vr2 (fu + 1) i34 players35 v36 = some x33 := h1
   rw [yI] at h1
   refine (show pA _ _ _ _ ⟨[(2, .ref 0 0 0 0), (3, .int .i64 (keys1.length : Int)), (4, .fn 110 [] [.pp [.psl 2 (List.map cA.enc vr2)]]), (5, .sl 72 g37 1 0 players35.length), (6, .ref 128 0 0 0), (7, .int .i64 i34)], [(0, ⟨0, true, true, 3, [[.nils, .nils, .int .i64 0]]⟩), (72, ⟨g37, true, true, 1, List.map (iA .i64) players35⟩), (96, ⟨0, true, true, 2, List.map cA.enc vr4⟩), (112, ⟨g38, true, true, 1, List.map (iA .i64) v36⟩), (128, ⟨0, true, false, 3, [[.sl 96 0 2 0 vr4.length, .sl 112 g38 1 0 v36.length, .int .i64 0]]⟩)], 176, []⟩ from ?_)
   refine kA ?_
   refine xS 192 [2, 3, 4, 5, 6, 7, 26] ?_
   refine xI h1 rfl (fun h1 hb39 => ?_) (fun h1 hb39 => ?_)
   ·
    refine qA (gA (kA (jC (kA ?_))))
    refine xS 216 [2, 3, 4, 5, 6, 7, 31] ?_
    refine xI h1 rfl (fun h1 hb40 => ?_) (fun h1 hb40 => ?_)
    ·
     obtain ⟨e41, he41, h1⟩ := eA h1
     obtain ⟨he41a, he41b, he41c⟩ := fB he41
     refine oA 272 [2, 3, 4, 5, 6, 7] (fun _ => none) rfl (fun _ _ => rS (rA he41a (rA he41b he41c))) ?_
     refine xE ⟨[(2, .ref 0 0 0 0), (3, .int .i64 (keys1.length : Int)), (4, .fn 110 [] [.pp [.psl 2 (List.map cA.enc vr2)]]), (5, .sl 72 g37 1 0 ((players35.set i34.toNat (IntKind.i64.wrap (i34 - (keys1.length : Int)))).length)), (6, .ref 128 0 0 0), (7, .int .i64 i34)], [(0, ⟨0, true, true, 3, [[.nils, .nils, .int .i64 0]]⟩), (72, ⟨g37, true, true, 1, List.map (iA .i64) (players35.set i34.toNat (IntKind.i64.wrap (i34 - (keys1.length : Int))))⟩), (96, ⟨0, true, true, 2, List.map cA.enc vr4⟩), (112, ⟨g38, true, true, 1, List.map (iA .i64) v36⟩), (128, ⟨0, true, false, 3, [[.sl 96 0 2 0 vr4.length, .sl 112 g38 1 0 v36.length, .int .i64 0]]⟩)], 272, []⟩ ?_
     refine vC (jB (zdD (gA ?_)))
     refine iC 296 [2, 3, 4, 5, 6, 7] (fun _ => none) rfl (fun _ _ => rS (rA he41a (rA he41b he41c))) ?_
     refine gA ?_
     exact ⟨⟨(fu, (IntKind.i64.wrap (i34 - 1)), (players35.set i34.toNat (IntKind.i64.wrap (i34 - (keys1.length : Int)))), v36, g37, g38), h1⟩, ⟨rF, rE, rfl, rfl, trivial, trivial⟩, Nat.lt_succ_self _⟩
    ·
     refine qA (gA ?_)
     obtain ⟨e42, he42, h1⟩ := eA h1
     obtain ⟨he42a, he42b, he42c⟩ := fB he42
     obtain ⟨e43, he43, h1⟩ := eA h1
     obtain ⟨he43a, he43b, he43c⟩ := fB he43
     refine jD 320 [2, 3, 4, 5, 6, 7, 8, 9] (fun _ => none) rfl rfl rfl (fun _ _ => uE (rA he42a (rA he42b (rA he42c (rA he43a (rA he43b he43c)))))) ?_
     refine kA ?_
     obtain ⟨vr44, hvr44, h1⟩ := eA h1
     refine oA 360 [2, 3, 4, 5, 6, 7, 8, 9, 53] (fun | 3 => some (.bool vr44, []) | _ => none) rfl (fun _ _ => rB (rA he42a (rA he42b (rA he42c (rA he43a (rA he43b he43c))))) (zbG hvr44)) ?_
     refine xI h1 rfl (fun h1 hb45 => ?_) (fun h1 hb45 => ?_)
     ·
      refine iC 392 [2, 3, 4, 5, 6, 7, 8, 9] (fun _ => none) rfl (fun _ _ => rS (rA he42a (rA he42b (rA he42c (rA he43a (rA he43b he43c)))))) ?_
      refine gA ?_
      obtain ⟨e46, he46, h1⟩ := eA h1
      obtain ⟨he46a, he46b, he46c⟩ := fB he46
      obtain ⟨e47, he47, h1⟩ := eA h1
      obtain ⟨he47a, he47b, he47c⟩ := fB he47
      refine aJ 480 [2, 3, 4, 5, 6, 7] (fun _ => none) rfl rfl rfl (fun _ _ => uE (rA he42a (rA he42b (rA he42c (rA he43a (rA he43b (rA he43c (rA he46a (rA he46b (rA he46c (rA he47a (rA he47b he47c)))))))))))) ?_
      refine cC (gA ?_)
      refine xE ⟨[(2, .ref 0 0 0 0), (3, .int .i64 (keys1.length : Int)), (4, .fn 110 [] [.pp [.psl 2 (List.map cA.enc vr2)]]), (5, .sl 72 g37 1 0 ((players35.set i34.toNat e43).length)), (6, .ref 128 0 0 0), (7, .int .i64 i34)], [(0, ⟨0, true, true, 3, [[.nils, .nils, .int .i64 0]]⟩), (72, ⟨g37, true, true, 1, List.map (iA .i64) (players35.set i34.toNat e43)⟩), (96, ⟨0, true, true, 2, List.map cA.enc vr4⟩), (112, ⟨g38, true, true, 1, List.map (iA .i64) (v36.set i34.toNat e42)⟩), (128, ⟨0, true, false, 3, [[.sl 96 0 2 0 vr4.length, .sl 112 g38 1 0 ((v36.set i34.toNat e42).length), .int .i64 0]]⟩)], 480, []⟩ ?_
      refine iC 504 [2, 3, 4, 5, 6, 7] (fun _ => none) rfl (fun _ _ => rS (rA he42a (rA he42b (rA he42c (rA he43a (rA he43b (rA he43c (rA he46a (rA he46b (rA he46c (rA he47a (rA he47b he47c)))))))))))) ?_
      refine gA ?_
      exact ⟨⟨(fu, (IntKind.i64.wrap (i34 - 1)), (players35.set i34.toNat e43), (v36.set i34.toNat e42), g37, g38), h1⟩, ⟨rF, rE, rfl, rfl, trivial, trivial⟩, Nat.lt_succ_self _⟩
     ·
      refine qA (gA ?_)
      obtain ⟨e48, he48, h1⟩ := eA h1
      obtain ⟨he48a, he48b, he48c⟩ := fB he48
      obtain ⟨e49, he49, h1⟩ := eA h1
      obtain ⟨he49a, he49b, he49c⟩ := fB he49
      refine aJ 448 [2, 3, 4, 5, 6, 7] (fun _ => none) rfl rfl rfl (fun _ _ => uE (rA he42a (rA he42b (rA he42c (rA he43a (rA he43b (rA he43c (rA he48a (rA he48b (rA he48c (rA he49a (rA he49b he49c)))))))))))) ?_
      refine cC (gA ?_)
      refine xE ⟨[(2, .ref 0 0 0 0), (3, .int .i64 (keys1.length : Int)), (4, .fn 110 [] [.pp [.psl 2 (List.map cA.enc vr2)]]), (5, .sl 72 g37 1 0 ((players35.set i34.toNat e42).length)), (6, .ref 128 0 0 0), (7, .int .i64 i34)], [(0, ⟨0, true, true, 3, [[.nils, .nils, .int .i64 0]]⟩), (72, ⟨g37, true, true, 1, List.map (iA .i64) (players35.set i34.toNat e42)⟩), (96, ⟨0, true, true, 2, List.map cA.enc vr4⟩), (112, ⟨g38, true, true, 1, List.map (iA .i64) (v36.set i34.toNat e43)⟩), (128, ⟨0, true, false, 3, [[.sl 96 0 2 0 vr4.length, .sl 112 g38 1 0 ((v36.set i34.toNat e43).length), .int .i64 0]]⟩)], 448, []⟩ ?_
      refine iC 472 [2, 3, 4, 5, 6, 7] (fun _ => none) rfl (fun _ _ => rS (rA he42a (rA he42b (rA he42c (rA he43a (rA he43b (rA he43c (rA he48a (rA he48b (rA he48c (rA he49a (rA he49b he49c)))))))))))) ?_
      refine gA ?_
      exact ⟨⟨(fu, (IntKind.i64.wrap (i34 - 1)), (players35.set i34.toNat e42), (v36.set i34.toNat e43), g37, g38), h1⟩, ⟨rF, rE, rfl, rfl, trivial, trivial⟩, Nat.lt_succ_self _⟩
   ·
    refine vC (jB (jB (bD ?_)))
    obtain rfl := Option.some.inj h1
    exact ⟨g37, g38, rL, ⟨rF, rE, rfl, rfl, trivial, trivial⟩⟩
theorem zlV {fu : Nat} {keys1 : List cA} {r : zA × Int} (h0 : lU fu keys1 = some r) : lB Try.prog 94 [.psl 2 (keys1.map cA.enc)] (.tup [.agg [.sl 0 0 2 0 r.1.Keys.length, .sl 1 0 1 0 r.1.Lose.length, .int .i64 r.1.Win], .int .i64 r.2]) [⟨0, true, true, 2, r.1.Keys.map cA.enc⟩, ⟨0, true, true, 1, r.1.Lose.map (iA .i64)⟩] := by
 refine sB Try.func94 rfl (by decide) rL ?_
 dsimp only [Try.f94]
 rw [lU] at h0
 refine (show pA _ _ _ _ ⟨kB 0 _, [], 0, []⟩ from ?_)
 refine xS 16 [0, 2] ?_
 refine kA ?_
 obtain ⟨vr2, hvr2, h0⟩ := eA h0
 refine oA 40 [0, 2, 4] (fun | 1 => some (.int .i64 vr2, []) | _ => none) rfl (fun _ _ => rC (eY hvr2)) ?_
 refine xS 56 [0, 2, 4, 8] ?_
 refine xI h0 rfl (fun h0 hb3 => ?_) (fun h0 hb3 => ?_)
 ·
  refine xS 88 [2, 3] ?_
  refine zB (s2 := ⟨[(2, .ref 0 0 0 0), (3, .int .i64 vr2)], [(0, ⟨0, true, false, 3, [[.sl 88 0 2 0 0, .sl 89 0 1 0 0, .int .i64 0]]⟩), (88, ⟨0, true, true, 2, List.map cA.enc []⟩), (89, ⟨0, true, true, 1, List.map (iA .i64) []⟩)], 90, []⟩) [(88, 2), (89, 1)] rL ⟨rF, rE, rfl, rfl, trivial, rN⟩ ?_
  refine jA (mA ?_)
  obtain rfl := Option.some.inj h0
  refine nA [88, 89] ?_
  exact rG
 ·
  refine qA (gA ?_)
  obtain ⟨vr4, hvr4, h0⟩ := eA h0
  refine oA 88 [2, 3] (fun | 1 => some (.agg [.sl 0 0 2 0 vr4.Keys.length, .sl 1 0 1 0 vr4.Lose.length, .int .i64 vr4.Win], [⟨0, true, true, 2, vr4.Keys.map cA.enc⟩, ⟨0, true, true, 1, vr4.Lose.map (iA .i64)⟩]) | _ => none) rfl (fun _ _ => rC (zkd hvr4)) ?_
  refine jA ?_
  obtain rfl := Option.some.inj h0
  refine nA [64, 65] ?_
  exact rG
theorem zgk {fu : Nat} {runs1 : List (List aA)} {vat2 : List Int} {r : zA} (h0 : gU fu runs1 vat2 = some r) : lB Try.prog 77 [.psl 1 (runs1.map (wA 4 aA.enc)), .psl 1 (vat2.map (iA .i64))] (.agg [.sl 0 0 2 0 r.Keys.length, .sl 1 0 1 0 r.Lose.length, .int .i64 r.Win]) [⟨0, true, true, 2, r.Keys.map cA.enc⟩, ⟨0, true, true, 1, r.Lose.map (iA .i64)⟩] := by
 refine sB Try.func77 rfl (by decide) rL ?_
 dsimp only [Try.f77]
 rw [gU] at h0
 refine (show pA _ _ _ _ ⟨kB 0 _, [], 0, []⟩ from ?_)
 refine xS 8 [0, 1, 4] ?_
 obtain ⟨hc3, h0⟩ := cF h0
 refine xS 40 [0, 1, 4, 5] ?_
 refine xE ⟨[(0, .psl 1 (List.map (wA 4 aA.enc) runs1)), (1, .psl 1 (List.map (iA .i64) vat2)), (4, .ref 0 0 0 0), (5, .sl 24 0 2 0 ((List.replicate runs1.length (cA.mk [] false) : List cA).length))], [(0, ⟨0, true, true, 3, [[.nils, .nils, .int .i64 0]]⟩), (24, ⟨0, true, true, 2, List.map cA.enc (List.replicate runs1.length (cA.mk [] false) : List cA)⟩)], 40, []⟩ ?_
 refine kA ?_
 refine xS 64 [1, 4, 5, 13, 14, 15] ?_
 obtain ⟨x17, hxx17, h0⟩ := eA h0
 refine lD (fun s' => ∃ g26 : Nat, s'.nx ≤ 72 ∧ LeN [] s' ⟨[(4, .ref 0 0 0 0), (5, .sl 24 g26 2 0 x17.length)], [(0, ⟨0, true, true, 3, [[.nils, .nils, .int .i64 0]]⟩), (24, ⟨g26, true, true, 2, List.map cA.enc x17⟩)], 72, []⟩) ?_ ?_
 ·
  intro s' hs
  obtain ⟨g26, hn, hs⟩ := hs
  refine gA ?_
  refine zB [] hn hs ?_
  obtain ⟨vr27, hvr27, h0⟩ := eA h0
  refine oA 136 [4, 8] (fun | 1 => some (.tup [.agg [.sl 0 0 2 0 vr27.1.Keys.length, .sl 1 0 1 0 vr27.1.Lose.length, .int .i64 vr27.1.Win], .int .i64 vr27.2], [⟨0, true, true, 2, vr27.1.Keys.map cA.enc⟩, ⟨0, true, true, 1, vr27.1.Lose.map (iA .i64)⟩]) | _ => none) rfl (fun _ _ => rC (zlV hvr27)) ?_
  refine xS 152 [4] ?_
  refine jA ?_
  obtain rfl := Option.some.inj h0
  refine nA [80, 81] ?_
  exact rG
 ·
  refine kD (ι := { p : Nat × Int × List cA × Nat // dK runs1 vat2 p.1 p.2.1 p.2.2.1 = some x17 }) (fun p => ⟨[(1, .psl 1 (List.map (iA .i64) vat2)), (4, .ref 0 0 0 0), (5, .sl 24 p.1.2.2.2 2 0 p.1.2.2.1.length), (13, .psl 1 (List.map (wA 4 aA.enc) runs1)), (14, .int .i64 (runs1.length : Int)), (15, .int .i64 p.1.2.1)], [(0, ⟨0, true, true, 3, [[.nils, .nils, .int .i64 0]]⟩), (24, ⟨p.1.2.2.2, true, true, 2, List.map cA.enc p.1.2.2.1⟩)], 64, []⟩) (fun p => p.1.1) ⟨(fu, 0, (List.replicate runs1.length (cA.mk [] false) : List cA), 0), hxx17⟩ ⟨rF, rE, rfl, rfl, trivial, trivial⟩ (fun _ => Nat.le_refl _) ?_
  rintro ⟨⟨fu, v18, keys19, g20⟩, h1⟩
  cases fu with
  | zero =>
   replace h1 : dK runs1 vat2 0 v18 keys19 = some x17 := h1
   rw [dK] at h1; cases h1
  | succ fu =>
   replace h1 : dK runs1 vat2 (fu + 1) v18 keys19 = some x17 := h1
   rw [dK] at h1
   refine (show pA _ _ _ _ ⟨[(1, .psl 1 (List.map (iA .i64) vat2)), (4, .ref 0 0 0 0), (5, .sl 24 g20 2 0 keys19.length), (13, .psl 1 (List.map (wA 4 aA.enc) runs1)), (14, .int .i64 (runs1.length : Int)), (15, .int .i64 v18)], [(0, ⟨0, true, true, 3, [[.nils, .nils, .int .i64 0]]⟩), (24, ⟨g20, true, true, 2, List.map cA.enc keys19⟩)], 64, []⟩ from ?_)
   refine xS 72 [1, 4, 5, 13, 14, 15, 16] ?_
   refine kA ?_
   refine xI h1 rfl (fun h1 hb21 => ?_) (fun h1 hb21 => ?_)
   ·
    refine qA (gA (kA (jC ?_)))
    obtain ⟨e22, he22, h1⟩ := eA h1
    obtain ⟨he22a, he22b, he22c⟩ := fB he22
    refine oA 112 [1, 4, 5, 6, 7, 13, 14, 15] (fun _ => none) rfl (fun _ _ => rS (rA he22a (rA he22b he22c))) ?_
    obtain ⟨e23, he23, h1⟩ := eA h1
    obtain ⟨he23a, he23b, he23c⟩ := fB he23
    obtain ⟨vr24, hvr24, h1⟩ := eA h1
    obtain ⟨e25, he25, h1⟩ := eA h1
    obtain ⟨he25a, he25b, he25c⟩ := fB he25
    refine iC 192 [1, 4, 5, 13, 14, 15] (fun | 7 => some (.agg (cA.enc vr24), []) | _ => none) rfl (fun _ _ => rB (rA he22a (rA he22b (rA he22c (rA he23a (rA he23b (rA he23c (rA he25a (rA he25b he25c)))))))) (eZ hvr24)) ?_
    refine cC (gA ?_)
    refine xE ⟨[(1, .psl 1 (List.map (iA .i64) vat2)), (4, .ref 0 0 0 0), (5, .sl 24 g20 2 0 ((keys19.set v18.toNat vr24).length)), (13, .psl 1 (List.map (wA 4 aA.enc) runs1)), (14, .int .i64 (runs1.length : Int)), (15, .int .i64 v18)], [(0, ⟨0, true, true, 3, [[.nils, .nils, .int .i64 0]]⟩), (24, ⟨g20, true, true, 2, List.map cA.enc (keys19.set v18.toNat vr24)⟩)], 192, []⟩ ?_
    refine iC 208 [1, 4, 5, 13, 14, 15] (fun _ => none) rfl (fun _ _ => rS (rA he22a (rA he22b (rA he22c (rA he23a (rA he23b (rA he23c (rA he25a (rA he25b he25c))))))))) ?_
    refine gA ?_
    exact ⟨⟨(fu, (IntKind.i64.wrap (v18 + 1)), (keys19.set v18.toNat vr24), g20), h1⟩, ⟨rF, rE, rfl, rfl, trivial, trivial⟩, Nat.lt_succ_self _⟩
   ·
    refine vC (jB (jB (bD ?_)))
    obtain rfl := Option.some.inj h1
    exact ⟨g20, rL, ⟨rF, rE, rfl, rfl, trivial, trivial⟩⟩
theorem zmu {fu : Nat} {runs1 : List (List aA)} {r : gB × Int × Int} (h0 : fS fu runs1 = some r) : lB Try.prog 57 [.psl 1 (runs1.map (wA 4 aA.enc))] (.tup [.agg [.psl 1 (List.map (wA 4 aA.enc) r.1.Runs), .sl 0 0 1 0 r.1.At.length, .psl 2 (List.map cA.enc r.1.Tree.Keys), .psl 1 (List.map (iA .i64) r.1.Tree.Lose), .int .i64 r.1.Tree.Win], .int .i64 r.2.1, .int .i64 r.2.2]) [⟨0, true, true, 1, r.1.At.map (iA .i64)⟩] := by
 refine sB Try.func57 rfl (by decide) rL ?_
 dsimp only [Try.f57]
 rw [fS] at h0
 refine (show pA _ _ _ _ ⟨kB 0 _, [], 0, []⟩ from ?_)
 refine xS 24 [0, 2] ?_
 refine kA ?_
 obtain ⟨vr2, hvr2, h0⟩ := eA h0
 refine oA 80 [0, 2, 5, 6] (fun | 1 => some (.tup [.int .i64 vr2.1, .int .i64 vr2.2], []) | _ => none) rfl (fun _ _ => rC (zbT hvr2)) ?_
 refine xS 96 [0, 2, 5, 6, 14] ?_
 refine xI h0 rfl (fun h0 hb3 => ?_) (fun h0 hb3 => ?_)
 ·
  refine xS 144 [2, 3, 4] ?_
  refine zB (s2 := ⟨[(2, .ref 0 0 0 0), (3, .int .i64 vr2.1), (4, .int .i64 vr2.2)], [(0, ⟨0, true, false, 5, [[.nils, .sl 144 0 1 0 0, .nils, .nils, .int .i64 0]]⟩), (144, ⟨0, true, true, 1, List.map (iA .i64) []⟩)], 145, []⟩) [(144, 1)] rL ⟨rF, rE, rfl, rfl, trivial, rN⟩ ?_
  refine jA (mA ?_)
  obtain rfl := Option.some.inj h0
  refine nA [144] ?_
  exact rG
 ·
  refine qA (gA ?_)
  obtain ⟨hc4, h0⟩ := cF h0
  refine xS 128 [0, 2, 7] ?_
  refine xE ⟨[(0, .psl 1 (List.map (wA 4 aA.enc) runs1)), (2, .ref 0 0 0 0), (7, .sl 112 0 1 0 ((List.replicate runs1.length 0 : List Int).length))], [(0, ⟨0, true, true, 5, [[.nils, .nils, .nils, .nils, .int .i64 0]]⟩), (112, ⟨0, true, true, 1, List.map (iA .i64) (List.replicate runs1.length 0 : List Int)⟩)], 128, []⟩ ?_
  obtain ⟨vr5, hvr5, h0⟩ := eA h0
  obtain ⟨vr6, hvr6, h0⟩ := eA h0
  refine oA 208 [2, 3, 4] (fun | 1 => some (.psl 1 (vr5.map (wA 4 aA.enc)), []) | 5 => some (.agg [.sl 0 0 2 0 vr6.Keys.length, .sl 1 0 1 0 vr6.Lose.length, .int .i64 vr6.Win], [⟨0, true, true, 2, vr6.Keys.map cA.enc⟩, ⟨0, true, true, 1, vr6.Lose.map (iA .i64)⟩]) | _ => none) rfl (fun Kt hK => by
    try have q0 := zaP hvr5
    try have q1 := zgk hvr6
    exact rT) ?_
  refine jA ?_
  obtain rfl := Option.some.inj h0
  refine nA [112] ?_
  exact rG
theorem zcb {fu : Nat} {vs1 : List Int} {r : List Int} (h0 : vL fu vs1 = some r) : lB Try.prog 99 [.psl 1 (vs1.map (iA .i64))] (.sl 0 0 1 0 r.length) [⟨0, true, true, 1, r.map (iA .i64)⟩] := by
 refine sB Try.func99 rfl (by decide) rL ?_
 dsimp only [Try.f99]
 rw [vL] at h0
 refine (show pA _ _ _ _ ⟨kB 0 _, [], 0, []⟩ from ?_)
 refine xS 8 [0] ?_
 refine kA ?_
 cases hb2 : vs1.isEmpty with
 | true =>
  replace h0 := iB h0 hb2
  obtain rfl : vs1 = [] := List.isEmpty_iff.1 hb2
  refine xS 24 [0, 4] ?_
  refine oV rfl ?_ ?_
  ·
   skip
   refine xS 32 [2] ?_
   refine zB (s2 := ⟨[(2, .sl 32 0 1 0 0)], [(32, ⟨0, true, true, 1, List.map (iA .i64) []⟩)], 33, []⟩) [(32, 1)] rL ⟨rF, rE, rfl, rfl, trivial, rN⟩ ?_
   refine jA (mA ?_)
   obtain rfl := Option.some.inj h0
   refine nA [32] ?_
   exact rG
  ·
   skip
   refine qA (gA ?_)
   refine xS 56 [2] ?_
   refine xE ⟨[(2, .sl 24 1 1 0 0)], [(24, ⟨1, true, true, 1, List.map (iA .i64) []⟩)], 56, []⟩ ?_
   refine jA ?_
   obtain rfl := Option.some.inj h0
   refine nA [24] ?_
   exact rG
 | false =>
  replace h0 := vA h0 hb2
  refine oA 24 [0, 4] (fun _ => none) rfl (fun _ _ => rS hb2) ?_
  refine wF rfl ?_
  refine qA (gA ?_)
  obtain ⟨hc3, h0⟩ := cF h0
  refine oA 56 [2] (fun _ => none) rfl (fun _ _ => rS hb2) ?_
  refine xE ⟨[(2, .sl 24 1 1 0 vs1.length)], [(24, ⟨1, true, true, 1, List.map (iA .i64) vs1⟩)], 56, []⟩ ?_
  refine jA ?_
  obtain rfl := Option.some.inj h0
  refine nA [24] ?_
  simp (maxSteps := 1000000) only [↓reduceIte, reduceCtorEq, Nat.reduceEqDiff, Nat.reduceLT, Nat.reduceLeDiff, Nat.reduceAdd, Nat.reduceMul, Int.reduceToNat, push_cast, lC, hb2]
  all_goals exact rH
theorem zcp {fu : Nat} {t1 : zA} {k2 : cA} {r : zA × Int × Int} (h0 : aM fu t1 k2 = some r) : lB Try.prog 100 [.agg (zA.enc t1), .agg (cA.enc k2)] (.tup [.agg (zA.enc r.1), .int .i64 r.2.1, .int .i64 r.2.2]) [] := by
 refine sB Try.func100 rfl (by decide) rL ?_
 dsimp only [Try.f100]
 rw [aM] at h0
 refine (show pA _ _ _ _ ⟨kB 0 _, [], 0, []⟩ from ?_)
 refine xS 40 [2, 3, 4, 5] ?_
 refine zoI (kA ?_)
 obtain ⟨vr3, hvr3, h0⟩ := eA h0
 refine oA 64 [2, 3, 4, 5, 7] (fun | 1 => some (.int .i64 vr3, []) | _ => none) rfl (fun _ _ => rC (zcw hvr3)) ?_
 refine xS 80 [2, 3, 4, 5, 7, 14] ?_
 refine xI h0 rfl (fun h0 hb4 => ?_) (fun h0 hb4 => ?_)
 ·
  refine xS 120 [4, 5, 6] ?_
  refine jA (mA (oX ?_))
  obtain rfl := Option.some.inj h0
  refine nA [] ?_
  exact rG
 ·
  refine qA (gA (kA ?_))
  obtain ⟨vr5, hvr5, h0⟩ := eA h0
  refine oA 112 [2, 3, 4, 5, 8] (fun | 2 => some (.int .i64 vr5, []) | _ => none) rfl (fun _ _ => rC (eY hvr5)) ?_
  refine xE ⟨[(2, .ref 0 0 0 0), (3, .ref 8 0 0 0), (4, .ref 16 0 0 0), (5, .int .i64 0), (8, .int .i64 vr5)], [(0, ⟨0, true, true, 3, [[.psl 2 (List.map cA.enc t1.Keys), .psl 1 (List.map (iA .i64) t1.Lose), .int .i64 t1.Win]]⟩), (8, ⟨0, true, true, 2, [[.str k2.Key, .bool k2.Done]]⟩), (16, ⟨0, true, true, 3, [[.nils, .nils, .int .i64 0]]⟩)], 112, []⟩ ?_
  refine xS 128 [2, 3, 4, 5, 8, 21] ?_
  refine xI h0 rfl (fun h0 hb6 => ?_) (fun h0 hb6 => ?_)
  ·
   refine xS 168 [4, 5, 6] ?_
   refine jA (mA (oX ?_))
   obtain rfl := Option.some.inj h0
   refine nA [] ?_
   exact rG
  ·
   refine qA (gA (kA ?_))
   obtain ⟨b8, hb8, h0⟩ := eA h0
   refine uY (fr' := [(2, .ref 0 0 0 0), (3, .ref 8 0 0 0), (4, .ref 16 0 0 0), (5, .int .i64 0), (38, .bool b8)]) (hp' := [(0, ⟨0, true, true, 3, [[.psl 2 (List.map cA.enc t1.Keys), .psl 1 (List.map (iA .i64) t1.Lose), .int .i64 t1.Win]]⟩), (8, ⟨0, true, true, 2, [[.str k2.Key, .bool k2.Done]]⟩), (16, ⟨0, true, true, 3, [[.nils, .nils, .int .i64 0]]⟩)]) [0, 8, 16] 248 [2, 3, 4, 5, 38] (fun _ => none) rfl rfl rfl (fun Kt hK => by
     cases hg9 : (!k2.Done) with
     | false =>
      replace hb8 := vA hb8 hg9
      have hqb8 := Option.some.inj hb8
      subst hqb8
      simp (maxSteps := 1000000) only [↓reduceIte, reduceCtorEq, Nat.reduceEqDiff, Nat.reduceLT, Nat.reduceLeDiff, Nat.reduceAdd, Nat.reduceMul, Int.reduceToNat, push_cast, ↓hg9]
      try simp only [↓hg9] at hK
      all_goals exact dP
     | true =>
      replace hb8 := iB hb8 hg9
      obtain ⟨e7, he7, hb8⟩ := eA hb8
      obtain ⟨he7a, he7b, he7c⟩ := fB he7
      have hqb8 := Option.some.inj hb8
      subst hqb8
      simp (maxSteps := 1000000) only [↓reduceIte, reduceCtorEq, Nat.reduceEqDiff, Nat.reduceLT, Nat.reduceLeDiff, Nat.reduceAdd, Nat.reduceMul, Int.reduceToNat, push_cast, ↓hg9, he7a, he7b, he7c, he7]
      try simp only [↓hg9] at hK
      all_goals exact dP) ?_
   refine xI h0 rfl (fun h0 hb10 => ?_) (fun h0 hb10 => ?_)
   ·
    refine xS 280 [4, 5, 6] ?_
    refine jA (mA (oX ?_))
    obtain rfl := Option.some.inj h0
    refine nA [] ?_
    exact rG
   ·
    refine qA (gA ?_)
    obtain ⟨vr11, hvr11, h0⟩ := eA h0
    obtain ⟨vr12, hvr12, h0⟩ := eA h0
    refine jD 328 [3, 4, 5] (fun | 2 => some (.sl 0 0 2 0 vr11.length, [⟨0, true, true, 2, vr11.map cA.enc⟩]) | 5 => some (.sl 0 0 1 0 vr12.length, [⟨0, true, true, 1, vr12.map (iA .i64)⟩]) | _ => none) rfl rfl rfl (fun Kt hK => by
      try have q0 := zdQ hvr11
      try have q1 := zcb hvr12
      exact vG) ?_
    obtain ⟨e13, he13, h0⟩ := eA h0
    obtain ⟨he13a, he13b, he13c⟩ := fB he13
    refine oA 384 [4, 5] (fun _ => none) rfl (fun _ _ => rS (rA he13a (rA he13b he13c))) ?_
    refine xE ⟨[(4, .ref 16 0 0 0), (5, .int .i64 0)], [(16, ⟨0, true, false, 3, [[.sl 264 0 2 0 ((vr11.set t1.Win.toNat k2).length), .sl 288 0 1 0 vr12.length, .int .i64 t1.Win]]⟩), (264, ⟨0, true, true, 2, List.map cA.enc (vr11.set t1.Win.toNat k2)⟩), (288, ⟨0, true, true, 1, List.map (iA .i64) vr12⟩)], 384, []⟩ ?_
    obtain ⟨vr14, hvr14, h0⟩ := eA h0
    refine oA 416 [4, 5, 9] (fun | 2 => some (.fn 110 [] [.pp [.psl 2 (vr14.map cA.enc)]], []) | _ => none) rfl (fun _ _ => rB (rA he13a (rA he13b he13c)) (zbJ hvr14)) ?_
    refine oA 472 [4, 5, 9, 10] (fun _ => none) rfl (fun _ _ => rS (rA he13a (rA he13b he13c))) ?_
    refine kA ?_
    refine zc7 ?_
    refine gA ?_
    obtain ⟨x28, hxx28, h0⟩ := eA h0
    refine znb (fun s' => ∃ g38 : Nat, s'.nx ≤ 512 ∧ LeN [] s' ⟨[(4, .ref 16 0 0 0), (5, .int .i64 x28.1)], [(16, ⟨0, true, false, 3, [[.sl 264 0 2 0 ((vr11.set t1.Win.toNat k2).length), .sl 288 g38 1 0 x28.2.2.length, .int .i64 x28.2.1]]⟩), (264, ⟨0, false, true, 2, List.map cA.enc (vr11.set t1.Win.toNat k2)⟩), (288, ⟨g38, true, true, 1, List.map (iA .i64) x28.2.2⟩)], 512, []⟩) ?_ ?_
    ·
     intro s' hs
     obtain ⟨g38, hn, hs⟩ := hs
     refine zB [] hn hs ?_
     refine oA 552 [4, 5, 6] (fun _ => none) rfl (fun _ _ => rS (rA he13a (rA he13b he13c))) ?_
     refine jA (oX ?_)
     obtain rfl := Option.some.inj h0
     refine nA [] ?_
     simp (maxSteps := 1000000) only [↓reduceIte, reduceCtorEq, Nat.reduceEqDiff, Nat.reduceLT, Nat.reduceLeDiff, Nat.reduceAdd, Nat.reduceMul, Int.reduceToNat, push_cast, lC, he13a, he13b, he13c]
     all_goals exact rH
    ·
     refine kD (ι := { p : Nat × Int × Int × Int × List Int × Nat // sH vr14 p.1 p.2.1 p.2.2.1 p.2.2.2.1 p.2.2.2.2.1 = some x28 }) (fun p => ⟨[(4, .ref 16 0 0 0), (5, .int .i64 p.1.2.1), (9, .fn 110 [] [.pp [.psl 2 (List.map cA.enc vr14)]]), (10, .int .i64 p.1.2.2.1)], [(16, ⟨0, true, false, 3, [[.sl 264 0 2 0 ((vr11.set t1.Win.toNat k2).length), .sl 288 p.1.2.2.2.2.2 1 0 p.1.2.2.2.2.1.length, .int .i64 p.1.2.2.2.1]]⟩), (264, ⟨0, false, true, 2, List.map cA.enc (vr11.set t1.Win.toNat k2)⟩), (288, ⟨p.1.2.2.2.2.2, true, true, 1, List.map (iA .i64) p.1.2.2.2.2.1⟩)], 472, []⟩) (fun p => p.1.1) ⟨(fu, 0, (IntKind.i64.wrap (((vr11.set t1.Win.toNat k2).length : Int) + t1.Win)), t1.Win, vr12, 0), hxx28⟩ ⟨rF, rE, rfl, rfl, trivial, trivial⟩ (fun _ => Nat.le_refl _) ?_
     rintro ⟨⟨fu, games29, node30, u31, v32, g33⟩, h1⟩
     cases fu with
     | zero =>
   replace h1 : sH vr14 0 games29 node30 u31 v32 = some x28 := h1
   rw [sH] at h1; cases h1
     | succ fu =>
      replace h1 : sH vr14 (fu + 1) games29 node30 u31 v32 = some x28 := h1
      rw [sH] at h1
      refine (show pA _ _ _ _ ⟨[(4, .ref 16 0 0 0), (5, .int .i64 games29), (9, .fn 110 [] [.pp [.psl 2 (List.map cA.enc vr14)]]), (10, .int .i64 node30)], [(16, ⟨0, true, false, 3, [[.sl 264 0 2 0 ((vr11.set t1.Win.toNat k2).length), .sl 288 g33 1 0 v32.length, .int .i64 u31]]⟩), (264, ⟨0, false, true, 2, List.map cA.enc (vr11.set t1.Win.toNat k2)⟩), (288, ⟨g33, true, true, 1, List.map (iA .i64) v32⟩)], 472, []⟩ from ?_)
      refine jC ?_
      refine oA 496 [4, 5, 9, 10] (fun _ => none) rfl (fun _ _ => rS (rA he13a (rA he13b he13c))) ?_
      refine kA ?_
      refine oA 512 [4, 5, 9, 10, 67] (fun _ => none) rfl (fun _ _ => rS (rA he13a (rA he13b he13c))) ?_
      refine xI h1 rfl (fun h1 hb34 => ?_) (fun h1 hb34 => ?_)
      ·
       refine vC (jB (nQ (by decide) (jB (bD ?_))))
       obtain rfl := Option.some.inj h1
       exact ⟨g33, rL, ⟨rF, rE, rfl, rfl, trivial, trivial⟩⟩
      ·
       refine qA (gA ?_)
       refine oA 536 [4, 5, 9, 10] (fun _ => none) rfl (fun _ _ => rS (rA he13a (rA he13b he13c))) ?_
       obtain ⟨e35, he35, h1⟩ := eA h1
       obtain ⟨he35a, he35b, he35c⟩ := fB he35
       obtain ⟨vr36, hvr36, h1⟩ := eA h1
       refine jD 608 [4, 5, 9, 10, 78] (fun | 8 => some (.bool vr36, []) | _ => none) rfl rfl rfl (fun _ _ => cQ (rA he13a (rA he13b (rA he13c (rA he35a (rA he35b he35c))))) (zbG hvr36)) ?_
       refine xI h1 rfl (fun h1 hb37 => ?_) (fun h1 hb37 => ?_)
       ·
        refine aJ 720 [4, 5, 9, 10] (fun _ => none) rfl rfl rfl (fun _ _ => uE (rA he13a (rA he13b (rA he13c (rA he35a (rA he35b he35c)))))) ?_
        refine cC (gA ?_)
        exact ⟨⟨(fu, (IntKind.i64.wrap (games29 + 1)), (IntKind.i64.wrap (node30.tdiv 2)), e35, (v32.set ((IntKind.i64.wrap (node30.tdiv 2)).toNat) u31), g33), h1⟩, ⟨rF, rE, rfl, rfl, trivial, trivial⟩, Nat.lt_succ_self _⟩
       ·
        refine qA (cC (gA ?_))
        exact ⟨⟨(fu, (IntKind.i64.wrap (games29 + 1)), (IntKind.i64.wrap (node30.tdiv 2)), u31, v32, g33), h1⟩, ⟨rF, rE, rfl, rfl, trivial, trivial⟩, Nat.lt_succ_self _⟩
theorem zfd {fu : Nat} {runs1 : List (List aA)} {r : List aA × List Int × Int} (h0 : iL fu runs1 = some r) : lB Try.prog 60 [.psl 1 (runs1.map (wA 4 aA.enc))] (.tup [.psl 4 (r.1.map aA.enc), .psl 1 (r.2.1.map (iA .i64)), .int .i64 r.2.2]) [] := by
 refine sB Try.func60 rfl (by decide) rL ?_
 dsimp only [Try.f60]
 rw [iL] at h0
 refine (show pA _ _ _ _ ⟨kB 0 _, [], 0, []⟩ from ?_)
 refine xS 24 [0, 2, 3] ?_
 obtain ⟨vr2, hvr2, h0⟩ := eA h0
 refine oA 104 [2, 3, 4, 5] (fun | 1 => some (.tup [.agg [.psl 1 (List.map (wA 4 aA.enc) vr2.1.Runs), .sl 0 0 1 0 vr2.1.At.length, .psl 2 (List.map cA.enc vr2.1.Tree.Keys), .psl 1 (List.map (iA .i64) vr2.1.Tree.Lose), .int .i64 vr2.1.Tree.Win], .int .i64 vr2.2.1, .int .i64 vr2.2.2], [⟨0, true, true, 1, vr2.1.At.map (iA .i64)⟩]) | _ => none) rfl (fun _ _ => rC (zmu hvr2)) ?_
 refine kA ?_
 refine xS 120 [2, 3, 4, 5, 17] ?_
 refine xI h0 rfl (fun h0 hb3 => ?_) (fun h0 hb3 => ?_)
 ·
  refine xS 152 [2, 3, 4] ?_
  refine jA (mA ?_)
  obtain rfl := Option.some.inj h0
  refine nA [] ?_
  exact rG
 ·
  refine qA (gA ?_)
  refine xS 152 [2, 3, 4, 7] ?_
  refine kA ?_
  refine mH 2 rfl ?_
  refine fC (l' := List.range' 0 1 ++ (1 :: (List.range' 2 0 ++ []))) rfl ?_
  refine pC 0 1 160 (1 :: (List.range' 2 0 ++ [])) (fun _ => none) rfl rfl rfl (fun _ _ => rT) ?_
  refine xJ rfl rfl rfl rfl rfl Try.func83 rfl (by decide) rfl rL ?_
  dsimp only [Try.f83]
  refine xE ⟨[(0, .ref 136 0 0 0)], [(0, ⟨0, true, true, 1, [[.nils]]⟩), (8, ⟨0, true, true, 1, [[.nils]]⟩), (32, ⟨0, true, true, 1, List.map (iA .i64) vr2.1.At⟩), (72, ⟨0, true, false, 5, [[.psl 1 (List.map (wA 4 aA.enc) vr2.1.Runs), .sl 32 0 1 0 vr2.1.At.length, .psl 2 (List.map cA.enc vr2.1.Tree.Keys), .psl 1 (List.map (iA .i64) vr2.1.Tree.Lose), .int .i64 vr2.1.Tree.Win]]⟩), (136, ⟨0, true, false, 5, [[.psl 1 (List.map (wA 4 aA.enc) vr2.1.Runs), .sl 32 0 1 0 vr2.1.At.length, .psl 2 (List.map cA.enc vr2.1.Tree.Keys), .psl 1 (List.map (iA .i64) vr2.1.Tree.Lose), .int .i64 vr2.1.Tree.Win]]⟩)], 160, []⟩ ?_
  refine xS 176 [1] ?_
  refine xS 192 [2] ?_
  refine jA ?_
  refine oE (fun _ _ => rT) ?_
  refine xF ⟨[(2, .ref 0 0 0 0), (3, .ref 8 0 0 0), (4, .int .i64 vr2.2.2), (7, .ref 136 0 0 0), (22, .ref 136 0 0 0), (23, .fn 98 [] [.ref 160 0 0 0])], [(0, ⟨0, true, true, 1, [[.nils]]⟩), (8, ⟨0, true, true, 1, [[.nils]]⟩), (32, ⟨0, true, true, 1, List.map (iA .i64) vr2.1.At⟩), (136, ⟨0, true, false, 5, [[.psl 1 (List.map (wA 4 aA.enc) vr2.1.Runs), .sl 32 0 1 0 vr2.1.At.length, .psl 2 (List.map cA.enc vr2.1.Tree.Keys), .psl 1 (List.map (iA .i64) vr2.1.Tree.Lose), .int .i64 vr2.1.Tree.Win]]⟩), (160, ⟨0, true, false, 1, [[.ref 136 0 0 0]]⟩)], 192, []⟩ ?_
  refine fC (l' := []) rfl ?_
  refine mD ?_
  refine gA ?_
  refine xE ⟨[(2, .ref 0 0 0 0), (3, .ref 8 0 0 0), (4, .int .i64 vr2.2.2), (23, .fn 98 [] [.ref 160 0 0 0])], [(0, ⟨0, true, true, 1, [[.nils]]⟩), (8, ⟨0, true, true, 1, [[.nils]]⟩), (32, ⟨0, true, true, 1, List.map (iA .i64) vr2.1.At⟩), (136, ⟨0, true, false, 5, [[.psl 1 (List.map (wA 4 aA.enc) vr2.1.Runs), .sl 32 0 1 0 vr2.1.At.length, .psl 2 (List.map cA.enc vr2.1.Tree.Keys), .psl 1 (List.map (iA .i64) vr2.1.Tree.Lose), .int .i64 vr2.1.Tree.Win]]⟩), (160, ⟨0, true, false, 1, [[.ref 136 0 0 0]]⟩)], 192, []⟩ ?_
  refine jC ?_
  refine zbE rfl Try.func98 rfl (by decide) rL ?_
  intro RC4 hRC4
  have stRC4 : RC4.st = .ready ∧ RC4.pend = none := by rw [hRC4]; exact ⟨rfl, rfl⟩
  have okRC4 : cZ 192 RC4 := by rw [hRC4]; exact And.intro (rR) rfl
  dsimp only [Try.f98]
  refine zB (s2 := ⟨[(0, .yld 192), (1, .ref 160 0 0 0)], [(0, ⟨0, true, true, 1, [[.nils]]⟩), (8, ⟨0, true, true, 1, [[.nils]]⟩), (32, ⟨0, true, true, 1, List.map (iA .i64) vr2.1.At⟩), (136, ⟨0, true, false, 5, [[.psl 1 (List.map (wA 4 aA.enc) vr2.1.Runs), .sl 32 0 1 0 vr2.1.At.length, .psl 2 (List.map cA.enc vr2.1.Tree.Keys), .psl 1 (List.map (iA .i64) vr2.1.Tree.Lose), .int .i64 vr2.1.Tree.Win]]⟩), (160, ⟨0, true, false, 1, [[.ref 136 0 0 0]]⟩)], 193, [(192, RC4)]⟩) [] rL ⟨rF, rE, rfl, rfl, (dC.consR rL rfl okRC4 rL trivial), trivial⟩ ?_
  refine zat ?_
  refine zB (s2 := ⟨[(0, .yld 192), (1, .ref 160 0 0 0)], [(0, ⟨0, true, false, 1, [[.sl 193 0 4 0 0]]⟩), (8, ⟨0, true, false, 1, [[.sl 194 0 1 0 0]]⟩), (32, ⟨0, true, true, 1, List.map (iA .i64) vr2.1.At⟩), (136, ⟨0, true, false, 5, [[.psl 1 (List.map (wA 4 aA.enc) vr2.1.Runs), .sl 32 0 1 0 vr2.1.At.length, .psl 2 (List.map cA.enc vr2.1.Tree.Keys), .psl 1 (List.map (iA .i64) vr2.1.Tree.Lose), .int .i64 vr2.1.Tree.Win]]⟩), (160, ⟨0, true, false, 1, [[.ref 136 0 0 0]]⟩), (193, ⟨0, true, true, 4, List.map aA.enc []⟩), (194, ⟨0, true, true, 1, List.map (iA .i64) []⟩)], 195, [(192, RC4)]⟩) [(193, 4), (194, 1)] rL ⟨rF, rE, rfl, rfl, (dC.consR rL rfl okRC4 rL trivial), rN⟩ ?_
  obtain ⟨x37, hxx37, h0⟩ := eA h0
  refine lD (fun _ => False) ?_ ?_
  ·
   intro _ h; exact h.elim
  ·
   refine kD (ι := { p : Nat × List Int × List cA × List Int × Int × List aA × List Int × Nat × Nat × Nat // hI vr2 p.1 p.2.1 p.2.2.1 p.2.2.2.1 p.2.2.2.2.1 p.2.2.2.2.2.1 p.2.2.2.2.2.2.1 = some x37 }) (fun p => ⟨[(0, .yld 192), (1, .ref 160 0 0 0)], [(0, ⟨0, true, false, 1, [[.sl 193 p.1.2.2.2.2.2.2.2.2.1 4 0 p.1.2.2.2.2.2.1.length]]⟩), (8, ⟨0, true, false, 1, [[.sl 194 p.1.2.2.2.2.2.2.2.2.2 1 0 p.1.2.2.2.2.2.2.1.length]]⟩), (32, ⟨p.1.2.2.2.2.2.2.2.1, true, true, 1, List.map (iA .i64) p.1.2.1⟩), (136, ⟨0, true, false, 5, [[.psl 1 (List.map (wA 4 aA.enc) vr2.1.Runs), .sl 32 p.1.2.2.2.2.2.2.2.1 1 0 p.1.2.1.length, .psl 2 (List.map cA.enc p.1.2.2.1), .psl 1 (List.map (iA .i64) p.1.2.2.2.1), .int .i64 p.1.2.2.2.2.1]]⟩), (160, ⟨0, true, false, 1, [[.ref 136 0 0 0]]⟩), (193, ⟨p.1.2.2.2.2.2.2.2.2.1, true, true, 4, List.map aA.enc p.1.2.2.2.2.2.1⟩), (194, ⟨p.1.2.2.2.2.2.2.2.2.2, true, true, 1, List.map (iA .i64) p.1.2.2.2.2.2.2.1⟩)], 195, [(192, RC4)]⟩) (fun p => p.1.1) ⟨(fu, vr2.1.At, vr2.1.Tree.Keys, vr2.1.Tree.Lose, vr2.1.Tree.Win, [], [], 0, 0, 0), hxx37⟩ ⟨rF, rE, rfl, rfl, (dC.consR rL rfl okRC4 rL trivial), trivial⟩ (fun _ => Nat.le_refl _) ?_
   rintro ⟨⟨fu, v38, v39, v40, v41, v42, v43, g44, g45, g46⟩, h1⟩
   cases fu with
   | zero =>
   replace h1 : hI vr2 0 v38 v39 v40 v41 v42 v43 = some x37 := h1
   rw [hI] at h1; cases h1
   | succ fu =>
    replace h1 : hI vr2 (fu + 1) v38 v39 v40 v41 v42 v43 = some x37 := h1
    rw [hI] at h1
    refine (show pA _ _ _ _ ⟨[(0, .yld 192), (1, .ref 160 0 0 0)], [(0, ⟨0, true, false, 1, [[.sl 193 g45 4 0 v42.length]]⟩), (8, ⟨0, true, false, 1, [[.sl 194 g46 1 0 v43.length]]⟩), (32, ⟨g44, true, true, 1, List.map (iA .i64) v38⟩), (136, ⟨0, true, false, 5, [[.psl 1 (List.map (wA 4 aA.enc) vr2.1.Runs), .sl 32 g44 1 0 v38.length, .psl 2 (List.map cA.enc v39), .psl 1 (List.map (iA .i64) v40), .int .i64 v41]]⟩), (160, ⟨0, true, false, 1, [[.ref 136 0 0 0]]⟩), (193, ⟨g45, true, true, 4, List.map aA.enc v42⟩), (194, ⟨g46, true, true, 1, List.map (iA .i64) v43⟩)], 195, [(192, RC4)]⟩ from ?_)
    refine jC ?_
    obtain ⟨vr47, hvr47, h1⟩ := eA h1
    refine oA 275 [0, 1, 3, 4, 5] (fun | 1 => some (.tup [.agg (aA.enc vr47.1), .int .i64 vr47.2.1, .int .i64 vr47.2.2], []) | _ => none) rfl (fun _ _ => rC (zcZ hvr47)) ?_
    refine kA ?_
    refine mH 9 rfl ?_
    refine fC (l' := List.range' 0 3 ++ (List.range' 3 6 ++ [])) rfl ?_
    refine pC 0 3 299 (List.range' 3 6 ++ []) (fun _ => none) rfl rfl rfl (fun _ _ => rT) ?_
    refine iJ (s2 := ⟨[(0, .yld 192), (1, .ref 160 0 0 0), (3, .ref 243 0 0 0), (4, .int .i64 vr47.2.1), (5, .int .i64 vr47.2.2), (12, .int .i64 vr47.2.2), (13, .bool (!(decide (vr47.2.2 = 0)))), (14, .bool (!(decide (vr47.2.2 = 0))))], [(0, ⟨0, true, false, 1, [[.sl 193 g45 4 0 v42.length]]⟩), (8, ⟨0, true, false, 1, [[.sl 194 g46 1 0 v43.length]]⟩), (32, ⟨g44, true, true, 1, List.map (iA .i64) v38⟩), (136, ⟨0, true, false, 5, [[.psl 1 (List.map (wA 4 aA.enc) vr2.1.Runs), .sl 32 g44 1 0 v38.length, .psl 2 (List.map cA.enc v39), .psl 1 (List.map (iA .i64) v40), .int .i64 v41]]⟩), (160, ⟨0, true, false, 1, [[.ref 136 0 0 0]]⟩), (193, ⟨g45, true, true, 4, List.map aA.enc v42⟩), (194, ⟨g46, true, true, 1, List.map (iA .i64) v43⟩), (243, ⟨0, true, true, 4, [[.str vr47.1.Key, .str vr47.1.Val, .bool vr47.1.Dead, .int .i64 vr47.1.Seq]]⟩)], 299, [(192, RC4)]⟩) [] rL ⟨rF, rE, rfl, rfl, (dC.consR rL rfl okRC4 rL trivial), trivial⟩ ?_
    generalize hg48 : (!(decide (vr47.2.2 = 0))) = b48
    cases b48 with
    | true =>
     replace h1 := iB h1 hg48
     refine fC (l' := List.range' 3 6 ++ []) rfl ?_
     refine pC 3 6 347 [] (fun _ => none) rfl rfl rfl (fun _ _ => rT) ?_
     refine mD ?_
     refine gA ?_
     refine zB (s2 := ⟨[(0, .yld 192), (1, .ref 160 0 0 0), (4, .int .i64 vr47.2.1), (20, .bool true)], [(0, ⟨0, true, false, 1, [[.sl 193 g45 4 0 v42.length]]⟩), (8, ⟨0, true, false, 1, [[.sl 194 g46 1 0 v43.length]]⟩), (32, ⟨g44, true, true, 1, List.map (iA .i64) v38⟩), (136, ⟨0, true, false, 5, [[.psl 1 (List.map (wA 4 aA.enc) vr2.1.Runs), .sl 32 g44 1 0 v38.length, .psl 2 (List.map cA.enc v39), .psl 1 (List.map (iA .i64) v40), .int .i64 v41]]⟩), (160, ⟨0, true, false, 1, [[.ref 136 0 0 0]]⟩), (193, ⟨g45, true, true, 4, List.map aA.enc v42⟩), (194, ⟨g46, true, true, 1, List.map (iA .i64) v43⟩)], 347, [(192, RC4)]⟩) [] rL ⟨rF, rE, rfl, rfl, (dC.consR rL rfl okRC4 rL trivial), trivial⟩ ?_
     refine wQ rfl ?_
     refine jA ?_
     obtain rfl := Option.some.inj h1
     refine mA (kC (mA (uD (zje ?_))))
     refine oE (fun _ _ => rT) ?_
     refine zau stRC4 rfl ?_
     refine cC (gA ?_)
     refine xE ⟨[(2, .ref 0 0 0 0), (3, .ref 8 0 0 0), (4, .int .i64 vr2.2.2), (23, .fn 98 [] [.ref 160 0 0 0])], [(0, ⟨0, true, false, 1, [[.sl 193 g45 4 0 v42.length]]⟩), (8, ⟨0, true, false, 1, [[.sl 194 g46 1 0 v43.length]]⟩), (32, ⟨g44, true, true, 1, List.map (iA .i64) v38⟩), (136, ⟨0, true, false, 5, [[.psl 1 (List.map (wA 4 aA.enc) vr2.1.Runs), .sl 32 g44 1 0 v38.length, .psl 2 (List.map cA.enc v39), .psl 1 (List.map (iA .i64) v40), .int .i64 v41]]⟩), (160, ⟨0, true, false, 1, [[.ref 136 0 0 0]]⟩), (193, ⟨g45, true, true, 4, List.map aA.enc v42⟩), (194, ⟨g46, true, true, 1, List.map (iA .i64) v43⟩)], 347, []⟩ ?_
     refine jD 387 [2, 3, 4] (fun _ => none) rfl rfl rfl (fun _ _ => vG) ?_
     refine jA ?_
     obtain rfl := Option.some.inj h0
     refine nA [] ?_
     exact rG
    | false =>
     replace h1 := vA h1 hg48
     refine fC (l' := List.range' 3 3 ++ (6 :: (List.range' 7 2 ++ []))) rfl ?_
     refine pC 3 3 323 (6 :: (List.range' 7 2 ++ [])) (fun _ => none) rfl rfl rfl (fun _ _ => rT) ?_
     refine za6 hRC4 rfl rfl rfl rfl rfl rfl rfl rfl rfl ?_
     refine zB (s2 := ⟨[(2, .ref 0 0 0 0), (3, .ref 8 0 0 0), (4, .int .i64 vr2.2.2), (23, .fn 98 [] [.ref 160 0 0 0]), (24, .int .i64 vr47.2.1), (25, .agg [.str vr47.1.Key, .str vr47.1.Val, .bool vr47.1.Dead, .int .i64 vr47.1.Seq])], [(0, ⟨0, true, false, 1, [[.sl 193 g45 4 0 v42.length]]⟩), (8, ⟨0, true, false, 1, [[.sl 194 g46 1 0 v43.length]]⟩), (32, ⟨g44, true, true, 1, List.map (iA .i64) v38⟩), (136, ⟨0, true, false, 5, [[.psl 1 (List.map (wA 4 aA.enc) vr2.1.Runs), .sl 32 g44 1 0 v38.length, .psl 2 (List.map cA.enc v39), .psl 1 (List.map (iA .i64) v40), .int .i64 v41]]⟩), (160, ⟨0, true, false, 1, [[.ref 136 0 0 0]]⟩), (193, ⟨g45, true, true, 4, List.map aA.enc v42⟩), (194, ⟨g46, true, true, 1, List.map (iA .i64) v43⟩), (243, ⟨0, true, true, 4, [[.str vr47.1.Key, .str vr47.1.Val, .bool vr47.1.Dead, .int .i64 vr47.1.Seq]]⟩)], 323, [(192, RC4)]⟩) [] rL ⟨rF, rE, rfl, rfl, (dC.consR rL rfl okRC4 rL trivial), trivial⟩ ?_
     refine xS 331 [2, 3, 4, 8, 25] ?_
     refine xR 347 [2, 3, 4, 8, 9] ?_
     refine gA ?_
     refine ⟨RC4, rfl, stRC4.1, ?_⟩
     refine zB (s2 := ⟨[(2, .ref 0 0 0 0), (3, .ref 8 0 0 0), (4, .int .i64 vr2.2.2), (8, .int .i64 vr47.2.1), (9, .ref 331 0 0 0)], [(0, ⟨0, true, false, 1, [[.sl 193 g45 4 0 v42.length]]⟩), (8, ⟨0, true, false, 1, [[.sl 194 g46 1 0 v43.length]]⟩), (32, ⟨g44, true, true, 1, List.map (iA .i64) v38⟩), (136, ⟨0, true, false, 5, [[.psl 1 (List.map (wA 4 aA.enc) vr2.1.Runs), .sl 32 g44 1 0 v38.length, .psl 2 (List.map cA.enc v39), .psl 1 (List.map (iA .i64) v40), .int .i64 v41]]⟩), (160, ⟨0, true, false, 1, [[.ref 136 0 0 0]]⟩), (193, ⟨g45, true, true, 4, List.map aA.enc v42⟩), (194, ⟨g46, true, true, 1, List.map (iA .i64) v43⟩), (243, ⟨0, true, true, 4, [[.str vr47.1.Key, .str vr47.1.Val, .bool vr47.1.Dead, .int .i64 vr47.1.Seq]]⟩), (331, ⟨0, true, true, 4, [[.str vr47.1.Key, .str vr47.1.Val, .bool vr47.1.Dead, .int .i64 vr47.1.Seq]]⟩)], 347, [(192, { RC4 with st := .busy, pend := RC4.pend })]⟩) [] rL ⟨rF, rE, rfl, rfl, (dC.consR rL rfl okRC4 rL trivial), trivial⟩ ?_
     refine jC ?_
     obtain ⟨hc49, h1⟩ := cF h1
     obtain ⟨hc50, h1⟩ := cF h1
     refine aJ 427 [2, 3, 4] (fun _ => none) rfl rfl rfl (fun _ _ => vG) ?_
     refine cC ?_
     refine zaw stRC4 rfl ?_
     refine iJ (s2 := ⟨[(0, .yld 192), (1, .ref 160 0 0 0), (3, .ref 243 0 0 0), (4, .int .i64 vr47.2.1), (5, .int .i64 vr47.2.2), (12, .int .i64 vr47.2.2), (13, .bool false), (14, .bool false), (15, .yld 192), (16, .int .i64 vr47.2.1), (17, .agg [.str vr47.1.Key, .str vr47.1.Val, .bool vr47.1.Dead, .int .i64 vr47.1.Seq]), (18, .bool true)], [(0, ⟨0, true, false, 1, [[.sl 193 (g45 + 1) 4 0 ((v42 ++ [vr47.1]).length)]]⟩), (8, ⟨0, true, false, 1, [[.sl 194 (g46 + 1) 1 0 ((v43 ++ [vr47.2.1]).length)]]⟩), (32, ⟨g44, true, true, 1, List.map (iA .i64) v38⟩), (136, ⟨0, true, false, 5, [[.psl 1 (List.map (wA 4 aA.enc) vr2.1.Runs), .sl 32 g44 1 0 v38.length, .psl 2 (List.map cA.enc v39), .psl 1 (List.map (iA .i64) v40), .int .i64 v41]]⟩), (160, ⟨0, true, false, 1, [[.ref 136 0 0 0]]⟩), (193, ⟨(g45 + 1), true, true, 4, List.map aA.enc (v42 ++ [vr47.1])⟩), (194, ⟨(g46 + 1), true, true, 1, List.map (iA .i64) (v43 ++ [vr47.2.1])⟩), (243, ⟨0, true, true, 4, [[.str vr47.1.Key, .str vr47.1.Val, .bool vr47.1.Dead, .int .i64 vr47.1.Seq]]⟩)], 427, [(192, RC4)]⟩) [] rL ⟨rF, rE, rfl, rfl, (dC.consR rL rfl okRC4 rL trivial), trivial⟩ ?_
     refine fC (l' := List.range' 7 2 ++ []) rfl ?_
     refine pC 7 2 443 [] (fun _ => none) rfl rfl rfl (fun _ _ => rT) ?_
     refine mD ?_
     refine gA ?_
     refine zB (s2 := ⟨[(0, .yld 192), (1, .ref 160 0 0 0), (4, .int .i64 vr47.2.1), (15, .yld 192), (16, .int .i64 vr47.2.1), (17, .agg [.str vr47.1.Key, .str vr47.1.Val, .bool vr47.1.Dead, .int .i64 vr47.1.Seq]), (18, .bool true), (19, .bool false), (20, .bool false)], [(0, ⟨0, true, false, 1, [[.sl 193 (g45 + 1) 4 0 ((v42 ++ [vr47.1]).length)]]⟩), (8, ⟨0, true, false, 1, [[.sl 194 (g46 + 1) 1 0 ((v43 ++ [vr47.2.1]).length)]]⟩), (32, ⟨g44, true, true, 1, List.map (iA .i64) v38⟩), (136, ⟨0, true, false, 5, [[.psl 1 (List.map (wA 4 aA.enc) vr2.1.Runs), .sl 32 g44 1 0 v38.length, .psl 2 (List.map cA.enc v39), .psl 1 (List.map (iA .i64) v40), .int .i64 v41]]⟩), (160, ⟨0, true, false, 1, [[.ref 136 0 0 0]]⟩), (193, ⟨(g45 + 1), true, true, 4, List.map aA.enc (v42 ++ [vr47.1])⟩), (194, ⟨(g46 + 1), true, true, 1, List.map (iA .i64) (v43 ++ [vr47.2.1])⟩)], 443, [(192, RC4)]⟩) [] rL ⟨rF, rE, rfl, rfl, (dC.consR rL rfl okRC4 rL trivial), trivial⟩ ?_
     refine wF rfl ?_
     refine qA (gA ?_)
     refine sV 3 rfl ?_
     refine fC (l' := List.range' 0 2 ++ (2 :: (List.range' 3 0 ++ []))) rfl ?_
     refine pC 0 2 459 (2 :: (List.range' 3 0 ++ [])) (fun _ => none) rfl rfl rfl (fun _ _ => rT) ?_
     refine xJ rfl rfl rfl rfl rfl Try.func90 rfl (by decide) rfl rL ?_
     dsimp only [Try.f90]
     refine zB (s2 := ⟨[(0, .ref 136 0 0 0), (1, .int .i64 vr47.2.1)], [(0, ⟨0, true, false, 1, [[.sl 193 (g45 + 1) 4 0 ((v42 ++ [vr47.1]).length)]]⟩), (8, ⟨0, true, false, 1, [[.sl 194 (g46 + 1) 1 0 ((v43 ++ [vr47.2.1]).length)]]⟩), (32, ⟨g44, true, true, 1, List.map (iA .i64) v38⟩), (136, ⟨0, true, false, 5, [[.psl 1 (List.map (wA 4 aA.enc) vr2.1.Runs), .sl 32 g44 1 0 v38.length, .psl 2 (List.map cA.enc v39), .psl 1 (List.map (iA .i64) v40), .int .i64 v41]]⟩), (160, ⟨0, true, false, 1, [[.ref 136 0 0 0]]⟩), (193, ⟨(g45 + 1), true, true, 4, List.map aA.enc (v42 ++ [vr47.1])⟩), (194, ⟨(g46 + 1), true, true, 1, List.map (iA .i64) (v43 ++ [vr47.2.1])⟩)], 459, [(192, RC4)]⟩) [] rL ⟨rF, rE, rfl, rfl, (dC.consR rL rfl okRC4 rL trivial), trivial⟩ ?_
     obtain ⟨e51, he51, h1⟩ := eA h1
     obtain ⟨he51a, he51b, he51c⟩ := fB he51
     refine oA 547 [0, 1] (fun _ => none) rfl (fun _ _ => rS (rA he51a (rA he51b he51c))) ?_
     refine zB (s2 := ⟨[(0, .ref 136 0 0 0), (1, .int .i64 vr47.2.1)], [(0, ⟨0, true, false, 1, [[.sl 193 (g45 + 1) 4 0 ((v42 ++ [vr47.1]).length)]]⟩), (8, ⟨0, true, false, 1, [[.sl 194 (g46 + 1) 1 0 ((v43 ++ [vr47.2.1]).length)]]⟩), (32, ⟨g44, true, true, 1, List.map (iA .i64) (v38.set vr47.2.1.toNat (IntKind.i64.wrap (e51 + 1)))⟩), (136, ⟨0, true, false, 5, [[.psl 1 (List.map (wA 4 aA.enc) vr2.1.Runs), .sl 32 g44 1 0 ((v38.set vr47.2.1.toNat (IntKind.i64.wrap (e51 + 1))).length), .psl 2 (List.map cA.enc v39), .psl 1 (List.map (iA .i64) v40), .int .i64 v41]]⟩), (160, ⟨0, true, false, 1, [[.ref 136 0 0 0]]⟩), (193, ⟨(g45 + 1), true, true, 4, List.map aA.enc (v42 ++ [vr47.1])⟩), (194, ⟨(g46 + 1), true, true, 1, List.map (iA .i64) (v43 ++ [vr47.2.1])⟩)], 547, [(192, RC4)]⟩) [] rL ⟨rF, rE, rfl, rfl, (dC.consR rL rfl okRC4 rL trivial), trivial⟩ ?_
     obtain ⟨e52, he52, h1⟩ := eA h1
     obtain ⟨he52a, he52b, he52c⟩ := fB he52
     obtain ⟨e53, he53, h1⟩ := eA h1
     obtain ⟨he53a, he53b, he53c⟩ := fB he53
     obtain ⟨vr54, hvr54, h1⟩ := eA h1
     obtain ⟨vr55, hvr55, h1⟩ := eA h1
     refine aJ 803 [] (fun | 22 => some (.agg (cA.enc vr54), []) | 23 => some (.tup [.agg (zA.enc vr55.1), .int .i64 vr55.2.1, .int .i64 vr55.2.2], []) | _ => none) rfl rfl rfl (fun Kt hK => by
       try have q0 := eZ hvr54
       try have q1 := zcp hvr55
       exact uE (rA he51a (rA he51b (rA he51c (rA he52a (rA he52b (rA he52c (rA he53a (rA he53b he53c))))))))) ?_
     refine iS (fun _ _ => rS (rA he51a (rA he51b (rA he51c (rA he52a (rA he52b (rA he52c (rA he53a (rA he53b he53c))))))))) ?_
     refine iJ (s2 := ⟨[(0, .yld 192), (1, .ref 160 0 0 0), (4, .int .i64 vr47.2.1), (15, .yld 192), (16, .int .i64 vr47.2.1), (17, .agg [.str vr47.1.Key, .str vr47.1.Val, .bool vr47.1.Dead, .int .i64 vr47.1.Seq]), (18, .bool true), (19, .bool false), (20, .bool false), (21, .ref 136 0 0 0), (22, .int .i64 vr47.2.1), (23, .tup [])], [(0, ⟨0, true, false, 1, [[.sl 193 (g45 + 1) 4 0 ((v42 ++ [vr47.1]).length)]]⟩), (8, ⟨0, true, false, 1, [[.sl 194 (g46 + 1) 1 0 ((v43 ++ [vr47.2.1]).length)]]⟩), (32, ⟨g44, true, true, 1, List.map (iA .i64) (v38.set vr47.2.1.toNat (IntKind.i64.wrap (e51 + 1)))⟩), (136, ⟨0, true, false, 5, [[.psl 1 (List.map (wA 4 aA.enc) vr2.1.Runs), .sl 32 g44 1 0 ((v38.set vr47.2.1.toNat (IntKind.i64.wrap (e51 + 1))).length), .psl 2 (List.map cA.enc vr55.1.Keys), .psl 1 (List.map (iA .i64) vr55.1.Lose), .int .i64 vr55.1.Win]]⟩), (160, ⟨0, true, false, 1, [[.ref 136 0 0 0]]⟩), (193, ⟨(g45 + 1), true, true, 4, List.map aA.enc (v42 ++ [vr47.1])⟩), (194, ⟨(g46 + 1), true, true, 1, List.map (iA .i64) (v43 ++ [vr47.2.1])⟩)], 803, [(192, RC4)]⟩) [] rL ⟨rF, rE, rfl, rfl, (dC.consR rL rfl okRC4 rL trivial), trivial⟩ ?_
     refine fC (l' := []) rfl ?_
     refine mD ?_
     refine cC (gA ?_)
     exact ⟨⟨(fu, (v38.set vr47.2.1.toNat (IntKind.i64.wrap (e51 + 1))), vr55.1.Keys, vr55.1.Lose, vr55.1.Win, (v42 ++ [vr47.1]), (v43 ++ [vr47.2.1]), g44, (g45 + 1), (g46 + 1)), h1⟩, ⟨rF, rE, rfl, rfl, (dC.consR rL rfl okRC4 rL trivial), trivial⟩, Nat.lt_succ_self _⟩
theorem zdI {fu : Nat} {vs1 : mB} {r : Int} (h0 : xN fu vs1 = some r) : lB Try.prog 101 [.agg (mB.enc vs1)] (.int .i64 r) [] := by
 refine sB Try.func101 rfl (by decide) rL ?_
 dsimp only [Try.f101]
 rw [xN] at h0
 refine (show pA _ _ _ _ ⟨kB 0 _, [], 0, []⟩ from ?_)
 refine xS 16 [1] ?_
 refine kA ?_
 obtain ⟨vr2, hvr2, h0⟩ := eA h0
 refine oA 48 [1, 3] (fun | 2 => some (.int .i64 vr2, []) | _ => none) rfl (fun _ _ => rC (zaI hvr2)) ?_
 refine xS 64 [1, 3, 8] ?_
 refine xI h0 rfl (fun h0 hb3 => ?_) (fun h0 hb3 => ?_)
 ·
  refine xS 80 [2] ?_
  refine jA (mA ?_)
  obtain rfl := Option.some.inj h0
  refine nA [] ?_
  exact rG
 ·
  refine qA (gA (kA ?_))
  obtain ⟨b4, hb4, h0⟩ := eA h0
  refine dD (fr' := [(17, .bool b4)]) (hp' := [(0, ⟨0, true, true, 3, [[.bool vs1.Some, .str vs1.Last, .bool vs1.Bottom]]⟩)]) [0] 128 [17] (fun _ => none) rfl (fun Kt hK => by
    cases hg5 : (!vs1.Some) with
    | false =>
     replace hb4 := vA hb4 hg5
     have hqb4 := Option.some.inj hb4
     subst hqb4
     simp (maxSteps := 1000000) only [↓reduceIte, reduceCtorEq, Nat.reduceEqDiff, Nat.reduceLT, Nat.reduceLeDiff, Nat.reduceAdd, Nat.reduceMul, Int.reduceToNat, push_cast, ↓hg5]
     try simp only [↓hg5] at hK
     all_goals exact rU
    | true =>
     replace hb4 := iB hb4 hg5
     have hqb4 := Option.some.inj hb4
     subst hqb4
     simp (maxSteps := 1000000) only [↓reduceIte, reduceCtorEq, Nat.reduceEqDiff, Nat.reduceLT, Nat.reduceLeDiff, Nat.reduceAdd, Nat.reduceMul, Int.reduceToNat, push_cast, ↓hg5]
     try simp only [↓hg5] at hK
     all_goals exact rU) ?_
  refine xI h0 rfl (fun h0 hb6 => ?_) (fun h0 hb6 => ?_)
  ·
   refine xS 136 [2] ?_
   refine jA (mA ?_)
   obtain rfl := Option.some.inj h0
   refine nA [] ?_
   exact rG
  ·
   refine qA (gA ?_)
   refine xS 136 [2] ?_
   refine jA ?_
   obtain rfl := Option.some.inj h0
   refine nA [] ?_
   exact rG
theorem zjk {fu : Nat} {vx1 : vE} {r : aA} (h0 : aR fu vx1 = some r) : lB Try.prog 127 [.agg (vE.enc vx1)] (.agg (aA.enc r)) [] := by
 refine sB Try.func127 rfl (by decide) rL ?_
 dsimp only [Try.f127]
 rw [aR] at h0
 refine (show pA _ _ _ _ ⟨kB 0 _, [], 0, []⟩ from ?_)
 refine xS 16 [1, 2] ?_
 refine xS 32 [2] ?_
 refine jA ?_
 obtain rfl := Option.some.inj h0
 refine nA [] ?_
 exact rG
end Go.T
end
