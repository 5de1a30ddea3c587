/- Check, Pending, Find and Left return what the document says, of states that are not long; no other condition. -/
import Derived.Test.YtnlggkiekcpahaaGreatBGt
import Derived.Test.YtnlggkiekcpahaaGreatB1
set_option linter.unusedSimpArgs false
set_option linter.unusedVariables false
section
namespace Go.T
open Go Go.AM
structure tS (l : iB) (i : Nat) (j : fB) : Prop where
  low : j.Work.Shadow.Bottom = true → oQ l i = true
  at' : ∃ n, n ≤ uC (zD l i) ∧ j = lX l i j.Work.Shadow.Bottom n
structure zaw (s : mB) : Prop where
  lev : vU s.Levels
  next : 1 ≤ s.NextId ∧ s.NextId ≤ 1000001 ∧ nG 0 (eN s.Levels.Levels) < s.NextId
  len : s.Jobs.length = (qC s.Levels).length
  job : ∀ k (h : k < s.Jobs.length) (h2 : k < (qC s.Levels).length), tS s.Levels (qC s.Levels)[k] s.Jobs[k]
theorem zht (s : mB) (hs : fJ s.Levels) (hj : s.Jobs.length ≤ 1000) (hg : vU s.Levels) (hc : Ev (fun fu => aK fu s.Levels) (0, 0, 0)) :
    ∃ r, (Ev (fun fu => fF s (sB (qC s.Levels)) fu 0) r ∧ Ev (fun fu => yG s (sB (qC s.Levels)) fu 0) r) ∧
      ((r = .inl () ∧ ∀ k, k < s.Jobs.length → ∀ h : k < s.Jobs.length, ∃ h2 : k < (qC s.Levels).length, tS s.Levels (qC s.Levels)[k] s.Jobs[k]) ∨
       ∃ k v, k < s.Jobs.length ∧ (v.2 ≠ 0 ∧ ∀ h : k < s.Jobs.length, ¬ ∃ h2 : k < (qC s.Levels).length, tS s.Levels (qC s.Levels)[k] s.Jobs[k]) ∧ r = .inr v) := by
  have h14 := hs.1
  obtain ⟨r, r1, r2⟩ := fL (β := Int × Int) (fun n r => Ev (fun fu => fF s (sB (qC s.Levels)) fu (n : Int)) r ∧ Ev (fun fu => yG s (sB (qC s.Levels)) fu (n : Int)) r) s.Jobs.length
    (fun k => ∀ h : k < s.Jobs.length, ∃ h2 : k < (qC s.Levels).length, tS s.Levels (qC s.Levels)[k] s.Jobs[k])
    (fun k v => v.2 ≠ 0 ∧ ∀ h : k < s.Jobs.length, ¬ ∃ h2 : k < (qC s.Levels).length, tS s.Levels (qC s.Levels)[k] s.Jobs[k])
    ⟨Ev.succ (Ev.of (fun fu => by simp [fF]) (Ev.ret _)), Ev.succ (Ev.of (fun fu => by simp [yG]) (Ev.ret _))⟩
    (fun k hk => by
      have d1 : decide ((k : Int) < (s.Jobs.length : Int)) = true := dT (by omega)
      have ixj := zA s.Jobs k hk
      generalize hjk : s.Jobs[k] = j at ixj
      have bad : ∀ v : Int × Int, v.2 ≠ 0 → (¬ ∃ h2 : k < (qC s.Levels).length, tS s.Levels (qC s.Levels)[k] j) → (v.2 ≠ 0 ∧ ∀ h : k < s.Jobs.length, ¬ ∃ h2 : k < (qC s.Levels).length, tS s.Levels (qC s.Levels)[k] s.Jobs[k]) := fun v hv h => ⟨hv, fun _ => by rw [hjk]; exact h⟩
      by_cases hkd : k < (qC s.Levels).length
      · have d2 : decide (((sB (qC s.Levels)).length : Int) ≤ (k : Int)) = false := dF (by rw [vF]; omega)
        have ixd := aF (qC s.Levels) k hkd
        obtain ⟨hi, h2⟩ := zdf s.Levels k hkd
        generalize hik : (qC s.Levels)[k] = i at ixd hi h2
        by_cases hl : j.Level = (i : Int)
        · have d3 : (!decide (j.Level = (i : Int))) = false := by rw [dT hl]; rfl
          obtain ⟨hgr, hsn⟩ := za7 s.Levels hs hg i hi h2
          have lw := zep
          have rlw := zk5 s.Levels hs hc hg i hi
          have c1 : ∃ b, b = (j.Work.Shadow.Bottom && !oQ s.Levels i) := ⟨_, rfl⟩
          obtain ⟨cb, hcb⟩ := c1
          have e1 : ∀ fu, (if j.Work.Shadow.Bottom = true then (iL fu s.Levels (i : Int)).bind fun vr56 => some (!vr56) else some false) = some cb := fun fu => by
            rw [zep fu s.Levels h14 i, hcb]; cases j.Work.Shadow.Bottom <;> rfl
          have e2 : Ev (fun fu => if j.Work.Shadow.Bottom = true then (jS fu s.Levels (i : Int)).bind fun vr59 => some (!vr59) else some false) cb := by
            rw [hcb]
            cases j.Work.Shadow.Bottom with
            | true => exact Ev.bind rlw (Ev.ret _)
            | false => exact Ev.ret _
          cases cb with
          | true =>
            refine .inl ⟨((k : Int), 6), bad _ (show (6 : Int) ≠ 0 by decide) (fun ⟨_, ok⟩ => ?_), Ev.succ ?_, Ev.succ ?_⟩
            · have q := hcb.symm
              simp only [Bool.and_eq_true, Bool.not_eq_true'] at q
              have := ok.low q.1
              rw [hik, q.2] at this; cases this
            · simp only [fF, d1, ↓reduceIte, ixj, bS, d2, bF, ixd, d3]
              simp only [hl, e1, bS, ↓reduceIte]
              exact Ev.ret _
            · simp only [yG, d1, ↓reduceIte, ixj, bS, d2, bF, ixd, d3]
              simp only [hl]
              refine Ev.bind e2 ?_
              exact Ev.ret _
          | false =>
            obtain ⟨b1, b2⟩ := zkN s.Levels hs hg i j.Work.Shadow.Bottom hi h2
            obtain ⟨l1, l2⟩ := zbn (zD s.Levels i) j.Work.Shadow.Bottom 0 hsn hgr (by omega)
            have h120 := hsn.few hgr
            by_cases hst : 0 ≤ j.Work.Steps ∧ j.Work.Steps ≤ ((uC (zD s.Levels i) : Nat) : Int)
            · obtain ⟨n, hn⟩ : ∃ n : Nat, j.Work.Steps = (n : Int) := ⟨j.Work.Steps.toNat, by omega⟩
              have hnt : n ≤ uC (zD s.Levels i) := by omega
              have hu : used (zD s.Levels i) 0 n = n := Nat.min_eq_left (by omega)
              obtain ⟨t1, t2⟩ := zos (zD s.Levels i) j.Work.Shadow.Bottom 0 n hsn hgr (by omega)
              rw [hu, Nat.zero_add] at t1 t2
              have f1 : decide ((n : Int) < 0) = false := dF (by omega)
              have f2 : decide (((uC (zD s.Levels i) - 0 : Nat) : Int) < (n : Int)) = false := dF (by omega)
              obtain ⟨x, x1, x2⟩ := zoY (yC (zD s.Levels i) j.Work.Shadow.Bottom n) j.Work (za5 _ _ _ hsn hgr hnt)
              obtain ⟨y, y1, y2⟩ := zgn (yC (zD s.Levels i) j.Work.Shadow.Bottom n) j.Work (za5 _ _ _ hsn hgr hnt)
              obtain rfl : x = y := Bool.eq_iff_iff.2 (x2.trans y2.symm)
              have p1 : ∀ r, Ev (fun fu => if (!x) = true then some (.inr ((k : Int), 6)) else fF s (sB (qC s.Levels)) fu ((k + 1 : Nat) : Int)) r → Ev (fun fu => fF s (sB (qC s.Levels)) fu (k : Int)) r := fun r hr => by
                refine Ev.succ ?_
                simp only [fF, d1, ↓reduceIte, ixj, bS, d2, bF, ixd, d3]
                simp only [hl, e1, bS, bF, ↓reduceIte]
                refine Ev.bind b1 (Ev.bind (a := (((uC (zD s.Levels i) - 0 : Nat) : Int), 0)) l1 ?_)
                simp only [hn, f1, f2, bF, ↓reduceIte, bS]
                refine Ev.bind (a := (yC (zD s.Levels i) j.Work.Shadow.Bottom n, (n : Int), 0)) t1 (Ev.bind x1 ?_)
                rw [tC k (by omega)]
                exact hr
              have p2 : ∀ r, Ev (fun fu => if (!x) = true then some (.inr ((k : Int), 6)) else yG s (sB (qC s.Levels)) fu ((k + 1 : Nat) : Int)) r → Ev (fun fu => yG s (sB (qC s.Levels)) fu (k : Int)) r := fun r hr => by
                refine Ev.succ ?_
                simp only [yG, d1, ↓reduceIte, ixj, bS, d2, bF, ixd, d3]
                simp only [hl]
                refine Ev.bind e2 ?_
                simp only [bF, ↓reduceIte]
                refine Ev.bind b2 (Ev.bind (a := (((uC (zD s.Levels i) - 0 : Nat) : Int), 0)) l2 ?_)
                simp only [hn, f1, f2, bF, ↓reduceIte, bS]
                refine Ev.bind (a := (yC (zD s.Levels i) j.Work.Shadow.Bottom n, (n : Int), 0)) t2 (Ev.bind y1 ?_)
                rw [tC k (by omega)]
                exact hr
              cases x with
              | true =>
                have hw := x2.1 rfl
                refine .inr ⟨fun _ => ⟨hkd, ?_⟩, fun r hr => ⟨p1 r hr.1, p2 r hr.2⟩⟩
                rw [hjk, hik]
                refine ⟨fun hb => ?_, n, hnt, ?_⟩
                · have q := hcb.symm
                  rw [hb] at q
                  simpa using q
                · obtain ⟨jl, jw⟩ := j
                  simp only at hl hw
                  subst hl
                  show fB.mk (i : Int) jw = fB.mk (i : Int) (yC (zD s.Levels i) jw.Shadow.Bottom n)
                  rw [hw]
              | false =>
                refine .inl ⟨((k : Int), 6), bad _ (show (6 : Int) ≠ 0 by decide) (fun ⟨_, ok⟩ => ?_), p1 _ (Ev.ret _), p2 _ (Ev.ret _)⟩
                obtain ⟨n', hn', e⟩ := ok.at'
                rw [hik] at e
                have e3 : j.Work = yC (zD s.Levels i) j.Work.Shadow.Bottom n' := congrArg fB.Work e
                have e4 : j.Work.Steps = (n' : Int) := congrArg lB.Steps e3
                obtain rfl : n' = n := by omega
                have := x2.2 e3.symm
                cases this
            · have f3 : (if decide (j.Work.Steps < 0) = true then some true else some (decide (((uC (zD s.Levels i) - 0 : Nat) : Int) < j.Work.Steps))) = some true := by
                by_cases q : j.Work.Steps < 0
                · simp [q]
                · rw [if_neg (by simpa using q), dT (by omega)]
              refine .inl ⟨((k : Int), 6), bad _ (show (6 : Int) ≠ 0 by decide) (fun ⟨_, ok⟩ => ?_), Ev.succ ?_, Ev.succ ?_⟩
              · obtain ⟨n', hn', e⟩ := ok.at'
                rw [hik] at e hn'
                have e3 : j.Work = yC (zD s.Levels i) j.Work.Shadow.Bottom n' := congrArg fB.Work e
                have e4 : j.Work.Steps = (n' : Int) := congrArg lB.Steps e3
                omega
              · simp only [fF, d1, ↓reduceIte, ixj, bS, d2, bF, ixd, d3]
                simp only [hl, e1, bS, bF, ↓reduceIte]
                refine Ev.bind b1 (Ev.bind (a := (((uC (zD s.Levels i) - 0 : Nat) : Int), 0)) l1 ?_)
                simp only [f3, bS, ↓reduceIte]
                exact Ev.ret _
              · simp only [yG, d1, ↓reduceIte, ixj, bS, d2, bF, ixd, d3]
                simp only [hl]
                refine Ev.bind e2 ?_
                simp only [bF, ↓reduceIte]
                refine Ev.bind b2 (Ev.bind (a := (((uC (zD s.Levels i) - 0 : Nat) : Int), 0)) l2 ?_)
                simp only [f3, bS, ↓reduceIte]
                exact Ev.ret _
        · have d3 : (!decide (j.Level = (i : Int))) = true := by rw [dF hl]; rfl
          refine .inl ⟨((k : Int), 6), bad _ (show (6 : Int) ≠ 0 by decide) (fun ⟨_, ok⟩ => ?_), Ev.succ ?_, Ev.succ ?_⟩
          · obtain ⟨n', -, e⟩ := ok.at'
            rw [hik] at e
            exact hl (congrArg fB.Level e)
          · simp only [fF, d1, ↓reduceIte, ixj, bS, d2, bF, ixd, d3]
            exact Ev.ret _
          · simp only [yG, d1, ↓reduceIte, ixj, bS, d2, bF, ixd, d3]
            exact Ev.ret _
      · have d2 : decide (((sB (qC s.Levels)).length : Int) ≤ (k : Int)) = true := dT (by rw [vF]; omega)
        refine .inl ⟨((k : Int), 6), bad _ (show (6 : Int) ≠ 0 by decide) (fun ⟨h, _⟩ => hkd h), Ev.succ ?_, Ev.succ ?_⟩
        · simp only [fF, d1, ↓reduceIte, ixj, bS, d2]
          exact Ev.ret _
        · simp only [yG, d1, ↓reduceIte, ixj, bS, d2]
          exact Ev.ret _)
  refine ⟨r, r1, ?_⟩
  rcases r2 with ⟨e, h⟩ | ⟨n, v, h1, h2, h3, -⟩
  · exact .inl ⟨e, h⟩
  · exact .inr ⟨n, v, h1, h2, h3⟩
theorem zff (s : mB) (hs : fJ s.Levels) (hj : s.Jobs.length ≤ 1000) : ∃ r, Ev (fun fu => uI fu s) r ∧ Ev (fun fu => pK fu s) r ∧
    ((r = (0, 0) ∧ zaw s ∧ Ev (fun fu => oJ fu s.Levels) (0, 0, 0) ∧ Ev (fun fu => aK fu s.Levels) (0, 0, 0)) ∨ r.2 ≠ 0) ∧
    (zaw s → Ev (fun fu => oJ fu s.Levels) (0, 0, 0) → r = (0, 0)) := by
  obtain ⟨c, c1, c2, c3⟩ := zoA s.Levels hs
  unfold uI pK fO
  rcases c3 with ⟨rfl, hg⟩ | hc
  · have g1 := zkv s.Levels hs
    have g2 := znw s.Levels hs c2
    obtain ⟨u1, u2⟩ := zdq s.Levels hs.1
    by_cases n1 : s.NextId < 1 ∨ 1000001 < s.NextId
    · have e : (if decide (s.NextId < 1) = true then some true else some (decide (1000001 < s.NextId))) = some true := by
        rcases n1 with h | h
        · simp [h]
        · by_cases q : s.NextId < 1 <;> simp [q, h]
      refine ⟨(-1, 7), Ev.bind c1 ?_, Ev.bind c2 ?_, .inr (by decide), fun hr _ => ?_⟩
      · simp only [decide_true, Bool.not_true, bF, ↓reduceIte, e, bS]; exact Ev.ret _
      · simp only [decide_true, Bool.not_true, bF, ↓reduceIte, e, bS]; exact Ev.ret _
      · have := hr.next; omega
    · have e : (if decide (s.NextId < 1) = true then some true else some (decide (1000001 < s.NextId))) = some false := by
        rw [dF (show ¬ s.NextId < 1 by omega), dF (show ¬ 1000001 < s.NextId by omega)]; rfl
      by_cases n2 : s.NextId ≤ nG 0 (eN s.Levels.Levels)
      · refine ⟨(-1, 6), Ev.bind c1 ?_, Ev.bind c2 ?_, .inr (by decide), fun hr _ => ?_⟩
        · simp only [decide_true, Bool.not_true, bF, ↓reduceIte, e, bS]
          refine Ev.bind g1 ?_
          simp only [dT n2, ↓reduceIte]; exact Ev.ret _
        · simp only [decide_true, Bool.not_true, bF, ↓reduceIte, e, bS]
          refine Ev.bind (a := true) (Ev.bind g2 ?_) ?_
          · simp only [dT n2]; exact Ev.ret _
          · simp only [↓reduceIte]; exact Ev.ret _
        · have := hr.next; omega
      · obtain ⟨r, ⟨r1, r1'⟩, r2⟩ := zht s hs hj hg c2
        have p1 : ∀ v, Ev (fun fu => (fF s (sB (qC s.Levels)) fu 0).bind fun x48 => match x48 with | .inl _ => if decide ((s.Jobs.length : Int) < ((sB (qC s.Levels)).length : Int)) = true then some (-1, 4) else some (0, 0) | .inr y => some y) v → Ev (fun fu => (oJ fu s.Levels).bind fun vr2 => if (!decide (vr2.2.2 = 0)) = true then some (-1, vr2.2.2) else (if decide (s.NextId < 1) = true then some true else some (decide (1000001 < s.NextId))).bind fun b4 => if b4 = true then some (-1, 7) else (vN fu s.Levels).bind fun vr7 => if decide (s.NextId ≤ vr7) = true then some (-1, 6) else (some (s.Levels.B, s.Levels.Levels)).bind fun vr9 => (nN fu vr9.1 vr9.2).bind fun vr10 => (fF s vr10 fu 0).bind fun x48 => match x48 with | .inl _ => if decide ((s.Jobs.length : Int) < (vr10.length : Int)) = true then some (-1, 4) else some (0, 0) | .inr y => some y) v := fun v hv => by
          refine Ev.bind c1 ?_
          simp only [decide_true, Bool.not_true, bF, ↓reduceIte, e, bS]
          refine Ev.bind g1 ?_
          simp only [dF n2, bF, ↓reduceIte]
          exact Ev.bind u1 hv
        have p2 : ∀ v, Ev (fun fu => (yG s (sB (qC s.Levels)) fu 0).bind fun x48 => match x48 with | .inl _ => if decide ((s.Jobs.length : Int) < ((sB (qC s.Levels)).length : Int)) = true then some (-1, 4) else some (0, 0) | .inr y => some y) v → Ev (fun fu => pK fu s) v := fun v hv => by
          unfold pK
          refine Ev.bind c2 ?_
          simp only [decide_true, Bool.not_true, bF, ↓reduceIte, e, bS]
          refine Ev.bind (a := false) (Ev.bind g2 ?_) ?_
          · simp only [dF n2]; exact Ev.ret _
          · simp only [bF, ↓reduceIte]
            exact Ev.bind u2 hv
        unfold pK at p2
        rcases r2 with ⟨rfl, h⟩ | ⟨k, v, hk, ⟨hv, hb⟩, rfl⟩
        · by_cases hlen : s.Jobs.length < (qC s.Levels).length
          · have d : decide ((s.Jobs.length : Int) < ((sB (qC s.Levels)).length : Int)) = true := dT (by rw [vF]; omega)
            refine ⟨(-1, 4), p1 _ (Ev.bind r1 ?_), p2 _ (Ev.bind r1' ?_), .inr (by decide), fun hr _ => ?_⟩
            · simp only [d, ↓reduceIte]; exact Ev.ret _
            · simp only [d, ↓reduceIte]; exact Ev.ret _
            · have := hr.len; omega
          · have d : decide ((s.Jobs.length : Int) < ((sB (qC s.Levels)).length : Int)) = false := dF (by rw [vF]; omega)
            have hl2 : s.Jobs.length = (qC s.Levels).length := by
              by_cases q : s.Jobs.length = 0
              · omega
              · obtain ⟨h2, -⟩ := h (s.Jobs.length - 1) (by omega) (by omega)
                omega
            refine ⟨(0, 0), p1 _ (Ev.bind r1 ?_), p2 _ (Ev.bind r1' ?_), .inl ⟨rfl, ⟨hg, ⟨by omega, by omega, by omega⟩, hl2, fun k h1 h2 => (h k h1 h1).2⟩, c1, c2⟩, fun _ _ => rfl⟩
            · simp only [d, bF, ↓reduceIte]; exact Ev.ret _
            · simp only [d, bF, ↓reduceIte]; exact Ev.ret _
        · refine ⟨v, p1 _ (Ev.bind r1 (Ev.ret _)), p2 _ (Ev.bind r1' (Ev.ret _)), .inr hv, fun hr _ => ?_⟩
          exact absurd ⟨by have := hr.len; omega, hr.job k hk (by have := hr.len; omega)⟩ (hb hk)
  · refine ⟨(-1, c.2.2), Ev.bind c1 ?_, Ev.bind c2 ?_, .inr hc, fun _ hl => ?_⟩
    · simp only [dF hc, Bool.not_false, ↓reduceIte]; exact Ev.ret _
    · simp only [dF hc, bF, ↓reduceIte, bS, Bool.not_false]; exact Ev.ret _
    · have := Ev.uniq c1 hl; rw [this] at hc; exact absurd rfl hc
structure wI (s : mB) (level : Int) (k i : Nat) (b : Bool) (n : Nat) : Prop where
  due : (qC s.Levels)[k]? = some i
  lev : level = (i : Int)
  le : n ≤ uC (zD s.Levels i)
  job : s.Jobs[k]? = some (lX s.Levels i b n)
  low : b = true → oQ s.Levels i = true
structure uP (s : mB) : Prop where
  small : fJ s.Levels
  few : s.Jobs.length ≤ 1000
  right : zaw s
  lc : Ev (fun fu => oJ fu s.Levels) (0, 0, 0)
  rlc : Ev (fun fu => aK fu s.Levels) (0, 0, 0)
theorem uP.check {s : mB} (h : uP s) : Ev (fun fu => uI fu s) (0, 0) ∧ Ev (fun fu => pK fu s) (0, 0) := by
  obtain ⟨r, r1, r2, -, r4⟩ := zff s h.small h.few
  rw [r4 h.right h.lc] at r1 r2
  exact ⟨r1, r2⟩
theorem znQ (s : mB) (hs : fJ s.Levels) (hj : s.Jobs.length ≤ 1000) : uP s ∨ ∃ r : Int × Int, r.2 ≠ 0 ∧ Ev (fun fu => uI fu s) r ∧ Ev (fun fu => pK fu s) r := by
  obtain ⟨r, r1, r2, r3, -⟩ := zff s hs hj
  rcases r3 with ⟨rfl, hr, h1, h2⟩ | h
  · exact .inl ⟨hs, hj, hr, h1, h2⟩
  · exact .inr ⟨r, h, r1, r2⟩
theorem wI.hk {s : mB} {level : Int} {k i n : Nat} {b : Bool} (w : wI s level k i b n) : k < s.Jobs.length := (List.getElem?_eq_some_iff.1 w.job).1
theorem wI.h2 {s : mB} {level : Int} {k i n : Nat} {b : Bool} (w : wI s level k i b n) : k < (qC s.Levels).length := (List.getElem?_eq_some_iff.1 w.due).1
theorem wI.at' {s : mB} {level : Int} {k i n : Nat} {b : Bool} (w : wI s level k i b n) : ∃ hi : i < s.Levels.Levels.length, s.Levels.Levels[i].Runs.length = 2 := by
  obtain ⟨h, e⟩ := List.getElem?_eq_some_iff.1 w.due
  have := zdf s.Levels k h
  rw [e] at this; exact this
theorem wI.good {s : mB} {level : Int} {k i n : Nat} {b : Bool} (h : uP s) (w : wI s level k i b n) : bD (zD s.Levels i) ∧ uK (zD s.Levels i) := by
  obtain ⟨q1, q2⟩ := w.at'
  exact za7 s.Levels h.small h.right.lev _ q1 q2
theorem znT {s : mB} (h : uP s) (k : Nat) (hk : k < s.Jobs.length) : ∃ (i : Nat) (b : Bool) (n : Nat), wI s (i : Int) k i b n := by
  have h2 : k < (qC s.Levels).length := by have := h.right.len; omega
  obtain ⟨hl, n, hn, e⟩ := h.right.job k hk h2
  exact ⟨_, _, n, List.getElem?_eq_getElem h2, rfl, hn, by rw [List.getElem?_eq_getElem hk]; exact congrArg some e, hl⟩
theorem zeg {s : mB} (h : uP s) : Ev (fun fu => sS fu s) (sB (qC s.Levels), 0) ∧ Ev (fun fu => mP fu s) (sB (qC s.Levels), 0) := by
  obtain ⟨c1, c2⟩ := h.check
  obtain ⟨u1, u2⟩ := zdq s.Levels h.small.1
  constructor
  · unfold sS fO
    refine Ev.bind c1 ?_
    simp only [decide_true, Bool.not_true, bF, ↓reduceIte, bS]
    exact Ev.bind u1 (Ev.ret _)
  · unfold mP
    refine Ev.bind c2 ?_
    simp only [decide_true, Bool.not_true, bF, ↓reduceIte]
    exact Ev.bind u2 (Ev.ret _)
theorem zcc {s : mB} (h : uP s) (level : Int) :
    (∃ k i b n, wI s level k i b n ∧ Ev (fun fu => lG fu s level) ((k : Int), 0) ∧ Ev (fun fu => dK fu s level) ((k : Int), 0)) ∨
    (Ev (fun fu => lG fu s level) (0, 4) ∧ Ev (fun fu => dK fu s level) (0, 4)) := by
  obtain ⟨c1, c2⟩ := h.check
  obtain ⟨-, p2⟩ := zeg h
  have hlen := h.right.len
  have hfew := h.few
  obtain ⟨r, ⟨r1, r1'⟩, r2⟩ := fL (β := Int) (fun n r => Ev (fun fu => iG s.Jobs level fu (n : Int)) r ∧ Ev (fun fu => nM (sB (qC s.Levels), 0) level fu (n : Int)) (Sum.map id (fun v => (v, (0 : Int))) r)) s.Jobs.length
    (fun _ => True) (fun k v => v = (k : Int) ∧ ∃ h2 : k < (qC s.Levels).length, level = (((qC s.Levels)[k] : Nat) : Int))
    ⟨Ev.succ (Ev.of (fun fu => by simp [iG]) (Ev.ret _)), Ev.succ (Ev.of (fun fu => by simp [nM, vF, hlen]) (Ev.ret _))⟩
    (fun k hk => by
      have h2 : k < (qC s.Levels).length := by omega
      have d1 : decide ((k : Int) < (s.Jobs.length : Int)) = true := dT (by omega)
      have d2 : decide ((k : Int) < ((sB (qC s.Levels)).length : Int)) = true := dT (by rw [vF]; omega)
      obtain ⟨n, -, e⟩ := (h.right.job k hk h2).at'
      have hl : s.Jobs[k].Level = (((qC s.Levels)[k] : Nat) : Int) := by rw [e]; rfl
      by_cases q : (((qC s.Levels)[k] : Nat) : Int) = level
      · refine .inl ⟨(k : Int), ⟨rfl, h2, q.symm⟩, Ev.succ ?_, Ev.succ ?_⟩
        · simp only [iG, d1, ↓reduceIte, zA s.Jobs k hk, bS, tN, hl, dT q]
          exact Ev.ret _
        · simp only [nM, d2, ↓reduceIte, aF (qC s.Levels) k h2, bS, dT q]
          exact Ev.ret _
      · refine .inr ⟨trivial, fun r hr => ⟨Ev.succ ?_, Ev.succ ?_⟩⟩
        · simp only [iG, d1, ↓reduceIte, zA s.Jobs k hk, bS, tN, hl, dF q, bF, tC k (show k < 9223372036854775807 by omega)]
          exact hr.1
        · simp only [nM, d2, ↓reduceIte, aF (qC s.Levels) k h2, bS, dF q, bF, tC k (show k < 9223372036854775807 by omega)]
          exact hr.2)
  rcases r2 with ⟨rfl, -⟩ | ⟨k, v, hk, ⟨rfl, h2, hl⟩, rfl, -⟩
  · right
    constructor
    · unfold lG pO yM
      refine Ev.bind c1 ?_
      simp only [decide_true, Bool.not_true, bF, ↓reduceIte]
      refine Ev.bind (a := (0, 4)) (Ev.bind (a := -1) (Ev.bind r1 (Ev.ret _)) ?_) (Ev.ret _)
      exact Ev.ret _
    · unfold dK
      refine Ev.bind p2 ?_
      simp only [decide_true, Bool.not_true, bF, ↓reduceIte]
      exact Ev.bind r1' (Ev.ret _)
  · left
    obtain ⟨i, b, n, w⟩ := znT h k hk
    have hl' : level = (i : Int) := by
      have := w.due
      rw [List.getElem?_eq_getElem h2] at this
      rw [hl, oI this]
    refine ⟨k, i, b, n, ⟨w.due, hl', w.le, w.job, w.low⟩, ?_, ?_⟩
    · unfold lG pO yM
      refine Ev.bind c1 ?_
      simp only [decide_true, Bool.not_true, bF, ↓reduceIte]
      refine Ev.bind (a := ((k : Int), 0)) (Ev.bind (a := (k : Int)) (Ev.bind r1 (Ev.ret _)) ?_) (Ev.ret _)
      simp only [dF (show ¬ (k : Int) < 0 by omega), bF, ↓reduceIte]
      exact Ev.ret _
    · unfold dK
      refine Ev.bind p2 ?_
      simp only [decide_true, Bool.not_true, bF, ↓reduceIte]
      exact Ev.bind r1' (Ev.ret _)
theorem wI.uniq {s : mB} {level : Int} {k i n k' i' n' : Nat} {b b' : Bool} (w : wI s level k i b n) (w' : wI s level k' i' b' n') : k = k' ∧ i = i' ∧ b = b' ∧ n = n' := by
  have e := w.lev.symm.trans w'.lev
  obtain rfl : i = i' := by omega
  obtain ⟨h, e1⟩ := List.getElem?_eq_some_iff.1 w.due
  obtain ⟨h', e1'⟩ := List.getElem?_eq_some_iff.1 w'.due
  obtain rfl : k = k' := znh s.Levels k k' h h' (e1.trans e1'.symm)
  have e2 := oI (w.job.symm.trans w'.job)
  have e3 : (n : Int) = (n' : Int) := congrArg (fun j => j.Work.Steps) e2
  have e4 : b = b' := congrArg (fun j => j.Work.Shadow.Bottom) e2
  exact ⟨rfl, rfl, e4, by omega⟩
theorem zgq {s : mB} (h : uP s) {level : Int} {k i n : Nat} {b : Bool} (w : wI s level k i b n) : Ev (fun fu => lG fu s level) ((k : Int), 0) ∧ Ev (fun fu => dK fu s level) ((k : Int), 0) := by
  obtain ⟨c1, c2⟩ := h.check
  rcases zcc h level with ⟨k', i', b', n', w', f1, f2⟩ | ⟨f1, f2⟩
  · obtain ⟨rfl, -⟩ := w.uniq w'
    exact ⟨f1, f2⟩
  · exfalso
    have hlen := h.right.len
    have hfew := h.few
    have : Ev (fun fu => yM fu s.Jobs level) (-1) ∨ True := .inr trivial
    obtain ⟨r, r1, r2⟩ := fL (β := Int) (fun n r => Ev (fun fu => iG s.Jobs level fu (n : Int)) r) s.Jobs.length
      (fun i => ∀ hi : i < s.Jobs.length, s.Jobs[i].Level ≠ level) (fun i v => v = (i : Int))
      (Ev.succ (Ev.of (fun fu => by simp [iG]) (Ev.ret _)))
      (fun i hi => by
        have d1 : decide ((i : Int) < (s.Jobs.length : Int)) = true := dT (by omega)
        by_cases q : s.Jobs[i].Level = level
        · refine .inl ⟨(i : Int), rfl, Ev.succ ?_⟩
          simp only [iG, d1, ↓reduceIte, zA s.Jobs i hi, bS, tN, dT q]
          exact Ev.ret _
        · refine .inr ⟨fun _ => q, fun r hr => Ev.succ ?_⟩
          simp only [iG, d1, ↓reduceIte, zA s.Jobs i hi, bS, tN, dF q, bF, tC i (show i < 9223372036854775807 by omega)]
          exact hr)
    rcases r2 with ⟨rfl, hq⟩ | ⟨i, v, hi, rfl, rfl, -⟩
    · refine hq k w.hk w.hk ?_
      rw [(List.getElem?_eq_some_iff.1 w.job).2, w.lev]; rfl
    · have f : Ev (fun fu => lG fu s level) ((i : Int), 0) := by
        unfold lG pO yM
        refine Ev.bind c1 ?_
        simp only [decide_true, Bool.not_true, bF, ↓reduceIte]
        refine Ev.bind (a := ((i : Int), 0)) (Ev.bind (a := (i : Int)) (Ev.bind r1 (Ev.ret _)) ?_) (Ev.ret _)
        simp only [dF (show ¬ (i : Int) < 0 by omega), bF, ↓reduceIte]
        exact Ev.ret _
      have := congrArg Prod.snd (Ev.uniq f f1)
      exact absurd this (show ¬ (0 : Int) = 4 by decide)
theorem zjz {s : mB} {r : Int × Int} (hr : r.2 ≠ 0) (h1 : Ev (fun fu => uI fu s) r) (h2 : Ev (fun fu => pK fu s) r) (level : Int) : Ev (fun fu => lG fu s level) (0, r.2) ∧ Ev (fun fu => dK fu s level) (0, r.2) := by
  constructor
  · unfold lG
    refine Ev.bind h1 ?_
    simp only [dF hr, Bool.not_false, ↓reduceIte]
    exact Ev.ret _
  · unfold dK mP
    refine Ev.bind (a := ([], r.2)) (Ev.bind h2 ?_) ?_
    · simp only [dF hr, Bool.not_false, ↓reduceIte]; exact Ev.ret _
    · simp only [dF hr, Bool.not_false, ↓reduceIte]; exact Ev.ret _
theorem zgE {s : mB} (h : uP s) {level : Int} {k i n : Nat} {b : Bool} (w : wI s level k i b n) : Ev (fun fu => gK fu s level) (((uC (zD s.Levels i) - n : Nat) : Int), 0) ∧ Ev (fun fu => kQ fu s level) (((uC (zD s.Levels i) - n : Nat) : Int), 0) := by
  obtain ⟨f1, f2⟩ := zgq h w
  obtain ⟨hg, hsn⟩ := w.good h
  obtain ⟨l1, l2⟩ := zbn _ b n hsn hg w.le
  have ixk : ix s.Jobs (k : Int) = some (lX s.Levels i b n) := by rw [yX]; exact w.job
  constructor
  · unfold gK
    refine Ev.bind f1 ?_
    simp only [decide_true, Bool.not_true, bF, ↓reduceIte, ixk, bS]
    exact Ev.bind (a := (((uC (zD s.Levels i) - n : Nat) : Int), 0)) l1 (Ev.ret _)
  · unfold kQ
    refine Ev.bind f2 ?_
    simp only [decide_true, Bool.not_true, bF, ↓reduceIte, ixk, bS]
    exact Ev.bind (a := (((uC (zD s.Levels i) - n : Nat) : Int), 0)) l2 (Ev.ret _)
theorem zdl {s : mB} {e : Int} (he : e ≠ 0) (level : Int) (f1 : Ev (fun fu => lG fu s level) (0, e)) (f2 : Ev (fun fu => dK fu s level) (0, e)) : Ev (fun fu => gK fu s level) (0, e) ∧ Ev (fun fu => kQ fu s level) (0, e) := by
  constructor
  · unfold gK
    refine Ev.bind f1 ?_
    simp only [dF he, Bool.not_false, ↓reduceIte]
    exact Ev.ret _
  · unfold kQ
    refine Ev.bind f2 ?_
    simp only [dF he, Bool.not_false, ↓reduceIte]
    exact Ev.ret _
theorem zmv : rM 40 = some true := by kernel_rfl
theorem ze8 : Ev (fun fu => rM fu) true := Ev.mono (n := 40) (fun fu => zin fu) zmv
theorem noneE {β : Type} {L : Nat → Int → Option (Sum Unit β)} (len : Nat) (stop : Ev (fun fu => L fu (len : Int)) (.inl ())) (step : ∀ n, n < len → ∀ r, Ev (fun fu => L fu ((n + 1 : Nat) : Int)) r → Ev (fun fu => L fu (n : Int)) r) : Ev (fun fu => L fu 0) (.inl ()) := by
  obtain ⟨r, r1, r2⟩ := fL (β := β) (fun n r => Ev (fun fu => L fu (n : Int)) r) len (fun _ => True) (fun _ _ => False) stop (fun n hn => .inr ⟨trivial, step n hn⟩)
  rcases r2 with ⟨rfl, -⟩ | ⟨_, _, _, h, _⟩
  · exact r1
  · exact h.elim
theorem ziS (s : mB) : ∃ b, Ev (fun fu => uW fu s) b ∧ (b = false → fJ s.Levels ∧ s.Jobs.length ≤ 14) := by
  have wide : ∀ l : List aA, ∃ b, Ev (fun fu => tT fu l) b := by
    intro l
    obtain ⟨r, r1, r2⟩ := fL (β := Bool) (fun n r => Ev (fun fu => vJ l fu (n : Int)) r) (min l.length 80) (fun _ => True) (fun _ v => v = true)
      (by
        refine Ev.succ (Ev.of (fun fu => ?_) (Ev.ret _))
        by_cases h : l.length ≤ 80
        · rw [Nat.min_eq_left h]; simp [vJ]
        · rw [Nat.min_eq_right (by omega)]; simp [vJ])
      (fun n hn => by
        have hl : n < l.length := Nat.lt_of_lt_of_le hn (Nat.min_le_left _ _)
        have h40 : n < 80 := Nat.lt_of_lt_of_le hn (Nat.min_le_right _ _)
        have d1 : decide ((n : Int) < (l.length : Int)) = true := dT (by omega)
        have d2 : decide ((n : Int) < 80) = true := dT (by omega)
        by_cases hk : (100 : Int) < (l[n].Key.length : Int)
        · exact .inl ⟨true, rfl, Ev.succ (Ev.of (fun fu => by simp only [vJ, d1, d2, zA l n hl, dT hk, ↓reduceIte, bS]) (Ev.ret _))⟩
        · by_cases hv : (100 : Int) < (l[n].Val.length : Int)
          · exact .inl ⟨true, rfl, Ev.succ (Ev.of (fun fu => by simp only [vJ, d1, d2, zA l n hl, dF hk, dT hv, bF, ↓reduceIte, bS]) (Ev.ret _))⟩
          · refine .inr ⟨trivial, fun r hr => Ev.succ (Ev.of (fun fu => ?_) hr)⟩
            simp only [vJ, d1, d2, ↓reduceIte, bS, zA l n hl, dF hk, dF hv, bF, tC n (show n < 9223372036854775807 by omega)])
    unfold tT
    rcases r2 with ⟨rfl, -⟩ | ⟨n, v, -, rfl, rfl, -⟩
    · exact ⟨_, Ev.bind r1 (Ev.ret _)⟩
    · exact ⟨_, Ev.bind r1 (Ev.ret _)⟩
  have inner : ∀ j : fB, ∃ r, Ev (fun fu => uJ j fu 0) r ∧ (r = .inl () ∨ r = .inr true) := by
    intro j
    obtain ⟨r, r1, r2⟩ := fL (β := Bool) (fun n r => Ev (fun fu => uJ j fu (n : Int)) r) (min j.Work.Merge.Runs.length 10) (fun _ => True) (fun _ v => v = true)
      (by
        refine Ev.succ (Ev.of (fun fu => ?_) (Ev.ret _))
        by_cases h : j.Work.Merge.Runs.length ≤ 10
        · rw [Nat.min_eq_left h]; simp [uJ]
        · rw [Nat.min_eq_right (by omega)]; simp [uJ])
      (fun n hn => by
        have hl : n < j.Work.Merge.Runs.length := Nat.lt_of_lt_of_le hn (Nat.min_le_left _ _)
        have h40 : n < 10 := Nat.lt_of_lt_of_le hn (Nat.min_le_right _ _)
        have d1 : decide ((n : Int) < (j.Work.Merge.Runs.length : Int)) = true := dT (by omega)
        have d2 : decide ((n : Int) < 10) = true := dT (by omega)
        obtain ⟨b, b1⟩ := wide j.Work.Merge.Runs[n]
        cases b with
        | true =>
          refine .inl ⟨true, rfl, Ev.succ ?_⟩
          simp only [uJ, d1, d2, ↓reduceIte, bS, zA _ n hl]
          exact Ev.bind b1 (Ev.ret _)
        | false =>
          refine .inr ⟨trivial, fun r hr => Ev.succ ?_⟩
          simp only [uJ, d1, d2, ↓reduceIte, bS, zA _ n hl, tC n (show n < 9223372036854775807 by omega)]
          exact Ev.bind b1 hr)
    refine ⟨r, r1, ?_⟩
    rcases r2 with ⟨rfl, -⟩ | ⟨n, v, -, rfl, rfl, -⟩
    · exact .inl rfl
    · exact .inr rfl
  obtain ⟨r, r1, r2⟩ := fL (β := Bool) (fun n r => Ev (fun fu => bK s fu (n : Int)) r) (min s.Jobs.length 20) (fun _ => True) (fun _ v => v = true)
    (by
      refine Ev.succ (Ev.of (fun fu => ?_) (Ev.ret _))
      by_cases h : s.Jobs.length ≤ 20
      · rw [Nat.min_eq_left h]; simp [bK]
      · rw [Nat.min_eq_right (by omega)]; simp [bK])
    (fun n hn => by
      have hl : n < s.Jobs.length := Nat.lt_of_lt_of_le hn (Nat.min_le_left _ _)
      have h40 : n < 20 := Nat.lt_of_lt_of_le hn (Nat.min_le_right _ _)
      have d1 : decide ((n : Int) < (s.Jobs.length : Int)) = true := dT (by omega)
      have d2 : decide ((n : Int) < 20) = true := dT (by omega)
      obtain ⟨q, q1, q2⟩ := inner s.Jobs[n]
      rcases q2 with rfl | rfl
      · obtain ⟨b, b1⟩ := wide s.Jobs[n].Work.Out
        obtain ⟨c, hc⟩ : ∃ c : Bool, ∀ (f : Bool → Option (Sum Unit Bool)), (((((if b = true then some true else some (decide ((6 : Int) < (s.Jobs[n].Work.Merge.Runs.length : Int)))).bind fun b128 => (if b128 = true then some true else some (decide ((40 : Int) < (s.Jobs[n].Work.Merge.At.length : Int)))).bind fun b129 => (if b129 = true then some true else some (decide ((40 : Int) < (s.Jobs[n].Work.Merge.Tree.Keys.length : Int)))).bind fun b130 => (if b130 = true then some true else some (decide ((40 : Int) < (s.Jobs[n].Work.Merge.Tree.Lose.length : Int)))).bind fun b131 => (if b131 = true then some true else some (decide ((200 : Int) < (s.Jobs[n].Work.Shadow.Last.length : Int)))).bind fun b132 => f b132)))) = f c := by
          refine ⟨b || decide ((6 : Int) < (s.Jobs[n].Work.Merge.Runs.length : Int)) || decide ((40 : Int) < (s.Jobs[n].Work.Merge.At.length : Int)) || decide ((40 : Int) < (s.Jobs[n].Work.Merge.Tree.Keys.length : Int)) || decide ((40 : Int) < (s.Jobs[n].Work.Merge.Tree.Lose.length : Int)) || decide ((200 : Int) < (s.Jobs[n].Work.Shadow.Last.length : Int)), fun f => ?_⟩
          generalize decide ((6 : Int) < (s.Jobs[n].Work.Merge.Runs.length : Int)) = c1
          generalize decide ((40 : Int) < (s.Jobs[n].Work.Merge.At.length : Int)) = c2
          generalize decide ((40 : Int) < (s.Jobs[n].Work.Merge.Tree.Keys.length : Int)) = c3
          generalize decide ((40 : Int) < (s.Jobs[n].Work.Merge.Tree.Lose.length : Int)) = c4
          generalize decide ((200 : Int) < (s.Jobs[n].Work.Shadow.Last.length : Int)) = c5
          cases b <;> cases c1 <;> cases c2 <;> cases c3 <;> cases c4 <;> cases c5 <;> rfl
        cases c with
        | true =>
          refine .inl ⟨true, rfl, Ev.succ ?_⟩
          simp only [bK, d1, d2, ↓reduceIte, bS, zA s.Jobs n hl]
          refine Ev.bind q1 (Ev.bind b1 ?_)
          refine Ev.of (fun fu => hc _) ?_
          exact Ev.ret _
        | false =>
          refine .inr ⟨trivial, fun r hr => Ev.succ ?_⟩
          simp only [bK, d1, d2, ↓reduceIte, bS, zA s.Jobs n hl, tC n (show n < 9223372036854775807 by omega)]
          refine Ev.bind q1 (Ev.bind b1 ?_)
          refine Ev.of (fun fu => hc _) ?_
          exact hr
      · refine .inl ⟨true, rfl, Ev.succ ?_⟩
        simp only [bK, d1, d2, ↓reduceIte, bS, zA s.Jobs n hl]
        exact Ev.bind q1 (Ev.ret _))
  unfold uW
  rcases r2 with ⟨rfl, -⟩ | ⟨n, v, -, rfl, rfl, -⟩
  · by_cases h : (14 : Int) < (s.Jobs.length : Int)
    · refine ⟨true, Ev.bind r1 ?_, by simp⟩
      simp only [dT h, ↓reduceIte, bS]
      exact Ev.ret _
    · obtain ⟨b, b1, b2⟩ := zf1 s.Levels
      refine ⟨b, Ev.bind r1 ?_, fun hb => ⟨b2 hb, by omega⟩⟩
      simp only [dF h, bF, ↓reduceIte]
      exact Ev.bind (Ev.bind b1 (Ev.ret _)) (Ev.ret _)
  · exact ⟨true, Ev.bind r1 (Ev.ret _), by simp⟩
theorem ziZ (l : List Int) (hl : l.length ≤ 1000) : Ev (fun fu => kX fu l l) true := by
  have : Ev (fun fu => uM l l fu 0) (.inl ()) := noneE l.length
    (Ev.succ (Ev.of (fun fu => by simp [uM]) (Ev.ret _)))
    (fun n hn r hr => Ev.succ (by
      have d : decide ((n : Int) < (l.length : Int)) = true := dT (by omega)
      simp only [uM, d, ↓reduceIte, bS, zA l n hn, decide_true, Bool.not_true, bF, tC n (show n < 9223372036854775807 by omega)]
      exact hr))
  unfold kX
  exact Ev.bind this (Ev.of (fun fu => by simp) (Ev.ret _))
theorem zm4 (s : mB) (level : Int) : Ev (fun fu => vX fu s level) true := by
  obtain ⟨f, f1, f2⟩ := ziS s
  unfold vX
  refine Ev.bind f1 ?_
  cases f with
  | true => exact Ev.bind ze8 (Ev.ret _)
  | false =>
    obtain ⟨hs, hj⟩ := f2 rfl
    obtain ⟨c, p, g, l, c1, c2, p1, p2, g1, g2, l1, l2, hp⟩ : ∃ (c : Int × Int) (p : List Int × Int) (g l : Int × Int), Ev (fun fu => uI fu s) c ∧ Ev (fun fu => pK fu s) c ∧ Ev (fun fu => sS fu s) p ∧ Ev (fun fu => mP fu s) p ∧ Ev (fun fu => lG fu s level) g ∧ Ev (fun fu => dK fu s level) g ∧ Ev (fun fu => gK fu s level) l ∧ Ev (fun fu => kQ fu s level) l ∧ p.1.length ≤ 1000 := by
      rcases znQ s hs (by omega) with h | ⟨r, hr, c1, c2⟩
      · obtain ⟨c1, c2⟩ := h.check
        obtain ⟨p1, p2⟩ := zeg h
        have hlen := zdW s.Levels.Levels 0
        have h14 := hs.1
        have hp : (sB (qC s.Levels)).length ≤ 1000 := by
          rw [vF]
          show (lF 0 s.Levels.Levels).length ≤ 1000
          omega
        rcases zcc h level with ⟨k, i, b, n, w, g1, g2⟩ | ⟨g1, g2⟩
        · obtain ⟨l1, l2⟩ := zgE h w
          exact ⟨_, _, _, _, c1, c2, p1, p2, g1, g2, l1, l2, hp⟩
        · obtain ⟨l1, l2⟩ := zdl (by decide) level g1 g2
          exact ⟨_, _, _, _, c1, c2, p1, p2, g1, g2, l1, l2, hp⟩
      · obtain ⟨g1, g2⟩ := zjz hr c1 c2 level
        obtain ⟨l1, l2⟩ := zdl hr level g1 g2
        refine ⟨r, ([], r.2), _, _, c1, c2, ?_, ?_, g1, g2, l1, l2, by simp⟩
        · unfold sS
          refine Ev.bind c1 ?_
          simp only [dF hr, Bool.not_false, ↓reduceIte]; exact Ev.ret _
        · unfold mP
          refine Ev.bind c2 ?_
          simp only [dF hr, Bool.not_false, ↓reduceIte]; exact Ev.ret _
    simp only [bF, ↓reduceIte]
    refine Ev.bind c1 (Ev.bind c2 ?_)
    simp only [decide_true, Bool.not_true, bF, ↓reduceIte, bS]
    refine Ev.bind p1 (Ev.bind p2 (Ev.bind (ziZ p.1 hp) ?_))
    simp only [decide_true, Bool.not_true, bF, ↓reduceIte, bS]
    refine Ev.bind g1 (Ev.bind g2 (Ev.bind l1 (Ev.bind l2 ?_)))
    simp only [decide_true, ↓reduceIte, bS]
    exact Ev.bind (Ev.bind ze8 (Ev.ret _)) (Ev.ret _)
end Go.T
end
section
namespace Go.T
open Go Go.AM Go.Proofs
set_option maxRecDepth 100000
set_option maxHeartbeats 4000000
set_option linter.unusedVariables false
theorem zR {fu : Nat} {l1 : List aA} {r : Bool} (h0 : tT fu l1 = some r) : yA Tryz.prog 28 [.psl 4 (l1.map aA.enc)] (.bool r) [] := by
 refine cB Tryz.func28 rfl (by decide) rL ?_
 dsimp only [Tryz.f28]
 rw [tT] at h0
 refine xS 8 [0] ?_
 refine iA ?_
 refine xS 16 [0, 3] ?_
 obtain ⟨x17, hxx17, h0⟩ := bA h0
 refine oC (fun s' => ∃ o26 : Unit, x17 = .inl o26 ∧ s'.nx ≤ 80 ∧ LeN [] s' ⟨[(0, .psl 4 (List.map aA.enc l1))], [], 80, []⟩) ?_ ?_
 ·
  intro s' hs
  obtain ⟨o26, rfl, hn, hs⟩ := hs
  refine dA ?_
  refine oB [] hn hs ?_
  refine xS 112 [2] ?_
  refine kA ?_
  obtain rfl := oI h0
  exact lA [] rG
 refine nC (ι := { p : Nat × Int // vJ l1 p.1 p.2 = some x17 }) (fun p => ⟨[(0, .psl 4 (List.map aA.enc l1)), (3, .int .i64 p.1.2)], [], 16, []⟩) (fun p => p.1.1) ⟨(fu, 0), hxx17⟩ ⟨rF, rE, rfl, rfl, trivial, trivial⟩ (fun _ => Nat.le_refl _) ?_
 rintro ⟨⟨fu, i18⟩, h1⟩
 cases fu with
 | zero =>
  replace h1 : vJ l1 0 i18 = some x17 := h1
  rw [vJ] at h1; cases h1
 | succ fu =>
  replace h1 : vJ l1 (fu + 1) i18 = some x17 := h1
  rw [vJ] at h1
  dsimp only
  refine iA ?_
  obtain ⟨b19, hb19, h1⟩ := bA h1
  refine mC (fr' := [(0, .psl 4 (List.map aA.enc l1)), (3, .int .i64 i18), (11, .bool b19)]) (hp' := []) [] 80 [0, 3, 11] (fun _ => none) rfl (fun Kt hK => by
    cases hg20 : (decide (i18 < (l1.length : Int))) with
    | false =>
     replace hb19 := qA hb19 hg20
     have hqb19 := oI hb19
     subst hqb19
     exact rW hg20 hK
    | true =>
     replace hb19 := aB hb19 hg20
     have hqb19 := oI hb19
     subst hqb19
     exact rW hg20 hK) ?_
  refine xI h1 rfl (fun h1 hb21 => ?_) (fun h1 hb21 => ?_)
  ·
   refine oA (dA (iA (xB ?_)))
   obtain ⟨e22, he22, h1⟩ := bA h1
   obtain ⟨he22a, he22b, he22c⟩ := wA he22
   obtain ⟨b23, hb23, h1⟩ := bA h1
   refine mC (fr' := [(0, .psl 4 (List.map aA.enc l1)), (3, .int .i64 i18), (29, .bool b23)]) (hp' := []) [] 208 [0, 3, 29] (fun _ => none) rfl (fun Kt hK => by
     cases hg24 : (decide (100 < (e22.Key.length : Int))) with
     | false =>
      replace hb23 := qA hb23 hg24
      have hqb23 := oI hb23
      subst hqb23
      exact sD hg24 (rA he22a (rA he22b he22c)) hK
     | true =>
      replace hb23 := aB hb23 hg24
      have hqb23 := oI hb23
      subst hqb23
      exact sD hg24 (rA he22a (rA he22b he22c)) hK) ?_
   refine xI h1 rfl (fun h1 hb25 => ?_) (fun h1 hb25 => ?_)
   ·
    refine nA 216 [2] (fun _ => none) rfl (fun _ _ => rS (rA he22a (rA he22b he22c))) ?_
    refine kA ?_
    obtain rfl := oI h1
    refine cC (mA (mA (wC (mA ?_))))
    obtain rfl := oI h0
    refine lA [] ?_
    exact rJ (rA he22a (rA he22b he22c))
   refine oA (qB (dA ?_))
   refine nB 232 [0, 3] (fun _ => none) rfl (fun _ _ => rS (rA he22a (rA he22b he22c))) ?_
   refine dA ?_
   exact ⟨⟨(fu, (IntKind.i64.wrap (i18 + 1))), h1⟩, ⟨rF, rE, rfl, rfl, trivial, trivial⟩, Nat.lt_succ_self _⟩
  refine fC (xA (xA (iC ?_)))
  obtain rfl := oI h1
  exact ⟨_, rfl, rL, ⟨rF, rE, rfl, rfl, trivial, trivial⟩⟩
theorem znp {fu : Nat} {l1 : List aA} {r : Bool} (h0 : oX fu l1 = some r) : yA Tryz.prog 83 [.psl 4 (l1.map aA.enc)] (.bool r) [] := by
 refine cB Tryz.func83 rfl (by decide) rL ?_
 dsimp only [Tryz.f83]
 rw [oX] at h0
 refine xS 8 [0] ?_
 refine iA ?_
 refine xS 16 [0, 3] ?_
 obtain ⟨x17, hxx17, h0⟩ := bA h0
 refine oC (fun s' => ∃ o26 : Unit, x17 = .inl o26 ∧ s'.nx ≤ 80 ∧ LeN [] s' ⟨[(0, .psl 4 (List.map aA.enc l1))], [], 80, []⟩) ?_ ?_
 ·
  intro s' hs
  obtain ⟨o26, rfl, hn, hs⟩ := hs
  refine dA ?_
  refine oB [] hn hs ?_
  refine xS 112 [2] ?_
  refine kA ?_
  obtain rfl := oI h0
  exact lA [] rG
 refine nC (ι := { p : Nat × Int // yJ l1 p.1 p.2 = some x17 }) (fun p => ⟨[(0, .psl 4 (List.map aA.enc l1)), (3, .int .i64 p.1.2)], [], 16, []⟩) (fun p => p.1.1) ⟨(fu, 0), hxx17⟩ ⟨rF, rE, rfl, rfl, trivial, trivial⟩ (fun _ => Nat.le_refl _) ?_
 rintro ⟨⟨fu, i18⟩, h1⟩
 cases fu with
 | zero =>
  replace h1 : yJ l1 0 i18 = some x17 := h1
  rw [yJ] at h1; cases h1
 | succ fu =>
  replace h1 : yJ l1 (fu + 1) i18 = some x17 := h1
  rw [yJ] at h1
  dsimp only
  refine iA ?_
  obtain ⟨b19, hb19, h1⟩ := bA h1
  refine mC (fr' := [(0, .psl 4 (List.map aA.enc l1)), (3, .int .i64 i18), (11, .bool b19)]) (hp' := []) [] 80 [0, 3, 11] (fun _ => none) rfl (fun Kt hK => by
    cases hg20 : (decide (i18 < (l1.length : Int))) with
    | false =>
     replace hb19 := qA hb19 hg20
     have hqb19 := oI hb19
     subst hqb19
     exact rW hg20 hK
    | true =>
     replace hb19 := aB hb19 hg20
     have hqb19 := oI hb19
     subst hqb19
     exact rW hg20 hK) ?_
  refine xI h1 rfl (fun h1 hb21 => ?_) (fun h1 hb21 => ?_)
  ·
   refine oA (dA (iA (xB ?_)))
   obtain ⟨e22, he22, h1⟩ := bA h1
   obtain ⟨he22a, he22b, he22c⟩ := wA he22
   obtain ⟨b23, hb23, h1⟩ := bA h1
   refine mC (fr' := [(0, .psl 4 (List.map aA.enc l1)), (3, .int .i64 i18), (29, .bool b23)]) (hp' := []) [] 208 [0, 3, 29] (fun _ => none) rfl (fun Kt hK => by
     cases hg24 : (decide (100 < (e22.Key.length : Int))) with
     | false =>
      replace hb23 := qA hb23 hg24
      have hqb23 := oI hb23
      subst hqb23
      exact sD hg24 (rA he22a (rA he22b he22c)) hK
     | true =>
      replace hb23 := aB hb23 hg24
      have hqb23 := oI hb23
      subst hqb23
      exact sD hg24 (rA he22a (rA he22b he22c)) hK) ?_
   refine xI h1 rfl (fun h1 hb25 => ?_) (fun h1 hb25 => ?_)
   ·
    refine nA 216 [2] (fun _ => none) rfl (fun _ _ => rS (rA he22a (rA he22b he22c))) ?_
    refine kA ?_
    obtain rfl := oI h1
    refine cC (mA (mA (wC (mA ?_))))
    obtain rfl := oI h0
    refine lA [] ?_
    exact rJ (rA he22a (rA he22b he22c))
   refine oA (qB (dA ?_))
   refine nB 232 [0, 3] (fun _ => none) rfl (fun _ _ => rS (rA he22a (rA he22b he22c))) ?_
   refine dA ?_
   exact ⟨⟨(fu, (IntKind.i64.wrap (i18 + 1))), h1⟩, ⟨rF, rE, rfl, rfl, trivial, trivial⟩, Nat.lt_succ_self _⟩
  refine fC (xA (xA (iC ?_)))
  obtain rfl := oI h1
  exact ⟨_, rfl, rL, ⟨rF, rE, rfl, rfl, trivial, trivial⟩⟩
theorem zgs {fu : Nat} {l1 : List kB} {r : Bool} (h0 : gX fu l1 = some r) : yA Tryz.prog 51 [.psl 2 (l1.map kB.enc)] (.bool r) [] := by
 refine cB Tryz.func51 rfl (by decide) rL ?_
 dsimp only [Tryz.f51]
 rw [gX] at h0
 refine xS 8 [0] ?_
 refine iA ?_
 refine xS 16 [0, 3] ?_
 obtain ⟨x15, hxx15, h0⟩ := bA h0
 refine oC (fun s' => ∃ o23 : Unit, x15 = .inl o23 ∧ s'.nx ≤ 80 ∧ LeN [] s' ⟨[(0, .psl 2 (List.map kB.enc l1))], [], 80, []⟩) ?_ ?_
 ·
  intro s' hs
  obtain ⟨o23, rfl, hn, hs⟩ := hs
  refine dA ?_
  refine oB [] hn hs ?_
  refine xS 112 [2] ?_
  refine kA ?_
  obtain rfl := oI h0
  exact lA [] rG
 refine nC (ι := { p : Nat × Int // yK l1 p.1 p.2 = some x15 }) (fun p => ⟨[(0, .psl 2 (List.map kB.enc l1)), (3, .int .i64 p.1.2)], [], 16, []⟩) (fun p => p.1.1) ⟨(fu, 0), hxx15⟩ ⟨rF, rE, rfl, rfl, trivial, trivial⟩ (fun _ => Nat.le_refl _) ?_
 rintro ⟨⟨fu, i16⟩, h1⟩
 cases fu with
 | zero =>
  replace h1 : yK l1 0 i16 = some x15 := h1
  rw [yK] at h1; cases h1
 | succ fu =>
  replace h1 : yK l1 (fu + 1) i16 = some x15 := h1
  rw [yK] at h1
  dsimp only
  refine iA ?_
  obtain ⟨b17, hb17, h1⟩ := bA h1
  refine mC (fr' := [(0, .psl 2 (List.map kB.enc l1)), (3, .int .i64 i16), (11, .bool b17)]) (hp' := []) [] 80 [0, 3, 11] (fun _ => none) rfl (fun Kt hK => by
    cases hg18 : (decide (i16 < (l1.length : Int))) with
    | false =>
     replace hb17 := qA hb17 hg18
     have hqb17 := oI hb17
     subst hqb17
     exact rW hg18 hK
    | true =>
     replace hb17 := aB hb17 hg18
     have hqb17 := oI hb17
     subst hqb17
     exact rW hg18 hK) ?_
  refine xI h1 rfl (fun h1 hb19 => ?_) (fun h1 hb19 => ?_)
  ·
   refine oA (dA (iA (xB ?_)))
   obtain ⟨e20, he20, h1⟩ := bA h1
   obtain ⟨he20a, he20b, he20c⟩ := wA he20
   obtain ⟨vr21, hvr21, h1⟩ := bA h1
   refine nA 128 [0, 3, 19] (fun | 5 => some (.bool vr21, []) | _ => none) rfl (fun _ _ => rB (rA he20a (rA he20b he20c)) (znp hvr21)) ?_
   refine xI h1 rfl (fun h1 hb22 => ?_) (fun h1 hb22 => ?_)
   ·
    refine nA 136 [2] (fun _ => none) rfl (fun _ _ => rS (rA he20a (rA he20b he20c))) ?_
    refine kA ?_
    obtain rfl := oI h1
    refine cC (mA (mA (wC (mA ?_))))
    obtain rfl := oI h0
    refine lA [] ?_
    exact rJ (rA he20a (rA he20b he20c))
   refine oA (qB (dA ?_))
   refine nB 152 [0, 3] (fun _ => none) rfl (fun _ _ => rS (rA he20a (rA he20b he20c))) ?_
   refine dA ?_
   exact ⟨⟨(fu, (IntKind.i64.wrap (i16 + 1))), h1⟩, ⟨rF, rE, rfl, rfl, trivial, trivial⟩, Nat.lt_succ_self _⟩
  refine fC (xA (xA (iC ?_)))
  obtain rfl := oI h1
  exact ⟨_, rfl, rL, ⟨rF, rE, rfl, rfl, trivial, trivial⟩⟩
theorem zd3 {fu : Nat} {l1 : iB} {r : Bool} (h0 : lU fu l1 = some r) : yA Tryz.prog 20 [.agg (iB.enc l1)] (.bool r) [] := by
 refine cB Tryz.func20 rfl (by decide) rL ?_
 dsimp only [Tryz.f20]
 rw [lU] at h0
 refine xS 16 [1] ?_
 refine iA ?_
 refine xS 24 [1, 3] ?_
 obtain ⟨x15, hxx15, h0⟩ := bA h0
 refine oC (fun s' => ∃ o23 : Unit, x15 = .inl o23 ∧ s'.nx ≤ 96 ∧ LeN [] s' ⟨[(1, .ref 0 0 0 0)], [(0, ⟨0, true, true, 2, [[.int .i64 l1.B, .psl 1 (List.map tA.enc l1.Levels)]]⟩)], 96, []⟩) ?_ ?_
 ·
  intro s' hs
  obtain ⟨o23, rfl, hn, hs⟩ := hs
  refine dA ?_
  refine oB [] hn hs ?_
  refine xS 136 [2] ?_
  refine kA ?_
  obtain rfl := oI h0
  exact lA [] rG
 refine nC (ι := { p : Nat × Int // eL l1 p.1 p.2 = some x15 }) (fun p => ⟨[(1, .ref 0 0 0 0), (3, .int .i64 p.1.2)], [(0, ⟨0, true, true, 2, [[.int .i64 l1.B, .psl 1 (List.map tA.enc l1.Levels)]]⟩)], 24, []⟩) (fun p => p.1.1) ⟨(fu, 0), hxx15⟩ ⟨rF, rE, rfl, rfl, trivial, trivial⟩ (fun _ => Nat.le_refl _) ?_
 rintro ⟨⟨fu, i16⟩, h1⟩
 cases fu with
 | zero =>
  replace h1 : eL l1 0 i16 = some x15 := h1
  rw [eL] at h1; cases h1
 | succ fu =>
  replace h1 : eL l1 (fu + 1) i16 = some x15 := h1
  rw [eL] at h1
  dsimp only
  refine iA ?_
  obtain ⟨b17, hb17, h1⟩ := bA h1
  refine mC (fr' := [(1, .ref 0 0 0 0), (3, .int .i64 i16), (12, .bool b17)]) (hp' := [(0, ⟨0, true, true, 2, [[.int .i64 l1.B, .psl 1 (List.map tA.enc l1.Levels)]]⟩)]) [0] 96 [1, 3, 12] (fun _ => none) rfl (fun Kt hK => by
    cases hg18 : (decide (i16 < (l1.Levels.length : Int))) with
    | false =>
     replace hb17 := qA hb17 hg18
     have hqb17 := oI hb17
     subst hqb17
     exact rW hg18 hK
    | true =>
     replace hb17 := aB hb17 hg18
     have hqb17 := oI hb17
     subst hqb17
     exact rW hg18 hK) ?_
  refine xI h1 rfl (fun h1 hb19 => ?_) (fun h1 hb19 => ?_)
  ·
   refine oA (dA (iA (xB ?_)))
   obtain ⟨e20, he20, h1⟩ := bA h1
   obtain ⟨he20a, he20b, he20c⟩ := wA he20
   obtain ⟨vr21, hvr21, h1⟩ := bA h1
   refine nA 152 [1, 3, 21] (fun | 6 => some (.bool vr21, []) | _ => none) rfl (fun _ _ => rB (rA he20a (rA he20b he20c)) (zgs hvr21)) ?_
   refine xI h1 rfl (fun h1 hb22 => ?_) (fun h1 hb22 => ?_)
   ·
    refine nA 160 [2] (fun _ => none) rfl (fun _ _ => rS (rA he20a (rA he20b he20c))) ?_
    refine kA ?_
    obtain rfl := oI h1
    refine cC (mA (mA (wC (mA ?_))))
    obtain rfl := oI h0
    refine lA [] ?_
    exact rJ (rA he20a (rA he20b he20c))
   refine oA (qB (dA ?_))
   refine nB 176 [1, 3] (fun _ => none) rfl (fun _ _ => rS (rA he20a (rA he20b he20c))) ?_
   refine dA ?_
   exact ⟨⟨(fu, (IntKind.i64.wrap (i16 + 1))), h1⟩, ⟨rF, rE, rfl, rfl, trivial, trivial⟩, Nat.lt_succ_self _⟩
  refine fC (xA (xA (iC ?_)))
  obtain rfl := oI h1
  exact ⟨_, rfl, rL, ⟨rF, rE, rfl, rfl, trivial, trivial⟩⟩
theorem zh3 {fu : Nat} {vs1 : mB} {r : Bool} (h0 : uW fu vs1 = some r) : yA Tryz.prog 6 [.agg (mB.enc vs1)] (.bool r) [] := by
 refine cB Tryz.func6 rfl (by decide) rL ?_
 dsimp only [Tryz.f6, List.append]
 rw [uW] at h0
 refine xS 16 [1] ?_
 refine iA ?_
 refine xS 24 [1, 3] ?_
 obtain ⟨x99, hxx99, h0⟩ := bA h0
 refine oC (fun s' => ∃ o149 : Unit, x99 = .inl o149 ∧ s'.nx ≤ 96 ∧ LeN [] s' ⟨[(1, .ref 0 0 0 0)], [(0, ⟨0, true, true, 4, [[.int .i64 vs1.Levels.B, .psl 1 (List.map tA.enc vs1.Levels.Levels), .psl 11 (List.map fB.enc vs1.Jobs), .int .i64 vs1.NextId]]⟩)], 96, []⟩) ?_ ?_
 ·
  intro s' hs
  obtain ⟨o149, rfl, hn, hs⟩ := hs
  refine dA ?_
  refine oB [] hn hs ?_
  obtain ⟨b151, hb151, h0⟩ := bA h0
  refine mC (fr' := [(2, .bool b151)]) (hp' := [(0, ⟨0, true, true, 4, [[.int .i64 vs1.Levels.B, .psl 1 (List.map tA.enc vs1.Levels.Levels), .psl 11 (List.map fB.enc vs1.Jobs), .int .i64 vs1.NextId]]⟩)]) [0] 176 [2] (fun | 7 => (lU fu vs1.Levels).bind fun vr150 => some (.bool vr150, []) | _ => none) rfl (fun Kt hK => by
    cases hg152 : (decide (14 < (vs1.Jobs.length : Int))) with
    | false =>
     replace hb151 := qA hb151 hg152
     obtain ⟨vr150, hvr150, hb151⟩ := bA hb151
     have hqb151 := oI hb151
     subst hqb151
     first | exact yI hg152 hvr150 (zd3 hvr150) hK | exact sD hg152 hvr150 hK
    | true =>
     replace hb151 := aB hb151 hg152
     have hqb151 := oI hb151
     subst hqb151
     first | exact iI hg152 (zd3 hvr150) hK | exact rW hg152 hK) ?_
  refine kA ?_
  obtain rfl := oI h0
  exact lA [] rG
 refine nC (ι := { p : Nat × Int // bK vs1 p.1 p.2 = some x99 }) (fun p => ⟨[(1, .ref 0 0 0 0), (3, .int .i64 p.1.2)], [(0, ⟨0, true, true, 4, [[.int .i64 vs1.Levels.B, .psl 1 (List.map tA.enc vs1.Levels.Levels), .psl 11 (List.map fB.enc vs1.Jobs), .int .i64 vs1.NextId]]⟩)], 24, []⟩) (fun p => p.1.1) ⟨(fu, 0), hxx99⟩ ⟨rF, rE, rfl, rfl, trivial, trivial⟩ (fun _ => Nat.le_refl _) ?_
 rintro ⟨⟨fu, i100⟩, h1⟩
 cases fu with
 | zero =>
  replace h1 : bK vs1 0 i100 = some x99 := h1
  rw [bK] at h1; cases h1
 | succ fu =>
  replace h1 : bK vs1 (fu + 1) i100 = some x99 := h1
  rw [bK] at h1
  dsimp only
  refine iA ?_
  obtain ⟨b101, hb101, h1⟩ := bA h1
  refine mC (fr' := [(1, .ref 0 0 0 0), (3, .int .i64 i100), (14, .bool b101)]) (hp' := [(0, ⟨0, true, true, 4, [[.int .i64 vs1.Levels.B, .psl 1 (List.map tA.enc vs1.Levels.Levels), .psl 11 (List.map fB.enc vs1.Jobs), .int .i64 vs1.NextId]]⟩)]) [0] 96 [1, 3, 14] (fun _ => none) rfl (fun Kt hK => by
    cases hg102 : (decide (i100 < (vs1.Jobs.length : Int))) with
    | false =>
     replace hb101 := qA hb101 hg102
     have hqb101 := oI hb101
     subst hqb101
     exact rW hg102 hK
    | true =>
     replace hb101 := aB hb101 hg102
     have hqb101 := oI hb101
     subst hqb101
     exact rW hg102 hK) ?_
  refine xI h1 rfl (fun h1 hb103 => ?_) (fun h1 hb103 => ?_)
  ·
   refine oA (dA (iA (xB ?_)))
   obtain ⟨e104, he104, h1⟩ := bA h1
   obtain ⟨he104a, he104b, he104c⟩ := wA he104
   refine nA 160 [1, 3, 4] (fun _ => none) rfl (fun _ _ => rS (rA he104a (rA he104b he104c))) ?_
   refine iA ?_
   refine nA 168 [1, 3, 4, 5] (fun _ => none) rfl (fun _ _ => rS (rA he104a (rA he104b he104c))) ?_
   obtain ⟨x118, hxx118, h1⟩ := bA h1
   refine oC (fun s' => ∃ o126 : Unit, x118 = .inl o126 ∧ s'.nx ≤ 248 ∧ LeN [] s' ⟨[(1, .ref 0 0 0 0), (3, .int .i64 i100), (4, .ref 144 0 0 0)], [(0, ⟨0, true, true, 4, [[.int .i64 vs1.Levels.B, .psl 1 (List.map tA.enc vs1.Levels.Levels), .psl 11 (List.map fB.enc vs1.Jobs), .int .i64 vs1.NextId]]⟩), (144, ⟨0, true, true, 10, [[.psl 1 (List.map (sA 4 aA.enc) e104.Work.Merge.Runs), .psl 1 (List.map (fA .i64) e104.Work.Merge.At), .psl 2 (List.map eA.enc e104.Work.Merge.Tree.Keys), .psl 1 (List.map (fA .i64) e104.Work.Merge.Tree.Lose), .int .i64 e104.Work.Merge.Tree.Win, .bool e104.Work.Shadow.Some, .str e104.Work.Shadow.Last, .bool e104.Work.Shadow.Bottom, .psl 4 (List.map aA.enc e104.Work.Out), .int .i64 e104.Work.Steps]]⟩)], 248, []⟩) ?_ ?_
   ·
    intro s' hs
    obtain ⟨o126, rfl, hn, hs⟩ := hs
    refine dA ?_
    refine oB [] hn hs ?_
    obtain ⟨vr127, hvr127, h1⟩ := bA h1
    obtain ⟨b128, hb128, h1⟩ := bA h1
    obtain ⟨b129, hb129, h1⟩ := bA h1
    obtain ⟨b130, hb130, h1⟩ := bA h1
    obtain ⟨b131, hb131, h1⟩ := bA h1
    obtain ⟨b132, hb132, h1⟩ := bA h1
    refine mC (fr' := [(1, .ref 0 0 0 0), (3, .int .i64 i100), (81, .bool b132)]) (hp' := [(0, ⟨0, true, true, 4, [[.int .i64 vs1.Levels.B, .psl 1 (List.map tA.enc vs1.Levels.Levels), .psl 11 (List.map fB.enc vs1.Jobs), .int .i64 vs1.NextId]]⟩), (144, ⟨0, true, true, 10, [[.psl 1 (List.map (sA 4 aA.enc) e104.Work.Merge.Runs), .psl 1 (List.map (fA .i64) e104.Work.Merge.At), .psl 2 (List.map eA.enc e104.Work.Merge.Tree.Keys), .psl 1 (List.map (fA .i64) e104.Work.Merge.Tree.Lose), .int .i64 e104.Work.Merge.Tree.Win, .bool e104.Work.Shadow.Some, .str e104.Work.Shadow.Last, .bool e104.Work.Shadow.Bottom, .psl 4 (List.map aA.enc e104.Work.Out), .int .i64 e104.Work.Steps]]⟩)]) [0, 144] 568 [1, 3, 81] (fun | 2 => some (.bool vr127, []) | _ => none) rfl (fun Kt hK => by
      cases vr127 with
      | false =>
       replace hb128 := qA hb128 rfl
       have hqb128 := oI hb128
       cases b128 with
       | false =>
        replace hb129 := qA hb129 rfl
        have hqb129 := oI hb129
        cases b129 with
        | false =>
         replace hb130 := qA hb130 rfl
         have hqb130 := oI hb130
         cases b130 with
         | false =>
          replace hb131 := qA hb131 rfl
          have hqb131 := oI hb131
          cases b131 with
          | false =>
           replace hb132 := qA hb132 rfl
           have hqb132 := oI hb132
           subst hqb132
           first | exact yI (rA hqb128 (rA hqb129 (rA hqb130 hqb131))) (rA he104a (rA he104b he104c)) (zR hvr127) hK | exact sD (rA hqb128 (rA hqb129 (rA hqb130 hqb131))) (rA he104a (rA he104b he104c)) hK
          | true =>
           replace hb132 := aB hb132 rfl
           have hqb132 := oI hb132
           subst hqb132
           first | exact yI (rA hqb128 (rA hqb129 (rA hqb130 hqb131))) (rA he104a (rA he104b he104c)) (zR hvr127) hK | exact sD (rA hqb128 (rA hqb129 (rA hqb130 hqb131))) (rA he104a (rA he104b he104c)) hK
         | true =>
          replace hb131 := aB hb131 rfl
          have hqb131 := oI hb131
          cases b131 with
          | false =>
           cases hqb131
          | true =>
           replace hb132 := aB hb132 rfl
           have hqb132 := oI hb132
           subst hqb132
           first | exact yI (rA hqb128 (rA hqb129 hqb130)) (rA he104a (rA he104b he104c)) (zR hvr127) hK | exact sD (rA hqb128 (rA hqb129 hqb130)) (rA he104a (rA he104b he104c)) hK
        | true =>
         replace hb130 := aB hb130 rfl
         have hqb130 := oI hb130
         cases b130 with
         | false =>
          cases hqb130
         | true =>
          replace hb131 := aB hb131 rfl
          have hqb131 := oI hb131
          cases b131 with
          | false =>
           cases hqb131
          | true =>
           replace hb132 := aB hb132 rfl
           have hqb132 := oI hb132
           subst hqb132
           first | exact yI (rA hqb128 hqb129) (rA he104a (rA he104b he104c)) (zR hvr127) hK | exact sD (rA hqb128 hqb129) (rA he104a (rA he104b he104c)) hK
       | true =>
        replace hb129 := aB hb129 rfl
        have hqb129 := oI hb129
        cases b129 with
        | false =>
         cases hqb129
        | true =>
         replace hb130 := aB hb130 rfl
         have hqb130 := oI hb130
         cases b130 with
         | false =>
          cases hqb130
         | true =>
          replace hb131 := aB hb131 rfl
          have hqb131 := oI hb131
          cases b131 with
          | false =>
           cases hqb131
          | true =>
           replace hb132 := aB hb132 rfl
           have hqb132 := oI hb132
           subst hqb132
           first | exact yI hqb128 (rA he104a (rA he104b he104c)) (zR hvr127) hK | exact sD hqb128 (rA he104a (rA he104b he104c)) hK
      | true =>
       replace hb128 := aB hb128 rfl
       have hqb128 := oI hb128
       cases b128 with
       | false =>
        cases hqb128
       | true =>
        replace hb129 := aB hb129 rfl
        have hqb129 := oI hb129
        cases b129 with
        | false =>
         cases hqb129
        | true =>
         replace hb130 := aB hb130 rfl
         have hqb130 := oI hb130
         cases b130 with
         | false =>
          cases hqb130
         | true =>
          replace hb131 := aB hb131 rfl
          have hqb131 := oI hb131
          cases b131 with
          | false =>
           cases hqb131
          | true =>
           replace hb132 := aB hb132 rfl
           have hqb132 := oI hb132
           subst hqb132
           try have q0 := zR hvr127
           exact rS (rA he104a (rA he104b he104c))) ?_
    refine xI h1 rfl (fun h1 hb148 => ?_) (fun h1 hb148 => ?_)
    ·
     refine nA 576 [2] (fun _ => none) rfl (fun _ _ => rS (rA he104a (rA he104b he104c))) ?_
     refine kA ?_
     obtain rfl := oI h1
     refine cC (mA (mA (wC (mA ?_))))
     obtain rfl := oI h0
     refine lA [] ?_
     exact rJ (rA he104a (rA he104b he104c))
    refine oA (qB (dA ?_))
    refine nB 592 [1, 3] (fun _ => none) rfl (fun _ _ => rS (rA he104a (rA he104b he104c))) ?_
    refine dA ?_
    exact ⟨⟨(fu, (IntKind.i64.wrap (i100 + 1))), h1⟩, ⟨rF, rE, rfl, rfl, trivial, trivial⟩, Nat.lt_succ_self _⟩
   refine nC (ι := { p : Nat × Int // uJ e104 p.1 p.2 = some x118 }) (fun p => ⟨[(1, .ref 0 0 0 0), (3, .int .i64 i100), (4, .ref 144 0 0 0), (5, .int .i64 p.1.2)], [(0, ⟨0, true, true, 4, [[.int .i64 vs1.Levels.B, .psl 1 (List.map tA.enc vs1.Levels.Levels), .psl 11 (List.map fB.enc vs1.Jobs), .int .i64 vs1.NextId]]⟩), (144, ⟨0, true, true, 10, [[.psl 1 (List.map (sA 4 aA.enc) e104.Work.Merge.Runs), .psl 1 (List.map (fA .i64) e104.Work.Merge.At), .psl 2 (List.map eA.enc e104.Work.Merge.Tree.Keys), .psl 1 (List.map (fA .i64) e104.Work.Merge.Tree.Lose), .int .i64 e104.Work.Merge.Tree.Win, .bool e104.Work.Shadow.Some, .str e104.Work.Shadow.Last, .bool e104.Work.Shadow.Bottom, .psl 4 (List.map aA.enc e104.Work.Out), .int .i64 e104.Work.Steps]]⟩)], 168, []⟩) (fun p => p.1.1) ⟨(fu, 0), hxx118⟩ ⟨rF, rE, rfl, rfl, trivial, trivial⟩ (fun _ => Nat.le_refl _) ?_
   rintro ⟨⟨fu, k119⟩, h2⟩
   cases fu with
   | zero =>
  replace h2 : uJ e104 0 k119 = some x118 := h2
  rw [uJ] at h2; cases h2
   | succ fu =>
    replace h2 : uJ e104 (fu + 1) k119 = some x118 := h2
    rw [uJ] at h2
    dsimp only
    refine iA ?_
    obtain ⟨b120, hb120, h2⟩ := bA h2
    refine mC (fr' := [(1, .ref 0 0 0 0), (3, .int .i64 i100), (4, .ref 144 0 0 0), (5, .int .i64 k119), (32, .bool b120)]) (hp' := [(0, ⟨0, true, true, 4, [[.int .i64 vs1.Levels.B, .psl 1 (List.map tA.enc vs1.Levels.Levels), .psl 11 (List.map fB.enc vs1.Jobs), .int .i64 vs1.NextId]]⟩), (144, ⟨0, true, true, 10, [[.psl 1 (List.map (sA 4 aA.enc) e104.Work.Merge.Runs), .psl 1 (List.map (fA .i64) e104.Work.Merge.At), .psl 2 (List.map eA.enc e104.Work.Merge.Tree.Keys), .psl 1 (List.map (fA .i64) e104.Work.Merge.Tree.Lose), .int .i64 e104.Work.Merge.Tree.Win, .bool e104.Work.Shadow.Some, .str e104.Work.Shadow.Last, .bool e104.Work.Shadow.Bottom, .psl 4 (List.map aA.enc e104.Work.Out), .int .i64 e104.Work.Steps]]⟩)]) [0, 144] 248 [1, 3, 4, 5, 32] (fun _ => none) rfl (fun Kt hK => by
      cases hg121 : (decide (k119 < (e104.Work.Merge.Runs.length : Int))) with
      | false =>
       replace hb120 := qA hb120 hg121
       have hqb120 := oI hb120
       subst hqb120
       exact sD hg121 (rA he104a (rA he104b he104c)) hK
      | true =>
       replace hb120 := aB hb120 hg121
       have hqb120 := oI hb120
       subst hqb120
       exact sD hg121 (rA he104a (rA he104b he104c)) hK) ?_
    refine xI h2 rfl (fun h2 hb122 => ?_) (fun h2 hb122 => ?_)
    ·
     refine oA (dA (iA (xB ?_)))
     obtain ⟨e123, he123, h2⟩ := bA h2
     obtain ⟨he123a, he123b, he123c⟩ := wA he123
     obtain ⟨vr124, hvr124, h2⟩ := bA h2
     refine nA 304 [1, 3, 4, 5, 41] (fun | 6 => some (.bool vr124, []) | _ => none) rfl (fun _ _ => rB (rA he104a (rA he104b (rA he104c (rA he123a (rA he123b he123c))))) (zR hvr124)) ?_
     refine xI h2 rfl (fun h2 hb125 => ?_) (fun h2 hb125 => ?_)
     ·
      refine nA 312 [2] (fun _ => none) rfl (fun _ _ => rS (rA he104a (rA he104b (rA he104c (rA he123a (rA he123b he123c)))))) ?_
      refine kA ?_
      obtain rfl := oI h2
      obtain rfl := oI h1
      refine cC (mA (mA (wC (mA (cC (mA (mA (wC (mA ?_)))))))))
      obtain rfl := oI h0
      refine lA [] ?_
      exact rJ (rA he104a (rA he104b (rA he104c (rA he123a (rA he123b he123c)))))
     refine oA (qB (dA ?_))
     refine nB 328 [1, 3, 4, 5] (fun _ => none) rfl (fun _ _ => rS (rA he104a (rA he104b (rA he104c (rA he123a (rA he123b he123c)))))) ?_
     refine dA ?_
     exact ⟨⟨(fu, (IntKind.i64.wrap (k119 + 1))), h2⟩, ⟨rF, rE, rfl, rfl, trivial, trivial⟩, Nat.lt_succ_self _⟩
    refine fC (xA (xA (iC ?_)))
    obtain rfl := oI h2
    exact ⟨_, rfl, rL, ⟨rF, rE, rfl, rfl, trivial, trivial⟩⟩
  refine fC (xA (xA (iC ?_)))
  obtain rfl := oI h1
  exact ⟨_, rfl, rL, ⟨rF, rE, rfl, rfl, trivial, trivial⟩⟩
theorem zav {fu : Nat} {k1 : List UInt8} {r : Int} (h0 : bO fu k1 = some r) : yA Tryz.prog 146 [.str k1] (.int .i64 r) [] := by
 refine cB Tryz.func146 rfl (by decide) rL ?_
 dsimp only [Tryz.f146]
 rw [bO] at h0
 refine xS 8 [0] ?_
 refine iA ?_
 refine xS 32 [5] ?_
 refine xI h0 rfl (fun h0 hb2 => ?_) (fun h0 hb2 => ?_)
 ·
  refine xS 40 [2] ?_
  refine kA (mA ?_)
  obtain rfl := oI h0
  exact lA [] rG
 refine oA (dA ?_)
 refine xS 40 [2] ?_
 refine kA ?_
 obtain rfl := oI h0
 exact lA [] rG
theorem zbS {fu : Nat} {vx1 : aA} {r : Int} (h0 : kO fu vx1 = some r) : yA Tryz.prog 135 [.agg (aA.enc vx1)] (.int .i64 r) [] := by
 refine cB Tryz.func135 rfl (by decide) rL ?_
 dsimp only [Tryz.f135]
 rw [kO] at h0
 refine xS 16 [1] ?_
 refine iA (xB ?_)
 obtain ⟨vr2, hvr2, h0⟩ := bA h0
 obtain ⟨b3, hb3, h0⟩ := bA h0
 refine mC (fr' := [(1, .ref 0 0 0 0), (3, .bool b3)]) (hp' := [(0, ⟨0, true, true, 4, [[.str vx1.Key, .str vx1.Val, .bool vx1.Dead, .int .i64 vx1.Seq]]⟩)]) [0] 104 [1, 3] (fun | 2 => some (.int .i64 vr2, []) | _ => none) rfl (fun Kt hK => by
   cases hg4 : (!(decide (vr2 = 0))) with
   | false =>
    replace hb3 := qA hb3 hg4
    have hqb3 := oI hb3
    subst hqb3
    first | exact iI hg4 (zav hvr2) hK | exact rW hg4 hK
   | true =>
    replace hb3 := aB hb3 hg4
    have hqb3 := oI hb3
    subst hqb3
    first | exact iI hg4 (zav hvr2) hK | exact rW hg4 hK) ?_
 refine xI h0 rfl (fun h0 hb5 => ?_) (fun h0 hb5 => ?_)
 ·
  refine xS 112 [2] ?_
  refine kA (cC (mA ?_))
  obtain rfl := oI h0
  exact lA [] rG
 obtain ⟨b6, hb6, h0⟩ := bA h0
 refine mC (fr' := [(1, .ref 0 0 0 0), (14, .bool b6)]) (hp' := [(0, ⟨0, true, true, 4, [[.str vx1.Key, .str vx1.Val, .bool vx1.Dead, .int .i64 vx1.Seq]]⟩)]) [0] 168 [1, 14] (fun _ => none) rfl (fun Kt hK => by
   cases hg7 : vx1.Dead with
   | false =>
    replace hb6 := qA hb6 hg7
    have hqb6 := oI hb6
    subst hqb6
    exact rW hg7 hK
   | true =>
    replace hb6 := aB hb6 hg7
    have hqb6 := oI hb6
    subst hqb6
    exact rW hg7 hK) ?_
 refine xI h0 rfl (fun h0 hb8 => ?_) (fun h0 hb8 => ?_)
 ·
  refine xS 176 [2] ?_
  refine kA (cC (mA ?_))
  obtain rfl := oI h0
  exact lA [] rG
 obtain ⟨b9, hb9, h0⟩ := bA h0
 refine mC (fr' := [(22, .bool b9)]) (hp' := [(0, ⟨0, true, true, 4, [[.str vx1.Key, .str vx1.Val, .bool vx1.Dead, .int .i64 vx1.Seq]]⟩)]) [0] 240 [22] (fun _ => none) rfl (fun Kt hK => by
   cases hg10 : (decide (vx1.Seq < 1)) with
   | false =>
    replace hb9 := qA hb9 hg10
    have hqb9 := oI hb9
    subst hqb9
    exact rW hg10 hK
   | true =>
    replace hb9 := aB hb9 hg10
    have hqb9 := oI hb9
    subst hqb9
    exact rW hg10 hK) ?_
 refine xI h0 rfl (fun h0 hb11 => ?_) (fun h0 hb11 => ?_)
 ·
  refine xS 248 [2] ?_
  refine kA (cC (mA ?_))
  obtain rfl := oI h0
  exact lA [] rG
 refine oA (qB (dA ?_))
 refine xS 248 [2] ?_
 refine kA ?_
 obtain rfl := oI h0
 exact lA [] rG
theorem zfe {fu : Nat} {l1 : List aA} {r : Int × Int} (h0 : mJ fu l1 = some r) : yA Tryz.prog 124 [.psl 4 (l1.map aA.enc)] (.tup [.int .i64 r.1, .int .i64 r.2]) [] := by
 refine cB Tryz.func124 rfl (by decide) rL ?_
 dsimp only [Tryz.f124]
 rw [mJ] at h0
 refine xS 16 [0] ?_
 refine iA ?_
 refine xS 40 [0, 9] ?_
 refine xI h0 rfl (fun h0 hb2 => ?_) (fun h0 hb2 => ?_)
 ·
  refine xS 56 [2, 3] ?_
  refine kA (mA ?_)
  obtain rfl := oI h0
  exact lA [] rG
 refine oA (dA (iA ?_))
 refine xS 64 [0, 10, 11, 12] ?_
 obtain ⟨x16, hxx16, h0⟩ := bA h0
 refine oC (fun s' => ∃ o26 : Unit, x16 = .inl o26 ∧ s'.nx ≤ 72 ∧ LeN [] s' ⟨[], [], 72, []⟩) ?_ ?_
 ·
  intro s' hs
  obtain ⟨o26, rfl, hn, hs⟩ := hs
  refine dA ?_
  refine oB [] hn hs ?_
  refine xS 88 [2, 3] ?_
  refine kA ?_
  obtain rfl := oI h0
  exact lA [] rG
 refine nC (ι := { p : Nat × Int // oF l1 p.1 p.2 = some x16 }) (fun p => ⟨[(0, .psl 4 (List.map aA.enc l1)), (10, .psl 4 (List.map aA.enc l1)), (11, .int .i64 (l1.length : Int)), (12, .int .i64 p.1.2)], [], 64, []⟩) (fun p => p.1.1) ⟨(fu, 0), hxx16⟩ ⟨rF, rE, rfl, rfl, trivial, trivial⟩ (fun _ => Nat.le_refl _) ?_
 rintro ⟨⟨fu, v17⟩, h1⟩
 cases fu with
 | zero =>
  replace h1 : oF l1 0 v17 = some x16 := h1
  rw [oF] at h1; cases h1
 | succ fu =>
  replace h1 : oF l1 (fu + 1) v17 = some x16 := h1
  rw [oF] at h1
  dsimp only
  refine xS 72 [0, 10, 11, 12, 13] ?_
  refine iA ?_
  refine xI h1 rfl (fun h1 hb18 => ?_) (fun h1 hb18 => ?_)
  ·
   refine oA (dA (iA (xB ?_)))
   obtain ⟨e19, he19, h1⟩ := bA h1
   obtain ⟨he19a, he19b, he19c⟩ := wA he19
   refine nA 120 [0, 4, 5, 10, 11, 12] (fun _ => none) rfl (fun _ _ => rS (rA he19a (rA he19b he19c))) ?_
   refine iA ?_
   obtain ⟨vr20, hvr20, h1⟩ := bA h1
   refine nA 144 [0, 4, 5, 6, 10, 11, 12] (fun | 1 => some (.int .i64 vr20, []) | _ => none) rfl (fun _ _ => rB (rA he19a (rA he19b he19c)) (zbS hvr20)) ?_
   refine nA 160 [0, 4, 5, 6, 10, 11, 12, 20] (fun _ => none) rfl (fun _ _ => rS (rA he19a (rA he19b he19c))) ?_
   refine xI h1 rfl (fun h1 hb21 => ?_) (fun h1 hb21 => ?_)
   ·
    refine nA 192 [2, 3] (fun _ => none) rfl (fun _ _ => rS (rA he19a (rA he19b he19c))) ?_
    refine kA ?_
    obtain rfl := oI h1
    refine mA (cC (mA (mA (wC (mA ?_)))))
    obtain rfl := oI h0
    refine lA [] ?_
    exact rJ (rA he19a (rA he19b he19c))
   refine oA (dA ?_)
   obtain ⟨b23, hb23, h1⟩ := bA h1
   refine bL (fr' := [(0, .psl 4 (List.map aA.enc l1)), (4, .int .i64 v17), (10, .psl 4 (List.map aA.enc l1)), (11, .int .i64 (l1.length : Int)), (12, .int .i64 v17), (35, .bool b23)]) (hp' := [(96, ⟨0, true, true, 4, [[.str e19.Key, .str e19.Val, .bool e19.Dead, .int .i64 e19.Seq]]⟩)]) [96] 264 [0, 4, 10, 11, 12, 35] (fun _ => none) rfl rfl rfl (fun Kt hK => by
     cases hg24 : (decide (0 < v17)) with
     | false =>
      replace hb23 := qA hb23 hg24
      have hqb23 := oI hb23
      subst hqb23
      exact tG hg24 (rA he19a (rA he19b he19c)) hK
     | true =>
      replace hb23 := aB hb23 hg24
      obtain ⟨e22, he22, hb23⟩ := bA hb23
      obtain ⟨he22a, he22b, he22c⟩ := wA he22
      have hqb23 := oI hb23
      subst hqb23
      exact tG hg24 (rA he19a (rA he19b (rA he19c (rA he22a (rA he22b (rA he22c he22)))))) hK) ?_
   refine xI h1 rfl (fun h1 hb25 => ?_) (fun h1 hb25 => ?_)
   ·
    refine nA 288 [2, 3] (fun _ => none) rfl (fun _ _ => rS (rA he19a (rA he19b he19c))) ?_
    refine kA ?_
    obtain rfl := oI h1
    refine cC (mA (mA (wC (mA ?_))))
    obtain rfl := oI h0
    refine lA [] ?_
    exact rJ (rA he19a (rA he19b he19c))
   refine oA (qB (dA ?_))
   refine nB 280 [0, 10, 11, 12] (fun _ => none) rfl (fun _ _ => rS (rA he19a (rA he19b he19c))) ?_
   refine dA ?_
   exact ⟨⟨(fu, (IntKind.i64.wrap (v17 + 1))), h1⟩, ⟨rF, rE, rfl, rfl, trivial, trivial⟩, Nat.lt_succ_self _⟩
  refine fC (xA (xA (iC ?_)))
  obtain rfl := oI h1
  exact ⟨_, rfl, rL, ⟨rF, rE, rfl, rfl, trivial, trivial⟩⟩
theorem zih {fu : Nat} {vr1 : kB} {r : Int × Int} (h0 : iS fu vr1 = some r) : yA Tryz.prog 98 [.agg (kB.enc vr1)] (.tup [.int .i64 r.1, .int .i64 r.2]) [] := by
 refine cB Tryz.func98 rfl (by decide) rL ?_
 dsimp only [Tryz.f98]
 rw [iS] at h0
 refine xS 24 [1] ?_
 refine iA ?_
 obtain ⟨b2, hb2, h0⟩ := bA h0
 refine mC (fr' := [(1, .ref 0 0 0 0), (11, .bool b2)]) (hp' := [(0, ⟨0, true, true, 2, [[.int .i64 vr1.Id, .psl 4 (List.map aA.enc vr1.Entries)]]⟩)]) [0] 88 [1, 11] (fun _ => none) rfl (fun Kt hK => by
   cases hg3 : (decide (vr1.Id < 1)) with
   | false =>
    replace hb2 := qA hb2 hg3
    have hqb2 := oI hb2
    subst hqb2
    exact rW hg3 hK
   | true =>
    replace hb2 := aB hb2 hg3
    have hqb2 := oI hb2
    subst hqb2
    exact rW hg3 hK) ?_
 refine xI h0 rfl (fun h0 hb4 => ?_) (fun h0 hb4 => ?_)
 ·
  refine xS 104 [2, 3] ?_
  refine kA (mA ?_)
  obtain rfl := oI h0
  exact lA [] rG
 refine oA (dA ?_)
 obtain ⟨vr5, hvr5, h0⟩ := bA h0
 refine nA 144 [2, 3] (fun | 2 => some (.tup [.int .i64 vr5.1, .int .i64 vr5.2], []) | _ => none) rfl (fun _ _ => rC (zfe hvr5)) ?_
 refine kA ?_
 obtain rfl := oI h0
 exact lA [] rG
theorem zfw {fu : Nat} {vr1 : kB} {most2 : Int} {r : Int} (h0 : iR fu vr1 most2 = some r) : yA Tryz.prog 65 [.agg (kB.enc vr1), .int .i64 most2] (.int .i64 r) [] := by
 refine cB Tryz.func65 rfl (by decide) rL ?_
 dsimp only [Tryz.f65]
 rw [iR] at h0
 refine xS 16 [1, 2] ?_
 refine iA ?_
 obtain ⟨vr3, hvr3, h0⟩ := bA h0
 refine nA 72 [1, 2, 6] (fun | 1 => some (.tup [.int .i64 vr3.1, .int .i64 vr3.2], []) | _ => none) rfl (fun _ _ => rC (zih hvr3)) ?_
 refine xS 88 [1, 2, 6, 14] ?_
 refine xI h0 rfl (fun h0 hb4 => ?_) (fun h0 hb4 => ?_)
 ·
  refine xS 104 [4] ?_
  refine kA (mA ?_)
  obtain rfl := oI h0
  exact lA [] rG
 refine oA (dA (iA ?_))
 refine xS 120 [1, 7] ?_
 refine xB ?_
 refine xS 144 [1, 7, 19] ?_
 refine xI h0 rfl (fun h0 hb5 => ?_) (fun h0 hb5 => ?_)
 ·
  refine xS 152 [4] ?_
  refine kA (cC (mA ?_))
  obtain rfl := oI h0
  exact lA [] rG
 refine xS 176 [22] ?_
 refine xI h0 rfl (fun h0 hb6 => ?_) (fun h0 hb6 => ?_)
 ·
  refine xS 184 [4] ?_
  refine kA (cC (mA ?_))
  obtain rfl := oI h0
  exact lA [] rG
 refine oA (qB (dA ?_))
 refine xS 184 [4] ?_
 refine kA ?_
 obtain rfl := oI h0
 exact lA [] rG
theorem zcb {fu : Nat} {l1 : iB} {r : Int × Int × Int} (h0 : oJ fu l1 = some r) : yA Tryz.prog 35 [.agg (iB.enc l1)] (.tup [.int .i64 r.1, .int .i64 r.2.1, .int .i64 r.2.2]) [] := by
 refine zo7 Tryz.func35 rfl (by decide) rL ?_
 dsimp only [Tryz.f35]
 rw [oJ] at h0
 refine zaM ?_
 refine xR 32 [1, 2, 3, 4] ?_
 refine dA (zlZ (zaM (xB ?_)))
 obtain ⟨b2, hb2, h0⟩ := bA h0
 refine mC (fr' := [(1, .ref 0 0 0 0), (2, .int .i64 0), (3, .int .i64 0), (4, .int .i64 0), (11, .bool b2)]) (hp' := [(0, ⟨0, true, true, 2, [[.int .i64 l1.B, .psl 1 (List.map tA.enc l1.Levels)]]⟩)]) [0] 104 [1, 2, 3, 4, 11] (fun _ => none) rfl (fun Kt hK => by
   cases hg3 : (decide (l1.B < 1)) with
   | false =>
    replace hb2 := qA hb2 hg3
    have hqb2 := oI hb2
    subst hqb2
    exact rW hg3 hK
   | true =>
    replace hb2 := aB hb2 hg3
    have hqb2 := oI hb2
    subst hqb2
    exact rW hg3 hK) ?_
 refine xI h0 rfl (fun h0 hb4 => ?_) (fun h0 hb4 => ?_)
 ·
  refine xS 128 [2, 3, 4] ?_
  refine kA (cC (mA ?_))
  obtain rfl := oI h0
  exact lA [] rG
 refine xS 144 [1, 2, 3, 4, 20] ?_
 refine xI h0 rfl (fun h0 hb5 => ?_) (fun h0 hb5 => ?_)
 ·
  refine xS 168 [2, 3, 4] ?_
  refine kA (cC (mA ?_))
  obtain rfl := oI h0
  exact lA [] rG
 refine oA (qB (dA (zaM ?_)))
 refine oW 2 rfl ?_
 refine lC (l' := 0 :: (List.range' 1 1 ++ [])) rfl ?_
 refine zl5 rfl rfl rfl rfl ?_
 refine iK (s2 := ⟨[(1, .ref 0 0 0 0), (2, .int .i64 0), (3, .int .i64 0), (4, .int .i64 0), (20, .bool (decide (12 < (l1.Levels.length : Int)))), (25, .mp 144)], [(0, ⟨0, true, true, 2, [[.int .i64 l1.B, .psl 1 (List.map tA.enc l1.Levels)]]⟩)], 152, [(144, (iF (kE (fun n : Int => AV.int .i64 n) AV.bool ([] : List (Int × Bool)))))]⟩) [] rL ⟨rF, rE, rfl, rfl, (gC.consM rL rfl trivial), trivial⟩ ?_
 refine lC (l' := List.range' 1 1 ++ []) rfl ?_
 refine sC 1 1 160 [] (fun _ => none) rfl rfl rfl (fun _ _ => rT) ?_
 refine kD ?_
 refine dA ?_
 refine fwp_re (s2 := ⟨[(1, .ref 0 0 0 0), (2, .int .i64 0), (3, .int .i64 0), (4, .int .i64 0), (5, .mp 144)], [(0, ⟨0, true, true, 2, [[.int .i64 l1.B, .psl 1 (List.map tA.enc l1.Levels)]]⟩)], 160, [(144, (iF (kE (fun n : Int => AV.int .i64 n) AV.bool ([] : List (Int × Bool)))))]⟩) [] rL ⟨rF, rE, rfl, rfl, (gC.consM rL rfl trivial), trivial⟩ ?_
 refine znG (l := 144) rfl rfl rfl rfl rfl rfl rfl rfl rL rfl rfl rfl rfl rfl nY ?_
 refine oB (s2 := ⟨[(1, .ref 0 0 0 0), (2, .int .i64 0), (3, .int .i64 0), (4, .int .i64 0), (5, .mp 144)], [(0, ⟨0, true, true, 2, [[.int .i64 l1.B, .psl 1 (List.map tA.enc l1.Levels)]]⟩)], 160, [(144, (iF (kE (fun n : Int => AV.int .i64 n) AV.bool ([] : List (Int × Bool)))))]⟩) [] rL ⟨rF, rE, rfl, rfl, (gC.consM rL rfl trivial), trivial⟩ ?_
 refine iA ?_
 refine zd4 ?_
 refine dA (iA ?_)
 refine xS 192 [1, 2, 3, 4, 5, 28, 29, 30] ?_
 obtain ⟨x162, hxx162, h0⟩ := bA h0
 refine oC (fun s' => s'.nx ≤ 552 ∧ LeN [] s' ⟨[(1, .ref 0 0 0 0), (2, .int .i64 x162.1), (3, .int .i64 x162.2.1), (4, .int .i64 x162.2.2.1)], [(0, ⟨0, true, true, 2, [[.int .i64 l1.B, .psl 1 (List.map tA.enc l1.Levels)]]⟩)], 552, [(144, (iF (kE (fun n : Int => AV.int .i64 n) AV.bool x162.2.2.2)))]⟩) ?_ ?_
 ·
  intro s' hs
  obtain ⟨hn, hs⟩ := hs
  refine dA ?_
  refine oB [] hn hs ?_
  refine iA ?_
  refine xS 568 [1, 2, 3, 4, 71] ?_
  refine xI h0 rfl (fun h0 hb217 => ?_) (fun h0 hb217 => ?_)
  ·
   refine xS 616 [2, 3, 4] ?_
   refine kA (mA (zb6 rfl rfl ?_))
   obtain rfl := oI h0
   exact lA [] rG
  refine oA (dA (iA ?_))
  refine xS 600 [1, 10] ?_
  obtain ⟨b219, hb219, h0⟩ := bA h0
  refine mC (fr' := [(10, .int .i64 (l1.Levels.length : Int)), (90, .bool b219)]) (hp' := [(0, ⟨0, true, true, 2, [[.int .i64 l1.B, .psl 1 (List.map tA.enc l1.Levels)]]⟩)]) [0, 144] 704 [10, 90] (fun _ => none) rfl (fun Kt hK => by
    cases hg220 : (decide (0 < (l1.Levels.length : Int))) with
    | false =>
     replace hb219 := qA hb219 hg220
     have hqb219 := oI hb219
     subst hqb219
     exact rW hg220 hK
    | true =>
     replace hb219 := aB hb219 hg220
     obtain ⟨e218, he218, hb219⟩ := bA hb219
     obtain ⟨he218a, he218b, he218c⟩ := wA he218
     have hqb219 := oI hb219
     subst hqb219
     exact sD hg220 (rA he218a (rA he218b (rA he218c he218))) hK) ?_
  refine xI h0 rfl (fun h0 hb221 => ?_) (fun h0 hb221 => ?_)
  ·
   refine xS 744 [2, 3, 4] ?_
   refine kA (mA (zb6 rfl rfl ?_))
   obtain rfl := oI h0
   exact lA [] rG
  refine oA (dA ?_)
  refine xS 728 [2, 3, 4] ?_
  refine kA (zb6 rfl rfl ?_)
  obtain rfl := oI h0
  exact lA [] rG
 refine nC (ι := { p : Nat × Int × Int × Int × (List (Int × Bool)) × Int // fG l1 p.1 p.2.1 p.2.2.1 p.2.2.2.1 p.2.2.2.2.1 p.2.2.2.2.2 = some x162 }) (fun p => ⟨[(1, .ref 0 0 0 0), (2, .int .i64 p.1.2.2.2.2.2), (3, .int .i64 p.1.2.1), (4, .int .i64 p.1.2.2.1), (5, .mp 144), (28, .psl 1 (List.map tA.enc l1.Levels)), (29, .int .i64 (l1.Levels.length : Int)), (30, .int .i64 p.1.2.2.2.1)], [(0, ⟨0, true, true, 2, [[.int .i64 l1.B, .psl 1 (List.map tA.enc l1.Levels)]]⟩)], 192, [(144, (iF (kE (fun n : Int => AV.int .i64 n) AV.bool p.1.2.2.2.2.1)))]⟩) (fun p => p.1.1) ⟨(fu, 0, 0, 0, ([] : List (Int × Bool)), 0), hxx162⟩ ⟨rF, rE, rfl, rfl, (gC.consM rL rfl trivial), trivial⟩ (fun _ => Nat.le_refl _) ?_
 rintro ⟨⟨fu, run163, e164, v165, v166, level167⟩, h1⟩
 cases fu with
 | zero =>
  replace h1 : fG l1 0 run163 e164 v165 v166 level167 = some x162 := h1
  rw [fG] at h1; cases h1
 | succ fu =>
  replace h1 : fG l1 (fu + 1) run163 e164 v165 v166 level167 = some x162 := h1
  rw [fG] at h1
  dsimp only
  refine xS 200 [1, 2, 3, 4, 5, 28, 29, 30, 31] ?_
  refine iA ?_
  refine xI h1 rfl (fun h1 hb168 => ?_) (fun h1 hb168 => ?_)
  ·
   refine oA (dA (iA (xB ?_)))
   obtain ⟨e169, he169, h1⟩ := bA h1
   obtain ⟨he169a, he169b, he169c⟩ := wA he169
   refine nA 248 [1, 4, 5, 6, 7, 28, 29, 30] (fun _ => none) rfl (fun _ _ => rS (rA he169a (rA he169b he169c))) ?_
   refine nA 272 [1, 2, 3, 4, 5, 6, 7, 28, 29, 30] (fun _ => none) rfl (fun _ _ => rS (rA he169a (rA he169b he169c))) ?_
   refine iA ?_
   refine nA 304 [1, 2, 3, 4, 5, 6, 7, 28, 29, 30, 39] (fun _ => none) rfl (fun _ _ => rS (rA he169a (rA he169b he169c))) ?_
   refine xI h1 rfl (fun h1 hb170 => ?_) (fun h1 hb170 => ?_)
   ·
    refine nA 312 [1, 2, 3, 4] (fun _ => none) rfl (fun _ _ => rS (rA he169a (rA he169b he169c))) ?_
    refine fC (xA (xP (by decide) (xA (xA (iC ?_)))))
    obtain rfl := oI h1
    exact ⟨rL, ⟨rF, rE, rfl, rfl, (gC.consM rL rfl trivial), trivial⟩⟩
   refine oA (dA ?_)
   refine nA 336 [1, 2, 3, 4, 5, 6, 28, 29, 30, 41, 42, 43] (fun _ => none) rfl (fun _ _ => rS (rA he169a (rA he169b he169c))) ?_
   obtain ⟨x202, hxx202, h1⟩ := bA h1
   refine oC (fun s' => ∃ o215 : Int × Int × (List (Int × Bool)), x202 = .inl o215 ∧ s'.nx ≤ 344 ∧ LeN [] s' ⟨[(1, .ref 0 0 0 0), (2, .int .i64 v165), (3, .int .i64 o215.1), (4, .int .i64 o215.2.1), (5, .mp 144), (28, .psl 1 (List.map tA.enc l1.Levels)), (29, .int .i64 (l1.Levels.length : Int)), (30, .int .i64 v165)], [(0, ⟨0, true, true, 2, [[.int .i64 l1.B, .psl 1 (List.map tA.enc l1.Levels)]]⟩)], 344, [(144, (iF (kE (fun n : Int => AV.int .i64 n) AV.bool o215.2.2)))]⟩) ?_ ?_
   ·
    intro s' hs
    obtain ⟨o215, rfl, hn, hs⟩ := hs
    refine qB (dA ?_)
    refine oB [] hn hs ?_
    refine nB 360 [1, 2, 3, 4, 5, 28, 29, 30] (fun _ => none) rfl (fun _ _ => rS (rA he169a (rA he169b he169c))) ?_
    refine dA ?_
    exact ⟨⟨(fu, o215.1, o215.2.1, (IntKind.i64.wrap (v165 + 1)), o215.2.2, v165), h1⟩, ⟨rF, rE, rfl, rfl, (gC.consM rL rfl trivial), trivial⟩, Nat.lt_succ_self _⟩
   refine nC (ι := { p : Nat × Int × Int × (List (Int × Bool)) × Int // zF e169 v165 l1 p.1 p.2.1 p.2.2.1 p.2.2.2.1 p.2.2.2.2 = some x202 }) (fun p => ⟨[(1, .ref 0 0 0 0), (2, .int .i64 v165), (3, .int .i64 p.1.2.2.2.2), (4, .int .i64 p.1.2.1), (5, .mp 144), (6, .int .i64 v165), (28, .psl 1 (List.map tA.enc l1.Levels)), (29, .int .i64 (l1.Levels.length : Int)), (30, .int .i64 v165), (41, .psl 2 (List.map kB.enc e169.Runs)), (42, .int .i64 (e169.Runs.length : Int)), (43, .int .i64 p.1.2.2.1)], [(0, ⟨0, true, true, 2, [[.int .i64 l1.B, .psl 1 (List.map tA.enc l1.Levels)]]⟩)], 336, [(144, (iF (kE (fun n : Int => AV.int .i64 n) AV.bool p.1.2.2.2.1)))]⟩) (fun p => p.1.1) ⟨(fu, e164, 0, v166, 0), hxx202⟩ ⟨rF, rE, rfl, rfl, (gC.consM rL rfl trivial), trivial⟩ (fun _ => Nat.le_refl _) ?_
   rintro ⟨⟨fu, e203, v204, v205, run206⟩, h2⟩
   cases fu with
   | zero =>
  replace h2 : zF e169 v165 l1 0 e203 v204 v205 run206 = some x202 := h2
  rw [zF] at h2; cases h2
   | succ fu =>
    replace h2 : zF e169 v165 l1 (fu + 1) e203 v204 v205 run206 = some x202 := h2
    rw [zF] at h2
    dsimp only
    refine nA 344 [1, 2, 3, 4, 5, 6, 28, 29, 30, 41, 42, 43, 44] (fun _ => none) rfl (fun _ _ => rS (rA he169a (rA he169b he169c))) ?_
    refine iA ?_
    refine xI h2 rfl (fun h2 hb207 => ?_) (fun h2 hb207 => ?_)
    ·
     refine oA (dA (iA (xB ?_)))
     obtain ⟨e208, he208, h2⟩ := bA h2
     obtain ⟨he208a, he208b, he208c⟩ := wA he208
     refine nA 392 [1, 2, 5, 6, 8, 9, 28, 29, 30, 41, 42, 43] (fun _ => none) rfl (fun _ _ => rS (rA he169a (rA he169b (rA he169c (rA he208a (rA he208b he208c)))))) ?_
     refine nA 408 [1, 2, 3, 5, 6, 9, 28, 29, 30, 41, 42, 43] (fun _ => none) rfl (fun _ _ => rS (rA he169a (rA he169b (rA he169c (rA he208a (rA he208b he208c)))))) ?_
     refine iA ?_
     obtain ⟨hc209, h2⟩ := pD h2
     obtain ⟨vr210, hvr210, h2⟩ := bA h2
     refine pC 464 [1, 2, 3, 4, 5, 6, 9, 28, 29, 30, 41, 42, 43] (fun | 5 => some (.int .i64 vr210, []) | _ => none) rfl rfl rfl (fun _ _ => pP (rA he169a (rA he169b (rA he169c (rA he208a (rA he208b he208c))))) (zfw hvr210)) ?_
     refine sH 8 rfl ?_
     refine lC (l' := List.range' 0 3 ++ (List.range' 3 5 ++ [])) rfl ?_
     refine sC 0 3 488 (List.range' 3 5 ++ []) (fun _ => none) rfl rfl rfl (fun _ _ => rS (rA he169a (rA he169b (rA he169c (rA he208a (rA he208b he208c)))))) ?_
     refine iK (s2 := ⟨[(1, .ref 0 0 0 0), (2, .int .i64 v165), (3, .int .i64 v204), (4, .int .i64 vr210), (5, .mp 144), (6, .int .i64 v165), (9, .ref 368 0 0 0), (28, .psl 1 (List.map tA.enc l1.Levels)), (29, .int .i64 (l1.Levels.length : Int)), (30, .int .i64 v165), (41, .psl 2 (List.map kB.enc e169.Runs)), (42, .int .i64 (e169.Runs.length : Int)), (43, .int .i64 v204), (55, .int .i64 vr210), (56, .bool (decide (vr210 = 0))), (57, .bool (decide (vr210 = 0)))], [(0, ⟨0, true, true, 2, [[.int .i64 l1.B, .psl 1 (List.map tA.enc l1.Levels)]]⟩), (368, ⟨0, true, true, 2, [[.int .i64 e208.Id, .psl 4 (List.map aA.enc e208.Entries)]]⟩)], 488, [(144, (iF (kE (fun n : Int => AV.int .i64 n) AV.bool v205)))]⟩) [] rL ⟨rF, rE, rfl, rfl, (gC.consM rL rfl trivial), trivial⟩ ?_
     generalize hg211 : (decide (vr210 = 0)) = b211
     cases b211 with
     | true =>
      replace h2 := aB h2 hg211
      refine lC (l' := List.range' 3 3 ++ (6 :: (List.range' 7 1 ++ []))) rfl ?_
      refine sC 3 3 512 (6 :: (List.range' 7 1 ++ [])) (fun _ => none) rfl rfl rfl (fun _ _ => rS (rA he169a (rA he169b (rA he169c (rA he208a (rA he208b he208c)))))) ?_
      refine znb (l := 144) (ek := (fun n : Int => AV.int .i64 n)) (ev := AV.bool) (m := v205) (n := e208.Id) (z := false) rfl rfl rfl rfl nY zbZ zla (fun _ => rfl) rfl rfl rfl ?_
      refine iK (s2 := ⟨[(1, .ref 0 0 0 0), (2, .int .i64 v165), (3, .int .i64 v204), (4, .int .i64 vr210), (5, .mp 144), (6, .int .i64 v165), (9, .ref 368 0 0 0), (28, .psl 1 (List.map tA.enc l1.Levels)), (29, .int .i64 (l1.Levels.length : Int)), (30, .int .i64 v165), (41, .psl 2 (List.map kB.enc e169.Runs)), (42, .int .i64 (e169.Runs.length : Int)), (43, .int .i64 v204), (55, .int .i64 vr210), (56, .bool true), (57, .bool true), (58, .mp 144), (59, .ref 368 0 0 0), (60, .int .i64 e208.Id), (61, .bool ((zE v205 e208.Id).getD false))], [(0, ⟨0, true, true, 2, [[.int .i64 l1.B, .psl 1 (List.map tA.enc l1.Levels)]]⟩), (368, ⟨0, true, true, 2, [[.int .i64 e208.Id, .psl 4 (List.map aA.enc e208.Entries)]]⟩)], 520, [(144, (iF (kE (fun n : Int => AV.int .i64 n) AV.bool v205)))]⟩) [] rL ⟨rF, rE, rfl, rfl, (gC.consM rL rfl trivial), trivial⟩ ?_
      refine lC (l' := List.range' 7 1 ++ []) rfl ?_
      refine sC 7 1 528 [] (fun _ => none) rfl rfl rfl (fun _ _ => rS (rA he169a (rA he169b (rA he169c (rA he208a (rA he208b he208c)))))) ?_
      refine kD ?_
      refine dA ?_
      refine oB (s2 := ⟨[(1, .ref 0 0 0 0), (2, .int .i64 v165), (3, .int .i64 v204), (4, .int .i64 vr210), (5, .mp 144), (6, .int .i64 v165), (9, .ref 368 0 0 0), (28, .psl 1 (List.map tA.enc l1.Levels)), (29, .int .i64 (l1.Levels.length : Int)), (30, .int .i64 v165), (41, .psl 2 (List.map kB.enc e169.Runs)), (42, .int .i64 (e169.Runs.length : Int)), (43, .int .i64 v204), (58, .mp 144), (59, .ref 368 0 0 0), (60, .int .i64 e208.Id), (61, .bool ((zE v205 e208.Id).getD false)), (62, .bool ((zE v205 e208.Id).getD false))], [(0, ⟨0, true, true, 2, [[.int .i64 l1.B, .psl 1 (List.map tA.enc l1.Levels)]]⟩), (368, ⟨0, true, true, 2, [[.int .i64 e208.Id, .psl 4 (List.map aA.enc e208.Entries)]]⟩)], 528, [(144, (iF (kE (fun n : Int => AV.int .i64 n) AV.bool v205)))]⟩) [] rL ⟨rF, rE, rfl, rfl, (gC.consM rL rfl trivial), trivial⟩ ?_
      refine xI h2 rfl (fun h2 hb212 => ?_) (fun h2 hb212 => ?_)
      ·
       refine nB 536 [1, 2, 3, 4, 5, 6, 9, 28, 29, 30, 41, 42, 43, 58, 59, 60, 61] (fun _ => none) rfl (fun _ _ => rS (rA he169a (rA he169b (rA he169c (rA he208a (rA he208b he208c)))))) ?_
       refine dA (iA ?_)
       refine nA 552 [1, 2, 3, 4, 5, 6, 9, 28, 29, 30, 41, 42, 43, 58, 59, 60, 61, 64] (fun _ => none) rfl (fun _ _ => rS (rA he169a (rA he169b (rA he169c (rA he208a (rA he208b he208c)))))) ?_
       refine kK rfl ?_
       refine fC ?_
       obtain rfl := oI h2
       refine xA (xP (by decide) (xA (xA (zbf (by decide) (xP (by decide) (xA (xA (iC ?_))))))))
       obtain rfl := oI h1
       exact ⟨rL, ⟨rF, rE, rfl, rfl, (gC.consM rL rfl trivial), trivial⟩⟩
      refine oA (dA (iA ?_))
      refine nA 544 [1, 2, 3, 4, 5, 6, 9, 28, 29, 30, 41, 42, 43, 58, 59, 60, 61, 64] (fun _ => none) rfl (fun _ _ => rS (rA he169a (rA he169b (rA he169c (rA he208a (rA he208b he208c)))))) ?_
      refine xI h2 rfl (fun h2 hb213 => ?_) (fun h2 hb213 => ?_)
      ·
       refine fC ?_
       obtain rfl := oI h2
       refine xA (xP (by decide) (xA (xA (zbf (by decide) (xP (by decide) (xA (xA (iC ?_))))))))
       obtain rfl := oI h1
       exact ⟨rL, ⟨rF, rE, rfl, rfl, (gC.consM rL rfl trivial), trivial⟩⟩
      refine oA (dA ?_)
      refine oW 4 rfl ?_
      refine lC (l' := List.range' 0 3 ++ (3 :: (List.range' 4 0 ++ []))) rfl ?_
      refine sC 0 3 568 (3 :: (List.range' 4 0 ++ [])) (fun _ => none) rfl rfl rfl (fun _ _ => rS (rA he169a (rA he169b (rA he169c (rA he208a (rA he208b he208c)))))) ?_
      refine zdT (l := 144) (ek := (fun n : Int => AV.int .i64 n)) (ev := AV.bool) (m := v205) (n := e208.Id) (y := true) rfl rfl rfl rfl nY zbZ (fun _ => rfl) rfl rfl rfl rfl ?_
      refine iK (s2 := ⟨[(1, .ref 0 0 0 0), (2, .int .i64 v165), (3, .int .i64 v204), (4, .int .i64 vr210), (5, .mp 144), (6, .int .i64 v165), (9, .ref 368 0 0 0), (28, .psl 1 (List.map tA.enc l1.Levels)), (29, .int .i64 (l1.Levels.length : Int)), (30, .int .i64 v165), (41, .psl 2 (List.map kB.enc e169.Runs)), (42, .int .i64 (e169.Runs.length : Int)), (43, .int .i64 v204), (58, .mp 144), (59, .ref 368 0 0 0), (60, .int .i64 e208.Id), (61, .bool ((zE v205 e208.Id).getD false)), (64, .bool (!(decide (vr210 = 0)))), (65, .mp 144), (66, .ref 368 0 0 0), (67, .int .i64 e208.Id)], [(0, ⟨0, true, true, 2, [[.int .i64 l1.B, .psl 1 (List.map tA.enc l1.Levels)]]⟩), (368, ⟨0, true, true, 2, [[.int .i64 e208.Id, .psl 4 (List.map aA.enc e208.Entries)]]⟩)], 576, [(144, (iF (kE (fun n : Int => AV.int .i64 n) AV.bool (mF v205 e208.Id true))))]⟩) [] rL ⟨rF, rE, rfl, rfl, (gC.consM rL rfl trivial), trivial⟩ ?_
      refine lC (l' := []) rfl ?_
      refine kD ?_
      refine qB (dA ?_)
      refine oB (s2 := ⟨[(1, .ref 0 0 0 0), (2, .int .i64 v165), (3, .int .i64 v204), (4, .int .i64 vr210), (5, .mp 144), (6, .int .i64 v165), (28, .psl 1 (List.map tA.enc l1.Levels)), (29, .int .i64 (l1.Levels.length : Int)), (30, .int .i64 v165), (41, .psl 2 (List.map kB.enc e169.Runs)), (42, .int .i64 (e169.Runs.length : Int)), (43, .int .i64 v204), (58, .mp 144), (59, .ref 368 0 0 0), (60, .int .i64 e208.Id), (61, .bool ((zE v205 e208.Id).getD false))], [(0, ⟨0, true, true, 2, [[.int .i64 l1.B, .psl 1 (List.map tA.enc l1.Levels)]]⟩), (368, ⟨0, true, true, 2, [[.int .i64 e208.Id, .psl 4 (List.map aA.enc e208.Entries)]]⟩)], 576, [(144, (iF (kE (fun n : Int => AV.int .i64 n) AV.bool (mF v205 e208.Id true))))]⟩) [] rL ⟨rF, rE, rfl, rfl, (gC.consM rL rfl trivial), trivial⟩ ?_
      refine nB 592 [1, 2, 3, 4, 5, 6, 28, 29, 30, 41, 42, 43, 58, 59, 60, 61] (fun _ => none) rfl (fun _ _ => rS (rA he169a (rA he169b (rA he169c (rA he208a (rA he208b he208c)))))) ?_
      refine dA ?_
      exact ⟨⟨(fu, vr210, (IntKind.i64.wrap (v204 + 1)), (mF v205 e208.Id true), v204), h2⟩, ⟨rF, rE, rfl, rfl, (gC.consM rL rfl trivial), trivial⟩, Nat.lt_succ_self _⟩
     | false =>
      replace h2 := qA h2 hg211
      refine lC (l' := List.range' 3 5 ++ []) rfl ?_
      refine sC 3 5 528 [] (fun _ => none) rfl rfl rfl (fun _ _ => rS (rA he169a (rA he169b (rA he169c (rA he208a (rA he208b he208c)))))) ?_
      refine kD ?_
      refine dA ?_
      refine oB (s2 := ⟨[(1, .ref 0 0 0 0), (2, .int .i64 v165), (3, .int .i64 v204), (4, .int .i64 vr210), (5, .mp 144), (6, .int .i64 v165), (9, .ref 368 0 0 0), (28, .psl 1 (List.map tA.enc l1.Levels)), (29, .int .i64 (l1.Levels.length : Int)), (30, .int .i64 v165), (41, .psl 2 (List.map kB.enc e169.Runs)), (42, .int .i64 (e169.Runs.length : Int)), (43, .int .i64 v204), (62, .bool false)], [(0, ⟨0, true, true, 2, [[.int .i64 l1.B, .psl 1 (List.map tA.enc l1.Levels)]]⟩), (368, ⟨0, true, true, 2, [[.int .i64 e208.Id, .psl 4 (List.map aA.enc e208.Entries)]]⟩)], 528, [(144, (iF (kE (fun n : Int => AV.int .i64 n) AV.bool v205)))]⟩) [] rL ⟨rF, rE, rfl, rfl, (gC.consM rL rfl trivial), trivial⟩ ?_
      refine qF rfl ?_
      refine oA (dA (iA ?_))
      refine nA 544 [1, 2, 3, 4, 5, 6, 9, 28, 29, 30, 41, 42, 43, 64] (fun _ => none) rfl (fun _ _ => rS (rA he169a (rA he169b (rA he169c (rA he208a (rA he208b he208c)))))) ?_
      refine xI h2 rfl (fun h2 hb214 => ?_) (fun h2 hb214 => ?_)
      ·
       refine fC ?_
       obtain rfl := oI h2
       refine xA (xP (by decide) (xA (xA (zbf (by decide) (xP (by decide) (xA (xA (iC ?_))))))))
       obtain rfl := oI h1
       exact ⟨rL, ⟨rF, rE, rfl, rfl, (gC.consM rL rfl trivial), trivial⟩⟩
      refine oA (dA ?_)
      refine oW 4 rfl ?_
      refine lC (l' := List.range' 0 3 ++ (3 :: (List.range' 4 0 ++ []))) rfl ?_
      refine sC 0 3 568 (3 :: (List.range' 4 0 ++ [])) (fun _ => none) rfl rfl rfl (fun _ _ => rS (rA he169a (rA he169b (rA he169c (rA he208a (rA he208b he208c)))))) ?_
      refine zdT (l := 144) (ek := (fun n : Int => AV.int .i64 n)) (ev := AV.bool) (m := v205) (n := e208.Id) (y := true) rfl rfl rfl rfl nY zbZ (fun _ => rfl) rfl rfl rfl rfl ?_
      refine iK (s2 := ⟨[(1, .ref 0 0 0 0), (2, .int .i64 v165), (3, .int .i64 v204), (4, .int .i64 vr210), (5, .mp 144), (6, .int .i64 v165), (9, .ref 368 0 0 0), (28, .psl 1 (List.map tA.enc l1.Levels)), (29, .int .i64 (l1.Levels.length : Int)), (30, .int .i64 v165), (41, .psl 2 (List.map kB.enc e169.Runs)), (42, .int .i64 (e169.Runs.length : Int)), (43, .int .i64 v204), (64, .bool (!(decide (vr210 = 0)))), (65, .mp 144), (66, .ref 368 0 0 0), (67, .int .i64 e208.Id)], [(0, ⟨0, true, true, 2, [[.int .i64 l1.B, .psl 1 (List.map tA.enc l1.Levels)]]⟩), (368, ⟨0, true, true, 2, [[.int .i64 e208.Id, .psl 4 (List.map aA.enc e208.Entries)]]⟩)], 576, [(144, (iF (kE (fun n : Int => AV.int .i64 n) AV.bool (mF v205 e208.Id true))))]⟩) [] rL ⟨rF, rE, rfl, rfl, (gC.consM rL rfl trivial), trivial⟩ ?_
      refine lC (l' := []) rfl ?_
      refine kD ?_
      refine qB (dA ?_)
      refine oB (s2 := ⟨[(1, .ref 0 0 0 0), (2, .int .i64 v165), (3, .int .i64 v204), (4, .int .i64 vr210), (5, .mp 144), (6, .int .i64 v165), (28, .psl 1 (List.map tA.enc l1.Levels)), (29, .int .i64 (l1.Levels.length : Int)), (30, .int .i64 v165), (41, .psl 2 (List.map kB.enc e169.Runs)), (42, .int .i64 (e169.Runs.length : Int)), (43, .int .i64 v204)], [(0, ⟨0, true, true, 2, [[.int .i64 l1.B, .psl 1 (List.map tA.enc l1.Levels)]]⟩)], 576, [(144, (iF (kE (fun n : Int => AV.int .i64 n) AV.bool (mF v205 e208.Id true))))]⟩) [] rL ⟨rF, rE, rfl, rfl, (gC.consM rL rfl trivial), trivial⟩ ?_
      refine nB 592 [1, 2, 3, 4, 5, 6, 28, 29, 30, 41, 42, 43] (fun _ => none) rfl (fun _ _ => rS (rA he169a (rA he169b (rA he169c (rA he208a (rA he208b he208c)))))) ?_
      refine dA ?_
      exact ⟨⟨(fu, vr210, (IntKind.i64.wrap (v204 + 1)), (mF v205 e208.Id true), v204), h2⟩, ⟨rF, rE, rfl, rfl, (gC.consM rL rfl trivial), trivial⟩, Nat.lt_succ_self _⟩
    refine fC (xA (xA (iC ?_)))
    obtain rfl := oI h2
    exact ⟨_, rfl, rL, ⟨rF, rE, rfl, rfl, (gC.consM rL rfl trivial), trivial⟩⟩
  refine fC (xA (xA (iC ?_)))
  obtain rfl := oI h1
  exact ⟨rL, ⟨rF, rE, rfl, rfl, (gC.consM rL rfl trivial), trivial⟩⟩
theorem zcm {fu : Nat} {l1 : iB} {r : Int} (h0 : vN fu l1 = some r) : yA Tryz.prog 36 [.agg (iB.enc l1)] (.int .i64 r) [] := by
 refine cB Tryz.func36 rfl (by decide) rL ?_
 dsimp only [Tryz.f36]
 rw [vN] at h0
 refine xS 16 [1, 2] ?_
 refine iA ?_
 refine xS 48 [2, 8, 9, 10] ?_
 obtain ⟨x30, hxx30, h0⟩ := bA h0
 refine oC (fun s' => s'.nx ≤ 56 ∧ LeN [] s' ⟨[(2, .int .i64 x30)], [], 56, []⟩) ?_ ?_
 ·
  intro s' hs
  obtain ⟨hn, hs⟩ := hs
  refine dA ?_
  refine oB [] hn hs ?_
  refine xS 72 [2] ?_
  refine kA ?_
  obtain rfl := oI h0
  exact lA [] rG
 refine nC (ι := { p : Nat × Int × Int // fI l1 p.1 p.2.1 p.2.2 = some x30 }) (fun p => ⟨[(2, .int .i64 p.1.2.1), (8, .psl 1 (List.map tA.enc l1.Levels)), (9, .int .i64 (l1.Levels.length : Int)), (10, .int .i64 p.1.2.2)], [], 48, []⟩) (fun p => p.1.1) ⟨(fu, 0, 0), hxx30⟩ ⟨rF, rE, rfl, rfl, trivial, trivial⟩ (fun _ => Nat.le_refl _) ?_
 rintro ⟨⟨fu, best31, v32⟩, h1⟩
 cases fu with
 | zero =>
  replace h1 : fI l1 0 best31 v32 = some x30 := h1
  rw [fI] at h1; cases h1
 | succ fu =>
  replace h1 : fI l1 (fu + 1) best31 v32 = some x30 := h1
  rw [fI] at h1
  dsimp only
  refine xS 56 [2, 8, 9, 10, 11] ?_
  refine iA ?_
  refine xI h1 rfl (fun h1 hb33 => ?_) (fun h1 hb33 => ?_)
  ·
   refine oA (dA (iA (xB ?_)))
   obtain ⟨e34, he34, h1⟩ := bA h1
   obtain ⟨he34a, he34b, he34c⟩ := wA he34
   refine nA 88 [2, 4, 8, 9, 10] (fun _ => none) rfl (fun _ _ => rS (rA he34a (rA he34b he34c))) ?_
   refine nA 120 [2, 8, 9, 10, 15, 16, 17] (fun _ => none) rfl (fun _ _ => rS (rA he34a (rA he34b he34c))) ?_
   obtain ⟨x41, hxx41, h1⟩ := bA h1
   refine oC (fun s' => s'.nx ≤ 128 ∧ LeN [] s' ⟨[(2, .int .i64 x41), (8, .psl 1 (List.map tA.enc l1.Levels)), (9, .int .i64 (l1.Levels.length : Int)), (10, .int .i64 v32)], [], 128, []⟩) ?_ ?_
   ·
    intro s' hs
    obtain ⟨hn, hs⟩ := hs
    refine qB (dA ?_)
    refine oB [] hn hs ?_
    refine nB 144 [2, 8, 9, 10] (fun _ => none) rfl (fun _ _ => rS (rA he34a (rA he34b he34c))) ?_
    refine dA ?_
    exact ⟨⟨(fu, x41, (IntKind.i64.wrap (v32 + 1))), h1⟩, ⟨rF, rE, rfl, rfl, trivial, trivial⟩, Nat.lt_succ_self _⟩
   refine nC (ι := { p : Nat × Int × Int // lI e34 p.1 p.2.1 p.2.2 = some x41 }) (fun p => ⟨[(2, .int .i64 p.1.2.1), (8, .psl 1 (List.map tA.enc l1.Levels)), (9, .int .i64 (l1.Levels.length : Int)), (10, .int .i64 v32), (15, .psl 2 (List.map kB.enc e34.Runs)), (16, .int .i64 (e34.Runs.length : Int)), (17, .int .i64 p.1.2.2)], [], 120, []⟩) (fun p => p.1.1) ⟨(fu, best31, 0), hxx41⟩ ⟨rF, rE, rfl, rfl, trivial, trivial⟩ (fun _ => Nat.le_refl _) ?_
   rintro ⟨⟨fu, best42, v43⟩, h2⟩
   cases fu with
   | zero =>
  replace h2 : lI e34 0 best42 v43 = some x41 := h2
  rw [lI] at h2; cases h2
   | succ fu =>
    replace h2 : lI e34 (fu + 1) best42 v43 = some x41 := h2
    rw [lI] at h2
    dsimp only
    refine nA 128 [2, 8, 9, 10, 15, 16, 17, 18] (fun _ => none) rfl (fun _ _ => rS (rA he34a (rA he34b he34c))) ?_
    refine iA ?_
    refine xI h2 rfl (fun h2 hb44 => ?_) (fun h2 hb44 => ?_)
    ·
     refine oA (dA (iA (xB ?_)))
     obtain ⟨e45, he45, h2⟩ := bA h2
     obtain ⟨he45a, he45b, he45c⟩ := wA he45
     refine nA 160 [2, 6, 8, 9, 10, 15, 16, 17] (fun _ => none) rfl (fun _ _ => rS (rA he34a (rA he34b (rA he34c (rA he45a (rA he45b he45c)))))) ?_
     refine nB 200 [2, 8, 9, 10, 15, 16, 17] (fun _ => none) rfl (fun _ _ => rS (rA he34a (rA he34b (rA he34c (rA he45a (rA he45b he45c)))))) ?_
     refine qB (dA ?_)
     refine nB 216 [2, 8, 9, 10, 15, 16, 17] (fun _ => none) rfl (fun _ _ => rS (rA he34a (rA he34b (rA he34c (rA he45a (rA he45b he45c)))))) ?_
     refine dA ?_
     exact ⟨⟨(fu, (if best42 < e45.Id then e45.Id else best42), (IntKind.i64.wrap (v43 + 1))), h2⟩, ⟨rF, rE, rfl, rfl, trivial, trivial⟩, Nat.lt_succ_self _⟩
    refine fC (xA (xA (iC ?_)))
    obtain rfl := oI h2
    exact ⟨rL, ⟨rF, rE, rfl, rfl, trivial, trivial⟩⟩
  refine fC (xA (xA (iC ?_)))
  obtain rfl := oI h1
  exact ⟨rL, ⟨rF, rE, rfl, rfl, trivial, trivial⟩⟩
theorem zah {fu : Nat} {l1 : iB} {r : Int × List tA} (h0 : fO fu l1 = some r) : yA Tryz.prog 38 [.agg (iB.enc l1)] (.fn 67 [] [.pp [.int .i64 r.1, .psl 1 (r.2.map tA.enc)]]) [] := by
 refine cB Tryz.func38 rfl (by decide) rL ?_
 dsimp only [Tryz.f38]
 rw [fO] at h0
 refine xS 16 [1] ?_
 refine xS 32 [2] ?_
 refine kA ?_
 obtain rfl := oI h0
 exact lA [] rG
theorem zbK {fu : Nat} {l1 : iB} {level2 : Int} {r : Bool} (h0 : iL fu l1 level2 = some r) : yA Tryz.prog 39 [.agg (iB.enc l1), .int .i64 level2] (.bool r) [] := by
 refine cB Tryz.func39 rfl (by decide) rL ?_
 dsimp only [Tryz.f39]
 rw [iL] at h0
 refine xS 16 [1, 2] ?_
 refine xS 72 [4] ?_
 refine kA ?_
 obtain rfl := oI h0
 exact lA [] rG
theorem zbY {fu : Nat} {runs1 : List (List aA)} {r : Int × Int} (h0 : zJ fu runs1 = some r) : yA Tryz.prog 106 [.psl 1 (runs1.map (sA 4 aA.enc))] (.tup [.int .i64 r.1, .int .i64 r.2]) [] := by
 refine cB Tryz.func106 rfl (by decide) rL ?_
 dsimp only [Tryz.f106]
 rw [zJ] at h0
 refine xS 16 [0] ?_
 refine iA (xB ?_)
 refine xS 48 [0, 8] ?_
 refine xI h0 rfl (fun h0 hb2 => ?_) (fun h0 hb2 => ?_)
 ·
  refine xS 64 [2, 3] ?_
  refine kA (cC (mA ?_))
  obtain rfl := oI h0
  exact lA [] rG
 refine xS 80 [0, 12] ?_
 refine xI h0 rfl (fun h0 hb3 => ?_) (fun h0 hb3 => ?_)
 ·
  refine xS 96 [2, 3] ?_
  refine kA (cC (mA ?_))
  obtain rfl := oI h0
  exact lA [] rG
 refine oA (qB (dA (iA ?_)))
 refine xS 104 [16, 17, 18] ?_
 obtain ⟨x13, hxx13, h0⟩ := bA h0
 refine oC (fun s' => ∃ o19 : Unit, x13 = .inl o19 ∧ s'.nx ≤ 112 ∧ LeN [] s' ⟨[], [], 112, []⟩) ?_ ?_
 ·
  intro s' hs
  obtain ⟨o19, rfl, hn, hs⟩ := hs
  refine dA ?_
  refine oB [] hn hs ?_
  refine xS 128 [2, 3] ?_
  refine kA ?_
  obtain rfl := oI h0
  exact lA [] rG
 refine nC (ι := { p : Nat × Int // pF runs1 p.1 p.2 = some x13 }) (fun p => ⟨[(16, .psl 1 (List.map (sA 4 aA.enc) runs1)), (17, .int .i64 (runs1.length : Int)), (18, .int .i64 p.1.2)], [], 104, []⟩) (fun p => p.1.1) ⟨(fu, 0), hxx13⟩ ⟨rF, rE, rfl, rfl, trivial, trivial⟩ (fun _ => Nat.le_refl _) ?_
 rintro ⟨⟨fu, v14⟩, h1⟩
 cases fu with
 | zero =>
  replace h1 : pF runs1 0 v14 = some x13 := h1
  rw [pF] at h1; cases h1
 | succ fu =>
  replace h1 : pF runs1 (fu + 1) v14 = some x13 := h1
  rw [pF] at h1
  dsimp only
  refine xS 112 [16, 17, 18, 19] ?_
  refine iA ?_
  refine xI h1 rfl (fun h1 hb15 => ?_) (fun h1 hb15 => ?_)
  ·
   refine oA (dA (iA (xB ?_)))
   obtain ⟨e16, he16, h1⟩ := bA h1
   obtain ⟨he16a, he16b, he16c⟩ := wA he16
   refine nA 152 [4, 5, 16, 17, 18] (fun _ => none) rfl (fun _ _ => rS (rA he16a (rA he16b he16c))) ?_
   obtain ⟨vr17, hvr17, h1⟩ := bA h1
   refine nA 208 [4, 7, 16, 17, 18] (fun | 1 => some (.tup [.int .i64 vr17.1, .int .i64 vr17.2], []) | _ => none) rfl (fun _ _ => rB (rA he16a (rA he16b he16c)) (zfe hvr17)) ?_
   refine nA 224 [4, 7, 16, 17, 18, 29] (fun _ => none) rfl (fun _ _ => rS (rA he16a (rA he16b he16c))) ?_
   refine xI h1 rfl (fun h1 hb18 => ?_) (fun h1 hb18 => ?_)
   ·
    refine nA 256 [2, 3] (fun _ => none) rfl (fun _ _ => rS (rA he16a (rA he16b he16c))) ?_
    refine kA ?_
    obtain rfl := oI h1
    refine cC (mA (mA (wC (mA ?_))))
    obtain rfl := oI h0
    refine lA [] ?_
    exact rJ (rA he16a (rA he16b he16c))
   refine oA (qB (dA ?_))
   refine nB 240 [16, 17, 18] (fun _ => none) rfl (fun _ _ => rS (rA he16a (rA he16b he16c))) ?_
   refine dA ?_
   exact ⟨⟨(fu, (IntKind.i64.wrap (v14 + 1))), h1⟩, ⟨rF, rE, rfl, rfl, trivial, trivial⟩, Nat.lt_succ_self _⟩
  refine fC (xA (xA (iC ?_)))
  obtain rfl := oI h1
  exact ⟨_, rfl, rL, ⟨rF, rE, rfl, rfl, trivial, trivial⟩⟩
theorem za0 {fu : Nat} {vs1 : List (List aA)} {r : List (List aA)} (h0 : dM fu vs1 = some r) : yA Tryz.prog 125 [.psl 1 (vs1.map (sA 4 aA.enc))] (.psl 1 (r.map (sA 4 aA.enc))) [] := by
 refine cB Tryz.func125 rfl (by decide) rL ?_
 dsimp only [Tryz.f125]
 rw [dM] at h0
 refine xS 8 [0] ?_
 refine iA ?_
 cases hb2 : vs1.isEmpty with
 | true =>
  replace h0 := aB h0 hb2
  obtain rfl : vs1 = [] := List.isEmpty_iff.1 hb2
  refine xS 24 [0, 4] ?_
  refine sW rfl ?_ ?_
  ·
   skip
   refine xS 32 [2] ?_
   refine kA (mA ?_)
   obtain rfl := oI h0
   exact lA [] rG
  ·
   skip
   refine oA (dA ?_)
   refine xS 56 [2] ?_
   refine xE ⟨[(2, .sl 24 1 1 0 0)], [(24, ⟨1, true, true, 1, List.map (sA 4 aA.enc) []⟩)], 56, []⟩ ?_
   refine kA ?_
   obtain rfl := oI h0
   exact lA [] rG
 | false =>
  replace h0 := qA h0 hb2
  refine nA 24 [0, 4] (fun _ => none) rfl (fun _ _ => rS hb2) ?_
  refine qF rfl ?_
  refine oA (dA ?_)
  obtain ⟨hc3, h0⟩ := pD h0
  refine nA 56 [2] (fun _ => none) rfl (fun _ _ => rS hb2) ?_
  refine xE ⟨[(2, .sl 24 1 1 0 vs1.length)], [(24, ⟨1, true, true, 1, List.map (sA 4 aA.enc) vs1⟩)], 56, []⟩ ?_
  refine kA ?_
  obtain rfl := oI h0
  refine lA [] ?_
  exact rJ hb2
theorem hZ {fu : Nat} {l1 : List aA} {vat2 : Int} {r : eA} (h0 : wJ fu l1 vat2 = some r) : yA Tryz.prog 126 [.psl 4 (l1.map aA.enc), .int .i64 vat2] (.agg (eA.enc r)) [] := by
 refine cB Tryz.func126 rfl (by decide) rL ?_
 dsimp only [Tryz.f126]
 rw [wJ] at h0
 refine xS 8 [0, 1, 4] ?_
 refine iA ?_
 refine xS 40 [0, 1, 4, 8] ?_
 refine xI h0 rfl (fun h0 hb3 => ?_) (fun h0 hb3 => ?_)
 ·
  refine xS 56 [4] ?_
  refine kA (mA ?_)
  obtain rfl := oI h0
  exact lA [] rG
 refine oA (dA ?_)
 obtain ⟨e4, he4, h0⟩ := bA h0
 obtain ⟨he4a, he4b, he4c⟩ := wA he4
 refine nA 96 [4] (fun _ => none) rfl (fun _ _ => rS (rA he4a (rA he4b he4c))) ?_
 refine kA ?_
 obtain rfl := oI h0
 refine lA [] ?_
 exact rJ (rA he4a (rA he4b he4c))
theorem zfx {fu : Nat} {k1 : eA} {r : Bool} (h0 : yS fu k1 = some r) : yA Tryz.prog 150 [.agg (eA.enc k1)] (.bool r) [] := by
 refine cB Tryz.func150 rfl (by decide) rL ?_
 dsimp only [Tryz.f150]
 rw [yS] at h0
 refine xS 16 [1] ?_
 obtain ⟨b2, hb2, h0⟩ := bA h0
 refine mC (fr' := [(2, .bool b2)]) (hp' := [(0, ⟨0, true, true, 2, [[.str k1.Key, .bool k1.Done]]⟩)]) [0] 80 [2] (fun _ => none) rfl (fun Kt hK => by
   cases hg3 : k1.Done with
   | false =>
    replace hb2 := qA hb2 hg3
    have hqb2 := oI hb2
    subst hqb2
    exact rW hg3 hK
   | true =>
    replace hb2 := aB hb2 hg3
    have hqb2 := oI hb2
    subst hqb2
    exact rW hg3 hK) ?_
 refine kA ?_
 obtain rfl := oI h0
 exact lA [] rG
theorem zhH {fu : Nat} {vs1 : List eA} {r : Int} (h0 : kS fu vs1 = some r) : yA Tryz.prog 153 [.psl 2 (vs1.map eA.enc), .fn 150 [] []] (.int .i64 r) [] := by
 refine cB Tryz.func153 rfl (by decide) rL ?_
 dsimp only [Tryz.f153]
 rw [kS] at h0
 refine xS 8 [0, 1] ?_
 refine iA ?_
 refine xS 32 [0, 1, 7, 8] ?_
 obtain ⟨x11, hxx11, h0⟩ := bA h0
 refine oC (fun s' => ∃ o17 : Unit, x11 = .inl o17 ∧ s'.nx ≤ 40 ∧ LeN [] s' ⟨[], [], 40, []⟩) ?_ ?_
 ·
  intro s' hs
  obtain ⟨o17, rfl, hn, hs⟩ := hs
  refine dA ?_
  refine oB [] hn hs ?_
  refine xS 48 [4] ?_
  refine kA ?_
  obtain rfl := oI h0
  exact lA [] rG
 refine nC (ι := { p : Nat × Int // yH vs1 p.1 p.2 = some x11 }) (fun p => ⟨[(0, .psl 2 (List.map eA.enc vs1)), (1, .fn 150 [] []), (7, .int .i64 (vs1.length : Int)), (8, .int .i64 p.1.2)], [], 32, []⟩) (fun p => p.1.1) ⟨(fu, 0), hxx11⟩ ⟨rF, rE, rfl, rfl, trivial, trivial⟩ (fun _ => Nat.le_refl _) ?_
 rintro ⟨⟨fu, v12⟩, h1⟩
 cases fu with
 | zero =>
  replace h1 : yH vs1 0 v12 = some x11 := h1
  rw [yH] at h1; cases h1
 | succ fu =>
  replace h1 : yH vs1 (fu + 1) v12 = some x11 := h1
  rw [yH] at h1
  dsimp only
  refine xS 40 [0, 1, 7, 8, 9] ?_
  refine iA ?_
  refine xI h1 rfl (fun h1 hb13 => ?_) (fun h1 hb13 => ?_)
  ·
   refine oA (dA (iA (xB ?_)))
   refine xS 56 [0, 1, 5, 7, 8] ?_
   obtain ⟨e14, he14, h1⟩ := bA h1
   obtain ⟨he14a, he14b, he14c⟩ := wA he14
   obtain ⟨vr15, hvr15, h1⟩ := bA h1
   refine nA 104 [0, 1, 5, 7, 8, 16] (fun | 5 => some (.bool vr15, []) | _ => none) rfl (fun _ _ => rB (rA he14a (rA he14b he14c)) (zfx hvr15)) ?_
   refine xI h1 rfl (fun h1 hb16 => ?_) (fun h1 hb16 => ?_)
   ·
    refine nA 120 [4] (fun _ => none) rfl (fun _ _ => rS (rA he14a (rA he14b he14c))) ?_
    refine kA ?_
    obtain rfl := oI h1
    refine cC (mA (mA (wC (mA ?_))))
    obtain rfl := oI h0
    refine lA [] ?_
    exact rJ (rA he14a (rA he14b he14c))
   refine oA (qB (dA ?_))
   refine nB 120 [0, 1, 7, 8] (fun _ => none) rfl (fun _ _ => rS (rA he14a (rA he14b he14c))) ?_
   refine dA ?_
   exact ⟨⟨(fu, (IntKind.i64.wrap (v12 + 1))), h1⟩, ⟨rF, rE, rfl, rfl, trivial, trivial⟩, Nat.lt_succ_self _⟩
  refine fC (xA (xA (iC ?_)))
  obtain rfl := oI h1
  exact ⟨_, rfl, rL, ⟨rF, rE, rfl, rfl, trivial, trivial⟩⟩
theorem zfP {fu : Nat} {vs1 : List eA} {r : Bool} (h0 : qS fu vs1 = some r) : yA Tryz.prog 149 [.psl 2 (vs1.map eA.enc), .fn 150 [] []] (.bool r) [] := by
 refine cB Tryz.func149 rfl (by decide) rL ?_
 dsimp only [Tryz.f149]
 rw [qS] at h0
 refine xS 8 [0, 1] ?_
 obtain ⟨vr2, hvr2, h0⟩ := bA h0
 refine nA 48 [4] (fun | 2 => some (.int .i64 vr2, []) | _ => none) rfl (fun _ _ => rC (zhH hvr2)) ?_
 refine kA ?_
 obtain rfl := oI h0
 exact lA [] rG
theorem zab {fu : Nat} {keys1 : List eA} {r : Int} (h0 : pL fu keys1 = some r) : yA Tryz.prog 141 [.psl 2 (keys1.map eA.enc)] (.int .i64 r) [] := by
 refine cB Tryz.func141 rfl (by decide) rL ?_
 dsimp only [Tryz.f141]
 rw [pL] at h0
 refine xS 8 [0] ?_
 refine iA (xB ?_)
 refine xS 40 [0, 3] ?_
 refine xI h0 rfl (fun h0 hb2 => ?_) (fun h0 hb2 => ?_)
 ·
  refine xS 48 [2] ?_
  refine kA (cC (mA ?_))
  obtain rfl := oI h0
  exact lA [] rG
 refine xS 72 [0, 7] ?_
 refine xI h0 rfl (fun h0 hb3 => ?_) (fun h0 hb3 => ?_)
 ·
  refine xS 80 [2] ?_
  refine kA (cC (mA ?_))
  obtain rfl := oI h0
  exact lA [] rG
 obtain ⟨vr4, hvr4, h0⟩ := bA h0
 refine nA 96 [11] (fun | 1 => some (.bool vr4, []) | _ => none) rfl (fun _ _ => rC (zfP hvr4)) ?_
 refine xI h0 rfl (fun h0 hb5 => ?_) (fun h0 hb5 => ?_)
 ·
  refine xS 104 [2] ?_
  refine kA (cC (mA ?_))
  obtain rfl := oI h0
  exact lA [] rG
 refine oA (qB (dA ?_))
 refine xS 104 [2] ?_
 refine kA ?_
 obtain rfl := oI h0
 exact lA [] rG
theorem zaK {fu : Nat} {keys1 : List eA} {r : List eA} (h0 : dO fu keys1 = some r) : yA Tryz.prog 145 [.psl 2 (keys1.map eA.enc)] (.fn 151 [] [.pp [.psl 2 (r.map eA.enc)]]) [] := by
 refine cB Tryz.func145 rfl (by decide) rL ?_
 dsimp only [Tryz.f145]
 rw [dO] at h0
 refine xS 16 [1] ?_
 refine xS 32 [2] ?_
 refine kA ?_
 obtain rfl := oI h0
 exact lA [] rG
theorem zkP {fu : Nat} {vs1 : List eA} {r : List eA} (h0 : oS fu vs1 = some r) : yA Tryz.prog 144 [.psl 2 (vs1.map eA.enc)] (.psl 2 (r.map eA.enc)) [] := by
 refine cB Tryz.func144 rfl (by decide) rL ?_
 dsimp only [Tryz.f144]
 rw [oS] at h0
 refine xS 8 [0] ?_
 refine iA ?_
 cases hb2 : vs1.isEmpty with
 | true =>
  replace h0 := aB h0 hb2
  obtain rfl : vs1 = [] := List.isEmpty_iff.1 hb2
  refine xS 24 [0, 4] ?_
  refine sW rfl ?_ ?_
  ·
   skip
   refine xS 32 [2] ?_
   refine kA (mA ?_)
   obtain rfl := oI h0
   exact lA [] rG
  ·
   skip
   refine oA (dA ?_)
   refine xS 56 [2] ?_
   refine xE ⟨[(2, .sl 24 1 2 0 0)], [(24, ⟨1, true, true, 2, List.map eA.enc []⟩)], 56, []⟩ ?_
   refine kA ?_
   obtain rfl := oI h0
   exact lA [] rG
 | false =>
  replace h0 := qA h0 hb2
  refine nA 24 [0, 4] (fun _ => none) rfl (fun _ _ => rS hb2) ?_
  refine qF rfl ?_
  refine oA (dA ?_)
  obtain ⟨hc3, h0⟩ := pD h0
  refine nA 56 [2] (fun _ => none) rfl (fun _ _ => rS hb2) ?_
  refine xE ⟨[(2, .sl 24 1 2 0 vs1.length)], [(24, ⟨1, true, true, 2, List.map eA.enc vs1⟩)], 56, []⟩ ?_
  refine kA ?_
  obtain rfl := oI h0
  refine lA [] ?_
  exact rJ hb2
theorem za1 {fu : Nat} {p1 : Int} {q2 : Int} {p3 : List eA} {r : Bool} (h0 : bN fu p1 q2 p3 = some r) : yA Tryz.prog 151 [.int .i64 p1, .int .i64 q2, .pp [.psl 2 (p3.map eA.enc)]] (.bool r) [] := by
 refine cB Tryz.func151 rfl (by decide) rL ?_
 dsimp only [Tryz.f151]
 rw [bN] at h0
 refine xS 8 [0, 1, 2] ?_
 obtain ⟨e4, he4, h0⟩ := bA h0
 obtain ⟨he4a, he4b, he4c⟩ := wA he4
 obtain ⟨e5, he5, h0⟩ := bA h0
 obtain ⟨he5a, he5b, he5c⟩ := wA he5
 refine pC 104 [0, 1, 6, 7] (fun _ => none) rfl rfl rfl (fun _ _ => aE (rA he4a (rA he4b (rA he4c (rA he5a (rA he5b he5c)))))) ?_
 refine iA (xB ?_)
 refine nA 152 [0, 1, 6, 7, 16] (fun _ => none) rfl (fun _ _ => rS (rA he4a (rA he4b (rA he4c (rA he5a (rA he5b he5c)))))) ?_
 refine xI h0 rfl (fun h0 hb6 => ?_) (fun h0 hb6 => ?_)
 ·
  refine nA 176 [5] (fun _ => none) rfl (fun _ _ => rS (rA he4a (rA he4b (rA he4c (rA he5a (rA he5b he5c)))))) ?_
  refine kA (cC (mA ?_))
  obtain rfl := oI h0
  refine lA [] ?_
  exact rJ (rA he4a (rA he4b (rA he4c (rA he5a (rA he5b he5c)))))
 refine nA 200 [0, 1, 6, 7, 24] (fun _ => none) rfl (fun _ _ => rS (rA he4a (rA he4b (rA he4c (rA he5a (rA he5b he5c)))))) ?_
 refine xI h0 rfl (fun h0 hb7 => ?_) (fun h0 hb7 => ?_)
 ·
  refine nA 248 [5] (fun _ => none) rfl (fun _ _ => rS (rA he4a (rA he4b (rA he4c (rA he5a (rA he5b he5c)))))) ?_
  refine kA (cC (mA ?_))
  obtain rfl := oI h0
  refine lA [] ?_
  exact rJ (rA he4a (rA he4b (rA he4c (rA he5a (rA he5b he5c)))))
 refine oA (qB (dA ?_))
 refine nA 232 [5] (fun _ => none) rfl (fun _ _ => rS (rA he4a (rA he4b (rA he4c (rA he5a (rA he5b he5c)))))) ?_
 refine kA ?_
 obtain rfl := oI h0
 refine lA [] ?_
 exact rJ (rA he4a (rA he4b (rA he4c (rA he5a (rA he5b he5c)))))
theorem zcL {fu : Nat} {keys1 : List eA} {r : bB} (h0 : aP fu keys1 = some r) : yA Tryz.prog 142 [.psl 2 (keys1.map eA.enc)] (.agg (bB.enc r)) [] := by
 refine cB Tryz.func142 rfl (by decide) rL ?_
 dsimp only [Tryz.f142]
 rw [aP] at h0
 refine xS 8 [0, 2] ?_
 refine xS 32 [0, 2, 3] ?_
 obtain ⟨vr2, hvr2, h0⟩ := bA h0
 refine nA 56 [0, 2, 3, 4] (fun | 1 => some (.fn 151 [] [.pp [.psl 2 (vr2.map eA.enc)]], []) | _ => none) rfl (fun _ _ => rC (zaK hvr2)) ?_
 obtain ⟨hc3, h0⟩ := pD h0
 refine xS 88 [0, 2, 3, 4, 5] ?_
 refine xE ⟨[(0, .psl 2 (List.map eA.enc keys1)), (2, .ref 0 0 0 0), (3, .int .i64 (keys1.length : Int)), (4, .fn 151 [] [.pp [.psl 2 (List.map eA.enc vr2)]]), (5, .sl 72 0 1 0 ((List.replicate (IntKind.i64.wrap (2 * (keys1.length : Int))).toNat 0 : List Int).length))], [(0, ⟨0, true, true, 3, [[.nils, .nils, .int .i64 0]]⟩), (72, ⟨0, true, true, 1, List.map (fA .i64) (List.replicate (IntKind.i64.wrap (2 * (keys1.length : Int))).toNat 0 : List Int)⟩)], 88, []⟩ ?_
 obtain ⟨vr4, hvr4, h0⟩ := bA h0
 obtain ⟨hc5, h0⟩ := pD h0
 refine pC 144 [2, 3, 4, 5, 6] (fun | 1 => some (.psl 2 (vr4.map eA.enc), []) | _ => none) rfl rfl rfl (fun _ _ => aO (zkP hvr4)) ?_
 refine xE ⟨[(2, .ref 0 0 0 0), (3, .int .i64 (keys1.length : Int)), (4, .fn 151 [] [.pp [.psl 2 (List.map eA.enc vr2)]]), (5, .sl 72 0 1 0 ((List.replicate (IntKind.i64.wrap (2 * (keys1.length : Int))).toNat 0 : List Int).length)), (6, .ref 128 0 0 0)], [(0, ⟨0, true, true, 3, [[.nils, .nils, .int .i64 0]]⟩), (72, ⟨0, true, true, 1, List.map (fA .i64) (List.replicate (IntKind.i64.wrap (2 * (keys1.length : Int))).toNat 0 : List Int)⟩), (112, ⟨0, true, true, 1, List.map (fA .i64) (List.replicate keys1.length 0 : List Int)⟩), (128, ⟨0, true, false, 3, [[.psl 2 (List.map eA.enc vr4), .sl 112 0 1 0 ((List.replicate keys1.length 0 : List Int).length), .int .i64 0]]⟩)], 144, []⟩ ?_
 refine iA ?_
 refine xS 176 [2, 3, 4, 5, 6, 7] ?_
 obtain ⟨x33, hxx33, h0⟩ := bA h0
 refine oC (fun s' => ∃ g50 : Nat, ∃ g51 : Nat, s'.nx ≤ 192 ∧ LeN [] s' ⟨[(2, .ref 0 0 0 0), (5, .sl 72 g50 1 0 x33.1.length), (6, .ref 128 0 0 0)], [(0, ⟨0, true, true, 3, [[.nils, .nils, .int .i64 0]]⟩), (72, ⟨g50, true, true, 1, List.map (fA .i64) x33.1⟩), (112, ⟨g51, true, true, 1, List.map (fA .i64) x33.2⟩), (128, ⟨0, true, false, 3, [[.psl 2 (List.map eA.enc vr4), .sl 112 g51 1 0 x33.2.length, .int .i64 0]]⟩)], 192, []⟩) ?_ ?_
 ·
  intro s' hs
  obtain ⟨g50, g51, hn, hs⟩ := hs
  refine dA ?_
  refine oB [] hn hs ?_
  obtain ⟨e52, he52, h0⟩ := bA h0
  have he52b := (wA he52).2.1
  have he52c := (cG 1 he52 rfl).1
  have he52a := (cG 1 he52 rfl).2
  refine nA 232 [2, 6] (fun _ => none) rfl (fun _ _ => rS (rA he52a (rA he52b he52c))) ?_
  refine nA 248 [2] (fun _ => none) rfl (fun _ _ => rS (rA he52a (rA he52b he52c))) ?_
  refine kA ?_
  obtain rfl := oI h0
  refine lA [] ?_
  exact rJ (rA he52a (rA he52b he52c))
 refine nC (ι := { p : Nat × Int × List Int × List Int × Nat × Nat // lH keys1 vr2 p.1 p.2.1 p.2.2.1 p.2.2.2.1 = some x33 }) (fun p => ⟨[(2, .ref 0 0 0 0), (3, .int .i64 (keys1.length : Int)), (4, .fn 151 [] [.pp [.psl 2 (List.map eA.enc vr2)]]), (5, .sl 72 p.1.2.2.2.2.1 1 0 p.1.2.2.1.length), (6, .ref 128 0 0 0), (7, .int .i64 p.1.2.1)], [(0, ⟨0, true, true, 3, [[.nils, .nils, .int .i64 0]]⟩), (72, ⟨p.1.2.2.2.2.1, true, true, 1, List.map (fA .i64) p.1.2.2.1⟩), (112, ⟨p.1.2.2.2.2.2, true, true, 1, List.map (fA .i64) p.1.2.2.2.1⟩), (128, ⟨0, true, false, 3, [[.psl 2 (List.map eA.enc vr4), .sl 112 p.1.2.2.2.2.2 1 0 p.1.2.2.2.1.length, .int .i64 0]]⟩)], 176, []⟩) (fun p => p.1.1) ⟨(fu, (IntKind.i64.wrap ((IntKind.i64.wrap (2 * (keys1.length : Int))) - 1)), (List.replicate (IntKind.i64.wrap (2 * (keys1.length : Int))).toNat 0 : List Int), (List.replicate keys1.length 0 : List Int), 0, 0), hxx33⟩ ⟨rF, rE, rfl, rfl, trivial, trivial⟩ (fun _ => Nat.le_refl _) ?_
 rintro ⟨⟨fu, i34, players35, v36, g37, g38⟩, h1⟩
 cases fu with
 | zero =>
  replace h1 : lH keys1 vr2 0 i34 players35 v36 = some x33 := h1
  rw [lH] at h1; cases h1
 | succ fu =>
  replace h1 : lH keys1 vr2 (fu + 1) i34 players35 v36 = some x33 := h1
  rw [lH] at h1
  dsimp only
  refine iA ?_
  refine xS 192 [2, 3, 4, 5, 6, 7, 26] ?_
  refine xI h1 rfl (fun h1 hb39 => ?_) (fun h1 hb39 => ?_)
  ·
   refine oA (dA (iA (xB (iA ?_))))
   refine xS 216 [2, 3, 4, 5, 6, 7, 31] ?_
   refine xI h1 rfl (fun h1 hb40 => ?_) (fun h1 hb40 => ?_)
   ·
    obtain ⟨e41, he41, h1⟩ := bA h1
    obtain ⟨he41a, he41b, he41c⟩ := wA he41
    refine nA 272 [2, 3, 4, 5, 6, 7] (fun _ => none) rfl (fun _ _ => rS (rA he41a (rA he41b he41c))) ?_
    refine xE ⟨[(2, .ref 0 0 0 0), (3, .int .i64 (keys1.length : Int)), (4, .fn 151 [] [.pp [.psl 2 (List.map eA.enc vr2)]]), (5, .sl 72 g37 1 0 ((players35.set i34.toNat (IntKind.i64.wrap (i34 - (keys1.length : Int)))).length)), (6, .ref 128 0 0 0), (7, .int .i64 i34)], [(0, ⟨0, true, true, 3, [[.nils, .nils, .int .i64 0]]⟩), (72, ⟨g37, true, true, 1, List.map (fA .i64) (players35.set i34.toNat (IntKind.i64.wrap (i34 - (keys1.length : Int))))⟩), (112, ⟨g38, true, true, 1, List.map (fA .i64) v36⟩), (128, ⟨0, true, false, 3, [[.psl 2 (List.map eA.enc vr4), .sl 112 g38 1 0 v36.length, .int .i64 0]]⟩)], 272, []⟩ ?_
    refine fC (xA (zbb (dA ?_)))
    refine nB 296 [2, 3, 4, 5, 6, 7] (fun _ => none) rfl (fun _ _ => rS (rA he41a (rA he41b he41c))) ?_
    refine dA ?_
    exact ⟨⟨(fu, (IntKind.i64.wrap (i34 - 1)), (players35.set i34.toNat (IntKind.i64.wrap (i34 - (keys1.length : Int)))), v36, g37, g38), h1⟩, ⟨rF, rE, rfl, rfl, trivial, trivial⟩, Nat.lt_succ_self _⟩
   refine oA (dA ?_)
   obtain ⟨e42, he42, h1⟩ := bA h1
   obtain ⟨he42a, he42b, he42c⟩ := wA he42
   obtain ⟨e43, he43, h1⟩ := bA h1
   obtain ⟨he43a, he43b, he43c⟩ := wA he43
   refine pC 320 [2, 3, 4, 5, 6, 7, 8, 9] (fun _ => none) rfl rfl rfl (fun _ _ => aE (rA he42a (rA he42b (rA he42c (rA he43a (rA he43b he43c)))))) ?_
   refine iA ?_
   obtain ⟨vr44, hvr44, h1⟩ := bA h1
   refine nA 360 [2, 3, 4, 5, 6, 7, 8, 9, 53] (fun | 3 => some (.bool vr44, []) | _ => none) rfl (fun _ _ => rB (rA he42a (rA he42b (rA he42c (rA he43a (rA he43b he43c))))) (za1 hvr44)) ?_
   refine xI h1 rfl (fun h1 hb45 => ?_) (fun h1 hb45 => ?_)
   ·
    refine nB 392 [2, 3, 4, 5, 6, 7, 8, 9] (fun _ => none) rfl (fun _ _ => rS (rA he42a (rA he42b (rA he42c (rA he43a (rA he43b he43c)))))) ?_
    refine dA ?_
    obtain ⟨e46, he46, h1⟩ := bA h1
    obtain ⟨he46a, he46b, he46c⟩ := wA he46
    obtain ⟨e47, he47, h1⟩ := bA h1
    obtain ⟨he47a, he47b, he47c⟩ := wA he47
    refine qG 480 [2, 3, 4, 5, 6, 7] (fun _ => none) rfl rfl rfl (fun _ _ => aE (rA he42a (rA he42b (rA he42c (rA he43a (rA he43b (rA he43c (rA he46a (rA he46b (rA he46c (rA he47a (rA he47b he47c)))))))))))) ?_
    refine qB (dA ?_)
    refine xE ⟨[(2, .ref 0 0 0 0), (3, .int .i64 (keys1.length : Int)), (4, .fn 151 [] [.pp [.psl 2 (List.map eA.enc vr2)]]), (5, .sl 72 g37 1 0 ((players35.set i34.toNat e43).length)), (6, .ref 128 0 0 0), (7, .int .i64 i34)], [(0, ⟨0, true, true, 3, [[.nils, .nils, .int .i64 0]]⟩), (72, ⟨g37, true, true, 1, List.map (fA .i64) (players35.set i34.toNat e43)⟩), (112, ⟨g38, true, true, 1, List.map (fA .i64) (v36.set i34.toNat e42)⟩), (128, ⟨0, true, false, 3, [[.psl 2 (List.map eA.enc vr4), .sl 112 g38 1 0 ((v36.set i34.toNat e42).length), .int .i64 0]]⟩)], 480, []⟩ ?_
    refine nB 504 [2, 3, 4, 5, 6, 7] (fun _ => none) rfl (fun _ _ => rS (rA he42a (rA he42b (rA he42c (rA he43a (rA he43b (rA he43c (rA he46a (rA he46b (rA he46c (rA he47a (rA he47b he47c)))))))))))) ?_
    refine dA ?_
    exact ⟨⟨(fu, (IntKind.i64.wrap (i34 - 1)), (players35.set i34.toNat e43), (v36.set i34.toNat e42), g37, g38), h1⟩, ⟨rF, rE, rfl, rfl, trivial, trivial⟩, Nat.lt_succ_self _⟩
   refine oA (dA ?_)
   obtain ⟨e48, he48, h1⟩ := bA h1
   obtain ⟨he48a, he48b, he48c⟩ := wA he48
   obtain ⟨e49, he49, h1⟩ := bA h1
   obtain ⟨he49a, he49b, he49c⟩ := wA he49
   refine qG 448 [2, 3, 4, 5, 6, 7] (fun _ => none) rfl rfl rfl (fun _ _ => aE (rA he42a (rA he42b (rA he42c (rA he43a (rA he43b (rA he43c (rA he48a (rA he48b (rA he48c (rA he49a (rA he49b he49c)))))))))))) ?_
   refine qB (dA ?_)
   refine xE ⟨[(2, .ref 0 0 0 0), (3, .int .i64 (keys1.length : Int)), (4, .fn 151 [] [.pp [.psl 2 (List.map eA.enc vr2)]]), (5, .sl 72 g37 1 0 ((players35.set i34.toNat e42).length)), (6, .ref 128 0 0 0), (7, .int .i64 i34)], [(0, ⟨0, true, true, 3, [[.nils, .nils, .int .i64 0]]⟩), (72, ⟨g37, true, true, 1, List.map (fA .i64) (players35.set i34.toNat e42)⟩), (112, ⟨g38, true, true, 1, List.map (fA .i64) (v36.set i34.toNat e43)⟩), (128, ⟨0, true, false, 3, [[.psl 2 (List.map eA.enc vr4), .sl 112 g38 1 0 ((v36.set i34.toNat e43).length), .int .i64 0]]⟩)], 448, []⟩ ?_
   refine nB 472 [2, 3, 4, 5, 6, 7] (fun _ => none) rfl (fun _ _ => rS (rA he42a (rA he42b (rA he42c (rA he43a (rA he43b (rA he43c (rA he48a (rA he48b (rA he48c (rA he49a (rA he49b he49c)))))))))))) ?_
   refine dA ?_
   exact ⟨⟨(fu, (IntKind.i64.wrap (i34 - 1)), (players35.set i34.toNat e42), (v36.set i34.toNat e43), g37, g38), h1⟩, ⟨rF, rE, rfl, rfl, trivial, trivial⟩, Nat.lt_succ_self _⟩
  refine fC (xA (xA (iC ?_)))
  obtain rfl := oI h1
  exact ⟨g37, g38, rL, ⟨rF, rE, rfl, rfl, trivial, trivial⟩⟩
theorem zhN {fu : Nat} {keys1 : List eA} {r : bB × Int} (h0 : sQ fu keys1 = some r) : yA Tryz.prog 127 [.psl 2 (keys1.map eA.enc)] (.tup [.agg (bB.enc r.1), .int .i64 r.2]) [] := by
 refine cB Tryz.func127 rfl (by decide) rL ?_
 dsimp only [Tryz.f127]
 rw [sQ] at h0
 refine xS 16 [0, 2] ?_
 refine iA ?_
 obtain ⟨vr2, hvr2, h0⟩ := bA h0
 refine nA 40 [0, 2, 4] (fun | 1 => some (.int .i64 vr2, []) | _ => none) rfl (fun _ _ => rC (zab hvr2)) ?_
 refine xS 56 [0, 2, 4, 8] ?_
 refine xI h0 rfl (fun h0 hb3 => ?_) (fun h0 hb3 => ?_)
 ·
  refine xS 88 [2, 3] ?_
  refine kA (mA ?_)
  obtain rfl := oI h0
  exact lA [] rG
 refine oA (dA ?_)
 obtain ⟨vr4, hvr4, h0⟩ := bA h0
 refine nA 88 [2, 3] (fun | 1 => some (.agg (bB.enc vr4), []) | _ => none) rfl (fun _ _ => rC (zcL hvr4)) ?_
 refine kA ?_
 obtain rfl := oI h0
 exact lA [] rG
theorem zeW {fu : Nat} {runs1 : List (List aA)} {vat2 : List Int} {r : bB} (h0 : oO fu runs1 vat2 = some r) : yA Tryz.prog 108 [.psl 1 (runs1.map (sA 4 aA.enc)), .psl 1 (vat2.map (fA .i64))] (.agg (bB.enc r)) [] := by
 refine cB Tryz.func108 rfl (by decide) rL ?_
 dsimp only [Tryz.f108]
 rw [oO] at h0
 refine xS 8 [0, 1, 4] ?_
 obtain ⟨hc3, h0⟩ := pD h0
 refine xS 40 [0, 1, 4, 5] ?_
 refine xE ⟨[(0, .psl 1 (List.map (sA 4 aA.enc) runs1)), (1, .psl 1 (List.map (fA .i64) vat2)), (4, .ref 0 0 0 0), (5, .sl 24 0 2 0 ((List.replicate runs1.length (eA.mk [] false) : List eA).length))], [(0, ⟨0, true, true, 3, [[.nils, .nils, .int .i64 0]]⟩), (24, ⟨0, true, true, 2, List.map eA.enc (List.replicate runs1.length (eA.mk [] false) : List eA)⟩)], 40, []⟩ ?_
 refine iA ?_
 refine xS 64 [1, 4, 5, 13, 14, 15] ?_
 obtain ⟨x17, hxx17, h0⟩ := bA h0
 refine oC (fun s' => ∃ g26 : Nat, s'.nx ≤ 72 ∧ LeN [] s' ⟨[(4, .ref 0 0 0 0), (5, .sl 24 g26 2 0 x17.length)], [(0, ⟨0, true, true, 3, [[.nils, .nils, .int .i64 0]]⟩), (24, ⟨g26, true, true, 2, List.map eA.enc x17⟩)], 72, []⟩) ?_ ?_
 ·
  intro s' hs
  obtain ⟨g26, hn, hs⟩ := hs
  refine dA ?_
  refine oB [] hn hs ?_
  obtain ⟨vr27, hvr27, h0⟩ := bA h0
  refine nA 136 [4, 8] (fun | 1 => some (.tup [.agg (bB.enc vr27.1), .int .i64 vr27.2], []) | _ => none) rfl (fun _ _ => rC (zhN hvr27)) ?_
  refine xS 152 [4] ?_
  refine kA ?_
  obtain rfl := oI h0
  exact lA [] rG
 refine nC (ι := { p : Nat × Int × List eA × Nat // zH runs1 vat2 p.1 p.2.1 p.2.2.1 = some x17 }) (fun p => ⟨[(1, .psl 1 (List.map (fA .i64) vat2)), (4, .ref 0 0 0 0), (5, .sl 24 p.1.2.2.2 2 0 p.1.2.2.1.length), (13, .psl 1 (List.map (sA 4 aA.enc) runs1)), (14, .int .i64 (runs1.length : Int)), (15, .int .i64 p.1.2.1)], [(0, ⟨0, true, true, 3, [[.nils, .nils, .int .i64 0]]⟩), (24, ⟨p.1.2.2.2, true, true, 2, List.map eA.enc p.1.2.2.1⟩)], 64, []⟩) (fun p => p.1.1) ⟨(fu, 0, (List.replicate runs1.length (eA.mk [] false) : List eA), 0), hxx17⟩ ⟨rF, rE, rfl, rfl, trivial, trivial⟩ (fun _ => Nat.le_refl _) ?_
 rintro ⟨⟨fu, v18, keys19, g20⟩, h1⟩
 cases fu with
 | zero =>
  replace h1 : zH runs1 vat2 0 v18 keys19 = some x17 := h1
  rw [zH] at h1; cases h1
 | succ fu =>
  replace h1 : zH runs1 vat2 (fu + 1) v18 keys19 = some x17 := h1
  rw [zH] at h1
  dsimp only
  refine xS 72 [1, 4, 5, 13, 14, 15, 16] ?_
  refine iA ?_
  refine xI h1 rfl (fun h1 hb21 => ?_) (fun h1 hb21 => ?_)
  ·
   refine oA (dA (iA (xB ?_)))
   obtain ⟨e22, he22, h1⟩ := bA h1
   obtain ⟨he22a, he22b, he22c⟩ := wA he22
   refine nA 112 [1, 4, 5, 6, 7, 13, 14, 15] (fun _ => none) rfl (fun _ _ => rS (rA he22a (rA he22b he22c))) ?_
   obtain ⟨e23, he23, h1⟩ := bA h1
   obtain ⟨he23a, he23b, he23c⟩ := wA he23
   obtain ⟨vr24, hvr24, h1⟩ := bA h1
   obtain ⟨e25, he25, h1⟩ := bA h1
   obtain ⟨he25a, he25b, he25c⟩ := wA he25
   refine nB 192 [1, 4, 5, 13, 14, 15] (fun | 7 => some (.agg (eA.enc vr24), []) | _ => none) rfl (fun _ _ => rB (rA he22a (rA he22b (rA he22c (rA he23a (rA he23b (rA he23c (rA he25a (rA he25b he25c)))))))) (hZ hvr24)) ?_
   refine qB (dA ?_)
   refine xE ⟨[(1, .psl 1 (List.map (fA .i64) vat2)), (4, .ref 0 0 0 0), (5, .sl 24 g20 2 0 ((keys19.set v18.toNat vr24).length)), (13, .psl 1 (List.map (sA 4 aA.enc) runs1)), (14, .int .i64 (runs1.length : Int)), (15, .int .i64 v18)], [(0, ⟨0, true, true, 3, [[.nils, .nils, .int .i64 0]]⟩), (24, ⟨g20, true, true, 2, List.map eA.enc (keys19.set v18.toNat vr24)⟩)], 192, []⟩ ?_
   refine nB 208 [1, 4, 5, 13, 14, 15] (fun _ => none) rfl (fun _ _ => rS (rA he22a (rA he22b (rA he22c (rA he23a (rA he23b (rA he23c (rA he25a (rA he25b he25c))))))))) ?_
   refine dA ?_
   exact ⟨⟨(fu, (IntKind.i64.wrap (v18 + 1)), (keys19.set v18.toNat vr24), g20), h1⟩, ⟨rF, rE, rfl, rfl, trivial, trivial⟩, Nat.lt_succ_self _⟩
  refine fC (xA (xA (iC ?_)))
  obtain rfl := oI h1
  exact ⟨g20, rL, ⟨rF, rE, rfl, rfl, trivial, trivial⟩⟩
theorem zlK {fu : Nat} {runs1 : List (List aA)} {r : dB × Int × Int} (h0 : sI fu runs1 = some r) : yA Tryz.prog 99 [.psl 1 (runs1.map (sA 4 aA.enc))] (.tup [.agg (dB.enc r.1), .int .i64 r.2.1, .int .i64 r.2.2]) [] := by
 refine cB Tryz.func99 rfl (by decide) rL ?_
 dsimp only [Tryz.f99]
 rw [sI] at h0
 refine xS 24 [0, 2] ?_
 refine iA ?_
 obtain ⟨vr2, hvr2, h0⟩ := bA h0
 refine nA 80 [0, 2, 5, 6] (fun | 1 => some (.tup [.int .i64 vr2.1, .int .i64 vr2.2], []) | _ => none) rfl (fun _ _ => rC (zbY hvr2)) ?_
 refine xS 96 [0, 2, 5, 6, 14] ?_
 refine xI h0 rfl (fun h0 hb3 => ?_) (fun h0 hb3 => ?_)
 ·
  refine xS 144 [2, 3, 4] ?_
  refine kA (mA ?_)
  obtain rfl := oI h0
  exact lA [] rG
 refine oA (dA ?_)
 obtain ⟨hc4, h0⟩ := pD h0
 refine xS 128 [0, 2, 7] ?_
 refine xE ⟨[(0, .psl 1 (List.map (sA 4 aA.enc) runs1)), (2, .ref 0 0 0 0), (7, .sl 112 0 1 0 ((List.replicate runs1.length 0 : List Int).length))], [(0, ⟨0, true, true, 5, [[.nils, .nils, .nils, .nils, .int .i64 0]]⟩), (112, ⟨0, true, true, 1, List.map (fA .i64) (List.replicate runs1.length 0 : List Int)⟩)], 128, []⟩ ?_
 obtain ⟨vr5, hvr5, h0⟩ := bA h0
 obtain ⟨vr6, hvr6, h0⟩ := bA h0
 refine nA 208 [2, 3, 4] (fun | 1 => some (.psl 1 (vr5.map (sA 4 aA.enc)), []) | 5 => some (.agg (bB.enc vr6), []) | _ => none) rfl (fun Kt hK => by
   try have q0 := za0 hvr5
   try have q1 := zeW hvr6
   exact rT) ?_
 refine kA ?_
 obtain rfl := oI h0
 exact lA [] rG
theorem zbV {fu : Nat} {bottom1 : Bool} {r : jB} (h0 : tL fu bottom1 = some r) : yA Tryz.prog 87 [.bool bottom1] (.agg (jB.enc r)) [] := by
 refine cB Tryz.func87 rfl (by decide) rL ?_
 dsimp only [Tryz.f87]
 rw [tL] at h0
 refine xS 8 [0, 2] ?_
 refine xS 32 [2] ?_
 refine kA ?_
 obtain rfl := oI h0
 exact lA [] rG
theorem zom {fu : Nat} {runs1 : List (List aA)} {bottom2 : Bool} {r : lB × Int × Int} (h0 : kR fu runs1 bottom2 = some r) : yA Tryz.prog 68 [.psl 1 (runs1.map (sA 4 aA.enc)), .bool bottom2] (.tup [.agg (lB.enc r.1), .int .i64 r.2.1, .int .i64 r.2.2]) [] := by
 refine cB Tryz.func68 rfl (by decide) rL ?_
 dsimp only [Tryz.f68]
 rw [kR] at h0
 refine xS 24 [0, 1, 4] ?_
 obtain ⟨vr3, hvr3, h0⟩ := bA h0
 refine nA 104 [1, 4, 5, 6, 7] (fun | 1 => some (.tup [.agg (dB.enc vr3.1), .int .i64 vr3.2.1, .int .i64 vr3.2.2], []) | _ => none) rfl (fun _ _ => rC (zlK hvr3)) ?_
 refine iA ?_
 refine xS 120 [1, 4, 5, 6, 7, 15] ?_
 refine xI h0 rfl (fun h0 hb4 => ?_) (fun h0 hb4 => ?_)
 ·
  refine xS 168 [4, 5, 6] ?_
  refine kA (mA ?_)
  obtain rfl := oI h0
  exact lA [] rG
 refine oA (dA ?_)
 obtain ⟨vr5, hvr5, h0⟩ := bA h0
 refine pC 176 [4, 5, 6] (fun | 2 => some (.agg (jB.enc vr5), []) | _ => none) rfl rfl rfl (fun _ _ => aO (zbV hvr5)) ?_
 refine kA ?_
 obtain rfl := oI h0
 exact lA [] rG
theorem zdw {fu : Nat} {l1 : iB} {level2 : Int} {bottom3 : Bool} {r : fB} (h0 : eP fu l1 level2 bottom3 = some r) : yA Tryz.prog 40 [.agg (iB.enc l1), .int .i64 level2, .bool bottom3] (.agg (fB.enc r)) [] := by
 refine cB Tryz.func40 rfl (by decide) rL ?_
 dsimp only [Tryz.f40]
 rw [eP] at h0
 refine xS 16 [1, 2, 3, 6] ?_
 obtain ⟨e4, he4, h0⟩ := bA h0
 obtain ⟨he4a, he4b, he4c⟩ := wA he4
 refine nA 72 [1, 2, 6, 7] (fun _ => none) rfl (fun _ _ => rS (rA he4a (rA he4b he4c))) ?_
 obtain ⟨e5, he5, h0⟩ := bA h0
 have he5b := (wA he5).2.1
 have he5c := (cG 1 he5 rfl).1
 have he5a := (cG 1 he5 rfl).2
 obtain ⟨e6, he6, h0⟩ := bA h0
 have he6b := (wA he6).2.1
 have he6c := (cG 0 he6 rfl).1
 have he6a := (cG 0 he6 rfl).2
 obtain ⟨vr7, hvr7, h0⟩ := bA h0
 refine pC 224 [1, 6, 8] (fun | 10 => some (.tup [.agg (lB.enc vr7.1), .int .i64 vr7.2.1, .int .i64 vr7.2.2], []) | _ => none) rfl rfl rfl (fun _ _ => pP (rA he4a (rA he4b (rA he4c (rA he5a (rA he5b (rA he5c (rA he6a (rA he6b he6c)))))))) (zom hvr7)) ?_
 refine xE ⟨[(1, .int .i64 level2), (6, .ref 8 0 0 0), (8, .ref 192 0 0 0)], [(8, ⟨0, true, true, 11, [[.int .i64 0, .nils, .nils, .nils, .nils, .int .i64 0, .bool false, .str [], .bool false, .nils, .int .i64 0]]⟩), (192, ⟨0, true, true, 10, [[.psl 1 (List.map (sA 4 aA.enc) vr7.1.Merge.Runs), .psl 1 (List.map (fA .i64) vr7.1.Merge.At), .psl 2 (List.map eA.enc vr7.1.Merge.Tree.Keys), .psl 1 (List.map (fA .i64) vr7.1.Merge.Tree.Lose), .int .i64 vr7.1.Merge.Tree.Win, .bool vr7.1.Shadow.Some, .str vr7.1.Shadow.Last, .bool vr7.1.Shadow.Bottom, .psl 4 (List.map aA.enc vr7.1.Out), .int .i64 vr7.1.Steps]]⟩)], 224, []⟩ ?_
 refine nA 256 [6] (fun _ => none) rfl (fun _ _ => rS (rA he4a (rA he4b (rA he4c (rA he5a (rA he5b (rA he5c (rA he6a (rA he6b he6c))))))))) ?_
 refine kA ?_
 obtain rfl := oI h0
 refine lA [] ?_
 exact rJ (rA he4a (rA he4b (rA he4c (rA he5a (rA he5b (rA he5c (rA he6a (rA he6b he6c))))))))
theorem zdm {fu : Nat} {seq1 : Int} {seq2 : List tA} {r : List Int} (h0 : nN fu seq1 seq2 = some r) : yA Tryz.prog 37 [.fn 67 [] [.pp [.int .i64 seq1, .psl 1 (seq2.map tA.enc)]]] (.psl 1 (r.map (fA .i64))) [] := by
 refine cB Tryz.func37 rfl (by decide) rL ?_
 dsimp only [Tryz.f37]
 rw [nN] at h0
 refine xS 8 [0] ?_
 refine sH 3 rfl ?_
 refine lC (l' := List.range' 0 1 ++ (1 :: (List.range' 2 1 ++ []))) rfl ?_
 refine sC 0 1 16 (1 :: (List.range' 2 1 ++ [])) (fun _ => none) rfl rfl rfl (fun _ _ => rT) ?_
 refine xJ rfl rfl rfl rfl rfl Tryz.func66 rfl (by decide) rfl rL ?_
 dsimp only [Tryz.f66]
 refine xE ⟨[(0, .nils), (1, .fn 67 [] [.pp [.int .i64 seq1, .psl 1 (List.map tA.enc seq2)]])], [], 16, []⟩ ?_
 refine xS 32 [1, 2, 4] ?_
 refine iA ?_
 refine xS 40 [2, 4, 6] ?_
 refine xB ?_
 refine zbG rfl Tryz.func67 rfl (by decide) rL ?_
 intro RC3 hRC3
 have stRC3 : RC3.st = .ready ∧ RC3.pend = none := by rw [hRC3]; exact ⟨rfl, rfl⟩
 have okRC3 : jY 40 RC3 := by rw [hRC3]; exact And.intro (rR) rfl
 dsimp only [Tryz.f67]
 refine oB (s2 := ⟨[(0, .yld 40), (1, .pp [.int .i64 seq1, .psl 1 (List.map tA.enc seq2)])], [(16, ⟨0, true, true, 1, [[.nils]]⟩)], 41, [(40, RC3)]⟩) [] rL ⟨rF, rE, rfl, rfl, (gC.consR rL rfl okRC3 rL trivial), trivial⟩ ?_
 refine xS 73 [0, 6, 7, 8] ?_
 refine zaz ?_
 refine oB (s2 := ⟨[(0, .yld 40), (6, .psl 1 (List.map tA.enc seq2)), (7, .int .i64 (seq2.length : Int)), (8, .int .i64 0)], [(16, ⟨0, true, false, 1, [[.sl 73 0 1 0 0]]⟩), (73, ⟨0, true, true, 1, List.map (fA .i64) []⟩)], 74, [(40, RC3)]⟩) [(73, 1)] rL ⟨rF, rE, rfl, rfl, (gC.consR rL rfl okRC3 rL trivial), rN⟩ ?_
 obtain ⟨x17, hxx17, h0⟩ := bA h0
 refine oC (fun s' => ∃ g25 : Nat, s'.nx ≤ 82 ∧ LeN [] s' ⟨[], [(16, ⟨0, true, false, 1, [[.sl 73 g25 1 0 x17.length]]⟩), (73, ⟨g25, true, true, 1, List.map (fA .i64) x17⟩)], 82, [(40, RC3)]⟩) ?_ ?_
 ·
  intro s' hs
  obtain ⟨g25, hn, hs⟩ := hs
  refine ⟨_, hn, hs, ?_⟩
  refine uR (fun _ _ => rT) ?_
  refine zal stRC3 rfl ?_
  refine qB (dA ?_)
  refine xE ⟨[(2, .ref 16 0 0 0), (4, .nils), (6, .fn 67 [] [.pp [.int .i64 seq1, .psl 1 (List.map tA.enc seq2)]])], [(16, ⟨0, true, false, 1, [[.sl 73 g25 1 0 x17.length]]⟩), (73, ⟨g25, true, true, 1, List.map (fA .i64) x17⟩)], 82, []⟩ ?_
  refine xS 98 [4] ?_
  refine kA ?_
  refine oE (fun _ _ => rT) ?_
  refine xF ⟨[(0, .fn 67 [] [.pp [.int .i64 seq1, .psl 1 (List.map tA.enc seq2)]]), (3, .fn 67 [] [.pp [.int .i64 seq1, .psl 1 (List.map tA.enc seq2)]]), (4, .sl 73 g25 1 0 x17.length)], [(73, ⟨g25, true, true, 1, List.map (fA .i64) x17⟩)], 98, []⟩ ?_
  refine lC (l' := List.range' 2 1 ++ []) rfl ?_
  refine sC 2 1 106 [] (fun _ => none) rfl rfl rfl (fun _ _ => rT) ?_
  refine kD ?_
  refine dA ?_
  refine xE ⟨[(2, .sl 73 g25 1 0 x17.length)], [(73, ⟨g25, true, true, 1, List.map (fA .i64) x17⟩)], 106, []⟩ ?_
  refine kA ?_
  obtain rfl := oI h0
  exact lA [] rG
 refine nC (ι := { p : Nat × Int × List Int × Nat // jH seq2 p.1 p.2.1 p.2.2.1 = some x17 }) (fun p => ⟨[(0, .yld 40), (6, .psl 1 (List.map tA.enc seq2)), (7, .int .i64 (seq2.length : Int)), (8, .int .i64 p.1.2.1)], [(16, ⟨0, true, false, 1, [[.sl 73 p.1.2.2.2 1 0 p.1.2.2.1.length]]⟩), (73, ⟨p.1.2.2.2, true, true, 1, List.map (fA .i64) p.1.2.2.1⟩)], 74, [(40, RC3)]⟩) (fun p => p.1.1) ⟨(fu, 0, [], 0), hxx17⟩ ⟨rF, rE, rfl, rfl, (gC.consR rL rfl okRC3 rL trivial), trivial⟩ (fun _ => Nat.le_refl _) ?_
 rintro ⟨⟨fu, v18, v19, g20⟩, h1⟩
 cases fu with
 | zero =>
  replace h1 : jH seq2 0 v18 v19 = some x17 := h1
  rw [jH] at h1; cases h1
 | succ fu =>
  replace h1 : jH seq2 (fu + 1) v18 v19 = some x17 := h1
  rw [jH] at h1
  dsimp only
  refine xS 82 [0, 6, 7, 8, 9] ?_
  refine iA ?_
  refine xI h1 rfl (fun h1 hb21 => ?_) (fun h1 hb21 => ?_)
  ·
   refine oA (dA (iA (xB ?_)))
   obtain ⟨e22, he22, h1⟩ := bA h1
   obtain ⟨he22a, he22b, he22c⟩ := wA he22
   refine nA 130 [0, 3, 4, 6, 7, 8] (fun _ => none) rfl (fun _ _ => rS (rA he22a (rA he22b he22c))) ?_
   refine sH 10 rfl ?_
   refine lC (l' := List.range' 0 5 ++ (List.range' 5 5 ++ [])) rfl ?_
   refine sC 0 5 170 (List.range' 5 5 ++ []) (fun _ => none) rfl rfl rfl (fun _ _ => rS (rA he22a (rA he22b he22c))) ?_
   refine iK (s2 := ⟨[(0, .yld 40), (3, .int .i64 v18), (4, .ref 106 0 0 0), (6, .psl 1 (List.map tA.enc seq2)), (7, .int .i64 (seq2.length : Int)), (8, .int .i64 v18), (13, .ref 106 0 0 0), (14, .psl 2 (List.map kB.enc e22.Runs)), (15, .int .i64 (e22.Runs.length : Int)), (16, .bool (decide ((e22.Runs.length : Int) = 2))), (17, .bool (decide ((e22.Runs.length : Int) = 2)))], [(16, ⟨0, true, false, 1, [[.sl 73 g20 1 0 v19.length]]⟩), (73, ⟨g20, true, true, 1, List.map (fA .i64) v19⟩), (106, ⟨0, true, true, 1, [[.psl 2 (List.map kB.enc e22.Runs)]]⟩)], 170, [(40, RC3)]⟩) [] rL ⟨rF, rE, rfl, rfl, (gC.consR rL rfl okRC3 rL trivial), trivial⟩ ?_
   generalize hg23 : (decide ((e22.Runs.length : Int) = 2)) = b23
   cases b23 with
   | true =>
    replace h1 := aB h1 hg23
    refine lC (l' := List.range' 5 2 ++ (7 :: (List.range' 8 2 ++ []))) rfl ?_
    refine sC 5 2 186 (7 :: (List.range' 8 2 ++ [])) (fun _ => none) rfl rfl rfl (fun _ _ => rS (rA he22a (rA he22b he22c))) ?_
    refine zbr hRC3 rfl rfl rfl rfl rfl rfl rfl rfl rfl ?_
    refine oB (s2 := ⟨[(2, .ref 16 0 0 0), (4, .nils), (6, .fn 67 [] [.pp [.int .i64 seq1, .psl 1 (List.map tA.enc seq2)]]), (7, .int .i64 v18)], [(16, ⟨0, true, false, 1, [[.sl 73 g20 1 0 v19.length]]⟩), (73, ⟨g20, true, true, 1, List.map (fA .i64) v19⟩), (106, ⟨0, true, true, 1, [[.psl 2 (List.map kB.enc e22.Runs)]]⟩)], 186, [(40, RC3)]⟩) [] rL ⟨rF, rE, rfl, rfl, (gC.consR rL rfl okRC3 rL trivial), trivial⟩ ?_
    refine nB 194 [2, 4, 5] (fun _ => none) rfl (fun _ _ => rS (rA he22a (rA he22b he22c))) ?_
    refine dA ?_
    refine ⟨RC3, rfl, stRC3.1, ?_⟩
    refine oB (s2 := ⟨[(2, .ref 16 0 0 0), (4, .nils), (5, .int .i64 v18)], [(16, ⟨0, true, false, 1, [[.sl 73 g20 1 0 v19.length]]⟩), (73, ⟨g20, true, true, 1, List.map (fA .i64) v19⟩), (106, ⟨0, true, true, 1, [[.psl 2 (List.map kB.enc e22.Runs)]]⟩)], 194, [(40, { RC3 with st := .busy, pend := RC3.pend })]⟩) [] rL ⟨rF, rE, rfl, rfl, (gC.consR rL rfl okRC3 rL trivial), trivial⟩ ?_
    refine xB ?_
    obtain ⟨hc24, h1⟩ := pD h1
    refine nB 234 [2, 4] (fun _ => none) rfl (fun _ _ => rS (rA he22a (rA he22b he22c))) ?_
    refine qB ?_
    refine zba stRC3 rfl ?_
    refine iK (s2 := ⟨[(0, .yld 40), (3, .int .i64 v18), (4, .ref 106 0 0 0), (6, .psl 1 (List.map tA.enc seq2)), (7, .int .i64 (seq2.length : Int)), (8, .int .i64 v18), (13, .ref 106 0 0 0), (14, .psl 2 (List.map kB.enc e22.Runs)), (15, .int .i64 (e22.Runs.length : Int)), (16, .bool true), (17, .bool true), (18, .yld 40), (19, .int .i64 v18), (20, .bool true)], [(16, ⟨0, true, false, 1, [[.sl 73 (g20 + 1) 1 0 ((v19 ++ [v18]).length)]]⟩), (73, ⟨(g20 + 1), true, true, 1, List.map (fA .i64) (v19 ++ [v18])⟩), (106, ⟨0, true, true, 1, [[.psl 2 (List.map kB.enc e22.Runs)]]⟩)], 234, [(40, RC3)]⟩) [] rL ⟨rF, rE, rfl, rfl, (gC.consR rL rfl okRC3 rL trivial), trivial⟩ ?_
    refine lC (l' := List.range' 8 2 ++ []) rfl ?_
    refine sC 8 2 250 [] (fun _ => none) rfl rfl rfl (fun _ _ => rS (rA he22a (rA he22b he22c))) ?_
    refine kD ?_
    refine dA ?_
    refine oB (s2 := ⟨[(0, .yld 40), (6, .psl 1 (List.map tA.enc seq2)), (7, .int .i64 (seq2.length : Int)), (8, .int .i64 v18), (18, .yld 40), (19, .int .i64 v18), (20, .bool true), (21, .bool false), (22, .bool false)], [(16, ⟨0, true, false, 1, [[.sl 73 (g20 + 1) 1 0 ((v19 ++ [v18]).length)]]⟩), (73, ⟨(g20 + 1), true, true, 1, List.map (fA .i64) (v19 ++ [v18])⟩)], 250, [(40, RC3)]⟩) [] rL ⟨rF, rE, rfl, rfl, (gC.consR rL rfl okRC3 rL trivial), trivial⟩ ?_
    refine qF rfl ?_
    refine oA (qB (dA ?_))
    refine nB 266 [0, 6, 7, 8, 18, 19, 20, 21] (fun _ => none) rfl (fun _ _ => rS (rA he22a (rA he22b he22c))) ?_
    refine dA ?_
    exact ⟨⟨(fu, (IntKind.i64.wrap (v18 + 1)), (v19 ++ [v18]), (g20 + 1)), h1⟩, ⟨rF, rE, rfl, rfl, (gC.consR rL rfl okRC3 rL trivial), trivial⟩, Nat.lt_succ_self _⟩
   | false =>
    replace h1 := qA h1 hg23
    refine lC (l' := List.range' 5 5 ++ []) rfl ?_
    refine sC 5 5 210 [] (fun _ => none) rfl rfl rfl (fun _ _ => rS (rA he22a (rA he22b he22c))) ?_
    refine kD ?_
    refine dA ?_
    refine oB (s2 := ⟨[(0, .yld 40), (6, .psl 1 (List.map tA.enc seq2)), (7, .int .i64 (seq2.length : Int)), (8, .int .i64 v18), (22, .bool false)], [(16, ⟨0, true, false, 1, [[.sl 73 g20 1 0 v19.length]]⟩), (73, ⟨g20, true, true, 1, List.map (fA .i64) v19⟩)], 210, [(40, RC3)]⟩) [] rL ⟨rF, rE, rfl, rfl, (gC.consR rL rfl okRC3 rL trivial), trivial⟩ ?_
    refine qF rfl ?_
    refine oA (qB (dA ?_))
    refine nB 226 [0, 6, 7, 8] (fun _ => none) rfl (fun _ _ => rS (rA he22a (rA he22b he22c))) ?_
    refine dA ?_
    exact ⟨⟨(fu, (IntKind.i64.wrap (v18 + 1)), v19, g20), h1⟩, ⟨rF, rE, rfl, rfl, (gC.consR rL rfl okRC3 rL trivial), trivial⟩, Nat.lt_succ_self _⟩
  refine fC (xA (xA (iC ?_)))
  obtain rfl := oI h1
  exact ⟨g20, rL, ⟨rF, rE, rfl, rfl, (gC.consR rL rfl okRC3 rL trivial), trivial⟩⟩
theorem xL {fu : Nat} {s11 : List eA} {s22 : List eA} {r : Bool} (h0 : cM fu s11 s22 = some r) : yA Tryz.prog 72 [.psl 2 (s11.map eA.enc), .psl 2 (s22.map eA.enc)] (.bool r) [] := by
 refine cB Tryz.func72 rfl (by decide) rL ?_
 dsimp only [Tryz.f72]
 rw [cM] at h0
 refine xS 8 [0, 1] ?_
 refine iA ?_
 refine xS 48 [0, 1, 10] ?_
 refine xI h0 rfl (fun h0 hb3 => ?_) (fun h0 hb3 => ?_)
 ·
  refine xS 56 [4] ?_
  refine kA (mA ?_)
  obtain rfl := oI h0
  exact lA [] rG
 refine oA (dA (iA ?_))
 refine xS 72 [0, 1, 12, 13] ?_
 obtain ⟨x13, hxx13, h0⟩ := bA h0
 refine oC (fun s' => ∃ o19 : Unit, x13 = .inl o19 ∧ s'.nx ≤ 80 ∧ LeN [] s' ⟨[], [], 80, []⟩) ?_ ?_
 ·
  intro s' hs
  obtain ⟨o19, rfl, hn, hs⟩ := hs
  refine dA ?_
  refine oB [] hn hs ?_
  refine xS 88 [4] ?_
  refine kA ?_
  obtain rfl := oI h0
  exact lA [] rG
 refine nC (ι := { p : Nat × Int // rI s11 s22 p.1 p.2 = some x13 }) (fun p => ⟨[(0, .psl 2 (List.map eA.enc s11)), (1, .psl 2 (List.map eA.enc s22)), (12, .int .i64 (s11.length : Int)), (13, .int .i64 p.1.2)], [], 72, []⟩) (fun p => p.1.1) ⟨(fu, 0), hxx13⟩ ⟨rF, rE, rfl, rfl, trivial, trivial⟩ (fun _ => Nat.le_refl _) ?_
 rintro ⟨⟨fu, v14⟩, h1⟩
 cases fu with
 | zero =>
  replace h1 : rI s11 s22 0 v14 = some x13 := h1
  rw [rI] at h1; cases h1
 | succ fu =>
  replace h1 : rI s11 s22 (fu + 1) v14 = some x13 := h1
  rw [rI] at h1
  dsimp only
  refine xS 80 [0, 1, 12, 13, 14] ?_
  refine iA ?_
  refine xI h1 rfl (fun h1 hb15 => ?_) (fun h1 hb15 => ?_)
  ·
   refine oA (dA (iA (xB ?_)))
   refine xS 96 [0, 1, 5, 12, 13] ?_
   obtain ⟨e16, he16, h1⟩ := bA h1
   obtain ⟨he16a, he16b, he16c⟩ := wA he16
   obtain ⟨e17, he17, h1⟩ := bA h1
   obtain ⟨he17a, he17b, he17c⟩ := wA he17
   refine pC 168 [0, 1, 12, 13, 24] (fun _ => none) rfl rfl rfl (fun _ _ => aE (rA he16a (rA he16b (rA he16c (rA he17a (rA he17b he17c)))))) ?_
   refine xI h1 rfl (fun h1 hb18 => ?_) (fun h1 hb18 => ?_)
   ·
    refine nA 176 [4] (fun _ => none) rfl (fun _ _ => rS (rA he16a (rA he16b (rA he16c (rA he17a (rA he17b he17c)))))) ?_
    refine kA ?_
    obtain rfl := oI h1
    refine cC (mA (mA (wC (mA ?_))))
    obtain rfl := oI h0
    refine lA [] ?_
    exact rJ (rA he16a (rA he16b (rA he16c (rA he17a (rA he17b he17c)))))
   refine oA (qB (dA ?_))
   refine nB 184 [0, 1, 12, 13] (fun _ => none) rfl (fun _ _ => rS (rA he16a (rA he16b (rA he16c (rA he17a (rA he17b he17c)))))) ?_
   refine dA ?_
   exact ⟨⟨(fu, (IntKind.i64.wrap (v14 + 1))), h1⟩, ⟨rF, rE, rfl, rfl, trivial, trivial⟩, Nat.lt_succ_self _⟩
  refine fC (xA (xA (iC ?_)))
  obtain rfl := oI h1
  exact ⟨_, rfl, rL, ⟨rF, rE, rfl, rfl, trivial, trivial⟩⟩
theorem oG {fu : Nat} {s11 : List Int} {s22 : List Int} {r : Bool} (h0 : nJ fu s11 s22 = some r) : yA Tryz.prog 71 [.psl 1 (s11.map (fA .i64)), .psl 1 (s22.map (fA .i64))] (.bool r) [] := by
 refine cB Tryz.func71 rfl (by decide) rL ?_
 dsimp only [Tryz.f71]
 rw [nJ] at h0
 refine xS 8 [0, 1] ?_
 refine iA ?_
 refine xS 48 [0, 1, 10] ?_
 refine xI h0 rfl (fun h0 hb3 => ?_) (fun h0 hb3 => ?_)
 ·
  refine xS 56 [4] ?_
  refine kA (mA ?_)
  obtain rfl := oI h0
  exact lA [] rG
 refine oA (dA (iA ?_))
 refine xS 72 [0, 1, 12, 13] ?_
 obtain ⟨x13, hxx13, h0⟩ := bA h0
 refine oC (fun s' => ∃ o19 : Unit, x13 = .inl o19 ∧ s'.nx ≤ 80 ∧ LeN [] s' ⟨[], [], 80, []⟩) ?_ ?_
 ·
  intro s' hs
  obtain ⟨o19, rfl, hn, hs⟩ := hs
  refine dA ?_
  refine oB [] hn hs ?_
  refine xS 88 [4] ?_
  refine kA ?_
  obtain rfl := oI h0
  exact lA [] rG
 refine nC (ι := { p : Nat × Int // eI s11 s22 p.1 p.2 = some x13 }) (fun p => ⟨[(0, .psl 1 (List.map (fA .i64) s11)), (1, .psl 1 (List.map (fA .i64) s22)), (12, .int .i64 (s11.length : Int)), (13, .int .i64 p.1.2)], [], 72, []⟩) (fun p => p.1.1) ⟨(fu, 0), hxx13⟩ ⟨rF, rE, rfl, rfl, trivial, trivial⟩ (fun _ => Nat.le_refl _) ?_
 rintro ⟨⟨fu, v14⟩, h1⟩
 cases fu with
 | zero =>
  replace h1 : eI s11 s22 0 v14 = some x13 := h1
  rw [eI] at h1; cases h1
 | succ fu =>
  replace h1 : eI s11 s22 (fu + 1) v14 = some x13 := h1
  rw [eI] at h1
  dsimp only
  refine xS 80 [0, 1, 12, 13, 14] ?_
  refine iA ?_
  refine xI h1 rfl (fun h1 hb15 => ?_) (fun h1 hb15 => ?_)
  ·
   refine oA (dA (iA (xB ?_)))
   refine xS 96 [0, 1, 5, 12, 13] ?_
   obtain ⟨e16, he16, h1⟩ := bA h1
   obtain ⟨he16a, he16b, he16c⟩ := wA he16
   obtain ⟨e17, he17, h1⟩ := bA h1
   obtain ⟨he17a, he17b, he17c⟩ := wA he17
   refine pC 168 [0, 1, 12, 13, 24] (fun _ => none) rfl rfl rfl (fun _ _ => aE (rA he16a (rA he16b (rA he16c (rA he17a (rA he17b he17c)))))) ?_
   refine xI h1 rfl (fun h1 hb18 => ?_) (fun h1 hb18 => ?_)
   ·
    refine nA 176 [4] (fun _ => none) rfl (fun _ _ => rS (rA he16a (rA he16b (rA he16c (rA he17a (rA he17b he17c)))))) ?_
    refine kA ?_
    obtain rfl := oI h1
    refine cC (mA (mA (wC (mA ?_))))
    obtain rfl := oI h0
    refine lA [] ?_
    exact rJ (rA he16a (rA he16b (rA he16c (rA he17a (rA he17b he17c)))))
   refine oA (qB (dA ?_))
   refine nB 184 [0, 1, 12, 13] (fun _ => none) rfl (fun _ _ => rS (rA he16a (rA he16b (rA he16c (rA he17a (rA he17b he17c)))))) ?_
   refine dA ?_
   exact ⟨⟨(fu, (IntKind.i64.wrap (v14 + 1))), h1⟩, ⟨rF, rE, rfl, rfl, trivial, trivial⟩, Nat.lt_succ_self _⟩
  refine fC (xA (xA (iC ?_)))
  obtain rfl := oI h1
  exact ⟨_, rfl, rL, ⟨rF, rE, rfl, rfl, trivial, trivial⟩⟩
theorem zjL {fu : Nat} {a1 : bB} {b2 : bB} {r : Bool} (h0 : yP fu a1 b2 = some r) : yA Tryz.prog 107 [.agg (bB.enc a1), .agg (bB.enc b2)] (.bool r) [] := by
 refine cB Tryz.func107 rfl (by decide) rL ?_
 dsimp only [Tryz.f107]
 rw [yP] at h0
 refine xS 24 [2, 3] ?_
 obtain ⟨b4, hb4, h0⟩ := bA h0
 obtain ⟨b6, hb6, h0⟩ := bA h0
 refine mC (fr' := [(4, .bool b6)]) (hp' := [(0, ⟨0, true, true, 3, [[.psl 2 (List.map eA.enc a1.Keys), .psl 1 (List.map (fA .i64) a1.Lose), .int .i64 a1.Win]]⟩), (8, ⟨0, true, true, 3, [[.psl 2 (List.map eA.enc b2.Keys), .psl 1 (List.map (fA .i64) b2.Lose), .int .i64 b2.Win]]⟩)]) [0, 8] 184 [4] (fun | 10 => (cM fu a1.Keys b2.Keys).bind fun vr3 => some (.bool vr3, []) | 17 => (nJ fu a1.Lose b2.Lose).bind fun vr5 => some (.bool vr5, []) | _ => none) rfl (fun Kt hK => by
   cases hg7 : (decide (a1.Win = b2.Win)) with
   | false =>
    replace hb4 := qA hb4 hg7
    have hqb4 := oI hb4
    cases b4 with
    | false =>
     replace hb6 := qA hb6 rfl
     have hqb6 := oI hb6
     subst hqb6
     simp (maxSteps := 1000000) only [↓reduceIte, reduceCtorEq, Nat.reduceEqDiff, Nat.reduceLT, Nat.reduceLeDiff, Nat.reduceAdd, Nat.reduceMul, Int.reduceToNat, push_cast, ↓hg7]
     try simp only [↓hg7] at hK
     try have q0 := xL hvr3
     try have q1 := oG hvr5
     all_goals exact rU
    | true =>
     cases hqb4
   | true =>
    replace hb4 := aB hb4 hg7
    obtain ⟨vr3, hvr3, hb4⟩ := bA hb4
    have hqb4 := oI hb4
    cases b4 with
    | false =>
     subst hqb4
     replace hb6 := qA hb6 rfl
     have hqb6 := oI hb6
     subst hqb6
     simp (maxSteps := 1000000) only [↓reduceIte, reduceCtorEq, Nat.reduceEqDiff, Nat.reduceLT, Nat.reduceLeDiff, Nat.reduceAdd, Nat.reduceMul, Int.reduceToNat, push_cast, ↓hg7, hvr3]
     try simp only [↓hg7] at hK
     try have q0 := xL hvr3
     try have q1 := oG hvr5
     all_goals exact rU
    | true =>
     subst hqb4
     replace hb6 := aB hb6 rfl
     obtain ⟨vr5, hvr5, hb6⟩ := bA hb6
     have hqb6 := oI hb6
     subst hqb6
     simp (maxSteps := 1000000) only [↓reduceIte, reduceCtorEq, Nat.reduceEqDiff, Nat.reduceLT, Nat.reduceLeDiff, Nat.reduceAdd, Nat.reduceMul, Int.reduceToNat, push_cast, ↓hg7, hvr3, hvr5]
     try simp only [↓hg7] at hK
     try have q0 := xL hvr3
     try have q1 := oG hvr5
     all_goals exact rU) ?_
 refine kA ?_
 obtain rfl := oI h0
 exact lA [] rG
theorem zhS {fu : Nat} {t1 : bB} {r : Int × Int} (h0 : jR fu t1 = some r) : yA Tryz.prog 143 [.agg (bB.enc t1)] (.tup [.int .i64 r.1, .int .i64 r.2]) [] := by
 refine cB Tryz.func143 rfl (by decide) rL ?_
 dsimp only [Tryz.f143]
 rw [jR] at h0
 refine xS 24 [1] ?_
 refine iA ?_
 obtain ⟨vr2, hvr2, h0⟩ := bA h0
 refine nA 56 [1, 4] (fun | 2 => some (.int .i64 vr2, []) | _ => none) rfl (fun _ _ => rC (zab hvr2)) ?_
 refine xS 72 [1, 4, 12] ?_
 refine xI h0 rfl (fun h0 hb3 => ?_) (fun h0 hb3 => ?_)
 ·
  refine xS 96 [2, 3] ?_
  refine kA (mA ?_)
  obtain rfl := oI h0
  exact lA [] rG
 refine oA (dA (iA ?_))
 refine xS 128 [1, 20] ?_
 refine xI h0 rfl (fun h0 hb4 => ?_) (fun h0 hb4 => ?_)
 ·
  refine xS 144 [2, 3] ?_
  refine kA (mA ?_)
  obtain rfl := oI h0
  exact lA [] rG
 refine oA (dA ?_)
 obtain ⟨vr5, hvr5, h0⟩ := bA h0
 refine nA 168 [1, 5] (fun | 2 => some (.agg (bB.enc vr5), []) | _ => none) rfl (fun _ _ => rC (zcL hvr5)) ?_
 refine iA ?_
 refine xS 200 [1, 5, 25, 26, 27] ?_
 obtain ⟨x15, hxx15, h0⟩ := bA h0
 refine oC (fun s' => ∃ o21 : Unit, x15 = .inl o21 ∧ s'.nx ≤ 208 ∧ LeN [] s' ⟨[(1, .ref 0 0 0 0), (5, .ref 152 0 0 0)], [(0, ⟨0, true, true, 3, [[.psl 2 (List.map eA.enc t1.Keys), .psl 1 (List.map (fA .i64) t1.Lose), .int .i64 t1.Win]]⟩), (152, ⟨0, true, true, 3, [[.psl 2 (List.map eA.enc vr5.Keys), .psl 1 (List.map (fA .i64) vr5.Lose), .int .i64 vr5.Win]]⟩)], 208, []⟩) ?_ ?_
 ·
  intro s' hs
  obtain ⟨o21, rfl, hn, hs⟩ := hs
  refine dA ?_
  refine oB [] hn hs ?_
  refine iA ?_
  refine xS 248 [45] ?_
  refine xI h0 rfl (fun h0 hb22 => ?_) (fun h0 hb22 => ?_)
  ·
   refine xS 264 [2, 3] ?_
   refine kA (mA ?_)
   obtain rfl := oI h0
   exact lA [] rG
  refine oA (dA ?_)
  refine xS 264 [2, 3] ?_
  refine kA ?_
  obtain rfl := oI h0
  exact lA [] rG
 refine nC (ι := { p : Nat × Int // vI vr5 t1 p.1 p.2 = some x15 }) (fun p => ⟨[(1, .ref 0 0 0 0), (5, .ref 152 0 0 0), (25, .psl 1 (List.map (fA .i64) vr5.Lose)), (26, .int .i64 (vr5.Lose.length : Int)), (27, .int .i64 p.1.2)], [(0, ⟨0, true, true, 3, [[.psl 2 (List.map eA.enc t1.Keys), .psl 1 (List.map (fA .i64) t1.Lose), .int .i64 t1.Win]]⟩), (152, ⟨0, true, true, 3, [[.psl 2 (List.map eA.enc vr5.Keys), .psl 1 (List.map (fA .i64) vr5.Lose), .int .i64 vr5.Win]]⟩)], 200, []⟩) (fun p => p.1.1) ⟨(fu, 0), hxx15⟩ ⟨rF, rE, rfl, rfl, trivial, trivial⟩ (fun _ => Nat.le_refl _) ?_
 rintro ⟨⟨fu, v16⟩, h1⟩
 cases fu with
 | zero =>
  replace h1 : vI vr5 t1 0 v16 = some x15 := h1
  rw [vI] at h1; cases h1
 | succ fu =>
  replace h1 : vI vr5 t1 (fu + 1) v16 = some x15 := h1
  rw [vI] at h1
  dsimp only
  refine xS 208 [1, 5, 25, 26, 27, 28] ?_
  refine iA ?_
  refine xI h1 rfl (fun h1 hb17 => ?_) (fun h1 hb17 => ?_)
  ·
   refine oA (dA (iA (xB ?_)))
   obtain ⟨e18, he18, h1⟩ := bA h1
   obtain ⟨he18a, he18b, he18c⟩ := wA he18
   refine nA 248 [1, 5, 6, 7, 25, 26, 27] (fun _ => none) rfl (fun _ _ => rS (rA he18a (rA he18b he18c))) ?_
   obtain ⟨e19, he19, h1⟩ := bA h1
   obtain ⟨he19a, he19b, he19c⟩ := wA he19
   refine nA 304 [1, 5, 6, 25, 26, 27, 38] (fun _ => none) rfl (fun _ _ => rS (rA he18a (rA he18b (rA he18c (rA he19a (rA he19b he19c)))))) ?_
   refine xI h1 rfl (fun h1 hb20 => ?_) (fun h1 hb20 => ?_)
   ·
    refine nA 328 [2, 3] (fun _ => none) rfl (fun _ _ => rS (rA he18a (rA he18b (rA he18c (rA he19a (rA he19b he19c)))))) ?_
    refine kA ?_
    obtain rfl := oI h1
    refine cC (mA (mA (wC (mA ?_))))
    obtain rfl := oI h0
    refine lA [] ?_
    exact rJ (rA he18a (rA he18b (rA he18c (rA he19a (rA he19b he19c)))))
   refine oA (qB (dA ?_))
   refine nB 320 [1, 5, 25, 26, 27] (fun _ => none) rfl (fun _ _ => rS (rA he18a (rA he18b (rA he18c (rA he19a (rA he19b he19c)))))) ?_
   refine dA ?_
   exact ⟨⟨(fu, (IntKind.i64.wrap (v16 + 1))), h1⟩, ⟨rF, rE, rfl, rfl, trivial, trivial⟩, Nat.lt_succ_self _⟩
  refine fC (xA (xA (iC ?_)))
  obtain rfl := oI h1
  exact ⟨_, rfl, rL, ⟨rF, rE, rfl, rfl, trivial, trivial⟩⟩
theorem zd5 {fu : Nat} {t1 : bB} {r : Int} (h0 : vO fu t1 = some r) : yA Tryz.prog 128 [.agg (bB.enc t1)] (.int .i64 r) [] := by
 refine cB Tryz.func128 rfl (by decide) rL ?_
 dsimp only [Tryz.f128]
 rw [vO] at h0
 refine xS 16 [1] ?_
 refine iA ?_
 obtain ⟨vr2, hvr2, h0⟩ := bA h0
 refine nA 72 [1, 4] (fun | 1 => some (.tup [.int .i64 vr2.1, .int .i64 vr2.2], []) | _ => none) rfl (fun _ _ => rC (zhS hvr2)) ?_
 refine xS 88 [1, 4, 11] ?_
 refine xI h0 rfl (fun h0 hb3 => ?_) (fun h0 hb3 => ?_)
 ·
  refine xS 104 [2] ?_
  refine kA (mA ?_)
  obtain rfl := oI h0
  exact lA [] rG
 refine oA (dA (iA ?_))
 obtain ⟨e4, he4, h0⟩ := bA h0
 obtain ⟨he4a, he4b, he4c⟩ := wA he4
 refine nA 144 [19] (fun _ => none) rfl (fun _ _ => rS (rA he4a (rA he4b he4c))) ?_
 refine xI h0 rfl (fun h0 hb5 => ?_) (fun h0 hb5 => ?_)
 ·
  refine nA 152 [2] (fun _ => none) rfl (fun _ _ => rS (rA he4a (rA he4b he4c))) ?_
  refine kA (mA ?_)
  obtain rfl := oI h0
  refine lA [] ?_
  exact rJ (rA he4a (rA he4b he4c))
 refine oA (dA ?_)
 refine nA 152 [2] (fun _ => none) rfl (fun _ _ => rS (rA he4a (rA he4b he4c))) ?_
 refine kA ?_
 obtain rfl := oI h0
 refine lA [] ?_
 exact rJ (rA he4a (rA he4b he4c))
theorem zde {fu : Nat} {t1 : bB} {r : Int × List UInt8 × Int} (h0 : rP fu t1 = some r) : yA Tryz.prog 109 [.agg (bB.enc t1)] (.tup [.int .i64 r.1, .str r.2.1, .int .i64 r.2.2]) [] := by
 refine cB Tryz.func109 rfl (by decide) rL ?_
 dsimp only [Tryz.f109]
 rw [rP] at h0
 refine xS 32 [1] ?_
 refine iA ?_
 obtain ⟨vr2, hvr2, h0⟩ := bA h0
 refine nA 56 [1, 5] (fun | 1 => some (.int .i64 vr2, []) | _ => none) rfl (fun _ _ => rC (zd5 hvr2)) ?_
 refine xS 72 [1, 5, 9] ?_
 refine xI h0 rfl (fun h0 hb3 => ?_) (fun h0 hb3 => ?_)
 ·
  refine xS 104 [2, 3, 4] ?_
  refine kA (mA ?_)
  obtain rfl := oI h0
  exact lA [] rG
 refine oA (dA ?_)
 obtain ⟨e4, he4, h0⟩ := bA h0
 obtain ⟨he4a, he4b, he4c⟩ := wA he4
 refine pC 168 [2, 3, 4] (fun _ => none) rfl rfl rfl (fun _ _ => aE (rA he4a (rA he4b he4c))) ?_
 refine kA ?_
 obtain rfl := oI h0
 refine lA [] ?_
 exact rJ (rA he4a (rA he4b he4c))
theorem zdp {fu : Nat} {vx1 : List UInt8} {r : Bool} (h0 : eQ fu vx1 = some r) : yA Tryz.prog 129 [.str vx1] (.bool r) [] := by
 refine cB Tryz.func129 rfl (by decide) rL ?_
 dsimp only [Tryz.f129]
 rw [eQ] at h0
 refine xS 8 [0] ?_
 refine xS 40 [2] ?_
 refine kA ?_
 obtain rfl := oI h0
 exact lA [] rG
theorem zcy {fu : Nat} {vx1 : List UInt8} {y2 : List UInt8} {r : Int} (h0 : hM fu vx1 y2 = some r) : yA Tryz.prog 111 [.str vx1, .str y2] (.int .i64 r) [] := by
 refine cB Tryz.func111 rfl (by decide) rL ?_
 dsimp only [Tryz.f111]
 rw [hM] at h0
 refine xS 8 [0, 1] ?_
 obtain ⟨vr3, hvr3, h0⟩ := bA h0
 refine nA 32 [0, 1, 5] (fun | 1 => some (.bool vr3, []) | _ => none) rfl (fun _ _ => rC (zdp hvr3)) ?_
 obtain ⟨vr4, hvr4, h0⟩ := bA h0
 refine nA 56 [0, 1, 5, 6] (fun | 1 => some (.bool vr4, []) | _ => none) rfl (fun _ _ => rC (zdp hvr4)) ?_
 refine iA ?_
 refine xS 64 [0, 1, 6, 11] ?_
 refine xI h0 rfl (fun h0 hb5 => ?_) (fun h0 hb5 => ?_)
 ·
  refine iA ?_
  refine xS 72 [12] ?_
  refine xI h0 rfl (fun h0 hb6 => ?_) (fun h0 hb6 => ?_)
  ·
   refine xS 80 [4] ?_
   refine kA (mA (mA ?_))
   obtain rfl := oI h0
   exact lA [] rG
  refine oA (dA ?_)
  refine xS 80 [4] ?_
  refine kA (mA ?_)
  obtain rfl := oI h0
  exact lA [] rG
 refine oA (dA (iA ?_))
 refine xS 72 [0, 1, 13] ?_
 refine xI h0 rfl (fun h0 hb7 => ?_) (fun h0 hb7 => ?_)
 ·
  refine xS 80 [4] ?_
  refine kA (mA ?_)
  obtain rfl := oI h0
  exact lA [] rG
 refine oA (dA (iA ?_))
 refine xS 96 [0, 1, 16] ?_
 refine xI h0 rfl (fun h0 hb8 => ?_) (fun h0 hb8 => ?_)
 ·
  refine xS 104 [4] ?_
  refine kA (mA ?_)
  obtain rfl := oI h0
  exact lA [] rG
 refine oA (dA (iA ?_))
 refine xS 120 [19] ?_
 refine xI h0 rfl (fun h0 hb9 => ?_) (fun h0 hb9 => ?_)
 ·
  refine xS 128 [4] ?_
  refine kA (mA ?_)
  obtain rfl := oI h0
  exact lA [] rG
 refine oA (dA ?_)
 refine xS 128 [4] ?_
 refine kA ?_
 obtain rfl := oI h0
 exact lA [] rG
theorem zeC {fu : Nat} {vx1 : Int} {r : Bool} (h0 : uQ fu vx1 = some r) : yA Tryz.prog 130 [.int .i64 vx1] (.bool r) [] := by
 refine cB Tryz.func130 rfl (by decide) rL ?_
 dsimp only [Tryz.f130]
 rw [uQ] at h0
 refine xS 8 [0] ?_
 refine xS 40 [2] ?_
 refine kA ?_
 obtain rfl := oI h0
 exact lA [] rG
theorem zc1 {fu : Nat} {vx1 : Int} {y2 : Int} {r : Int} (h0 : oM fu vx1 y2 = some r) : yA Tryz.prog 112 [.int .i64 vx1, .int .i64 y2] (.int .i64 r) [] := by
 refine cB Tryz.func112 rfl (by decide) rL ?_
 dsimp only [Tryz.f112]
 rw [oM] at h0
 refine xS 8 [0, 1] ?_
 obtain ⟨vr3, hvr3, h0⟩ := bA h0
 refine nA 32 [0, 1, 5] (fun | 1 => some (.bool vr3, []) | _ => none) rfl (fun _ _ => rC (zeC hvr3)) ?_
 obtain ⟨vr4, hvr4, h0⟩ := bA h0
 refine nA 56 [0, 1, 5, 6] (fun | 1 => some (.bool vr4, []) | _ => none) rfl (fun _ _ => rC (zeC hvr4)) ?_
 refine iA ?_
 refine xS 64 [0, 1, 6, 11] ?_
 refine xI h0 rfl (fun h0 hb5 => ?_) (fun h0 hb5 => ?_)
 ·
  refine iA ?_
  refine xS 72 [12] ?_
  refine xI h0 rfl (fun h0 hb6 => ?_) (fun h0 hb6 => ?_)
  ·
   refine xS 80 [4] ?_
   refine kA (mA (mA ?_))
   obtain rfl := oI h0
   exact lA [] rG
  refine oA (dA ?_)
  refine xS 80 [4] ?_
  refine kA (mA ?_)
  obtain rfl := oI h0
  exact lA [] rG
 refine oA (dA (iA ?_))
 refine xS 72 [0, 1, 13] ?_
 refine xI h0 rfl (fun h0 hb7 => ?_) (fun h0 hb7 => ?_)
 ·
  refine xS 80 [4] ?_
  refine kA (mA ?_)
  obtain rfl := oI h0
  exact lA [] rG
 refine oA (dA (iA ?_))
 refine xS 96 [0, 1, 16] ?_
 refine xI h0 rfl (fun h0 hb8 => ?_) (fun h0 hb8 => ?_)
 ·
  refine xS 104 [4] ?_
  refine kA (mA ?_)
  obtain rfl := oI h0
  exact lA [] rG
 refine oA (dA (iA ?_))
 refine xS 120 [19] ?_
 refine xI h0 rfl (fun h0 hb9 => ?_) (fun h0 hb9 => ?_)
 ·
  refine xS 128 [4] ?_
  refine kA (mA ?_)
  obtain rfl := oI h0
  exact lA [] rG
 refine oA (dA ?_)
 refine xS 128 [4] ?_
 refine kA ?_
 obtain rfl := oI h0
 exact lA [] rG
theorem zb8 {fu : Nat} {vals1 : List Int} {r : Int} (h0 : eO fu vals1 = some r) : yA Tryz.prog 110 [.psl 1 (vals1.map (fA .i64))] (.int .i64 r) [] := by
 refine cB Tryz.func110 rfl (by decide) rL ?_
 dsimp only [Tryz.f110]
 rw [eO] at h0
 refine xS 8 [0] ?_
 refine xS 16 [0, 3] ?_
 refine iA ?_
 refine xS 40 [3, 6, 7, 8] ?_
 obtain ⟨x9, hxx9, h0⟩ := bA h0
 refine oC (fun s' => ∃ o14 : Unit, x9 = .inl o14 ∧ s'.nx ≤ 48 ∧ LeN [] s' ⟨[(3, .int .i64 0)], [], 48, []⟩) ?_ ?_
 ·
  intro s' hs
  obtain ⟨o14, rfl, hn, hs⟩ := hs
  refine dA ?_
  refine oB [] hn hs ?_
  refine xS 64 [2] ?_
  refine kA ?_
  obtain rfl := oI h0
  exact lA [] rG
 refine nC (ι := { p : Nat × Int // kI vals1 p.1 p.2 = some x9 }) (fun p => ⟨[(3, .int .i64 0), (6, .psl 1 (List.map (fA .i64) vals1)), (7, .int .i64 (vals1.length : Int)), (8, .int .i64 p.1.2)], [], 40, []⟩) (fun p => p.1.1) ⟨(fu, 0), hxx9⟩ ⟨rF, rE, rfl, rfl, trivial, trivial⟩ (fun _ => Nat.le_refl _) ?_
 rintro ⟨⟨fu, v10⟩, h1⟩
 cases fu with
 | zero =>
  replace h1 : kI vals1 0 v10 = some x9 := h1
  rw [kI] at h1; cases h1
 | succ fu =>
  replace h1 : kI vals1 (fu + 1) v10 = some x9 := h1
  rw [kI] at h1
  dsimp only
  refine xS 48 [3, 6, 7, 8, 9] ?_
  refine iA ?_
  refine xI h1 rfl (fun h1 hb11 => ?_) (fun h1 hb11 => ?_)
  ·
   refine oA (dA (iA (xB ?_)))
   obtain ⟨e12, he12, h1⟩ := bA h1
   obtain ⟨he12a, he12b, he12c⟩ := wA he12
   refine nA 72 [3, 5, 6, 7, 8] (fun _ => none) rfl (fun _ _ => rS (rA he12a (rA he12b he12c))) ?_
   refine nA 96 [3, 5, 6, 7, 8, 14] (fun _ => none) rfl (fun _ _ => rS (rA he12a (rA he12b he12c))) ?_
   refine xI h1 rfl (fun h1 hb13 => ?_) (fun h1 hb13 => ?_)
   ·
    refine nA 112 [2] (fun _ => none) rfl (fun _ _ => rS (rA he12a (rA he12b he12c))) ?_
    refine kA ?_
    obtain rfl := oI h1
    refine cC (mA (mA (wC (mA ?_))))
    obtain rfl := oI h0
    refine lA [] ?_
    exact rJ (rA he12a (rA he12b he12c))
   refine oA (qB (dA ?_))
   refine nB 112 [3, 6, 7, 8] (fun _ => none) rfl (fun _ _ => rS (rA he12a (rA he12b he12c))) ?_
   refine dA ?_
   exact ⟨⟨(fu, (IntKind.i64.wrap (v10 + 1))), h1⟩, ⟨rF, rE, rfl, rfl, trivial, trivial⟩, Nat.lt_succ_self _⟩
  refine fC (xA (xA (iC ?_)))
  obtain rfl := oI h1
  exact ⟨_, rfl, rL, ⟨rF, rE, rfl, rfl, trivial, trivial⟩⟩
theorem zaB {fu : Nat} {vs1 : dB} {r : Int × Int} (h0 : bH fu vs1 = some r) : yA Tryz.prog 84 [.agg (dB.enc vs1)] (.tup [.int .i64 r.1, .int .i64 r.2]) [] := by
 refine cB Tryz.func84 rfl (by decide) rL ?_
 dsimp only [Tryz.f84]
 rw [bH] at h0
 refine xS 24 [1] ?_
 refine iA ?_
 obtain ⟨vr2, hvr2, h0⟩ := bA h0
 refine nA 88 [1, 4, 5] (fun | 2 => some (.tup [.int .i64 vr2.1, .int .i64 vr2.2], []) | _ => none) rfl (fun _ _ => rC (zbY hvr2)) ?_
 refine xS 104 [1, 4, 5, 19] ?_
 refine xI h0 rfl (fun h0 hb3 => ?_) (fun h0 hb3 => ?_)
 ·
  refine xS 136 [2, 3] ?_
  refine kA (mA ?_)
  obtain rfl := oI h0
  exact lA [] rG
 refine oA (dA (iA ?_))
 refine xS 160 [1, 28] ?_
 refine xI h0 rfl (fun h0 hb4 => ?_) (fun h0 hb4 => ?_)
 ·
  refine xS 176 [2, 3] ?_
  refine kA (mA ?_)
  obtain rfl := oI h0
  exact lA [] rG
 refine oA (dA (iA ?_))
 refine xS 192 [1, 30, 31, 32] ?_
 obtain ⟨x18, hxx18, h0⟩ := bA h0
 refine oC (fun s' => ∃ o26 : Unit, x18 = .inl o26 ∧ s'.nx ≤ 200 ∧ LeN [] s' ⟨[(1, .ref 0 0 0 0)], [(0, ⟨0, true, true, 5, [[.psl 1 (List.map (sA 4 aA.enc) vs1.Runs), .psl 1 (List.map (fA .i64) vs1.At), .psl 2 (List.map eA.enc vs1.Tree.Keys), .psl 1 (List.map (fA .i64) vs1.Tree.Lose), .int .i64 vs1.Tree.Win]]⟩)], 200, []⟩) ?_ ?_
 ·
  intro s' hs
  obtain ⟨o26, rfl, hn, hs⟩ := hs
  refine dA ?_
  refine oB [] hn hs ?_
  refine iA ?_
  obtain ⟨vr27, hvr27, h0⟩ := bA h0
  obtain ⟨vr28, hvr28, h0⟩ := bA h0
  refine pC 272 [1, 59] (fun | 6 => some (.agg (bB.enc vr27), []) | 7 => some (.bool vr28, []) | _ => none) rfl rfl rfl (fun Kt hK => by
    try have q0 := zeW hvr27
    try have q1 := zjL hvr28
    exact nF) ?_
  refine xI h0 rfl (fun h0 hb29 => ?_) (fun h0 hb29 => ?_)
  ·
   refine xS 288 [2, 3] ?_
   refine kA (mA ?_)
   obtain rfl := oI h0
   exact lA [] rG
  refine oA (dA ?_)
  obtain ⟨vr30, hvr30, h0⟩ := bA h0
  refine nA 352 [1, 3, 8, 9] (fun | 2 => some (.tup [.int .i64 vr30.1, .str vr30.2.1, .int .i64 vr30.2.2], []) | _ => none) rfl (fun _ _ => rC (zde hvr30)) ?_
  refine iA ?_
  refine xS 368 [1, 8, 9, 68] ?_
  refine xI h0 rfl (fun h0 hb31 => ?_) (fun h0 hb31 => ?_)
  ·
   refine xS 384 [2, 3] ?_
   refine kA (mA ?_)
   obtain rfl := oI h0
   exact lA [] rG
  refine oA (dA (iA ?_))
  refine xS 400 [1, 8, 9, 70, 71, 72] ?_
  obtain ⟨x53, hxx53, h0⟩ := bA h0
  refine oC (fun s' => ∃ o65 : Unit, x53 = .inl o65 ∧ s'.nx ≤ 408 ∧ LeN [] s' ⟨[], [(0, ⟨0, true, true, 5, [[.psl 1 (List.map (sA 4 aA.enc) vs1.Runs), .psl 1 (List.map (fA .i64) vs1.At), .psl 2 (List.map eA.enc vs1.Tree.Keys), .psl 1 (List.map (fA .i64) vs1.Tree.Lose), .int .i64 vs1.Tree.Win]]⟩)], 408, []⟩) ?_ ?_
  ·
   intro s' hs
   obtain ⟨o65, rfl, hn, hs⟩ := hs
   refine dA ?_
   refine oB [] hn hs ?_
   refine xS 424 [2, 3] ?_
   refine kA ?_
   obtain rfl := oI h0
   exact lA [] rG
  refine nC (ι := { p : Nat × Int // yF vs1 vr30 p.1 p.2 = some x53 }) (fun p => ⟨[(1, .ref 0 0 0 0), (8, .int .i64 vr30.1), (9, .str vr30.2.1), (70, .psl 1 (List.map (fA .i64) vs1.At)), (71, .int .i64 (vs1.At.length : Int)), (72, .int .i64 p.1.2)], [(0, ⟨0, true, true, 5, [[.psl 1 (List.map (sA 4 aA.enc) vs1.Runs), .psl 1 (List.map (fA .i64) vs1.At), .psl 2 (List.map eA.enc vs1.Tree.Keys), .psl 1 (List.map (fA .i64) vs1.Tree.Lose), .int .i64 vs1.Tree.Win]]⟩)], 400, []⟩) (fun p => p.1.1) ⟨(fu, 0), hxx53⟩ ⟨rF, rE, rfl, rfl, trivial, trivial⟩ (fun _ => Nat.le_refl _) ?_
  rintro ⟨⟨fu, v54⟩, h1⟩
  cases fu with
  | zero =>
  replace h1 : yF vs1 vr30 0 v54 = some x53 := h1
  rw [yF] at h1; cases h1
  | succ fu =>
   replace h1 : yF vs1 vr30 (fu + 1) v54 = some x53 := h1
   rw [yF] at h1
   dsimp only
   refine xS 408 [1, 8, 9, 70, 71, 72, 73] ?_
   refine iA ?_
   refine xI h1 rfl (fun h1 hb55 => ?_) (fun h1 hb55 => ?_)
   ·
    refine oA (dA (iA (xB ?_)))
    obtain ⟨e56, he56, h1⟩ := bA h1
    obtain ⟨he56a, he56b, he56c⟩ := wA he56
    refine nA 448 [1, 8, 9, 10, 11, 70, 71, 72] (fun _ => none) rfl (fun _ _ => rS (rA he56a (rA he56b he56c))) ?_
    obtain ⟨b62, hb62, h1⟩ := bA h1
    refine mC (fr' := [(1, .ref 0 0 0 0), (8, .int .i64 vr30.1), (9, .str vr30.2.1), (70, .psl 1 (List.map (fA .i64) vs1.At)), (71, .int .i64 (vs1.At.length : Int)), (72, .int .i64 v54), (98, .bool b62)]) (hp' := [(0, ⟨0, true, true, 5, [[.psl 1 (List.map (sA 4 aA.enc) vs1.Runs), .psl 1 (List.map (fA .i64) vs1.At), .psl 2 (List.map eA.enc vs1.Tree.Keys), .psl 1 (List.map (fA .i64) vs1.Tree.Lose), .int .i64 vs1.Tree.Win]]⟩)]) [0] 624 [1, 8, 9, 70, 71, 72, 98] (fun | 14 => (ix vs1.Runs v54).bind fun e57 => (ix e57 (IntKind.i64.wrap (e56 - 1))).bind fun e58 => (hM fu e58.Key vr30.2.1).bind fun vr59 => some (.int .i64 vr59, []) | 17 => (ix vs1.Runs v54).bind fun e57 => (ix e57 (IntKind.i64.wrap (e56 - 1))).bind fun e58 => (hM fu e58.Key vr30.2.1).bind fun vr59 => (oM fu v54 vr30.1).bind fun vr60 => some (.int .i64 vr60, []) | 19 => (ix vs1.Runs v54).bind fun e57 => (ix e57 (IntKind.i64.wrap (e56 - 1))).bind fun e58 => (hM fu e58.Key vr30.2.1).bind fun vr59 => (oM fu v54 vr30.1).bind fun vr60 => (eO fu [vr59, vr60]).bind fun vr61 => some (.int .i64 vr61, []) | _ => none) rfl (fun Kt hK => by
      cases hg63 : (decide (0 < e56)) with
      | false =>
       replace hb62 := qA hb62 hg63
       have hqb62 := oI hb62
       subst hqb62
       simp (maxSteps := 1000000) only [↓reduceIte, reduceCtorEq, Nat.reduceEqDiff, Nat.reduceLT, Nat.reduceLeDiff, Nat.reduceAdd, Nat.reduceMul, Int.reduceToNat, push_cast, he56a, he56b, he56c, ↓hg63]
       try simp only [↓hg63] at hK
       try have q0 := zcy hvr59
       try have q1 := zc1 hvr60
       try have q2 := zb8 hvr61
       all_goals exact rU
      | true =>
       replace hb62 := aB hb62 hg63
       obtain ⟨e57, he57, hb62⟩ := bA hb62
       obtain ⟨he57a, he57b, he57c⟩ := wA he57
       obtain ⟨e58, he58, hb62⟩ := bA hb62
       obtain ⟨he58a, he58b, he58c⟩ := wA he58
       obtain ⟨vr59, hvr59, hb62⟩ := bA hb62
       obtain ⟨vr60, hvr60, hb62⟩ := bA hb62
       obtain ⟨vr61, hvr61, hb62⟩ := bA hb62
       have hqb62 := oI hb62
       subst hqb62
       simp (maxSteps := 1000000) only [↓reduceIte, reduceCtorEq, Nat.reduceEqDiff, Nat.reduceLT, Nat.reduceLeDiff, Nat.reduceAdd, Nat.reduceMul, Int.reduceToNat, push_cast, he56a, he56b, he56c, ↓hg63, he57a, he57b, he57c, he57, he58a, he58b, he58c, he58, hvr59, hvr60, hvr61]
       try simp only [↓hg63] at hK
       try have q0 := zcy hvr59
       try have q1 := zc1 hvr60
       try have q2 := zb8 hvr61
       all_goals exact rU) ?_
    refine xE ⟨[(1, .ref 0 0 0 0), (8, .int .i64 vr30.1), (9, .str vr30.2.1), (70, .psl 1 (List.map (fA .i64) vs1.At)), (71, .int .i64 (vs1.At.length : Int)), (72, .int .i64 v54), (98, .bool b62)], [(0, ⟨0, true, true, 5, [[.psl 1 (List.map (sA 4 aA.enc) vs1.Runs), .psl 1 (List.map (fA .i64) vs1.At), .psl 2 (List.map eA.enc vs1.Tree.Keys), .psl 1 (List.map (fA .i64) vs1.Tree.Lose), .int .i64 vs1.Tree.Win]]⟩)], 624, []⟩ ?_
    refine xI h1 rfl (fun h1 hb64 => ?_) (fun h1 hb64 => ?_)
    ·
     refine nA 648 [2, 3] (fun _ => none) rfl (fun _ _ => rS (rA he56a (rA he56b he56c))) ?_
     refine kA ?_
     obtain rfl := oI h1
     refine cC (mA (mA (wC (mA ?_))))
     obtain rfl := oI h0
     refine lA [] ?_
     exact rJ (rA he56a (rA he56b he56c))
    refine oA (qB (dA ?_))
    refine nB 640 [1, 8, 9, 70, 71, 72] (fun _ => none) rfl (fun _ _ => rS (rA he56a (rA he56b he56c))) ?_
    refine dA ?_
    exact ⟨⟨(fu, (IntKind.i64.wrap (v54 + 1))), h1⟩, ⟨rF, rE, rfl, rfl, trivial, trivial⟩, Nat.lt_succ_self _⟩
   refine fC (xA (xA (iC ?_)))
   obtain rfl := oI h1
   exact ⟨_, rfl, rL, ⟨rF, rE, rfl, rfl, trivial, trivial⟩⟩
 refine nC (ι := { p : Nat × Int // uG vs1 p.1 p.2 = some x18 }) (fun p => ⟨[(1, .ref 0 0 0 0), (30, .psl 1 (List.map (fA .i64) vs1.At)), (31, .int .i64 (vs1.At.length : Int)), (32, .int .i64 p.1.2)], [(0, ⟨0, true, true, 5, [[.psl 1 (List.map (sA 4 aA.enc) vs1.Runs), .psl 1 (List.map (fA .i64) vs1.At), .psl 2 (List.map eA.enc vs1.Tree.Keys), .psl 1 (List.map (fA .i64) vs1.Tree.Lose), .int .i64 vs1.Tree.Win]]⟩)], 192, []⟩) (fun p => p.1.1) ⟨(fu, 0), hxx18⟩ ⟨rF, rE, rfl, rfl, trivial, trivial⟩ (fun _ => Nat.le_refl _) ?_
 rintro ⟨⟨fu, v19⟩, h1⟩
 cases fu with
 | zero =>
  replace h1 : uG vs1 0 v19 = some x18 := h1
  rw [uG] at h1; cases h1
 | succ fu =>
  replace h1 : uG vs1 (fu + 1) v19 = some x18 := h1
  rw [uG] at h1
  dsimp only
  refine xS 200 [1, 30, 31, 32, 33] ?_
  refine iA ?_
  refine xI h1 rfl (fun h1 hb20 => ?_) (fun h1 hb20 => ?_)
  ·
   refine oA (dA (iA (xB ?_)))
   obtain ⟨e21, he21, h1⟩ := bA h1
   obtain ⟨he21a, he21b, he21c⟩ := wA he21
   refine nA 240 [1, 6, 7, 30, 31, 32] (fun _ => none) rfl (fun _ _ => rS (rA he21a (rA he21b he21c))) ?_
   obtain ⟨b23, hb23, h1⟩ := bA h1
   refine mC (fr' := [(1, .ref 0 0 0 0), (6, .int .i64 v19), (30, .psl 1 (List.map (fA .i64) vs1.At)), (31, .int .i64 (vs1.At.length : Int)), (32, .int .i64 v19), (48, .bool b23)]) (hp' := [(0, ⟨0, true, true, 5, [[.psl 1 (List.map (sA 4 aA.enc) vs1.Runs), .psl 1 (List.map (fA .i64) vs1.At), .psl 2 (List.map eA.enc vs1.Tree.Keys), .psl 1 (List.map (fA .i64) vs1.Tree.Lose), .int .i64 vs1.Tree.Win]]⟩)]) [0] 336 [1, 6, 30, 31, 32, 48] (fun _ => none) rfl (fun Kt hK => by
     cases hg24 : (decide (e21 < 0)) with
     | false =>
      replace hb23 := qA hb23 hg24
      obtain ⟨e22, he22, hb23⟩ := bA hb23
      obtain ⟨he22a, he22b, he22c⟩ := wA he22
      have hqb23 := oI hb23
      subst hqb23
      exact sD hg24 (rA he21a (rA he21b (rA he21c (rA he22a (rA he22b (rA he22c he22)))))) hK
     | true =>
      replace hb23 := aB hb23 hg24
      have hqb23 := oI hb23
      subst hqb23
      exact sD hg24 (rA he21a (rA he21b he21c)) hK) ?_
   refine xI h1 rfl (fun h1 hb25 => ?_) (fun h1 hb25 => ?_)
   ·
    refine nA 360 [2, 3] (fun _ => none) rfl (fun _ _ => rS (rA he21a (rA he21b he21c))) ?_
    refine kA ?_
    obtain rfl := oI h1
    refine cC (mA (mA (wC (mA ?_))))
    obtain rfl := oI h0
    refine lA [] ?_
    exact rJ (rA he21a (rA he21b he21c))
   refine oA (qB (dA ?_))
   refine nB 352 [1, 30, 31, 32] (fun _ => none) rfl (fun _ _ => rS (rA he21a (rA he21b he21c))) ?_
   refine dA ?_
   exact ⟨⟨(fu, (IntKind.i64.wrap (v19 + 1))), h1⟩, ⟨rF, rE, rfl, rfl, trivial, trivial⟩, Nat.lt_succ_self _⟩
  refine fC (xA (xA (iC ?_)))
  obtain rfl := oI h1
  exact ⟨_, rfl, rL, ⟨rF, rE, rfl, rfl, trivial, trivial⟩⟩
theorem zcl {fu : Nat} {vr1 : List (List aA)} {vr2 : List Int} {vr3 : List eA} {vr4 : List Int} {vr5 : Int} {r : aA × Int × Int} (h0 : kM fu vr1 vr2 vr3 vr4 vr5 = some r) : yA Tryz.prog 117 [.pp [.psl 1 (vr1.map (sA 4 aA.enc)), .psl 1 (vr2.map (fA .i64)), .psl 2 (vr3.map eA.enc), .psl 1 (vr4.map (fA .i64)), .int .i64 vr5]] (.tup [.agg (aA.enc r.1), .int .i64 r.2.1, .int .i64 r.2.2]) [] := by
 refine cB Tryz.func117 rfl (by decide) rL ?_
 dsimp only [Tryz.f117]
 rw [kM] at h0
 refine xS 24 [0, 2] ?_
 obtain ⟨vr6, hvr6, h0⟩ := bA h0
 refine nA 128 [0, 2, 5, 7] (fun | 5 => some (.tup [.int .i64 vr6.1, .str vr6.2.1, .int .i64 vr6.2.2], []) | _ => none) rfl (fun _ _ => rC (zde hvr6)) ?_
 refine iA ?_
 refine xS 144 [0, 2, 5, 7, 19] ?_
 refine xI h0 rfl (fun h0 hb7 => ?_) (fun h0 hb7 => ?_)
 ·
  refine xS 184 [2, 3, 4] ?_
  refine kA (mA ?_)
  obtain rfl := oI h0
  exact lA [] rG
 refine oA (dA ?_)
 obtain ⟨e8, he8, h0⟩ := bA h0
 obtain ⟨he8a, he8b, he8c⟩ := wA he8
 obtain ⟨e9, he9, h0⟩ := bA h0
 obtain ⟨he9a, he9b, he9c⟩ := wA he9
 obtain ⟨e10, he10, h0⟩ := bA h0
 obtain ⟨he10a, he10b, he10c⟩ := wA he10
 refine pC 320 [2, 3, 4] (fun _ => none) rfl rfl rfl (fun _ _ => aE (rA he8a (rA he8b (rA he8c (rA he9a (rA he9b (rA he9c (rA he10a (rA he10b he10c))))))))) ?_
 refine kA ?_
 obtain rfl := oI h0
 refine lA [] ?_
 exact rJ (rA he8a (rA he8b (rA he8c (rA he9a (rA he9b (rA he9c (rA he10a (rA he10b he10c))))))))
theorem zcE {fu : Nat} {vs1 : List eA} {r : List eA} (h0 : vQ fu vs1 = some r) : yA Tryz.prog 144 [.psl 2 (vs1.map eA.enc)] (.sl 0 0 2 0 r.length) [⟨0, true, true, 2, r.map eA.enc⟩] := by
 refine cB Tryz.func144 rfl (by decide) rL ?_
 dsimp only [Tryz.f144]
 rw [vQ] at h0
 refine xS 8 [0] ?_
 refine iA ?_
 cases hb2 : vs1.isEmpty with
 | true =>
  replace h0 := aB h0 hb2
  obtain rfl : vs1 = [] := List.isEmpty_iff.1 hb2
  refine xS 24 [0, 4] ?_
  refine sW rfl ?_ ?_
  ·
   skip
   refine xS 32 [2] ?_
   refine oB (s2 := ⟨[(2, .sl 32 0 2 0 0)], [(32, ⟨0, true, true, 2, List.map eA.enc []⟩)], 33, []⟩) [(32, 2)] rL ⟨rF, rE, rfl, rfl, trivial, rN⟩ ?_
   refine kA (mA ?_)
   obtain rfl := oI h0
   exact lA [32] rG
  ·
   skip
   refine oA (dA ?_)
   refine xS 56 [2] ?_
   refine xE ⟨[(2, .sl 24 1 2 0 0)], [(24, ⟨1, true, true, 2, List.map eA.enc []⟩)], 56, []⟩ ?_
   refine kA ?_
   obtain rfl := oI h0
   exact lA [24] rG
 | false =>
  replace h0 := qA h0 hb2
  refine nA 24 [0, 4] (fun _ => none) rfl (fun _ _ => rS hb2) ?_
  refine qF rfl ?_
  refine oA (dA ?_)
  obtain ⟨hc3, h0⟩ := pD h0
  refine nA 56 [2] (fun _ => none) rfl (fun _ _ => rS hb2) ?_
  refine xE ⟨[(2, .sl 24 1 2 0 vs1.length)], [(24, ⟨1, true, true, 2, List.map eA.enc vs1⟩)], 56, []⟩ ?_
  refine kA ?_
  obtain rfl := oI h0
  refine lA [24] ?_
  exact rJ hb2
theorem znS {fu : Nat} {keys1 : List eA} {r : bB} (h0 : sT fu keys1 = some r) : yA Tryz.prog 142 [.psl 2 (keys1.map eA.enc)] (.agg [.sl 0 0 2 0 r.Keys.length, .sl 1 0 1 0 r.Lose.length, .int .i64 r.Win]) [⟨0, true, true, 2, r.Keys.map eA.enc⟩, ⟨0, true, true, 1, r.Lose.map (fA .i64)⟩] := by
 refine cB Tryz.func142 rfl (by decide) rL ?_
 dsimp only [Tryz.f142]
 rw [sT] at h0
 refine xS 8 [0, 2] ?_
 refine xS 32 [0, 2, 3] ?_
 obtain ⟨vr2, hvr2, h0⟩ := bA h0
 refine nA 56 [0, 2, 3, 4] (fun | 1 => some (.fn 151 [] [.pp [.psl 2 (vr2.map eA.enc)]], []) | _ => none) rfl (fun _ _ => rC (zaK hvr2)) ?_
 obtain ⟨hc3, h0⟩ := pD h0
 refine xS 88 [0, 2, 3, 4, 5] ?_
 refine xE ⟨[(0, .psl 2 (List.map eA.enc keys1)), (2, .ref 0 0 0 0), (3, .int .i64 (keys1.length : Int)), (4, .fn 151 [] [.pp [.psl 2 (List.map eA.enc vr2)]]), (5, .sl 72 0 1 0 ((List.replicate (IntKind.i64.wrap (2 * (keys1.length : Int))).toNat 0 : List Int).length))], [(0, ⟨0, true, true, 3, [[.nils, .nils, .int .i64 0]]⟩), (72, ⟨0, true, true, 1, List.map (fA .i64) (List.replicate (IntKind.i64.wrap (2 * (keys1.length : Int))).toNat 0 : List Int)⟩)], 88, []⟩ ?_
 obtain ⟨vr4, hvr4, h0⟩ := bA h0
 obtain ⟨hc5, h0⟩ := pD h0
 refine pC 144 [2, 3, 4, 5, 6] (fun | 1 => some (.sl 0 0 2 0 vr4.length, [⟨0, true, true, 2, vr4.map eA.enc⟩]) | _ => none) rfl rfl rfl (fun _ _ => aO (zcE hvr4)) ?_
 refine xE ⟨[(2, .ref 0 0 0 0), (3, .int .i64 (keys1.length : Int)), (4, .fn 151 [] [.pp [.psl 2 (List.map eA.enc vr2)]]), (5, .sl 72 0 1 0 ((List.replicate (IntKind.i64.wrap (2 * (keys1.length : Int))).toNat 0 : List Int).length)), (6, .ref 128 0 0 0)], [(0, ⟨0, true, true, 3, [[.nils, .nils, .int .i64 0]]⟩), (72, ⟨0, true, true, 1, List.map (fA .i64) (List.replicate (IntKind.i64.wrap (2 * (keys1.length : Int))).toNat 0 : List Int)⟩), (96, ⟨0, true, true, 2, List.map eA.enc vr4⟩), (112, ⟨0, true, true, 1, List.map (fA .i64) (List.replicate keys1.length 0 : List Int)⟩), (128, ⟨0, true, false, 3, [[.sl 96 0 2 0 vr4.length, .sl 112 0 1 0 ((List.replicate keys1.length 0 : List Int).length), .int .i64 0]]⟩)], 144, []⟩ ?_
 refine iA ?_
 refine xS 176 [2, 3, 4, 5, 6, 7] ?_
 obtain ⟨x33, hxx33, h0⟩ := bA h0
 refine oC (fun s' => ∃ g50 : Nat, ∃ g51 : Nat, s'.nx ≤ 192 ∧ LeN [] s' ⟨[(2, .ref 0 0 0 0), (5, .sl 72 g50 1 0 x33.1.length), (6, .ref 128 0 0 0)], [(0, ⟨0, true, true, 3, [[.nils, .nils, .int .i64 0]]⟩), (72, ⟨g50, true, true, 1, List.map (fA .i64) x33.1⟩), (96, ⟨0, true, true, 2, List.map eA.enc vr4⟩), (112, ⟨g51, true, true, 1, List.map (fA .i64) x33.2⟩), (128, ⟨0, true, false, 3, [[.sl 96 0 2 0 vr4.length, .sl 112 g51 1 0 x33.2.length, .int .i64 0]]⟩)], 192, []⟩) ?_ ?_
 ·
  intro s' hs
  obtain ⟨g50, g51, hn, hs⟩ := hs
  refine dA ?_
  refine oB [] hn hs ?_
  obtain ⟨e52, he52, h0⟩ := bA h0
  have he52b := (wA he52).2.1
  have he52c := (cG 1 he52 rfl).1
  have he52a := (cG 1 he52 rfl).2
  refine nA 232 [2, 6] (fun _ => none) rfl (fun _ _ => rS (rA he52a (rA he52b he52c))) ?_
  refine nA 248 [2] (fun _ => none) rfl (fun _ _ => rS (rA he52a (rA he52b he52c))) ?_
  refine kA ?_
  obtain rfl := oI h0
  refine lA [96, 112] ?_
  exact rJ (rA he52a (rA he52b he52c))
 refine nC (ι := { p : Nat × Int × List Int × List Int × Nat × Nat // bJ keys1 vr2 p.1 p.2.1 p.2.2.1 p.2.2.2.1 = some x33 }) (fun p => ⟨[(2, .ref 0 0 0 0), (3, .int .i64 (keys1.length : Int)), (4, .fn 151 [] [.pp [.psl 2 (List.map eA.enc vr2)]]), (5, .sl 72 p.1.2.2.2.2.1 1 0 p.1.2.2.1.length), (6, .ref 128 0 0 0), (7, .int .i64 p.1.2.1)], [(0, ⟨0, true, true, 3, [[.nils, .nils, .int .i64 0]]⟩), (72, ⟨p.1.2.2.2.2.1, true, true, 1, List.map (fA .i64) p.1.2.2.1⟩), (96, ⟨0, true, true, 2, List.map eA.enc vr4⟩), (112, ⟨p.1.2.2.2.2.2, true, true, 1, List.map (fA .i64) p.1.2.2.2.1⟩), (128, ⟨0, true, false, 3, [[.sl 96 0 2 0 vr4.length, .sl 112 p.1.2.2.2.2.2 1 0 p.1.2.2.2.1.length, .int .i64 0]]⟩)], 176, []⟩) (fun p => p.1.1) ⟨(fu, (IntKind.i64.wrap ((IntKind.i64.wrap (2 * (keys1.length : Int))) - 1)), (List.replicate (IntKind.i64.wrap (2 * (keys1.length : Int))).toNat 0 : List Int), (List.replicate keys1.length 0 : List Int), 0, 0), hxx33⟩ ⟨rF, rE, rfl, rfl, trivial, trivial⟩ (fun _ => Nat.le_refl _) ?_
 rintro ⟨⟨fu, i34, players35, v36, g37, g38⟩, h1⟩
 cases fu with
 | zero =>
  replace h1 : bJ keys1 vr2 0 i34 players35 v36 = some x33 := h1
  rw [bJ] at h1; cases h1
 | succ fu =>
  replace h1 : bJ keys1 vr2 (fu + 1) i34 players35 v36 = some x33 := h1
  rw [bJ] at h1
  dsimp only
  refine iA ?_
  refine xS 192 [2, 3, 4, 5, 6, 7, 26] ?_
  refine xI h1 rfl (fun h1 hb39 => ?_) (fun h1 hb39 => ?_)
  ·
   refine oA (dA (iA (xB (iA ?_))))
   refine xS 216 [2, 3, 4, 5, 6, 7, 31] ?_
   refine xI h1 rfl (fun h1 hb40 => ?_) (fun h1 hb40 => ?_)
   ·
    obtain ⟨e41, he41, h1⟩ := bA h1
    obtain ⟨he41a, he41b, he41c⟩ := wA he41
    refine nA 272 [2, 3, 4, 5, 6, 7] (fun _ => none) rfl (fun _ _ => rS (rA he41a (rA he41b he41c))) ?_
    refine xE ⟨[(2, .ref 0 0 0 0), (3, .int .i64 (keys1.length : Int)), (4, .fn 151 [] [.pp [.psl 2 (List.map eA.enc vr2)]]), (5, .sl 72 g37 1 0 ((players35.set i34.toNat (IntKind.i64.wrap (i34 - (keys1.length : Int)))).length)), (6, .ref 128 0 0 0), (7, .int .i64 i34)], [(0, ⟨0, true, true, 3, [[.nils, .nils, .int .i64 0]]⟩), (72, ⟨g37, true, true, 1, List.map (fA .i64) (players35.set i34.toNat (IntKind.i64.wrap (i34 - (keys1.length : Int))))⟩), (96, ⟨0, true, true, 2, List.map eA.enc vr4⟩), (112, ⟨g38, true, true, 1, List.map (fA .i64) v36⟩), (128, ⟨0, true, false, 3, [[.sl 96 0 2 0 vr4.length, .sl 112 g38 1 0 v36.length, .int .i64 0]]⟩)], 272, []⟩ ?_
    refine fC (xA (zbb (dA ?_)))
    refine nB 296 [2, 3, 4, 5, 6, 7] (fun _ => none) rfl (fun _ _ => rS (rA he41a (rA he41b he41c))) ?_
    refine dA ?_
    exact ⟨⟨(fu, (IntKind.i64.wrap (i34 - 1)), (players35.set i34.toNat (IntKind.i64.wrap (i34 - (keys1.length : Int)))), v36, g37, g38), h1⟩, ⟨rF, rE, rfl, rfl, trivial, trivial⟩, Nat.lt_succ_self _⟩
   refine oA (dA ?_)
   obtain ⟨e42, he42, h1⟩ := bA h1
   obtain ⟨he42a, he42b, he42c⟩ := wA he42
   obtain ⟨e43, he43, h1⟩ := bA h1
   obtain ⟨he43a, he43b, he43c⟩ := wA he43
   refine pC 320 [2, 3, 4, 5, 6, 7, 8, 9] (fun _ => none) rfl rfl rfl (fun _ _ => aE (rA he42a (rA he42b (rA he42c (rA he43a (rA he43b he43c)))))) ?_
   refine iA ?_
   obtain ⟨vr44, hvr44, h1⟩ := bA h1
   refine nA 360 [2, 3, 4, 5, 6, 7, 8, 9, 53] (fun | 3 => some (.bool vr44, []) | _ => none) rfl (fun _ _ => rB (rA he42a (rA he42b (rA he42c (rA he43a (rA he43b he43c))))) (za1 hvr44)) ?_
   refine xI h1 rfl (fun h1 hb45 => ?_) (fun h1 hb45 => ?_)
   ·
    refine nB 392 [2, 3, 4, 5, 6, 7, 8, 9] (fun _ => none) rfl (fun _ _ => rS (rA he42a (rA he42b (rA he42c (rA he43a (rA he43b he43c)))))) ?_
    refine dA ?_
    obtain ⟨e46, he46, h1⟩ := bA h1
    obtain ⟨he46a, he46b, he46c⟩ := wA he46
    obtain ⟨e47, he47, h1⟩ := bA h1
    obtain ⟨he47a, he47b, he47c⟩ := wA he47
    refine qG 480 [2, 3, 4, 5, 6, 7] (fun _ => none) rfl rfl rfl (fun _ _ => aE (rA he42a (rA he42b (rA he42c (rA he43a (rA he43b (rA he43c (rA he46a (rA he46b (rA he46c (rA he47a (rA he47b he47c)))))))))))) ?_
    refine qB (dA ?_)
    refine xE ⟨[(2, .ref 0 0 0 0), (3, .int .i64 (keys1.length : Int)), (4, .fn 151 [] [.pp [.psl 2 (List.map eA.enc vr2)]]), (5, .sl 72 g37 1 0 ((players35.set i34.toNat e43).length)), (6, .ref 128 0 0 0), (7, .int .i64 i34)], [(0, ⟨0, true, true, 3, [[.nils, .nils, .int .i64 0]]⟩), (72, ⟨g37, true, true, 1, List.map (fA .i64) (players35.set i34.toNat e43)⟩), (96, ⟨0, true, true, 2, List.map eA.enc vr4⟩), (112, ⟨g38, true, true, 1, List.map (fA .i64) (v36.set i34.toNat e42)⟩), (128, ⟨0, true, false, 3, [[.sl 96 0 2 0 vr4.length, .sl 112 g38 1 0 ((v36.set i34.toNat e42).length), .int .i64 0]]⟩)], 480, []⟩ ?_
    refine nB 504 [2, 3, 4, 5, 6, 7] (fun _ => none) rfl (fun _ _ => rS (rA he42a (rA he42b (rA he42c (rA he43a (rA he43b (rA he43c (rA he46a (rA he46b (rA he46c (rA he47a (rA he47b he47c)))))))))))) ?_
    refine dA ?_
    exact ⟨⟨(fu, (IntKind.i64.wrap (i34 - 1)), (players35.set i34.toNat e43), (v36.set i34.toNat e42), g37, g38), h1⟩, ⟨rF, rE, rfl, rfl, trivial, trivial⟩, Nat.lt_succ_self _⟩
   refine oA (dA ?_)
   obtain ⟨e48, he48, h1⟩ := bA h1
   obtain ⟨he48a, he48b, he48c⟩ := wA he48
   obtain ⟨e49, he49, h1⟩ := bA h1
   obtain ⟨he49a, he49b, he49c⟩ := wA he49
   refine qG 448 [2, 3, 4, 5, 6, 7] (fun _ => none) rfl rfl rfl (fun _ _ => aE (rA he42a (rA he42b (rA he42c (rA he43a (rA he43b (rA he43c (rA he48a (rA he48b (rA he48c (rA he49a (rA he49b he49c)))))))))))) ?_
   refine qB (dA ?_)
   refine xE ⟨[(2, .ref 0 0 0 0), (3, .int .i64 (keys1.length : Int)), (4, .fn 151 [] [.pp [.psl 2 (List.map eA.enc vr2)]]), (5, .sl 72 g37 1 0 ((players35.set i34.toNat e42).length)), (6, .ref 128 0 0 0), (7, .int .i64 i34)], [(0, ⟨0, true, true, 3, [[.nils, .nils, .int .i64 0]]⟩), (72, ⟨g37, true, true, 1, List.map (fA .i64) (players35.set i34.toNat e42)⟩), (96, ⟨0, true, true, 2, List.map eA.enc vr4⟩), (112, ⟨g38, true, true, 1, List.map (fA .i64) (v36.set i34.toNat e43)⟩), (128, ⟨0, true, false, 3, [[.sl 96 0 2 0 vr4.length, .sl 112 g38 1 0 ((v36.set i34.toNat e43).length), .int .i64 0]]⟩)], 448, []⟩ ?_
   refine nB 472 [2, 3, 4, 5, 6, 7] (fun _ => none) rfl (fun _ _ => rS (rA he42a (rA he42b (rA he42c (rA he43a (rA he43b (rA he43c (rA he48a (rA he48b (rA he48c (rA he49a (rA he49b he49c)))))))))))) ?_
   refine dA ?_
   exact ⟨⟨(fu, (IntKind.i64.wrap (i34 - 1)), (players35.set i34.toNat e42), (v36.set i34.toNat e43), g37, g38), h1⟩, ⟨rF, rE, rfl, rfl, trivial, trivial⟩, Nat.lt_succ_self _⟩
  refine fC (xA (xA (iC ?_)))
  obtain rfl := oI h1
  exact ⟨g37, g38, rL, ⟨rF, rE, rfl, rfl, trivial, trivial⟩⟩
theorem zfX {fu : Nat} {keys1 : List eA} {r : bB × Int} (h0 : dU fu keys1 = some r) : yA Tryz.prog 127 [.psl 2 (keys1.map eA.enc)] (.tup [.agg [.sl 0 0 2 0 r.1.Keys.length, .sl 1 0 1 0 r.1.Lose.length, .int .i64 r.1.Win], .int .i64 r.2]) [⟨0, true, true, 2, r.1.Keys.map eA.enc⟩, ⟨0, true, true, 1, r.1.Lose.map (fA .i64)⟩] := by
 refine cB Tryz.func127 rfl (by decide) rL ?_
 dsimp only [Tryz.f127]
 rw [dU] at h0
 refine xS 16 [0, 2] ?_
 refine iA ?_
 obtain ⟨vr2, hvr2, h0⟩ := bA h0
 refine nA 40 [0, 2, 4] (fun | 1 => some (.int .i64 vr2, []) | _ => none) rfl (fun _ _ => rC (zab hvr2)) ?_
 refine xS 56 [0, 2, 4, 8] ?_
 refine xI h0 rfl (fun h0 hb3 => ?_) (fun h0 hb3 => ?_)
 ·
  refine xS 88 [2, 3] ?_
  refine oB (s2 := ⟨[(2, .ref 0 0 0 0), (3, .int .i64 vr2)], [(0, ⟨0, true, false, 3, [[.sl 88 0 2 0 0, .sl 89 0 1 0 0, .int .i64 0]]⟩), (88, ⟨0, true, true, 2, List.map eA.enc []⟩), (89, ⟨0, true, true, 1, List.map (fA .i64) []⟩)], 90, []⟩) [(88, 2), (89, 1)] rL ⟨rF, rE, rfl, rfl, trivial, rN⟩ ?_
  refine kA (mA ?_)
  obtain rfl := oI h0
  exact lA [88, 89] rG
 refine oA (dA ?_)
 obtain ⟨vr4, hvr4, h0⟩ := bA h0
 refine nA 88 [2, 3] (fun | 1 => some (.agg [.sl 0 0 2 0 vr4.Keys.length, .sl 1 0 1 0 vr4.Lose.length, .int .i64 vr4.Win], [⟨0, true, true, 2, vr4.Keys.map eA.enc⟩, ⟨0, true, true, 1, vr4.Lose.map (fA .i64)⟩]) | _ => none) rfl (fun _ _ => rC (znS hvr4)) ?_
 refine kA ?_
 obtain rfl := oI h0
 exact lA [64, 65] rG
theorem zh6 {fu : Nat} {runs1 : List (List aA)} {vat2 : List Int} {r : bB} (h0 : zT fu runs1 vat2 = some r) : yA Tryz.prog 108 [.psl 1 (runs1.map (sA 4 aA.enc)), .psl 1 (vat2.map (fA .i64))] (.agg [.sl 0 0 2 0 r.Keys.length, .sl 1 0 1 0 r.Lose.length, .int .i64 r.Win]) [⟨0, true, true, 2, r.Keys.map eA.enc⟩, ⟨0, true, true, 1, r.Lose.map (fA .i64)⟩] := by
 refine cB Tryz.func108 rfl (by decide) rL ?_
 dsimp only [Tryz.f108]
 rw [zT] at h0
 refine xS 8 [0, 1, 4] ?_
 obtain ⟨hc3, h0⟩ := pD h0
 refine xS 40 [0, 1, 4, 5] ?_
 refine xE ⟨[(0, .psl 1 (List.map (sA 4 aA.enc) runs1)), (1, .psl 1 (List.map (fA .i64) vat2)), (4, .ref 0 0 0 0), (5, .sl 24 0 2 0 ((List.replicate runs1.length (eA.mk [] false) : List eA).length))], [(0, ⟨0, true, true, 3, [[.nils, .nils, .int .i64 0]]⟩), (24, ⟨0, true, true, 2, List.map eA.enc (List.replicate runs1.length (eA.mk [] false) : List eA)⟩)], 40, []⟩ ?_
 refine iA ?_
 refine xS 64 [1, 4, 5, 13, 14, 15] ?_
 obtain ⟨x17, hxx17, h0⟩ := bA h0
 refine oC (fun s' => ∃ g26 : Nat, s'.nx ≤ 72 ∧ LeN [] s' ⟨[(4, .ref 0 0 0 0), (5, .sl 24 g26 2 0 x17.length)], [(0, ⟨0, true, true, 3, [[.nils, .nils, .int .i64 0]]⟩), (24, ⟨g26, true, true, 2, List.map eA.enc x17⟩)], 72, []⟩) ?_ ?_
 ·
  intro s' hs
  obtain ⟨g26, hn, hs⟩ := hs
  refine dA ?_
  refine oB [] hn hs ?_
  obtain ⟨vr27, hvr27, h0⟩ := bA h0
  refine nA 136 [4, 8] (fun | 1 => some (.tup [.agg [.sl 0 0 2 0 vr27.1.Keys.length, .sl 1 0 1 0 vr27.1.Lose.length, .int .i64 vr27.1.Win], .int .i64 vr27.2], [⟨0, true, true, 2, vr27.1.Keys.map eA.enc⟩, ⟨0, true, true, 1, vr27.1.Lose.map (fA .i64)⟩]) | _ => none) rfl (fun _ _ => rC (zfX hvr27)) ?_
  refine xS 152 [4] ?_
  refine kA ?_
  obtain rfl := oI h0
  exact lA [80, 81] rG
 refine nC (ι := { p : Nat × Int × List eA × Nat // xK runs1 vat2 p.1 p.2.1 p.2.2.1 = some x17 }) (fun p => ⟨[(1, .psl 1 (List.map (fA .i64) vat2)), (4, .ref 0 0 0 0), (5, .sl 24 p.1.2.2.2 2 0 p.1.2.2.1.length), (13, .psl 1 (List.map (sA 4 aA.enc) runs1)), (14, .int .i64 (runs1.length : Int)), (15, .int .i64 p.1.2.1)], [(0, ⟨0, true, true, 3, [[.nils, .nils, .int .i64 0]]⟩), (24, ⟨p.1.2.2.2, true, true, 2, List.map eA.enc p.1.2.2.1⟩)], 64, []⟩) (fun p => p.1.1) ⟨(fu, 0, (List.replicate runs1.length (eA.mk [] false) : List eA), 0), hxx17⟩ ⟨rF, rE, rfl, rfl, trivial, trivial⟩ (fun _ => Nat.le_refl _) ?_
 rintro ⟨⟨fu, v18, keys19, g20⟩, h1⟩
 cases fu with
 | zero =>
  replace h1 : xK runs1 vat2 0 v18 keys19 = some x17 := h1
  rw [xK] at h1; cases h1
 | succ fu =>
  replace h1 : xK runs1 vat2 (fu + 1) v18 keys19 = some x17 := h1
  rw [xK] at h1
  dsimp only
  refine xS 72 [1, 4, 5, 13, 14, 15, 16] ?_
  refine iA ?_
  refine xI h1 rfl (fun h1 hb21 => ?_) (fun h1 hb21 => ?_)
  ·
   refine oA (dA (iA (xB ?_)))
   obtain ⟨e22, he22, h1⟩ := bA h1
   obtain ⟨he22a, he22b, he22c⟩ := wA he22
   refine nA 112 [1, 4, 5, 6, 7, 13, 14, 15] (fun _ => none) rfl (fun _ _ => rS (rA he22a (rA he22b he22c))) ?_
   obtain ⟨e23, he23, h1⟩ := bA h1
   obtain ⟨he23a, he23b, he23c⟩ := wA he23
   obtain ⟨vr24, hvr24, h1⟩ := bA h1
   obtain ⟨e25, he25, h1⟩ := bA h1
   obtain ⟨he25a, he25b, he25c⟩ := wA he25
   refine nB 192 [1, 4, 5, 13, 14, 15] (fun | 7 => some (.agg (eA.enc vr24), []) | _ => none) rfl (fun _ _ => rB (rA he22a (rA he22b (rA he22c (rA he23a (rA he23b (rA he23c (rA he25a (rA he25b he25c)))))))) (hZ hvr24)) ?_
   refine qB (dA ?_)
   refine xE ⟨[(1, .psl 1 (List.map (fA .i64) vat2)), (4, .ref 0 0 0 0), (5, .sl 24 g20 2 0 ((keys19.set v18.toNat vr24).length)), (13, .psl 1 (List.map (sA 4 aA.enc) runs1)), (14, .int .i64 (runs1.length : Int)), (15, .int .i64 v18)], [(0, ⟨0, true, true, 3, [[.nils, .nils, .int .i64 0]]⟩), (24, ⟨g20, true, true, 2, List.map eA.enc (keys19.set v18.toNat vr24)⟩)], 192, []⟩ ?_
   refine nB 208 [1, 4, 5, 13, 14, 15] (fun _ => none) rfl (fun _ _ => rS (rA he22a (rA he22b (rA he22c (rA he23a (rA he23b (rA he23c (rA he25a (rA he25b he25c))))))))) ?_
   refine dA ?_
   exact ⟨⟨(fu, (IntKind.i64.wrap (v18 + 1)), (keys19.set v18.toNat vr24), g20), h1⟩, ⟨rF, rE, rfl, rfl, trivial, trivial⟩, Nat.lt_succ_self _⟩
  refine fC (xA (xA (iC ?_)))
  obtain rfl := oI h1
  exact ⟨g20, rL, ⟨rF, rE, rfl, rfl, trivial, trivial⟩⟩
theorem zfG {fu : Nat} {runs1 : List (List aA)} {r : dB × Int × Int} (h0 : fT fu runs1 = some r) : yA Tryz.prog 99 [.psl 1 (runs1.map (sA 4 aA.enc))] (.tup [.agg [.psl 1 (List.map (sA 4 aA.enc) r.1.Runs), .sl 0 0 1 0 r.1.At.length, .psl 2 (List.map eA.enc r.1.Tree.Keys), .psl 1 (List.map (fA .i64) r.1.Tree.Lose), .int .i64 r.1.Tree.Win], .int .i64 r.2.1, .int .i64 r.2.2]) [⟨0, true, true, 1, r.1.At.map (fA .i64)⟩] := by
 refine cB Tryz.func99 rfl (by decide) rL ?_
 dsimp only [Tryz.f99]
 rw [fT] at h0
 refine xS 24 [0, 2] ?_
 refine iA ?_
 obtain ⟨vr2, hvr2, h0⟩ := bA h0
 refine nA 80 [0, 2, 5, 6] (fun | 1 => some (.tup [.int .i64 vr2.1, .int .i64 vr2.2], []) | _ => none) rfl (fun _ _ => rC (zbY hvr2)) ?_
 refine xS 96 [0, 2, 5, 6, 14] ?_
 refine xI h0 rfl (fun h0 hb3 => ?_) (fun h0 hb3 => ?_)
 ·
  refine xS 144 [2, 3, 4] ?_
  refine oB (s2 := ⟨[(2, .ref 0 0 0 0), (3, .int .i64 vr2.1), (4, .int .i64 vr2.2)], [(0, ⟨0, true, false, 5, [[.nils, .sl 144 0 1 0 0, .nils, .nils, .int .i64 0]]⟩), (144, ⟨0, true, true, 1, List.map (fA .i64) []⟩)], 145, []⟩) [(144, 1)] rL ⟨rF, rE, rfl, rfl, trivial, rN⟩ ?_
  refine kA (mA ?_)
  obtain rfl := oI h0
  exact lA [144] rG
 refine oA (dA ?_)
 obtain ⟨hc4, h0⟩ := pD h0
 refine xS 128 [0, 2, 7] ?_
 refine xE ⟨[(0, .psl 1 (List.map (sA 4 aA.enc) runs1)), (2, .ref 0 0 0 0), (7, .sl 112 0 1 0 ((List.replicate runs1.length 0 : List Int).length))], [(0, ⟨0, true, true, 5, [[.nils, .nils, .nils, .nils, .int .i64 0]]⟩), (112, ⟨0, true, true, 1, List.map (fA .i64) (List.replicate runs1.length 0 : List Int)⟩)], 128, []⟩ ?_
 obtain ⟨vr5, hvr5, h0⟩ := bA h0
 obtain ⟨vr6, hvr6, h0⟩ := bA h0
 refine nA 208 [2, 3, 4] (fun | 1 => some (.psl 1 (vr5.map (sA 4 aA.enc)), []) | 5 => some (.agg [.sl 0 0 2 0 vr6.Keys.length, .sl 1 0 1 0 vr6.Lose.length, .int .i64 vr6.Win], [⟨0, true, true, 2, vr6.Keys.map eA.enc⟩, ⟨0, true, true, 1, vr6.Lose.map (fA .i64)⟩]) | _ => none) rfl (fun Kt hK => by
   try have q0 := za0 hvr5
   try have q1 := zh6 hvr6
   exact rT) ?_
 refine kA ?_
 obtain rfl := oI h0
 exact lA [112] rG
theorem zc4 {fu : Nat} {vs1 : List Int} {r : List Int} (h0 : aN fu vs1 = some r) : yA Tryz.prog 132 [.psl 1 (vs1.map (fA .i64))] (.sl 0 0 1 0 r.length) [⟨0, true, true, 1, r.map (fA .i64)⟩] := by
 refine cB Tryz.func132 rfl (by decide) rL ?_
 dsimp only [Tryz.f132]
 rw [aN] at h0
 refine xS 8 [0] ?_
 refine iA ?_
 cases hb2 : vs1.isEmpty with
 | true =>
  replace h0 := aB h0 hb2
  obtain rfl : vs1 = [] := List.isEmpty_iff.1 hb2
  refine xS 24 [0, 4] ?_
  refine sW rfl ?_ ?_
  ·
   skip
   refine xS 32 [2] ?_
   refine oB (s2 := ⟨[(2, .sl 32 0 1 0 0)], [(32, ⟨0, true, true, 1, List.map (fA .i64) []⟩)], 33, []⟩) [(32, 1)] rL ⟨rF, rE, rfl, rfl, trivial, rN⟩ ?_
   refine kA (mA ?_)
   obtain rfl := oI h0
   exact lA [32] rG
  ·
   skip
   refine oA (dA ?_)
   refine xS 56 [2] ?_
   refine xE ⟨[(2, .sl 24 1 1 0 0)], [(24, ⟨1, true, true, 1, List.map (fA .i64) []⟩)], 56, []⟩ ?_
   refine kA ?_
   obtain rfl := oI h0
   exact lA [24] rG
 | false =>
  replace h0 := qA h0 hb2
  refine nA 24 [0, 4] (fun _ => none) rfl (fun _ _ => rS hb2) ?_
  refine qF rfl ?_
  refine oA (dA ?_)
  obtain ⟨hc3, h0⟩ := pD h0
  refine nA 56 [2] (fun _ => none) rfl (fun _ _ => rS hb2) ?_
  refine xE ⟨[(2, .sl 24 1 1 0 vs1.length)], [(24, ⟨1, true, true, 1, List.map (fA .i64) vs1⟩)], 56, []⟩ ?_
  refine kA ?_
  obtain rfl := oI h0
  refine lA [24] ?_
  exact rJ hb2
theorem zeL {fu : Nat} {t1 : bB} {k2 : eA} {r : bB × Int × Int} (h0 : oN fu t1 k2 = some r) : yA Tryz.prog 133 [.agg (bB.enc t1), .agg (eA.enc k2)] (.tup [.agg (bB.enc r.1), .int .i64 r.2.1, .int .i64 r.2.2]) [] := by
 refine cB Tryz.func133 rfl (by decide) rL ?_
 dsimp only [Tryz.f133]
 rw [oN] at h0
 refine xS 40 [2, 3, 4, 5] ?_
 refine zm9 (iA ?_)
 obtain ⟨vr3, hvr3, h0⟩ := bA h0
 refine nA 64 [2, 3, 4, 5, 7] (fun | 1 => some (.int .i64 vr3, []) | _ => none) rfl (fun _ _ => rC (zd5 hvr3)) ?_
 refine xS 80 [2, 3, 4, 5, 7, 14] ?_
 refine xI h0 rfl (fun h0 hb4 => ?_) (fun h0 hb4 => ?_)
 ·
  refine xS 120 [4, 5, 6] ?_
  refine kA (mA (wZ ?_))
  obtain rfl := oI h0
  exact lA [] rG
 refine oA (dA (iA ?_))
 obtain ⟨vr5, hvr5, h0⟩ := bA h0
 refine nA 112 [2, 3, 4, 5, 8] (fun | 2 => some (.int .i64 vr5, []) | _ => none) rfl (fun _ _ => rC (zab hvr5)) ?_
 refine xE ⟨[(2, .ref 0 0 0 0), (3, .ref 8 0 0 0), (4, .ref 16 0 0 0), (5, .int .i64 0), (8, .int .i64 vr5)], [(0, ⟨0, true, true, 3, [[.psl 2 (List.map eA.enc t1.Keys), .psl 1 (List.map (fA .i64) t1.Lose), .int .i64 t1.Win]]⟩), (8, ⟨0, true, true, 2, [[.str k2.Key, .bool k2.Done]]⟩), (16, ⟨0, true, true, 3, [[.nils, .nils, .int .i64 0]]⟩)], 112, []⟩ ?_
 refine xS 128 [2, 3, 4, 5, 8, 21] ?_
 refine xI h0 rfl (fun h0 hb6 => ?_) (fun h0 hb6 => ?_)
 ·
  refine xS 168 [4, 5, 6] ?_
  refine kA (mA (wZ ?_))
  obtain rfl := oI h0
  exact lA [] rG
 refine oA (dA (iA ?_))
 obtain ⟨b8, hb8, h0⟩ := bA h0
 refine bL (fr' := [(2, .ref 0 0 0 0), (3, .ref 8 0 0 0), (4, .ref 16 0 0 0), (5, .int .i64 0), (38, .bool b8)]) (hp' := [(0, ⟨0, true, true, 3, [[.psl 2 (List.map eA.enc t1.Keys), .psl 1 (List.map (fA .i64) t1.Lose), .int .i64 t1.Win]]⟩), (8, ⟨0, true, true, 2, [[.str k2.Key, .bool k2.Done]]⟩), (16, ⟨0, true, true, 3, [[.nils, .nils, .int .i64 0]]⟩)]) [0, 8, 16] 248 [2, 3, 4, 5, 38] (fun _ => none) rfl rfl rfl (fun Kt hK => by
   cases hg9 : (!k2.Done) with
   | false =>
    replace hb8 := qA hb8 hg9
    have hqb8 := oI hb8
    subst hqb8
    exact hO hg9 hK
   | true =>
    replace hb8 := aB hb8 hg9
    obtain ⟨e7, he7, hb8⟩ := bA hb8
    obtain ⟨he7a, he7b, he7c⟩ := wA he7
    have hqb8 := oI hb8
    subst hqb8
    exact tG hg9 (rA he7a (rA he7b (rA he7c he7))) hK) ?_
 refine xI h0 rfl (fun h0 hb10 => ?_) (fun h0 hb10 => ?_)
 ·
  refine xS 280 [4, 5, 6] ?_
  refine kA (mA (wZ ?_))
  obtain rfl := oI h0
  exact lA [] rG
 refine oA (dA ?_)
 obtain ⟨vr11, hvr11, h0⟩ := bA h0
 obtain ⟨vr12, hvr12, h0⟩ := bA h0
 refine pC 328 [3, 4, 5] (fun | 2 => some (.sl 0 0 2 0 vr11.length, [⟨0, true, true, 2, vr11.map eA.enc⟩]) | 5 => some (.sl 0 0 1 0 vr12.length, [⟨0, true, true, 1, vr12.map (fA .i64)⟩]) | _ => none) rfl rfl rfl (fun Kt hK => by
   try have q0 := zcE hvr11
   try have q1 := zc4 hvr12
   exact nF) ?_
 obtain ⟨e13, he13, h0⟩ := bA h0
 obtain ⟨he13a, he13b, he13c⟩ := wA he13
 refine nA 384 [4, 5] (fun _ => none) rfl (fun _ _ => rS (rA he13a (rA he13b he13c))) ?_
 refine xE ⟨[(4, .ref 16 0 0 0), (5, .int .i64 0)], [(16, ⟨0, true, false, 3, [[.sl 264 0 2 0 ((vr11.set t1.Win.toNat k2).length), .sl 288 0 1 0 vr12.length, .int .i64 t1.Win]]⟩), (264, ⟨0, true, true, 2, List.map eA.enc (vr11.set t1.Win.toNat k2)⟩), (288, ⟨0, true, true, 1, List.map (fA .i64) vr12⟩)], 384, []⟩ ?_
 obtain ⟨vr14, hvr14, h0⟩ := bA h0
 refine nA 416 [4, 5, 9] (fun | 2 => some (.fn 151 [] [.pp [.psl 2 (vr14.map eA.enc)]], []) | _ => none) rfl (fun _ _ => rB (rA he13a (rA he13b he13c)) (zaK hvr14)) ?_
 refine nA 472 [4, 5, 9, 10] (fun _ => none) rfl (fun _ _ => rS (rA he13a (rA he13b he13c))) ?_
 refine iA ?_
 refine zd4 ?_
 refine dA ?_
 obtain ⟨x28, hxx28, h0⟩ := bA h0
 refine zdI (fun s' => ∃ g38 : Nat, s'.nx ≤ 512 ∧ LeN [] s' ⟨[(4, .ref 16 0 0 0), (5, .int .i64 x28.1)], [(16, ⟨0, true, false, 3, [[.sl 264 0 2 0 ((vr11.set t1.Win.toNat k2).length), .sl 288 g38 1 0 x28.2.2.length, .int .i64 x28.2.1]]⟩), (264, ⟨0, false, true, 2, List.map eA.enc (vr11.set t1.Win.toNat k2)⟩), (288, ⟨g38, true, true, 1, List.map (fA .i64) x28.2.2⟩)], 512, []⟩) ?_ ?_
 ·
  intro s' hs
  obtain ⟨g38, hn, hs⟩ := hs
  refine oB [] hn hs ?_
  refine nA 552 [4, 5, 6] (fun _ => none) rfl (fun _ _ => rS (rA he13a (rA he13b he13c))) ?_
  refine kA (wZ ?_)
  obtain rfl := oI h0
  refine lA [] ?_
  exact rJ (rA he13a (rA he13b he13c))
 refine nC (ι := { p : Nat × Int × Int × Int × List Int × Nat // vH vr14 p.1 p.2.1 p.2.2.1 p.2.2.2.1 p.2.2.2.2.1 = some x28 }) (fun p => ⟨[(4, .ref 16 0 0 0), (5, .int .i64 p.1.2.1), (9, .fn 151 [] [.pp [.psl 2 (List.map eA.enc vr14)]]), (10, .int .i64 p.1.2.2.1)], [(16, ⟨0, true, false, 3, [[.sl 264 0 2 0 ((vr11.set t1.Win.toNat k2).length), .sl 288 p.1.2.2.2.2.2 1 0 p.1.2.2.2.2.1.length, .int .i64 p.1.2.2.2.1]]⟩), (264, ⟨0, false, true, 2, List.map eA.enc (vr11.set t1.Win.toNat k2)⟩), (288, ⟨p.1.2.2.2.2.2, true, true, 1, List.map (fA .i64) p.1.2.2.2.2.1⟩)], 472, []⟩) (fun p => p.1.1) ⟨(fu, 0, (IntKind.i64.wrap (((vr11.set t1.Win.toNat k2).length : Int) + t1.Win)), t1.Win, vr12, 0), hxx28⟩ ⟨rF, rE, rfl, rfl, trivial, trivial⟩ (fun _ => Nat.le_refl _) ?_
 rintro ⟨⟨fu, games29, node30, u31, v32, g33⟩, h1⟩
 cases fu with
 | zero =>
  replace h1 : vH vr14 0 games29 node30 u31 v32 = some x28 := h1
  rw [vH] at h1; cases h1
 | succ fu =>
  replace h1 : vH vr14 (fu + 1) games29 node30 u31 v32 = some x28 := h1
  rw [vH] at h1
  dsimp only
  refine xB ?_
  refine nA 496 [4, 5, 9, 10] (fun _ => none) rfl (fun _ _ => rS (rA he13a (rA he13b he13c))) ?_
  refine iA ?_
  refine nA 512 [4, 5, 9, 10, 67] (fun _ => none) rfl (fun _ _ => rS (rA he13a (rA he13b he13c))) ?_
  refine xI h1 rfl (fun h1 hb34 => ?_) (fun h1 hb34 => ?_)
  ·
   refine fC (xA (xP (by decide) (xA (iC ?_))))
   obtain rfl := oI h1
   exact ⟨g33, rL, ⟨rF, rE, rfl, rfl, trivial, trivial⟩⟩
  refine oA (dA ?_)
  refine nA 536 [4, 5, 9, 10] (fun _ => none) rfl (fun _ _ => rS (rA he13a (rA he13b he13c))) ?_
  obtain ⟨e35, he35, h1⟩ := bA h1
  obtain ⟨he35a, he35b, he35c⟩ := wA he35
  obtain ⟨vr36, hvr36, h1⟩ := bA h1
  refine pC 608 [4, 5, 9, 10, 78] (fun | 8 => some (.bool vr36, []) | _ => none) rfl rfl rfl (fun _ _ => pP (rA he13a (rA he13b (rA he13c (rA he35a (rA he35b he35c))))) (za1 hvr36)) ?_
  refine xI h1 rfl (fun h1 hb37 => ?_) (fun h1 hb37 => ?_)
  ·
   refine qG 720 [4, 5, 9, 10] (fun _ => none) rfl rfl rfl (fun _ _ => aE (rA he13a (rA he13b (rA he13c (rA he35a (rA he35b he35c)))))) ?_
   refine qB (dA ?_)
   exact ⟨⟨(fu, (IntKind.i64.wrap (games29 + 1)), (IntKind.i64.wrap (node30.tdiv 2)), e35, (v32.set ((IntKind.i64.wrap (node30.tdiv 2)).toNat) u31), g33), h1⟩, ⟨rF, rE, rfl, rfl, trivial, trivial⟩, Nat.lt_succ_self _⟩
  refine oA (qB (dA ?_))
  exact ⟨⟨(fu, (IntKind.i64.wrap (games29 + 1)), (IntKind.i64.wrap (node30.tdiv 2)), u31, v32, g33), h1⟩, ⟨rF, rE, rfl, rfl, trivial, trivial⟩, Nat.lt_succ_self _⟩
theorem zmd {fu : Nat} {runs1 : List (List aA)} {r : List aA × List Int × Int} (h0 : uL fu runs1 = some r) : yA Tryz.prog 85 [.psl 1 (runs1.map (sA 4 aA.enc))] (.tup [.psl 4 (r.1.map aA.enc), .psl 1 (r.2.1.map (fA .i64)), .int .i64 r.2.2]) [] := by
 refine cB Tryz.func85 rfl (by decide) rL ?_
 dsimp only [Tryz.f85]
 rw [uL] at h0
 refine xS 24 [0, 2, 3] ?_
 obtain ⟨vr2, hvr2, h0⟩ := bA h0
 refine nA 104 [2, 3, 4, 5] (fun | 1 => some (.tup [.agg [.psl 1 (List.map (sA 4 aA.enc) vr2.1.Runs), .sl 0 0 1 0 vr2.1.At.length, .psl 2 (List.map eA.enc vr2.1.Tree.Keys), .psl 1 (List.map (fA .i64) vr2.1.Tree.Lose), .int .i64 vr2.1.Tree.Win], .int .i64 vr2.2.1, .int .i64 vr2.2.2], [⟨0, true, true, 1, vr2.1.At.map (fA .i64)⟩]) | _ => none) rfl (fun _ _ => rC (zfG hvr2)) ?_
 refine iA ?_
 refine xS 120 [2, 3, 4, 5, 17] ?_
 refine xI h0 rfl (fun h0 hb3 => ?_) (fun h0 hb3 => ?_)
 ·
  refine xS 152 [2, 3, 4] ?_
  refine kA (mA ?_)
  obtain rfl := oI h0
  exact lA [] rG
 refine oA (dA ?_)
 refine xS 152 [2, 3, 4, 7] ?_
 refine iA ?_
 refine sH 2 rfl ?_
 refine lC (l' := List.range' 0 1 ++ (1 :: (List.range' 2 0 ++ []))) rfl ?_
 refine sC 0 1 160 (1 :: (List.range' 2 0 ++ [])) (fun _ => none) rfl rfl rfl (fun _ _ => rT) ?_
 refine xJ rfl rfl rfl rfl rfl Tryz.func113 rfl (by decide) rfl rL ?_
 dsimp only [Tryz.f113]
 refine xE ⟨[(0, .ref 136 0 0 0)], [(0, ⟨0, true, true, 1, [[.nils]]⟩), (8, ⟨0, true, true, 1, [[.nils]]⟩), (32, ⟨0, true, true, 1, List.map (fA .i64) vr2.1.At⟩), (72, ⟨0, true, false, 5, [[.psl 1 (List.map (sA 4 aA.enc) vr2.1.Runs), .sl 32 0 1 0 vr2.1.At.length, .psl 2 (List.map eA.enc vr2.1.Tree.Keys), .psl 1 (List.map (fA .i64) vr2.1.Tree.Lose), .int .i64 vr2.1.Tree.Win]]⟩), (136, ⟨0, true, false, 5, [[.psl 1 (List.map (sA 4 aA.enc) vr2.1.Runs), .sl 32 0 1 0 vr2.1.At.length, .psl 2 (List.map eA.enc vr2.1.Tree.Keys), .psl 1 (List.map (fA .i64) vr2.1.Tree.Lose), .int .i64 vr2.1.Tree.Win]]⟩)], 160, []⟩ ?_
 refine xS 176 [1] ?_
 refine xS 192 [2] ?_
 refine kA ?_
 refine oE (fun _ _ => rT) ?_
 refine xF ⟨[(2, .ref 0 0 0 0), (3, .ref 8 0 0 0), (4, .int .i64 vr2.2.2), (7, .ref 136 0 0 0), (22, .ref 136 0 0 0), (23, .fn 131 [] [.ref 160 0 0 0])], [(0, ⟨0, true, true, 1, [[.nils]]⟩), (8, ⟨0, true, true, 1, [[.nils]]⟩), (32, ⟨0, true, true, 1, List.map (fA .i64) vr2.1.At⟩), (136, ⟨0, true, false, 5, [[.psl 1 (List.map (sA 4 aA.enc) vr2.1.Runs), .sl 32 0 1 0 vr2.1.At.length, .psl 2 (List.map eA.enc vr2.1.Tree.Keys), .psl 1 (List.map (fA .i64) vr2.1.Tree.Lose), .int .i64 vr2.1.Tree.Win]]⟩), (160, ⟨0, true, false, 1, [[.ref 136 0 0 0]]⟩)], 192, []⟩ ?_
 refine lC (l' := []) rfl ?_
 refine kD ?_
 refine dA ?_
 refine xE ⟨[(2, .ref 0 0 0 0), (3, .ref 8 0 0 0), (4, .int .i64 vr2.2.2), (23, .fn 131 [] [.ref 160 0 0 0])], [(0, ⟨0, true, true, 1, [[.nils]]⟩), (8, ⟨0, true, true, 1, [[.nils]]⟩), (32, ⟨0, true, true, 1, List.map (fA .i64) vr2.1.At⟩), (136, ⟨0, true, false, 5, [[.psl 1 (List.map (sA 4 aA.enc) vr2.1.Runs), .sl 32 0 1 0 vr2.1.At.length, .psl 2 (List.map eA.enc vr2.1.Tree.Keys), .psl 1 (List.map (fA .i64) vr2.1.Tree.Lose), .int .i64 vr2.1.Tree.Win]]⟩), (160, ⟨0, true, false, 1, [[.ref 136 0 0 0]]⟩)], 192, []⟩ ?_
 refine xB ?_
 refine zbG rfl Tryz.func131 rfl (by decide) rL ?_
 intro RC4 hRC4
 have stRC4 : RC4.st = .ready ∧ RC4.pend = none := by rw [hRC4]; exact ⟨rfl, rfl⟩
 have okRC4 : jY 192 RC4 := by rw [hRC4]; exact And.intro (rR) rfl
 dsimp only [Tryz.f131]
 refine oB (s2 := ⟨[(0, .yld 192), (1, .ref 160 0 0 0)], [(0, ⟨0, true, true, 1, [[.nils]]⟩), (8, ⟨0, true, true, 1, [[.nils]]⟩), (32, ⟨0, true, true, 1, List.map (fA .i64) vr2.1.At⟩), (136, ⟨0, true, false, 5, [[.psl 1 (List.map (sA 4 aA.enc) vr2.1.Runs), .sl 32 0 1 0 vr2.1.At.length, .psl 2 (List.map eA.enc vr2.1.Tree.Keys), .psl 1 (List.map (fA .i64) vr2.1.Tree.Lose), .int .i64 vr2.1.Tree.Win]]⟩), (160, ⟨0, true, false, 1, [[.ref 136 0 0 0]]⟩)], 193, [(192, RC4)]⟩) [] rL ⟨rF, rE, rfl, rfl, (gC.consR rL rfl okRC4 rL trivial), trivial⟩ ?_
 refine zaz ?_
 refine oB (s2 := ⟨[(0, .yld 192), (1, .ref 160 0 0 0)], [(0, ⟨0, true, false, 1, [[.sl 193 0 4 0 0]]⟩), (8, ⟨0, true, false, 1, [[.sl 194 0 1 0 0]]⟩), (32, ⟨0, true, true, 1, List.map (fA .i64) vr2.1.At⟩), (136, ⟨0, true, false, 5, [[.psl 1 (List.map (sA 4 aA.enc) vr2.1.Runs), .sl 32 0 1 0 vr2.1.At.length, .psl 2 (List.map eA.enc vr2.1.Tree.Keys), .psl 1 (List.map (fA .i64) vr2.1.Tree.Lose), .int .i64 vr2.1.Tree.Win]]⟩), (160, ⟨0, true, false, 1, [[.ref 136 0 0 0]]⟩), (193, ⟨0, true, true, 4, List.map aA.enc []⟩), (194, ⟨0, true, true, 1, List.map (fA .i64) []⟩)], 195, [(192, RC4)]⟩) [(193, 4), (194, 1)] rL ⟨rF, rE, rfl, rfl, (gC.consR rL rfl okRC4 rL trivial), rN⟩ ?_
 obtain ⟨x37, hxx37, h0⟩ := bA h0
 refine oC (fun _ => False) ?_ ?_
 ·
  intro _ h; exact h.elim
 refine nC (ι := { p : Nat × List Int × List eA × List Int × Int × List aA × List Int × Nat × Nat × Nat // wH vr2 p.1 p.2.1 p.2.2.1 p.2.2.2.1 p.2.2.2.2.1 p.2.2.2.2.2.1 p.2.2.2.2.2.2.1 = some x37 }) (fun p => ⟨[(0, .yld 192), (1, .ref 160 0 0 0)], [(0, ⟨0, true, false, 1, [[.sl 193 p.1.2.2.2.2.2.2.2.2.1 4 0 p.1.2.2.2.2.2.1.length]]⟩), (8, ⟨0, true, false, 1, [[.sl 194 p.1.2.2.2.2.2.2.2.2.2 1 0 p.1.2.2.2.2.2.2.1.length]]⟩), (32, ⟨p.1.2.2.2.2.2.2.2.1, true, true, 1, List.map (fA .i64) p.1.2.1⟩), (136, ⟨0, true, false, 5, [[.psl 1 (List.map (sA 4 aA.enc) vr2.1.Runs), .sl 32 p.1.2.2.2.2.2.2.2.1 1 0 p.1.2.1.length, .psl 2 (List.map eA.enc p.1.2.2.1), .psl 1 (List.map (fA .i64) p.1.2.2.2.1), .int .i64 p.1.2.2.2.2.1]]⟩), (160, ⟨0, true, false, 1, [[.ref 136 0 0 0]]⟩), (193, ⟨p.1.2.2.2.2.2.2.2.2.1, true, true, 4, List.map aA.enc p.1.2.2.2.2.2.1⟩), (194, ⟨p.1.2.2.2.2.2.2.2.2.2, true, true, 1, List.map (fA .i64) p.1.2.2.2.2.2.2.1⟩)], 195, [(192, RC4)]⟩) (fun p => p.1.1) ⟨(fu, vr2.1.At, vr2.1.Tree.Keys, vr2.1.Tree.Lose, vr2.1.Tree.Win, [], [], 0, 0, 0), hxx37⟩ ⟨rF, rE, rfl, rfl, (gC.consR rL rfl okRC4 rL trivial), trivial⟩ (fun _ => Nat.le_refl _) ?_
 rintro ⟨⟨fu, v38, v39, v40, v41, v42, v43, g44, g45, g46⟩, h1⟩
 cases fu with
 | zero =>
  replace h1 : wH vr2 0 v38 v39 v40 v41 v42 v43 = some x37 := h1
  rw [wH] at h1; cases h1
 | succ fu =>
  replace h1 : wH vr2 (fu + 1) v38 v39 v40 v41 v42 v43 = some x37 := h1
  rw [wH] at h1
  dsimp only
  refine xB ?_
  obtain ⟨vr47, hvr47, h1⟩ := bA h1
  refine nA 275 [0, 1, 3, 4, 5] (fun | 1 => some (.tup [.agg (aA.enc vr47.1), .int .i64 vr47.2.1, .int .i64 vr47.2.2], []) | _ => none) rfl (fun _ _ => rC (zcl hvr47)) ?_
  refine iA ?_
  refine sH 9 rfl ?_
  refine lC (l' := List.range' 0 3 ++ (List.range' 3 6 ++ [])) rfl ?_
  refine sC 0 3 299 (List.range' 3 6 ++ []) (fun _ => none) rfl rfl rfl (fun _ _ => rT) ?_
  refine iK (s2 := ⟨[(0, .yld 192), (1, .ref 160 0 0 0), (3, .ref 243 0 0 0), (4, .int .i64 vr47.2.1), (5, .int .i64 vr47.2.2), (12, .int .i64 vr47.2.2), (13, .bool (!(decide (vr47.2.2 = 0)))), (14, .bool (!(decide (vr47.2.2 = 0))))], [(0, ⟨0, true, false, 1, [[.sl 193 g45 4 0 v42.length]]⟩), (8, ⟨0, true, false, 1, [[.sl 194 g46 1 0 v43.length]]⟩), (32, ⟨g44, true, true, 1, List.map (fA .i64) v38⟩), (136, ⟨0, true, false, 5, [[.psl 1 (List.map (sA 4 aA.enc) vr2.1.Runs), .sl 32 g44 1 0 v38.length, .psl 2 (List.map eA.enc v39), .psl 1 (List.map (fA .i64) v40), .int .i64 v41]]⟩), (160, ⟨0, true, false, 1, [[.ref 136 0 0 0]]⟩), (193, ⟨g45, true, true, 4, List.map aA.enc v42⟩), (194, ⟨g46, true, true, 1, List.map (fA .i64) v43⟩), (243, ⟨0, true, true, 4, [[.str vr47.1.Key, .str vr47.1.Val, .bool vr47.1.Dead, .int .i64 vr47.1.Seq]]⟩)], 299, [(192, RC4)]⟩) [] rL ⟨rF, rE, rfl, rfl, (gC.consR rL rfl okRC4 rL trivial), trivial⟩ ?_
  generalize hg48 : (!(decide (vr47.2.2 = 0))) = b48
  cases b48 with
  | true =>
   replace h1 := aB h1 hg48
   refine lC (l' := List.range' 3 6 ++ []) rfl ?_
   refine sC 3 6 347 [] (fun _ => none) rfl rfl rfl (fun _ _ => rT) ?_
   refine kD ?_
   refine dA ?_
   refine oB (s2 := ⟨[(0, .yld 192), (1, .ref 160 0 0 0), (4, .int .i64 vr47.2.1), (20, .bool true)], [(0, ⟨0, true, false, 1, [[.sl 193 g45 4 0 v42.length]]⟩), (8, ⟨0, true, false, 1, [[.sl 194 g46 1 0 v43.length]]⟩), (32, ⟨g44, true, true, 1, List.map (fA .i64) v38⟩), (136, ⟨0, true, false, 5, [[.psl 1 (List.map (sA 4 aA.enc) vr2.1.Runs), .sl 32 g44 1 0 v38.length, .psl 2 (List.map eA.enc v39), .psl 1 (List.map (fA .i64) v40), .int .i64 v41]]⟩), (160, ⟨0, true, false, 1, [[.ref 136 0 0 0]]⟩), (193, ⟨g45, true, true, 4, List.map aA.enc v42⟩), (194, ⟨g46, true, true, 1, List.map (fA .i64) v43⟩)], 347, [(192, RC4)]⟩) [] rL ⟨rF, rE, rfl, rfl, (gC.consR rL rfl okRC4 rL trivial), trivial⟩ ?_
   refine kK rfl ?_
   refine kA ?_
   obtain rfl := oI h1
   refine mA (cC (mA (wC (zn7 ?_))))
   refine oE (fun _ _ => rT) ?_
   refine zal stRC4 rfl ?_
   refine qB (dA ?_)
   refine xE ⟨[(2, .ref 0 0 0 0), (3, .ref 8 0 0 0), (4, .int .i64 vr2.2.2), (23, .fn 131 [] [.ref 160 0 0 0])], [(0, ⟨0, true, false, 1, [[.sl 193 g45 4 0 v42.length]]⟩), (8, ⟨0, true, false, 1, [[.sl 194 g46 1 0 v43.length]]⟩), (32, ⟨g44, true, true, 1, List.map (fA .i64) v38⟩), (136, ⟨0, true, false, 5, [[.psl 1 (List.map (sA 4 aA.enc) vr2.1.Runs), .sl 32 g44 1 0 v38.length, .psl 2 (List.map eA.enc v39), .psl 1 (List.map (fA .i64) v40), .int .i64 v41]]⟩), (160, ⟨0, true, false, 1, [[.ref 136 0 0 0]]⟩), (193, ⟨g45, true, true, 4, List.map aA.enc v42⟩), (194, ⟨g46, true, true, 1, List.map (fA .i64) v43⟩)], 347, []⟩ ?_
   refine pC 387 [2, 3, 4] (fun _ => none) rfl rfl rfl (fun _ _ => nF) ?_
   refine kA ?_
   obtain rfl := oI h0
   exact lA [] rG
  | false =>
   replace h1 := qA h1 hg48
   refine lC (l' := List.range' 3 3 ++ (6 :: (List.range' 7 2 ++ []))) rfl ?_
   refine sC 3 3 323 (6 :: (List.range' 7 2 ++ [])) (fun _ => none) rfl rfl rfl (fun _ _ => rT) ?_
   refine zbr hRC4 rfl rfl rfl rfl rfl rfl rfl rfl rfl ?_
   refine oB (s2 := ⟨[(2, .ref 0 0 0 0), (3, .ref 8 0 0 0), (4, .int .i64 vr2.2.2), (23, .fn 131 [] [.ref 160 0 0 0]), (24, .int .i64 vr47.2.1), (25, .agg [.str vr47.1.Key, .str vr47.1.Val, .bool vr47.1.Dead, .int .i64 vr47.1.Seq])], [(0, ⟨0, true, false, 1, [[.sl 193 g45 4 0 v42.length]]⟩), (8, ⟨0, true, false, 1, [[.sl 194 g46 1 0 v43.length]]⟩), (32, ⟨g44, true, true, 1, List.map (fA .i64) v38⟩), (136, ⟨0, true, false, 5, [[.psl 1 (List.map (sA 4 aA.enc) vr2.1.Runs), .sl 32 g44 1 0 v38.length, .psl 2 (List.map eA.enc v39), .psl 1 (List.map (fA .i64) v40), .int .i64 v41]]⟩), (160, ⟨0, true, false, 1, [[.ref 136 0 0 0]]⟩), (193, ⟨g45, true, true, 4, List.map aA.enc v42⟩), (194, ⟨g46, true, true, 1, List.map (fA .i64) v43⟩), (243, ⟨0, true, true, 4, [[.str vr47.1.Key, .str vr47.1.Val, .bool vr47.1.Dead, .int .i64 vr47.1.Seq]]⟩)], 323, [(192, RC4)]⟩) [] rL ⟨rF, rE, rfl, rfl, (gC.consR rL rfl okRC4 rL trivial), trivial⟩ ?_
   refine xS 331 [2, 3, 4, 8, 25] ?_
   refine xR 347 [2, 3, 4, 8, 9] ?_
   refine dA ?_
   refine ⟨RC4, rfl, stRC4.1, ?_⟩
   refine oB (s2 := ⟨[(2, .ref 0 0 0 0), (3, .ref 8 0 0 0), (4, .int .i64 vr2.2.2), (8, .int .i64 vr47.2.1), (9, .ref 331 0 0 0)], [(0, ⟨0, true, false, 1, [[.sl 193 g45 4 0 v42.length]]⟩), (8, ⟨0, true, false, 1, [[.sl 194 g46 1 0 v43.length]]⟩), (32, ⟨g44, true, true, 1, List.map (fA .i64) v38⟩), (136, ⟨0, true, false, 5, [[.psl 1 (List.map (sA 4 aA.enc) vr2.1.Runs), .sl 32 g44 1 0 v38.length, .psl 2 (List.map eA.enc v39), .psl 1 (List.map (fA .i64) v40), .int .i64 v41]]⟩), (160, ⟨0, true, false, 1, [[.ref 136 0 0 0]]⟩), (193, ⟨g45, true, true, 4, List.map aA.enc v42⟩), (194, ⟨g46, true, true, 1, List.map (fA .i64) v43⟩), (243, ⟨0, true, true, 4, [[.str vr47.1.Key, .str vr47.1.Val, .bool vr47.1.Dead, .int .i64 vr47.1.Seq]]⟩), (331, ⟨0, true, true, 4, [[.str vr47.1.Key, .str vr47.1.Val, .bool vr47.1.Dead, .int .i64 vr47.1.Seq]]⟩)], 347, [(192, { RC4 with st := .busy, pend := RC4.pend })]⟩) [] rL ⟨rF, rE, rfl, rfl, (gC.consR rL rfl okRC4 rL trivial), trivial⟩ ?_
   refine xB ?_
   obtain ⟨hc49, h1⟩ := pD h1
   obtain ⟨hc50, h1⟩ := pD h1
   refine qG 427 [2, 3, 4] (fun _ => none) rfl rfl rfl (fun _ _ => nF) ?_
   refine qB ?_
   refine zba stRC4 rfl ?_
   refine iK (s2 := ⟨[(0, .yld 192), (1, .ref 160 0 0 0), (3, .ref 243 0 0 0), (4, .int .i64 vr47.2.1), (5, .int .i64 vr47.2.2), (12, .int .i64 vr47.2.2), (13, .bool false), (14, .bool false), (15, .yld 192), (16, .int .i64 vr47.2.1), (17, .agg [.str vr47.1.Key, .str vr47.1.Val, .bool vr47.1.Dead, .int .i64 vr47.1.Seq]), (18, .bool true)], [(0, ⟨0, true, false, 1, [[.sl 193 (g45 + 1) 4 0 ((v42 ++ [vr47.1]).length)]]⟩), (8, ⟨0, true, false, 1, [[.sl 194 (g46 + 1) 1 0 ((v43 ++ [vr47.2.1]).length)]]⟩), (32, ⟨g44, true, true, 1, List.map (fA .i64) v38⟩), (136, ⟨0, true, false, 5, [[.psl 1 (List.map (sA 4 aA.enc) vr2.1.Runs), .sl 32 g44 1 0 v38.length, .psl 2 (List.map eA.enc v39), .psl 1 (List.map (fA .i64) v40), .int .i64 v41]]⟩), (160, ⟨0, true, false, 1, [[.ref 136 0 0 0]]⟩), (193, ⟨(g45 + 1), true, true, 4, List.map aA.enc (v42 ++ [vr47.1])⟩), (194, ⟨(g46 + 1), true, true, 1, List.map (fA .i64) (v43 ++ [vr47.2.1])⟩), (243, ⟨0, true, true, 4, [[.str vr47.1.Key, .str vr47.1.Val, .bool vr47.1.Dead, .int .i64 vr47.1.Seq]]⟩)], 427, [(192, RC4)]⟩) [] rL ⟨rF, rE, rfl, rfl, (gC.consR rL rfl okRC4 rL trivial), trivial⟩ ?_
   refine lC (l' := List.range' 7 2 ++ []) rfl ?_
   refine sC 7 2 443 [] (fun _ => none) rfl rfl rfl (fun _ _ => rT) ?_
   refine kD ?_
   refine dA ?_
   refine oB (s2 := ⟨[(0, .yld 192), (1, .ref 160 0 0 0), (4, .int .i64 vr47.2.1), (15, .yld 192), (16, .int .i64 vr47.2.1), (17, .agg [.str vr47.1.Key, .str vr47.1.Val, .bool vr47.1.Dead, .int .i64 vr47.1.Seq]), (18, .bool true), (19, .bool false), (20, .bool false)], [(0, ⟨0, true, false, 1, [[.sl 193 (g45 + 1) 4 0 ((v42 ++ [vr47.1]).length)]]⟩), (8, ⟨0, true, false, 1, [[.sl 194 (g46 + 1) 1 0 ((v43 ++ [vr47.2.1]).length)]]⟩), (32, ⟨g44, true, true, 1, List.map (fA .i64) v38⟩), (136, ⟨0, true, false, 5, [[.psl 1 (List.map (sA 4 aA.enc) vr2.1.Runs), .sl 32 g44 1 0 v38.length, .psl 2 (List.map eA.enc v39), .psl 1 (List.map (fA .i64) v40), .int .i64 v41]]⟩), (160, ⟨0, true, false, 1, [[.ref 136 0 0 0]]⟩), (193, ⟨(g45 + 1), true, true, 4, List.map aA.enc (v42 ++ [vr47.1])⟩), (194, ⟨(g46 + 1), true, true, 1, List.map (fA .i64) (v43 ++ [vr47.2.1])⟩)], 443, [(192, RC4)]⟩) [] rL ⟨rF, rE, rfl, rfl, (gC.consR rL rfl okRC4 rL trivial), trivial⟩ ?_
   refine qF rfl ?_
   refine oA (dA ?_)
   refine oW 3 rfl ?_
   refine lC (l' := List.range' 0 2 ++ (2 :: (List.range' 3 0 ++ []))) rfl ?_
   refine sC 0 2 459 (2 :: (List.range' 3 0 ++ [])) (fun _ => none) rfl rfl rfl (fun _ _ => rT) ?_
   refine xJ rfl rfl rfl rfl rfl Tryz.func118 rfl (by decide) rfl rL ?_
   dsimp only [Tryz.f118]
   refine oB (s2 := ⟨[(0, .ref 136 0 0 0), (1, .int .i64 vr47.2.1)], [(0, ⟨0, true, false, 1, [[.sl 193 (g45 + 1) 4 0 ((v42 ++ [vr47.1]).length)]]⟩), (8, ⟨0, true, false, 1, [[.sl 194 (g46 + 1) 1 0 ((v43 ++ [vr47.2.1]).length)]]⟩), (32, ⟨g44, true, true, 1, List.map (fA .i64) v38⟩), (136, ⟨0, true, false, 5, [[.psl 1 (List.map (sA 4 aA.enc) vr2.1.Runs), .sl 32 g44 1 0 v38.length, .psl 2 (List.map eA.enc v39), .psl 1 (List.map (fA .i64) v40), .int .i64 v41]]⟩), (160, ⟨0, true, false, 1, [[.ref 136 0 0 0]]⟩), (193, ⟨(g45 + 1), true, true, 4, List.map aA.enc (v42 ++ [vr47.1])⟩), (194, ⟨(g46 + 1), true, true, 1, List.map (fA .i64) (v43 ++ [vr47.2.1])⟩)], 459, [(192, RC4)]⟩) [] rL ⟨rF, rE, rfl, rfl, (gC.consR rL rfl okRC4 rL trivial), trivial⟩ ?_
   obtain ⟨e51, he51, h1⟩ := bA h1
   obtain ⟨he51a, he51b, he51c⟩ := wA he51
   refine nA 547 [0, 1] (fun _ => none) rfl (fun _ _ => rS (rA he51a (rA he51b he51c))) ?_
   refine oB (s2 := ⟨[(0, .ref 136 0 0 0), (1, .int .i64 vr47.2.1)], [(0, ⟨0, true, false, 1, [[.sl 193 (g45 + 1) 4 0 ((v42 ++ [vr47.1]).length)]]⟩), (8, ⟨0, true, false, 1, [[.sl 194 (g46 + 1) 1 0 ((v43 ++ [vr47.2.1]).length)]]⟩), (32, ⟨g44, true, true, 1, List.map (fA .i64) (v38.set vr47.2.1.toNat (IntKind.i64.wrap (e51 + 1)))⟩), (136, ⟨0, true, false, 5, [[.psl 1 (List.map (sA 4 aA.enc) vr2.1.Runs), .sl 32 g44 1 0 ((v38.set vr47.2.1.toNat (IntKind.i64.wrap (e51 + 1))).length), .psl 2 (List.map eA.enc v39), .psl 1 (List.map (fA .i64) v40), .int .i64 v41]]⟩), (160, ⟨0, true, false, 1, [[.ref 136 0 0 0]]⟩), (193, ⟨(g45 + 1), true, true, 4, List.map aA.enc (v42 ++ [vr47.1])⟩), (194, ⟨(g46 + 1), true, true, 1, List.map (fA .i64) (v43 ++ [vr47.2.1])⟩)], 547, [(192, RC4)]⟩) [] rL ⟨rF, rE, rfl, rfl, (gC.consR rL rfl okRC4 rL trivial), trivial⟩ ?_
   obtain ⟨e52, he52, h1⟩ := bA h1
   obtain ⟨he52a, he52b, he52c⟩ := wA he52
   obtain ⟨e53, he53, h1⟩ := bA h1
   obtain ⟨he53a, he53b, he53c⟩ := wA he53
   obtain ⟨vr54, hvr54, h1⟩ := bA h1
   obtain ⟨vr55, hvr55, h1⟩ := bA h1
   refine qG 803 [] (fun | 22 => some (.agg (eA.enc vr54), []) | 23 => some (.tup [.agg (bB.enc vr55.1), .int .i64 vr55.2.1, .int .i64 vr55.2.2], []) | _ => none) rfl rfl rfl (fun Kt hK => by
     try have q0 := hZ hvr54
     try have q1 := zeL hvr55
     exact aE (rA he51a (rA he51b (rA he51c (rA he52a (rA he52b (rA he52c (rA he53a (rA he53b he53c))))))))) ?_
   refine uR (fun _ _ => rS (rA he51a (rA he51b (rA he51c (rA he52a (rA he52b (rA he52c (rA he53a (rA he53b he53c))))))))) ?_
   refine iK (s2 := ⟨[(0, .yld 192), (1, .ref 160 0 0 0), (4, .int .i64 vr47.2.1), (15, .yld 192), (16, .int .i64 vr47.2.1), (17, .agg [.str vr47.1.Key, .str vr47.1.Val, .bool vr47.1.Dead, .int .i64 vr47.1.Seq]), (18, .bool true), (19, .bool false), (20, .bool false), (21, .ref 136 0 0 0), (22, .int .i64 vr47.2.1), (23, .tup [])], [(0, ⟨0, true, false, 1, [[.sl 193 (g45 + 1) 4 0 ((v42 ++ [vr47.1]).length)]]⟩), (8, ⟨0, true, false, 1, [[.sl 194 (g46 + 1) 1 0 ((v43 ++ [vr47.2.1]).length)]]⟩), (32, ⟨g44, true, true, 1, List.map (fA .i64) (v38.set vr47.2.1.toNat (IntKind.i64.wrap (e51 + 1)))⟩), (136, ⟨0, true, false, 5, [[.psl 1 (List.map (sA 4 aA.enc) vr2.1.Runs), .sl 32 g44 1 0 ((v38.set vr47.2.1.toNat (IntKind.i64.wrap (e51 + 1))).length), .psl 2 (List.map eA.enc vr55.1.Keys), .psl 1 (List.map (fA .i64) vr55.1.Lose), .int .i64 vr55.1.Win]]⟩), (160, ⟨0, true, false, 1, [[.ref 136 0 0 0]]⟩), (193, ⟨(g45 + 1), true, true, 4, List.map aA.enc (v42 ++ [vr47.1])⟩), (194, ⟨(g46 + 1), true, true, 1, List.map (fA .i64) (v43 ++ [vr47.2.1])⟩)], 803, [(192, RC4)]⟩) [] rL ⟨rF, rE, rfl, rfl, (gC.consR rL rfl okRC4 rL trivial), trivial⟩ ?_
   refine lC (l' := []) rfl ?_
   refine kD ?_
   refine qB (dA ?_)
   exact ⟨⟨(fu, (v38.set vr47.2.1.toNat (IntKind.i64.wrap (e51 + 1))), vr55.1.Keys, vr55.1.Lose, vr55.1.Win, (v42 ++ [vr47.1]), (v43 ++ [vr47.2.1]), g44, (g45 + 1), (g46 + 1)), h1⟩, ⟨rF, rE, rfl, rfl, (gC.consR rL rfl okRC4 rL trivial), trivial⟩, Nat.lt_succ_self _⟩
theorem zca {fu : Nat} {vs1 : jB} {r : Int} (h0 : gP fu vs1 = some r) : yA Tryz.prog 134 [.agg (jB.enc vs1)] (.int .i64 r) [] := by
 refine cB Tryz.func134 rfl (by decide) rL ?_
 dsimp only [Tryz.f134]
 rw [gP] at h0
 refine xS 16 [1] ?_
 refine iA ?_
 obtain ⟨vr2, hvr2, h0⟩ := bA h0
 refine nA 48 [1, 3] (fun | 2 => some (.int .i64 vr2, []) | _ => none) rfl (fun _ _ => rC (zav hvr2)) ?_
 refine xS 64 [1, 3, 8] ?_
 refine xI h0 rfl (fun h0 hb3 => ?_) (fun h0 hb3 => ?_)
 ·
  refine xS 80 [2] ?_
  refine kA (mA ?_)
  obtain rfl := oI h0
  exact lA [] rG
 refine oA (dA (iA ?_))
 obtain ⟨b4, hb4, h0⟩ := bA h0
 refine mC (fr' := [(17, .bool b4)]) (hp' := [(0, ⟨0, true, true, 3, [[.bool vs1.Some, .str vs1.Last, .bool vs1.Bottom]]⟩)]) [0] 128 [17] (fun _ => none) rfl (fun Kt hK => by
   cases hg5 : (!vs1.Some) with
   | false =>
    replace hb4 := qA hb4 hg5
    have hqb4 := oI hb4
    subst hqb4
    exact rW hg5 hK
   | true =>
    replace hb4 := aB hb4 hg5
    have hqb4 := oI hb4
    subst hqb4
    exact rW hg5 hK) ?_
 refine xI h0 rfl (fun h0 hb6 => ?_) (fun h0 hb6 => ?_)
 ·
  refine xS 136 [2] ?_
  refine kA (mA ?_)
  obtain rfl := oI h0
  exact lA [] rG
 refine oA (dA ?_)
 refine xS 136 [2] ?_
 refine kA ?_
 obtain rfl := oI h0
 exact lA [] rG
theorem zks {fu : Nat} {vx1 : uE} {r : aA} (h0 : cT fu vx1 = some r) : yA Tryz.prog 169 [.agg (uE.enc vx1)] (.agg (aA.enc r)) [] := by
 refine cB Tryz.func169 rfl (by decide) rL ?_
 dsimp only [Tryz.f169]
 rw [cT] at h0
 refine xS 16 [1, 2] ?_
 refine xS 32 [2] ?_
 refine kA ?_
 obtain rfl := oI h0
 exact lA [] rG
end Go.T
end
