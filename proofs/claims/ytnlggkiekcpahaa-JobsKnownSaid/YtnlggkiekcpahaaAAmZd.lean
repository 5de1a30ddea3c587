/- A text of the proof. -/
import Derived.Test.YtnlggkiekcpahaaAAmZc
set_option linter.unusedSimpArgs false
set_option linter.unusedVariables false
namespace Go.AM
open Go Go.RowKit
section
variable {P : Program} {nt : Nat} {K : Exit → St → Prop} {ops : Array Oper}
theorem awpo_run {ans : Nat → Option (AV × List ABlk)} {nx : Nat} {lp : List (Nat × LBlk)} {rest : List Nat} : ∀ (seg : List Oper) (i j : Nat) (fr fr' : List (Nat × AV)) (hp hp' : List (Nat × ABlk)) (ses : List SE),
    runL P nt ops ans nx (numbered j seg) fr hp = some (fr', hp', ses) → oblsHold P ses → (∀ (k : Nat) (o : Oper), seg[k]? = some o → ops[i + k]? = some o) →
    AWPO P nt ops rest K ⟨fr', hp', nx + 8 * (j + seg.length), lp⟩ → AWPO P nt ops (List.range' i seg.length ++ rest) K ⟨fr, hp, nx + 8 * j, lp⟩
  | [], i, j, fr, fr', hp, hp', ses, hr, _, _, h => by
    simp only [numbered, runL, Option.some.injEq, Prod.mk.injEq] at hr
    obtain ⟨rfl, rfl, -⟩ := hr
    simpa using h
  | o :: seg, i, j, fr, fr', hp, hp', ses, hr, hob, hops, h => by
    simp only [numbered, runL] at hr
    split at hr
    · rename_i se hse
      split at hr
      · rename_i a b c hr2
        simp only [Option.some.injEq, Prod.mk.injEq] at hr
        obtain ⟨rfl, rfl, rfl⟩ := hr
        have h2 := awpo_run (lp := lp) (rest := rest) seg (i + 1) (j + 1) _ a _ b c hr2 hob.2 (fun k o hk => by have := hops (k + 1) o (by simpa using hk); rwa [show i + 1 + k = i + (k + 1) by omega]) (by rw [show j + 1 + seg.length = j + (o :: seg).length by simp; omega]; exact h)
        have hi : ops[i]? = some o := by have := hops 0 o (by simp); simpa using this
        simp only [List.length_cons, List.range'_succ, List.cons_append]
        refine awpo_op (s := ⟨fr, hp, nx + 8 * j, lp⟩) hi hse ⟨hob.1, trivial⟩ ?_
        rw [show nx + 8 * j + 8 = nx + 8 * (j + 1) by omega]
        exact h2
      · cases hr
    · cases hr
theorem awpo_seg {seg : List Oper} {fr fr' : List (Nat × AV)} {hp hp' : List (Nat × ABlk)} {nx : Nat} {lp : List (Nat × LBlk)} (i n nx2 : Nat) (rest : List Nat) (ans : Nat → Option (AV × List ABlk)) (hseg : (ops.toList.drop i).take n = seg) (hl : seg.length = n) (hnx : nx + 8 * n = nx2)
    (h1 : ∀ Kt : List (Nat × AV) → List (Nat × ABlk) → Prop, Kt fr' hp' → @WL P nt ops ans (Xa nx) (numbered 0 seg) fr hp ⟨[], []⟩ fun fr hp _ => Kt fr hp)
    (h2 : AWPO P nt ops rest K ⟨fr', hp', nx2, lp⟩) : AWPO P nt ops (List.range' i n ++ rest) K ⟨fr, hp, nx, lp⟩ := by
  subst hnx
  obtain ⟨fr1, hp1, ses, q1, q2, q3, q4⟩ := WL.run _ _ _ _ (h1 (fun a b => a = fr' ∧ b = hp') ⟨rfl, rfl⟩)
  subst q3; subst q4
  have h3 := awpo_run (lp := lp) (rest := rest) (K := K) (ops := ops) seg i 0 fr fr1 hp hp1 ses q1 q2 (fun k o hk => by
    rw [← hseg, List.getElem?_take] at hk
    split at hk
    · rw [List.getElem?_drop] at hk
      rwa [Array.getElem?_toList] at hk
    · cases hk) (by rw [hl, Nat.zero_add]; exact h2)
  rw [hl] at h3
  exact h3
theorem awp_ops2 {id : Nat} {ops : Array Oper} {s : St} (n : Nat) (hn : ops.size = n) (h : AWPO P nt ops (List.range' 0 n ++ []) K s) : AWP P nt (.region id ops false) K s := by
  refine awp_ops ?_
  rw [List.range_eq_range', hn]; simpa using h
theorem awp_sops2 {id : Nat} {ops : Array Oper} {y : Code} {s : St} (n : Nat) (hn : ops.size = n) (h : AWPO P nt ops (List.range' 0 n ++ []) (thenK (AWP P nt y K) K) s) : AWP P nt (.seq (.region id ops false) y) K s := awp_seq (awp_ops2 n hn h)
theorem awpo_cut {s : St} {l l' : List Nat} (e : l = l') (h : AWPO P nt ops l' K s) : AWPO P nt ops l K s := e ▸ h
theorem awpo_in {s : St} {i : Nat} {o : Oper} {rest : List Nat} {f : Operand} {args : List Operand} {fid : FuncId} {first cap avs : List AV} {fn : Func} {c : Code} (hi : ops[i]? = some o) (hc : isCall o.op = some (f, args)) (hg : wants nt ops o (frGet s.fr) = true) (hd : dstOk nt o = true)
    (hfv : evalO (frGet s.fr) f = .fn fid first cap) (hf : P.funcs[fid]? = some fn) (hb : fn.body = some c) (hn : fn.name ≠ "runtime.NumGoroutine") (ha : first ++ args.map (evalO (frGet s.fr)) ++ cap = avs) (hl : avs.length ≤ fn.ntmps)
    (h : AWP P fn.ntmps c (leaveK P fn.results.toList (s.lp.map (·.1)) fun r s' => AWPO P nt ops rest K ⟨frPut s.fr o.dst r, s'.hp, s'.nx, s'.lp⟩) ⟨enumFr 0 avs, s.hp, s.nx, s.lp⟩) : AWPO P nt ops (i :: rest) K s := by
  refine awpo_call hi hc hg hd hfv ?_
  rw [ha]
  exact ewp_of hf hb hn hl h
theorem leave_retK {s : St} {rs : List ResultVar} {G : AV → St → Prop} {N : List Nat} {vs : List AV} (h1 : ∀ Kt : List AV → Prop, Kt vs → Holds (resS P s rs) Kt) (h2 : G (resV vs) { s with lp := keepHp N s.lp }) : leaveK P rs N G .ret s := by
  obtain ⟨vs', h3, h4⟩ := (h1 (fun x => x = vs) rfl).get
  subst h4
  exact ⟨vs', h3, h2⟩
theorem leave_endK {s : St} {rs : List ResultVar} {G : AV → St → Prop} {N : List Nat} {vs : List AV} (h1 : ∀ Kt : List AV → Prop, Kt vs → Holds (resS P s rs) Kt) (h2 : G (resV vs) { s with lp := keepHp N s.lp }) : leaveK P rs N G .normal s := by
  obtain ⟨vs', h3, h4⟩ := (h1 (fun x => x = vs) rfl).get
  subst h4
  exact ⟨vs', h3, h2⟩
theorem awpo_re {s s2 : St} {l : List Nat} (N : NilB) (hn : s.nx ≤ s2.nx) (hl : LeN N s s2) (h : AWPO P nt ops l K s2) : AWPO P nt ops l K s := by
  intro x w0 w F φ a hf Q hQ
  have hsle := (hl.mem hf.mem).2.1
  refine h x w0 w F _ a (hl.fits hf) Q fun e a' w' s' φ' F' h1 h2 h3 => hQ e a' w' s' φ' F' h1 ⟨⟨fun b g y hy => h2.le.1 _ _ _ ?_, fun l k hk => h2.le.2 _ _ ?_⟩, h2.sub, h2.new, h2.ext, h2.opn, h2.lps, h2.mps⟩ h3
  · have hb := hf.mem.heap.used _ _ _ hy
    have := hsle.1 _ _ _ hy
    simp only [Emb.cut]; rw [if_pos (by omega)]; exact this
  · have := (hf.mem.lused _ _ hk).1
    simp only [Emb.cut]; rw [if_pos (by omega)]; exact hk
variable {s : St}
theorem awp_rangeV {g : Operand} {ps : Array Tmp} {assign body c : Code} {fid : FuncId} {first cap : List AV} {fn : Func} (hg : evalO (frGet s.fr) g = .fn fid first cap) (hf : P.funcs[fid]? = some fn) (hb : fn.body = some c) (hn : fn.name ≠ "runtime.NumGoroutine") (hl : (first ++ [AV.yld s.nx] ++ cap).length ≤ fn.ntmps)
    (h : ∀ RC : LBlk, RC = ⟨s.fr, nt, ps.toList, assign, body, .ready, none, none⟩ → AWP P fn.ntmps c (leaveK P fn.results.toList (s.nx :: s.lp.map (·.1)) (behindK P nt K s)) ⟨enumFr 0 (first ++ [AV.yld s.nx] ++ cap), s.hp, s.nx + 1, (s.nx, RC) :: s.lp⟩) : AWP P nt (.rangeFunc g ps assign body) K s :=
  awp_rangeFunc hg (ewp_of hf hb hn hl (h _ rfl))
theorem awpo_yieldV {i : Nat} {o : Oper} {rest : List Nat} {f : Operand} {args : List Operand} {l nt0 : Nat} {x : LBlk} {fr0 : List (Nat × AV)} {ps0 : List Nat} {asg bdy : Code} {avs : List AV} (e : x = ⟨fr0, nt0, ps0, asg, bdy, .ready, none, none⟩) (hi : ops[i]? = some o) (hc : isCall o.op = some (f, args)) (hg : wants nt ops o (frGet s.fr) = true) (hd : dstOk nt o = true)
    (hfv : evalO (frGet s.fr) f = .yld l) (hlx : alg s.lp l = some x) (hlen : args.length = ps0.length) (hps : ps0.all (fun p => decide (p < nt0)) = true) (ha : args.map (evalO (frGet s.fr)) = avs)
    (h : AWP P nt0 asg (thenK (fun s1 => ∃ y, alg s1.lp l = some y ∧ y.st = .ready ∧
      AWP P nt0 bdy (roundK l fun b s2 => AWPO P nt ops rest K ⟨frPut s.fr o.dst (.bool b), s2.hp, s2.nx, s2.lp⟩) { s1 with lp := hset s1.lp l { y with st := .busy, pend := y.pend } }) (fun _ _ => False))
      ⟨frPuts fr0 ps0 avs, s.hp, s.nx, s.lp⟩) : AWPO P nt ops (i :: rest) K s := by
  subst e
  subst ha
  exact awpo_yield hi hc hg hd hfv hlx rfl hlen hps h
theorem awp_condKT {c : Operand} {x y : Code} {b : Bool} (hc : evalO (frGet s.fr) c = .bool b) (hb : b = true) (h : AWP P nt x K s) : AWP P nt (.cond c x y) K s := awp_condT (hc.trans (by rw [hb])) h
def RCok (m : Nat) (x : LBlk) : Prop := FrLe x.fr x.fr ∧ frBelow m x.fr = true
mutual
theorem under_mono {m n : Nat} (h : m ≤ n) : ∀ (v : AV), v.under m = true → v.under n = true
  | .ref b g i j, hv => by simp only [AV.under, decide_eq_true_eq] at hv ⊢; omega
  | .sl b g z o l, hv => by simp only [AV.under, decide_eq_true_eq] at hv ⊢; omega
  | .yld l, hv => by simp only [AV.under, decide_eq_true_eq] at hv ⊢; omega
  | .mp l, hv => by simp only [AV.under, decide_eq_true_eq] at hv ⊢; omega
  | .fn f a c, hv => by
    simp only [AV.under, Bool.and_eq_true] at hv ⊢
    exact ⟨belows_mono h a hv.1, belows_mono h c hv.2⟩
  | .iface t x, hv => by simp only [AV.under] at hv ⊢; exact under_mono h x hv
  | .agg cs, hv => by simp only [AV.under] at hv ⊢; exact belows_mono h cs hv
  | .tup cs, hv => by simp only [AV.under] at hv ⊢; exact belows_mono h cs hv
  | .top, _ => rfl
  | .anyb, _ => rfl
  | .bool _, _ => rfl
  | .int _ _, _ => rfl
  | .str _, _ => rfl
  | .nilp, _ => rfl
  | .pp _, _ => rfl
  | .psl _ _, _ => rfl
  | .nils, _ => rfl
  | .nilf, _ => rfl
  | .nili, _ => rfl
  | .emp, _ => rfl
theorem belows_mono {m n : Nat} (h : m ≤ n) : ∀ (vs : List AV), AV.under.belows m vs = true → AV.under.belows n vs = true
  | [], _ => rfl
  | a :: as, hv => by
    simp only [AV.under.belows, Bool.and_eq_true] at hv ⊢
    exact ⟨under_mono h a hv.1, belows_mono h as hv.2⟩
end
theorem frBelow_mono {m n : Nat} (h : m ≤ n) : ∀ (l : List (Nat × AV)), frBelow m l = true → frBelow n l = true
  | [], _ => rfl
  | (_, v) :: l, hl => by
    simp only [frBelow, Bool.and_eq_true] at hl ⊢
    exact ⟨under_mono h v hl.1, frBelow_mono h l hl.2⟩
theorem LpLe.consR {n m l : Nat} {lp' rest : List (Nat × LBlk)} {x : LBlk} (h1 : l < n) (h2 : alg lp' l = some x) (ok : RCok m x) (hm : m ≤ n) (hr : LpLe n lp' rest) : LpLe n lp' ((l, x) :: rest) :=
  ⟨h1, ⟨x, h2, rfl, rfl, rfl, rfl, rfl, rfl, rfl, ok.1, frBelow_mono hm _ ok.2⟩, hr⟩
theorem round_ok {l : Nat} {N : Bool → St → Prop} {RC : LBlk} {p : Option Code} (e : RC.st = .ready ∧ RC.pend = none) (hy : alg s.lp l = some { RC with st := .busy, pend := p }) (h : N true { s with lp := hset s.lp l RC }) : roundK l N .normal s := by
  refine ⟨_, hy, ?_⟩
  have : ({ RC with st := .ready, pend := none } : LBlk) = RC := by obtain ⟨e1, e2⟩ := e; cases RC; simp_all
  simp only [this]; exact h
theorem behind_ok {s2 : St} {v : AV} {RC : LBlk} (e : RC.st = .ready ∧ RC.pend = none) (hy : alg s2.lp s.nx = some RC) (h : K .normal ⟨s.fr, s2.hp, s2.nx, keepHp (s.lp.map (·.1)) s2.lp⟩) : behindK P nt K s v s2 := by
  refine ⟨RC, hy, by rw [e.1]; rfl, ?_⟩
  rw [e.2]; exact h
theorem awp_r3 {id : Nat} {l : List Oper} {fr fr' : List (Nat × AV)} {hp hp' : List (Nat × ABlk)} {nx : Nat} {lp : List (Nat × LBlk)} (N : List Nat) (nx2 : Nat) (L : List Nat) (ans : Nat → Option (AV × List ABlk)) (hnx : nx + 8 * l.length = nx2)
    (h1 : ∀ Kt : List (Nat × AV) → List (Nat × ABlk) → Prop, Kt fr' hp' → @WL P nt ⟨l⟩ ans (Xa nx) (numbered 0 l) fr hp ⟨[], []⟩ fun fr hp _ => Kt (keepFr L fr) (keepHp N hp))
    (h2 : K .normal ⟨fr', hp', nx2, lp⟩) : AWP P nt (.region id (List.toArray l) false) K ⟨fr, hp, nx, lp⟩ := by
  subst hnx
  obtain ⟨fr1, hp1, ses, q1, q2, q3, q4⟩ := WL.run _ _ _ _ (h1 (fun a b => a = fr' ∧ b = hp') ⟨rfl, rfl⟩)
  subst q4
  exact awp_region (s := ⟨fr, hp, nx, lp⟩) (ops := List.toArray l) L N q1 q2 (by rw [q3]; exact h2)
theorem awp_d3 {id : Nat} {l : List Oper} {fr fr' : List (Nat × AV)} {hp hp' : List (Nat × ABlk)} {nx : Nat} {lp : List (Nat × LBlk)} (N : List Nat) (nx2 : Nat) (L : List Nat) (ans : Nat → Option (AV × List ABlk)) (hnx : nx + 8 * l.length = nx2) (hmix : P.follows .mixedOrders = true) (hback : backs 0 l = true)
    (h1 : ∀ Kt : List (Nat × AV) → List (Nat × ABlk) → Prop, Kt fr' hp' → @WL P nt ⟨l⟩ ans (Xa nx) (numbered 0 l) fr hp ⟨l, []⟩ fun fr hp acc => @Pairs acc ∧ Kt (keepFr L fr) (keepHp N hp))
    (h2 : K .normal ⟨fr', hp', nx2, lp⟩) : AWP P nt (.region id (List.toArray l) true) K ⟨fr, hp, nx, lp⟩ := by
  subst hnx
  obtain ⟨fr1, hp1, ses, q1, q2, q0, q3, q4⟩ := WL.run _ _ _ _ (h1 (fun a b => a = fr' ∧ b = hp') ⟨rfl, rfl⟩)
  subst q4
  exact awp_region_draw (s := ⟨fr, hp, nx, lp⟩) (ops := List.toArray l) L N q1 q2 hmix hback (by simpa [Pairs] using q0) (by rw [q3]; exact h2)
theorem awp_sr3 {id : Nat} {l : List Oper} {y : Code} {fr fr' : List (Nat × AV)} {hp hp' : List (Nat × ABlk)} {nx : Nat} {lp : List (Nat × LBlk)} (N : List Nat) (nx2 : Nat) (L : List Nat) (ans : Nat → Option (AV × List ABlk)) (hnx : nx + 8 * l.length = nx2)
    (h1 : ∀ Kt : List (Nat × AV) → List (Nat × ABlk) → Prop, Kt fr' hp' → @WL P nt ⟨l⟩ ans (Xa nx) (numbered 0 l) fr hp ⟨[], []⟩ fun fr hp _ => Kt (keepFr L fr) (keepHp N hp))
    (h2 : AWP P nt y K ⟨fr', hp', nx2, lp⟩) : AWP P nt (.seq (.region id (List.toArray l) false) y) K ⟨fr, hp, nx, lp⟩ := awp_seq (awp_r3 N nx2 L ans hnx h1 h2)
theorem awp_sd3 {id : Nat} {l : List Oper} {y : Code} {fr fr' : List (Nat × AV)} {hp hp' : List (Nat × ABlk)} {nx : Nat} {lp : List (Nat × LBlk)} (N : List Nat) (nx2 : Nat) (L : List Nat) (ans : Nat → Option (AV × List ABlk)) (hnx : nx + 8 * l.length = nx2) (hmix : P.follows .mixedOrders = true) (hback : backs 0 l = true)
    (h1 : ∀ Kt : List (Nat × AV) → List (Nat × ABlk) → Prop, Kt fr' hp' → @WL P nt ⟨l⟩ ans (Xa nx) (numbered 0 l) fr hp ⟨l, []⟩ fun fr hp acc => @Pairs acc ∧ Kt (keepFr L fr) (keepHp N hp))
    (h2 : AWP P nt y K ⟨fr', hp', nx2, lp⟩) : AWP P nt (.seq (.region id (List.toArray l) true) y) K ⟨fr, hp, nx, lp⟩ := awp_seq (awp_d3 N nx2 L ans hnx hmix hback h1 h2)
end
theorem replI {k : IntKind} {n : Nat} {z : Int} : List.replicate n [AV.int k z] = List.map (encInt k) (List.replicate n z) := by simp [encInt]
theorem replB {n : Nat} {z : Bool} : List.replicate n [AV.bool z] = List.map encBool (List.replicate n z) := by simp [encBool]
theorem replS {n : Nat} {z : List UInt8} : List.replicate n [AV.str z] = List.map encStr (List.replicate n z) := by simp [encStr]
theorem takeRepl {α : Type} {f : α → List AV} {n : Nat} {a : α} : (List.map f (List.replicate n a)).take n = List.map f (List.replicate n a) := by
  have := take_allM (f := f) (l := List.replicate n a)
  rwa [List.length_replicate] at this
theorem takeRepl2 {α : Type} {n : Nat} {a : α} : (List.replicate n a).take n = List.replicate n a := by
  rw [List.take_replicate, Nat.min_self]
attribute [push_cast] takeRepl takeRepl2 replI replB replS List.filter_cons
theorem rA {p q : Prop} (h : p) (k : q) : p ∧ q := ⟨h, k⟩
theorem rT {p : Prop} (h : p := by
  simp (maxSteps := 1000000) only [↓reduceIte, reduceCtorEq, Nat.reduceEqDiff, Nat.reduceLT, Nat.reduceLeDiff, Nat.reduceAdd, Nat.reduceMul, Int.reduceToNat, push_cast]
  repeat' (first | assumption | refine And.intro ?_ ?_ | exact Nat.le_refl _ | omega | (intro _) | (simp; done))) : p := h
theorem rC {q p : Prop} (c : q) (h : q → p := by
  intro c
  simp (maxSteps := 1000000) only [↓reduceIte, reduceCtorEq, Nat.reduceEqDiff, Nat.reduceLT, Nat.reduceLeDiff, Nat.reduceAdd, Nat.reduceMul, Int.reduceToNat, push_cast]
  repeat' (first | assumption | refine And.intro ?_ ?_ | exact Nat.le_refl _ | omega | (intro _) | (simp; done))) : p := h c
theorem rS {q p : Prop} (f : q) (h : q → p := by
  intro f
  simp (maxSteps := 1000000) only [↓reduceIte, reduceCtorEq, Nat.reduceEqDiff, Nat.reduceLT, Nat.reduceLeDiff, Nat.reduceAdd, Nat.reduceMul, Int.reduceToNat, push_cast, f]
  repeat' (first | assumption | refine And.intro ?_ ?_ | exact Nat.le_refl _ | omega | (intro _) | (simp; done))) : p := h f
theorem rB {q r p : Prop} (f : q) (c : r) (h : q → r → p := by
  intro f c
  simp (maxSteps := 1000000) only [↓reduceIte, reduceCtorEq, Nat.reduceEqDiff, Nat.reduceLT, Nat.reduceLeDiff, Nat.reduceAdd, Nat.reduceMul, Int.reduceToNat, push_cast, f]
  repeat' (first | assumption | refine And.intro ?_ ?_ | exact Nat.le_refl _ | omega | (intro _) | (simp; done))) : p := h f c
theorem rU {p : Prop} (h : p := by
  repeat' (first | assumption | refine And.intro ?_ ?_ | exact Nat.le_refl _ | omega | (intro _) | (simp; done))) : p := h
theorem rTd {p : Prop} (h : p := by
  simp (maxSteps := 1000000) only [↓reduceIte, reduceCtorEq, Nat.reduceEqDiff, Nat.reduceLT, Nat.reduceLeDiff, Nat.reduceAdd, Nat.reduceMul, Int.reduceToNat, push_cast]
  repeat' (first | assumption | (show pairsOk _ _ _ = true; kernel_rfl) | refine And.intro ?_ ?_ | exact Nat.le_refl _ | omega | (intro _) | (simp; done))) : p := h
theorem rCd {q p : Prop} (c : q) (h : q → p := by
  intro c
  simp (maxSteps := 1000000) only [↓reduceIte, reduceCtorEq, Nat.reduceEqDiff, Nat.reduceLT, Nat.reduceLeDiff, Nat.reduceAdd, Nat.reduceMul, Int.reduceToNat, push_cast]
  repeat' (first | assumption | (show pairsOk _ _ _ = true; kernel_rfl) | refine And.intro ?_ ?_ | exact Nat.le_refl _ | omega | (intro _) | (simp; done))) : p := h c
theorem rSd {q p : Prop} (f : q) (h : q → p := by
  intro f
  simp (maxSteps := 1000000) only [↓reduceIte, reduceCtorEq, Nat.reduceEqDiff, Nat.reduceLT, Nat.reduceLeDiff, Nat.reduceAdd, Nat.reduceMul, Int.reduceToNat, push_cast, f]
  repeat' (first | assumption | (show pairsOk _ _ _ = true; kernel_rfl) | refine And.intro ?_ ?_ | exact Nat.le_refl _ | omega | (intro _) | (simp; done))) : p := h f
theorem rBd {q r p : Prop} (f : q) (c : r) (h : q → r → p := by
  intro f c
  simp (maxSteps := 1000000) only [↓reduceIte, reduceCtorEq, Nat.reduceEqDiff, Nat.reduceLT, Nat.reduceLeDiff, Nat.reduceAdd, Nat.reduceMul, Int.reduceToNat, push_cast, f]
  repeat' (first | assumption | (show pairsOk _ _ _ = true; kernel_rfl) | refine And.intro ?_ ?_ | exact Nat.le_refl _ | omega | (intro _) | (simp; done))) : p := h f c
theorem rUd {p : Prop} (h : p := by
  repeat' (first | assumption | (show pairsOk _ _ _ = true; kernel_rfl) | refine And.intro ?_ ?_ | exact Nat.le_refl _ | omega | (intro _) | (simp; done))) : p := h
end Go.AM
