/- A text of the proof. -/
import Derived.Test.YtnlggkiekcpahaaGreatCAmZc
set_option linter.unusedSimpArgs false
set_option linter.unusedVariables false
namespace Go.AM
open Go Go.RowKit
section
variable {P : Program} {nt : Nat} {K : Exit → St → Prop} {ops : Array Oper}
theorem zbp {ans : Nat → Option (AV × List oA)} {nx : Nat} {lp : List (Nat × kD)} {lB : List Nat} : ∀ (seg : List Oper) (i j : Nat) (fr fr' : List (Nat × AV)) (hp hp' : List (Nat × oA)) (ses : List SE),
    dI P nt ops ans nx (dE j seg) fr hp = some (fr', hp', ses) → pK P ses → (∀ (k : Nat) (o : Oper), seg[k]? = some o → ops[i + k]? = some o) →
    yD P nt ops lB K ⟨fr', hp', nx + 8 * (j + seg.length), lp⟩ → yD P nt ops (List.range' i seg.length ++ lB) K ⟨fr, hp, nx + 8 * j, lp⟩
  | [], i, j, fr, fr', hp, hp', ses, hr, _, _, h => by
    simp only [dE, dI, Option.some.injEq, Prod.mk.injEq] at hr
    obtain ⟨rfl, rfl, -⟩ := hr
    simpa using h
  | o :: seg, i, j, fr, fr', hp, hp', ses, hr, hob, hops, h => by
    simp only [dE, dI] at hr
    split at hr
    · rename_i se hse
      split at hr
      · rename_i a b c hr2
        simp only [Option.some.injEq, Prod.mk.injEq] at hr
        obtain ⟨rfl, rfl, rfl⟩ := hr
        have h2 := zbp (lp := lp) (lB := lB) seg (i + 1) (j + 1) _ a _ b c hr2 hob.2 (fun k o hk => by have := hops (k + 1) o (by simpa using hk); rwa [show i + 1 + k = i + (k + 1) by omega]) (by rw [show j + 1 + seg.length = j + (o :: seg).length by simp; omega]; exact h)
        have hi : ops[i]? = some o := by have := hops 0 o (by simp); simpa using this
        simp only [List.length_cons, List.range'_succ, List.cons_append]
        refine zjz (s := ⟨fr, hp, nx + 8 * j, lp⟩) hi hse ⟨hob.1, trivial⟩ ?_
        rw [show nx + 8 * j + 8 = nx + 8 * (j + 1) by omega]
        exact h2
      · cases hr
    · cases hr
theorem kC {seg : List Oper} {fr fr' : List (Nat × AV)} {hp hp' : List (Nat × oA)} {nx : Nat} {lp : List (Nat × kD)} (i n nx2 : Nat) (lB : List Nat) (ans : Nat → Option (AV × List oA)) (hseg : (ops.toList.drop i).take n = seg) (hl : seg.length = n) (hnx : nx + 8 * n = nx2)
    (h1 : ∀ Kt : List (Nat × AV) → List (Nat × oA) → Prop, Kt fr' hp' → @WL P nt ops ans (Xa nx) (dE 0 seg) fr hp ⟨[], []⟩ fun fr hp _ => Kt fr hp)
    (h2 : yD P nt ops lB K ⟨fr', hp', nx2, lp⟩) : yD P nt ops (List.range' i n ++ lB) K ⟨fr, hp, nx, lp⟩ := by
  subst hnx
  obtain ⟨fr1, hp1, ses, q1, q2, q3, q4⟩ := WL.run _ _ _ _ (h1 (fun a b => a = fr' ∧ b = hp') ⟨rfl, rfl⟩)
  subst q3; subst q4
  have h3 := zbp (lp := lp) (lB := lB) (K := K) (ops := ops) seg i 0 fr fr1 hp hp1 ses q1 q2 (fun k o hk => by
    rw [← hseg, List.getElem?_take] at hk
    split at hk
    · rw [List.getElem?_drop] at hk
      rwa [Array.getElem?_toList] at hk
    · cases hk) (by rw [hl, Nat.zero_add]; exact h2)
  rw [hl] at h3
  exact h3
theorem dV {id : Nat} {ops : Array Oper} {s : St} (n : Nat) (hn : ops.size = n) (h : yD P nt ops (List.range' 0 n ++ []) K s) : pA P nt (.region id ops false) K s := by
  refine zhj ?_
  rw [List.range_eq_range', hn]; simpa using h
theorem uG {id : Nat} {ops : Array Oper} {y : Code} {s : St} (n : Nat) (hn : ops.size = n) (h : yD P nt ops (List.range' 0 n ++ []) (bM (pA P nt y K) K) s) : pA P nt (.seq (.region id ops false) y) K s := kA (dV n hn h)
theorem gC {s : St} {l l' : List Nat} (e : l = l') (h : yD P nt ops l' K s) : yD P nt ops l K s := e ▸ h
theorem sI {s : St} {i : Nat} {o : Oper} {lB : List Nat} {f : Operand} {args : List Operand} {fid : FuncId} {first cap avs : List AV} {fn : Func} {c : Code} (hi : ops[i]? = some o) (hc : oK o.op = some (f, args)) (hg : uL nt ops o (mB s.fr) = true) (hd : aG nt o = true)
    (hfv : vB (mB s.fr) f = .fn fid first cap) (hf : P.funcs[fid]? = some fn) (hb : fn.body = some c) (hn : fn.name ≠ "runtime.NumGoroutine") (ha : first ++ args.map (vB (mB s.fr)) ++ cap = avs) (hl : avs.length ≤ fn.ntmps)
    (h : pA P fn.ntmps c (yM P fn.results.toList (s.lp.map (·.1)) fun r s' => yD P nt ops lB K ⟨pG s.fr o.dst r, s'.hp, s'.nx, s'.lp⟩) ⟨aB 0 avs, s.hp, s.nx, s.lp⟩) : yD P nt ops (i :: lB) K s := by
  refine ziJ hi hc hg hd hfv ?_
  rw [ha]
  exact zai hf hb hn hl h
theorem cE {s : St} {rs : List ResultVar} {G : AV → St → Prop} {N : List Nat} {vs : List AV} (h1 : ∀ Kt : List AV → Prop, Kt vs → xB (qD P s rs) Kt) (h2 : G (mG vs) { s with lp := tD N s.lp }) : yM P rs N G .ret s := by
  obtain ⟨vs', h3, h4⟩ := (h1 (fun x => x = vs) rfl).get
  subst h4
  exact ⟨vs', h3, h2⟩
theorem zO {s : St} {rs : List ResultVar} {G : AV → St → Prop} {N : List Nat} {vs : List AV} (h1 : ∀ Kt : List AV → Prop, Kt vs → xB (qD P s rs) Kt) (h2 : G (mG vs) { s with lp := tD N s.lp }) : yM P rs N G .normal s := by
  obtain ⟨vs', h3, h4⟩ := (h1 (fun x => x = vs) rfl).get
  subst h4
  exact ⟨vs', h3, h2⟩
theorem iI {s s2 : St} {l : List Nat} (N : jD) (hn : s.nx ≤ s2.nx) (hl : LeN N s s2) (h : yD P nt ops l K s2) : yD P nt ops l K s := by
  intro x w0 w F φ a hf Q hQ
  have hsle := (hl.mem hf.mem).2.1
  refine h x w0 w F _ a (hl.fits hf) Q fun e a' w' s' φ' F' h1 h2 h3 => hQ e a' w' s' φ' F' h1 ⟨⟨fun b g y hy => h2.le.1 _ _ _ ?_, fun l k hk => h2.le.2 _ _ ?_⟩, h2.sub, h2.new, h2.ext, h2.opn, h2.lps, h2.mps⟩ h3
  · have hb := hf.mem.heap.used _ _ _ hy
    have := hsle.1 _ _ _ hy
    simp only [iA.cut]; rw [if_pos (by omega)]; exact this
  · have := (hf.mem.lused _ _ hk).1
    simp only [iA.cut]; rw [if_pos (by omega)]; exact hk
variable {s : St}
theorem zaj {g : Operand} {ps : Array Tmp} {assign body c : Code} {fid : FuncId} {first cap : List AV} {fn : Func} (hg : vB (mB s.fr) g = .fn fid first cap) (hf : P.funcs[fid]? = some fn) (hb : fn.body = some c) (hn : fn.name ≠ "runtime.NumGoroutine") (hl : (first ++ [AV.yld s.nx] ++ cap).length ≤ fn.ntmps)
    (h : ∀ RC : kD, RC = ⟨s.fr, nt, ps.toList, assign, body, .ready, none, none⟩ → pA P fn.ntmps c (yM P fn.results.toList (s.nx :: s.lp.map (·.1)) (zax P nt K s)) ⟨aB 0 (first ++ [AV.yld s.nx] ++ cap), s.hp, s.nx + 1, (s.nx, RC) :: s.lp⟩) : pA P nt (.rangeFunc g ps assign body) K s :=
  zgr hg (zai hf hb hn hl (h _ rfl))
theorem tY {i : Nat} {o : Oper} {lB : List Nat} {f : Operand} {args : List Operand} {l nt0 : Nat} {x : kD} {fr0 : List (Nat × AV)} {ps0 : List Nat} {asg bdy : Code} {avs : List AV} (e : x = ⟨fr0, nt0, ps0, asg, bdy, .ready, none, none⟩) (hi : ops[i]? = some o) (hc : oK o.op = some (f, args)) (hg : uL nt ops o (mB s.fr) = true) (hd : aG nt o = true)
    (hfv : vB (mB s.fr) f = .yld l) (hlx : xA s.lp l = some x) (hlen : args.length = ps0.length) (hps : ps0.all (fun p => decide (p < nt0)) = true) (ha : args.map (vB (mB s.fr)) = avs)
    (h : pA P nt0 asg (bM (fun s1 => ∃ y, xA s1.lp l = some y ∧ y.st = .ready ∧
      pA P nt0 bdy (vZ l fun b s2 => yD P nt ops lB K ⟨pG s.fr o.dst (.bool b), s2.hp, s2.nx, s2.lp⟩) { s1 with lp := nF s1.lp l { y with st := .busy, pend := y.pend } }) (fun _ _ => False))
      ⟨wO fr0 ps0 avs, s.hp, s.nx, s.lp⟩) : yD P nt ops (i :: lB) K s := by
  subst e
  subst ha
  exact zlZ hi hc hg hd hfv hlx rfl hlen hps h
theorem jM {c : Operand} {x y : Code} {b : Bool} (hc : vB (mB s.fr) c = .bool b) (hb : b = true) (h : pA P nt x K s) : pA P nt (.cond c x y) K s := zK (hc.trans (by rw [hb])) h
def gW (m : Nat) (x : kD) : Prop := vP x.fr x.fr ∧ kK m x.fr = true
mutual
theorem jZ {m n : Nat} (h : m ≤ n) : ∀ (v : AV), v.under m = true → v.under n = true
  | .ref b g i j, hv => by simp only [AV.under, decide_eq_true_eq] at hv ⊢; omega
  | .sl b g z o l, hv => by simp only [AV.under, decide_eq_true_eq] at hv ⊢; omega
  | .yld l, hv => by simp only [AV.under, decide_eq_true_eq] at hv ⊢; omega
  | .mp l, hv => by simp only [AV.under, decide_eq_true_eq] at hv ⊢; omega
  | .fn f a c, hv => by
    simp only [AV.under, Bool.and_eq_true] at hv ⊢
    exact ⟨xT h a hv.1, xT h c hv.2⟩
  | .iface t x, hv => by simp only [AV.under] at hv ⊢; exact jZ h x hv
  | .agg cs, hv => by simp only [AV.under] at hv ⊢; exact xT h cs hv
  | .tup cs, hv => by simp only [AV.under] at hv ⊢; exact xT h cs hv
  | .top, _ => rfl
  | .anyb, _ => rfl
  | .bool _, _ => rfl
  | .int _ _, _ => rfl
  | .str _, _ => rfl
  | .nilp, _ => rfl
  | .pp _, _ => rfl
  | .psl _ _, _ => rfl
  | .nils, _ => rfl
  | .nilf, _ => rfl
  | .nili, _ => rfl
  | .emp, _ => rfl
theorem xT {m n : Nat} (h : m ≤ n) : ∀ (vs : List AV), AV.under.belows m vs = true → AV.under.belows n vs = true
  | [], _ => rfl
  | a :: as, hv => by
    simp only [AV.under.belows, Bool.and_eq_true] at hv ⊢
    exact ⟨jZ h a hv.1, xT h as hv.2⟩
end
theorem zba {m n : Nat} (h : m ≤ n) : ∀ (l : List (Nat × AV)), kK m l = true → kK n l = true
  | [], _ => rfl
  | (_, v) :: l, hl => by
    simp only [kK, Bool.and_eq_true] at hl ⊢
    exact ⟨jZ h v hl.1, zba h l hl.2⟩
theorem dC.consR {n m l : Nat} {lp' lB : List (Nat × kD)} {x : kD} (h1 : l < n) (h2 : xA lp' l = some x) (ok : gW m x) (hm : m ≤ n) (hr : dC n lp' lB) : dC n lp' ((l, x) :: lB) :=
  ⟨h1, ⟨x, h2, rfl, rfl, rfl, rfl, rfl, rfl, rfl, ok.1, zba hm _ ok.2⟩, hr⟩
theorem zaK {l : Nat} {N : Bool → St → Prop} {RC : kD} {p : Option Code} (e : RC.st = .ready ∧ RC.pend = none) (hy : xA s.lp l = some { RC with st := .busy, pend := p }) (h : N true { s with lp := nF s.lp l RC }) : vZ l N .normal s := by
  refine ⟨_, hy, ?_⟩
  have : ({ RC with st := .ready, pend := none } : kD) = RC := by obtain ⟨e1, e2⟩ := e; cases RC; simp_all
  simp only [this]; exact h
theorem zaA {s2 : St} {v : AV} {RC : kD} (e : RC.st = .ready ∧ RC.pend = none) (hy : xA s2.lp s.nx = some RC) (h : K .normal ⟨s.fr, s2.hp, s2.nx, tD (s.lp.map (·.1)) s2.lp⟩) : zax P nt K s v s2 := by
  refine ⟨RC, hy, by rw [e.1]; rfl, ?_⟩
  rw [e.2]; exact h
theorem awp_r3 {id : Nat} {l : List Oper} {fr fr' : List (Nat × AV)} {hp hp' : List (Nat × oA)} {nx : Nat} {lp : List (Nat × kD)} (N : List Nat) (nx2 : Nat) (L : List Nat) (ans : Nat → Option (AV × List oA)) (hnx : nx + 8 * l.length = nx2)
    (h1 : ∀ Kt : List (Nat × AV) → List (Nat × oA) → Prop, Kt fr' hp' → @WL P nt ⟨l⟩ ans (Xa nx) (dE 0 l) fr hp ⟨[], []⟩ fun fr hp _ => Kt (iE L fr) (tD N hp))
    (h2 : K .normal ⟨fr', hp', nx2, lp⟩) : pA P nt (.region id (List.toArray l) false) K ⟨fr, hp, nx, lp⟩ := by
  subst hnx
  obtain ⟨fr1, hp1, ses, q1, q2, q3, q4⟩ := WL.run _ _ _ _ (h1 (fun a b => a = fr' ∧ b = hp') ⟨rfl, rfl⟩)
  subst q4
  exact zmv (s := ⟨fr, hp, nx, lp⟩) (ops := List.toArray l) L N q1 q2 (by rw [q3]; exact h2)
theorem awp_d3 {id : Nat} {l : List Oper} {fr fr' : List (Nat × AV)} {hp hp' : List (Nat × oA)} {nx : Nat} {lp : List (Nat × kD)} (N : List Nat) (nx2 : Nat) (L : List Nat) (ans : Nat → Option (AV × List oA)) (hnx : nx + 8 * l.length = nx2) (hmix : P.follows .mixedOrders = true) (hback : nJ 0 l = true)
    (h1 : ∀ Kt : List (Nat × AV) → List (Nat × oA) → Prop, Kt fr' hp' → @WL P nt ⟨l⟩ ans (Xa nx) (dE 0 l) fr hp ⟨l, []⟩ fun fr hp acc => @uP acc ∧ Kt (iE L fr) (tD N hp))
    (h2 : K .normal ⟨fr', hp', nx2, lp⟩) : pA P nt (.region id (List.toArray l) true) K ⟨fr, hp, nx, lp⟩ := by
  subst hnx
  obtain ⟨fr1, hp1, ses, q1, q2, q0, q3, q4⟩ := WL.run _ _ _ _ (h1 (fun a b => a = fr' ∧ b = hp') ⟨rfl, rfl⟩)
  subst q4
  exact zld (s := ⟨fr, hp, nx, lp⟩) (ops := List.toArray l) L N q1 q2 hmix hback (by simpa [uP] using q0) (by rw [q3]; exact h2)
theorem nC {id : Nat} {l : List Oper} {y : Code} {fr fr' : List (Nat × AV)} {hp hp' : List (Nat × oA)} {nx : Nat} {lp : List (Nat × kD)} (N : List Nat) (nx2 : Nat) (L : List Nat) (ans : Nat → Option (AV × List oA)) (hnx : nx + 8 * l.length = nx2)
    (h1 : ∀ Kt : List (Nat × AV) → List (Nat × oA) → Prop, Kt fr' hp' → @WL P nt ⟨l⟩ ans (Xa nx) (dE 0 l) fr hp ⟨[], []⟩ fun fr hp _ => Kt (iE L fr) (tD N hp))
    (h2 : pA P nt y K ⟨fr', hp', nx2, lp⟩) : pA P nt (.seq (.region id (List.toArray l) false) y) K ⟨fr, hp, nx, lp⟩ := kA (awp_r3 N nx2 L ans hnx h1 h2)
theorem yR {id : Nat} {l : List Oper} {y : Code} {fr fr' : List (Nat × AV)} {hp hp' : List (Nat × oA)} {nx : Nat} {lp : List (Nat × kD)} (N : List Nat) (nx2 : Nat) (L : List Nat) (ans : Nat → Option (AV × List oA)) (hnx : nx + 8 * l.length = nx2) (hmix : P.follows .mixedOrders = true) (hback : nJ 0 l = true)
    (h1 : ∀ Kt : List (Nat × AV) → List (Nat × oA) → Prop, Kt fr' hp' → @WL P nt ⟨l⟩ ans (Xa nx) (dE 0 l) fr hp ⟨l, []⟩ fun fr hp acc => @uP acc ∧ Kt (iE L fr) (tD N hp))
    (h2 : pA P nt y K ⟨fr', hp', nx2, lp⟩) : pA P nt (.seq (.region id (List.toArray l) true) y) K ⟨fr, hp, nx, lp⟩ := kA (awp_d3 N nx2 L ans hnx hmix hback h1 h2)
end
theorem replI {k : IntKind} {n : Nat} {z : Int} : List.replicate n [AV.int k z] = List.map (gA k) (List.replicate n z) := by simp [gA]
theorem replB {n : Nat} {z : Bool} : List.replicate n [AV.bool z] = List.map cL (List.replicate n z) := by simp [cL]
theorem replS {n : Nat} {z : List UInt8} : List.replicate n [AV.str z] = List.map zJ (List.replicate n z) := by simp [zJ]
theorem zln {α : Type} {f : α → List AV} {n : Nat} {a : α} : (List.map f (List.replicate n a)).take n = List.map f (List.replicate n a) := by
  have := zdl (f := f) (l := List.replicate n a)
  rwa [List.length_replicate] at this
theorem zgk {α : Type} {n : Nat} {a : α} : (List.replicate n a).take n = List.replicate n a := by
  rw [List.take_replicate, Nat.min_self]
attribute [push_cast] zln zgk replI replB replS List.filter_cons
theorem rA {p q : Prop} (h : p) (k : q) : p ∧ q := ⟨h, k⟩
theorem rL {n m : Nat} (h : Nat.ble n m = true := by rfl) : n ≤ m := Nat.le_of_ble_eq_true h
theorem rT {p : Prop} (h : p := by
  simp (maxSteps := 1000000) only [↓reduceIte, reduceCtorEq, Nat.reduceEqDiff, Nat.reduceLT, Nat.reduceLeDiff, Nat.reduceAdd, Nat.reduceMul, Int.reduceToNat, push_cast]
  repeat' (first | assumption | refine And.intro ?_ ?_ | exact Nat.le_refl _ | omega | (intro _) | (simp; done))) : p := h
theorem rC {q p : Prop} (c : q) (h : q → p := by
  intro c
  simp (maxSteps := 1000000) only [↓reduceIte, reduceCtorEq, Nat.reduceEqDiff, Nat.reduceLT, Nat.reduceLeDiff, Nat.reduceAdd, Nat.reduceMul, Int.reduceToNat, push_cast]
  repeat' (first | assumption | refine And.intro ?_ ?_ | exact Nat.le_refl _ | omega | (intro _) | (simp; done))) : p := h c
theorem rS {q p : Prop} (f : q) (h : q → p := by
  intro f
  simp (maxSteps := 1000000) only [↓reduceIte, reduceCtorEq, Nat.reduceEqDiff, Nat.reduceLT, Nat.reduceLeDiff, Nat.reduceAdd, Nat.reduceMul, Int.reduceToNat, push_cast, f]
  repeat' (first | assumption | refine And.intro ?_ ?_ | exact Nat.le_refl _ | omega | (intro _) | (simp; done))) : p := h f
theorem rB {q r p : Prop} (f : q) (c : r) (h : q → r → p := by
  intro f c
  simp (maxSteps := 1000000) only [↓reduceIte, reduceCtorEq, Nat.reduceEqDiff, Nat.reduceLT, Nat.reduceLeDiff, Nat.reduceAdd, Nat.reduceMul, Int.reduceToNat, push_cast, f]
  repeat' (first | assumption | refine And.intro ?_ ?_ | exact Nat.le_refl _ | omega | (intro _) | (simp; done))) : p := h f c
theorem rU {p : Prop} (h : p := by
  repeat' (first | assumption | refine And.intro ?_ ?_ | exact Nat.le_refl _ | omega | (intro _) | (simp; done))) : p := h
theorem jF {p : Prop} (h : p := by
  simp (maxSteps := 1000000) only [↓reduceIte, reduceCtorEq, Nat.reduceEqDiff, Nat.reduceLT, Nat.reduceLeDiff, Nat.reduceAdd, Nat.reduceMul, Int.reduceToNat, push_cast]
  repeat' (first | assumption | (show pI _ _ _ = true; kernel_rfl) | refine And.intro ?_ ?_ | exact Nat.le_refl _ | omega | (intro _) | (simp; done))) : p := h
theorem oM {q p : Prop} (c : q) (h : q → p := by
  intro c
  simp (maxSteps := 1000000) only [↓reduceIte, reduceCtorEq, Nat.reduceEqDiff, Nat.reduceLT, Nat.reduceLeDiff, Nat.reduceAdd, Nat.reduceMul, Int.reduceToNat, push_cast]
  repeat' (first | assumption | (show pI _ _ _ = true; kernel_rfl) | refine And.intro ?_ ?_ | exact Nat.le_refl _ | omega | (intro _) | (simp; done))) : p := h c
theorem xD {q p : Prop} (f : q) (h : q → p := by
  intro f
  simp (maxSteps := 1000000) only [↓reduceIte, reduceCtorEq, Nat.reduceEqDiff, Nat.reduceLT, Nat.reduceLeDiff, Nat.reduceAdd, Nat.reduceMul, Int.reduceToNat, push_cast, f]
  repeat' (first | assumption | (show pI _ _ _ = true; kernel_rfl) | refine And.intro ?_ ?_ | exact Nat.le_refl _ | omega | (intro _) | (simp; done))) : p := h f
theorem oL {q r p : Prop} (f : q) (c : r) (h : q → r → p := by
  intro f c
  simp (maxSteps := 1000000) only [↓reduceIte, reduceCtorEq, Nat.reduceEqDiff, Nat.reduceLT, Nat.reduceLeDiff, Nat.reduceAdd, Nat.reduceMul, Int.reduceToNat, push_cast, f]
  repeat' (first | assumption | (show pI _ _ _ = true; kernel_rfl) | refine And.intro ?_ ?_ | exact Nat.le_refl _ | omega | (intro _) | (simp; done))) : p := h f c
theorem nH {p : Prop} (h : p := by
  repeat' (first | assumption | (show pI _ _ _ = true; kernel_rfl) | refine And.intro ?_ ?_ | exact Nat.le_refl _ | omega | (intro _) | (simp; done))) : p := h
section
variable {P : Program} {nt : Nat} {K : Exit → St → Prop} {fr fr' : List (Nat × AV)} {hp hp' : List (Nat × oA)} {nx : Nat} {lp : List (Nat × kD)}
theorem xR {id : Nat} {l : List Oper} (nx2 : Nat) (L : List Nat) (h2 : K .normal ⟨fr', hp', nx2, lp⟩) (hnx : nx + 8 * l.length = nx2 := by rfl)
    (h1 : ∀ Kt : List (Nat × AV) → List (Nat × oA) → Prop, Kt fr' hp' → @WL P nt ⟨l⟩ (fun _ => none) (Xa nx) (dE 0 l) fr hp ⟨[], []⟩ fun fr hp _ => Kt (iE L fr) hp := by exact fun _ _ => rT) : pA P nt (.region id (List.toArray l) false) K ⟨fr, hp, nx, lp⟩ := uB nx2 L _ hnx h1 h2
theorem xS {id : Nat} {l : List Oper} {y : Code} (nx2 : Nat) (L : List Nat) (h2 : pA P nt y K ⟨fr', hp', nx2, lp⟩) (hnx : nx + 8 * l.length = nx2 := by rfl)
    (h1 : ∀ Kt : List (Nat × AV) → List (Nat × oA) → Prop, Kt fr' hp' → @WL P nt ⟨l⟩ (fun _ => none) (Xa nx) (dE 0 l) fr hp ⟨[], []⟩ fun fr hp _ => Kt (iE L fr) hp := by exact fun _ _ => rT) : pA P nt (.seq (.region id (List.toArray l) false) y) K ⟨fr, hp, nx, lp⟩ := nA nx2 L _ hnx h1 h2
theorem xI {α : Type} {A B : Option α} {r : Option α} {b : Bool} {c : Operand} {x y : Code} {s : St} (h : (if b = true then A else B) = r) (hc : vB (mB s.fr) c = .bool b) (h1 : A = r → b = true → pA P nt x K s) (h2 : B = r → b = false → pA P nt y K s) : pA P nt (.cond c x y) K s :=
  awp_if hc (fun hb => h1 (jB h hb) hb) (fun hb => h2 (wA h hb) hb)
end
end Go.AM
