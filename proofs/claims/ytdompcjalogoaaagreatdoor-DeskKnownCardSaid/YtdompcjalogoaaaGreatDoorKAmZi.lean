/- A text of the proof. -/
import Derived.Test.YtdompcjalogoaaaGreatDoorKAmZc
section
set_option linter.unusedSimpArgs false
set_option linter.unusedVariables false
namespace Go.AM
open Go Go.RowKit
def mpRec (m : List (AV × AV)) : LBlk := ⟨[], 0, [], .skip, .skip, .ready, none, some (.map m)⟩
section
variable {κ α : Type} [DecidableEq κ]
end
theorem run_getObj_mp {P : Program} {l : Nat} {w : World} {es : Array MapEntry} {c : Nat} (h : w.heap[l]? = some (.map es c)) : (getObj l).run P w = .ok (.map es c) w := by simp [getObj, Sem.run, h]
theorem run_setObj_mp {P : Program} {l : Nat} {w : World} {es : Array MapEntry} {c : Nat} (o : Obj) (h : w.heap[l]? = some (.map es c)) : (setObj l o).run P w = .ok () (w.putObj l o) := by simp [setObj, Sem.run, h, World.putObj]
structure KeyOk [Adr] (P : Program) (kt : TypeId) {κ : Type} [DecidableEq κ] (ek : κ → AV) : Prop where
  isP : ∀ a, (ek a).isP = true
  chk : ∀ (w : World) (F : Nat → Prop) (φ : Emb) (a : κ) (v : Value) (b : Bool), VRel w F φ (ek a) v → (Instr.checkKey b 10000 kt v).run P w = .ok () w
  cmp : ∃ d, P.underlying kt = some d ∧ ∀ (w : World) (F : Nat → Prop) (φ ψ : Emb) (a b : κ) (v u : Value), VRel w F φ (ek a) v → VRel w F ψ (ek b) u → Instr.sameNow d v u = some (decide (a = b)) ∧ (a = b → Instr.sameBits 10000 u v = true)
section
variable {P : Program} {kt : TypeId} {κ α : Type} [DecidableEq κ] {ek : κ → AV} {ev : α → AV} {w : World} {F : Nat → Prop} {φ : Emb}
end
section
variable {P : Program} {nt : Nat} {K : Exit → St → Prop} {s : St}
end
section
variable {w0 w : World} {F : Nat → Prop} {φ : Emb} {s : St}
def noItB (l : Nat) : List (Nat × LBlk) → Bool
  | [] => true
  | p :: lp => match p.2.mp with
    | some (.mit l0 _ _) => if l0 = l then false else noItB l lp
    | _ => noItB l lp
def NoIt (l : Nat) (lp : List (Nat × LBlk)) : Prop := ∀ l' y l0 left cur, alg lp l' = some y → y.mp = some (.mit l0 left cur) → l0 ≠ l
theorem noItB_ok {l : Nat} : ∀ {lp : List (Nat × LBlk)}, noItB l lp = true → NoIt l lp
  | [], _ => fun l' y l0 left cur hy => by simp [alg] at hy
  | (k, x) :: lp, h => fun l' y l0 left cur hy hm => by
    simp only [noItB] at h
    simp only [alg] at hy
    split at hy
    · cases hy
      rw [hm] at h
      simp only at h
      split at h
      · cases h
      · assumption
    · refine noItB_ok ?_ l' y l0 left cur hy hm
      split at h
      · split at h
        · cases h
        · exact h
      · exact h
theorem BornOk.push {es : List MapEntry} {c : Nat} {e : MapEntry} (h : BornOk es c) (he : e.born = c) : BornOk (es ++ [e]) (c + 1) := by
  refine ⟨?_, fun x hx => ?_⟩
  · rw [List.map_append, List.nodup_append]
    refine ⟨h.1, by simp, fun a ha b hb => ?_⟩
    obtain ⟨y, hy, rfl⟩ := List.mem_map.1 ha
    simp only [List.map_cons, List.map_nil, List.mem_singleton] at hb
    have := h.2 y hy
    omega
  · rcases List.mem_append.1 hx with hx | hx
    · have := h.2 x hx; omega
    · simp only [List.mem_singleton] at hx; subst hx; omega
theorem BornOk.map {es es' : List MapEntry} {c : Nat} (h : BornOk es c) (e : es'.map (·.born) = es.map (·.born)) : BornOk es' c := by
  refine ⟨by rw [e]; exact h.1, fun x hx => ?_⟩
  have : x.born ∈ es.map (·.born) := by rw [← e]; exact List.mem_map.2 ⟨x, hx, rfl⟩
  obtain ⟨y, hy, e2⟩ := List.mem_map.1 this
  rw [← e2]; exact h.2 y hy
theorem BornOk.sub {es es' : List MapEntry} {c : Nat} (h : BornOk es c) (hs : es'.Sublist es) : BornOk es' c := ⟨(hs.map _).nodup h.1, fun x hx => h.2 x (hs.subset hx)⟩
theorem BornOk.nil (c : Nat) : BornOk [] c := ⟨by simp, fun x hx => by cases hx⟩
theorem born_modify (f : MapEntry → MapEntry) (hf : ∀ e, (f e).born = e.born) : ∀ (es : List MapEntry) (j : Nat), (es.modify j f).map (·.born) = es.map (·.born)
  | [], j => by simp
  | e :: es, 0 => by simp [List.modify, hf]
  | e :: es, j + 1 => by simp only [List.modify_succ_cons, List.map_cons, born_modify f hf es j]
theorem Mem.putMap [Adr] {k l : Nat} {es es' : Array MapEntry} {c c' : Nat} {x : LBlk} {m m' : List (AV × AV)} (h : Mem w0 w F φ s) (hl : alg s.lp l = some x) (hk : φ.loop l = some k) (hr : w.heap[k]? = some (.map es c)) (h0 : w0.heap.size ≤ k)
    (hm : MRel w F m' es'.toList) (hb : BornOk es'.toList c') (hni : NoIt l s.lp) :
    Mem w0 (w.putObj k (.map es' c')) F φ { s with lp := hset s.lp l { x with mp := some (.map m') } } ∧ GrowW w0 w F φ (w.putObj k (.map es' c')) F φ := by
  have hlt : k < w.heap.size := (Array.getElem?_eq_some_iff.1 hr).1
  have hx := Ext0.put (o' := .map es' c') h.heap.fwk hr rfl
  have hg : GrowW w0 w F φ (w.putObj k (.map es' c')) F φ := by
    refine ⟨Emb.le_refl φ, fun _ h => h, fun _ h => .inl h, hx, fun k' ho => ?_, fun k' rec' hk' => ?_, fun k' o1 hk' ho => ?_⟩
    · unfold Opened
      rw [World.putObj_heap_other (fun e => by subst e; unfold Opened at ho; rw [hr] at ho; cases ho)]; exact ho
    · exact ⟨rec', by rw [World.putObj_heap_other fun e => by subst e; rw [hr] at hk'; cases hk']; exact hk', rfl⟩
    · by_cases e : k' = k
      · subst e; exact ⟨_, World.putObj_heap_same hlt, rfl⟩
      · exact ⟨o1, by rw [World.putObj_heap_other e]; exact hk', ho⟩
  refine ⟨⟨h.heap.put hr rfl h0, fun l' y hy => ?_, fun l' k' e => by rw [World.putObj_size]; exact h.lused l' k' e, h.linj⟩, hg⟩
  change alg (hset s.lp l { x with mp := some (.map m') }) l' = some y at hy
  rw [alg_hset] at hy
  by_cases e : l' = l
  · subst e
    rw [fupd_same] at hy; cases hy
    exact RecM.recd ⟨k, es', c', hk, h0, World.putObj_heap_same hlt, hm.mono hx (fun _ h => h), hb⟩ rfl
  · rw [fupd_other _ _ _ _ e] at hy
    refine (h.lps l' y hy).mono hg fun k' o' e1 _ e2 => ?_
    rw [World.putObj_heap_other fun e3 => ?_]; exact e2
    rcases e1 with e1 | ⟨-, l0, left, cur, e4, e5⟩
    · exact e (h.linj l' l k (by rw [e1, e3]) hk)
    · exact hni l' y l0 left cur hy e4 (h.linj l0 l k (by rw [e5, e3]) hk)
theorem Mem.allocMap [Adr] (h : Mem w0 w F φ s) :
    Mem w0 (w.alloc (.map #[] 0)) F (φ.addLoop s.nx w.heap.size) ⟨s.fr, s.hp, s.nx + 8, (s.nx, mpRec []) :: s.lp⟩ ∧
    GrowW w0 w F φ (w.alloc (.map #[] 0)) F (φ.addLoop s.nx w.heap.size) := by
  have hx := ext_alloc h.heap.fb (.map #[] 0)
  have old : ∀ (k : Nat) (p : Obj), w.heap[k]? = some p → (w.alloc (.map #[] 0)).heap[k]? = some p := fun k p hk => by rw [heap_alloc_old w _ k (Array.getElem?_eq_some_iff.1 hk).1]; exact hk
  have hno : φ.loop s.nx = none := by
    cases e : φ.loop s.nx with
    | none => rfl
    | some k => have := (h.lused _ _ e).1; omega
  have hle : φ.le (φ.addLoop s.nx w.heap.size) := by
    refine ⟨fun _ _ _ h => h, fun l k hk => ?_⟩
    simp only [Emb.addLoop]
    rw [if_neg (fun e => by subst e; rw [hno] at hk; cases hk)]; exact hk
  have hg : GrowW w0 w F φ (w.alloc (.map #[] 0)) F (φ.addLoop s.nx w.heap.size) := ⟨hle, fun _ h => h, fun _ h => .inl h, hx.toExt0, fun k hk => old k _ hk, fun k rec hk => ⟨rec, old k _ hk, rfl⟩, fun k o hk ho => ⟨o, old k _ hk, ho⟩⟩
  have cases' : ∀ l k, (φ.addLoop s.nx w.heap.size).loop l = some k → (l = s.nx ∧ k = w.heap.size) ∨ φ.loop l = some k := fun l k e => by
    simp only [Emb.addLoop] at e
    split at e
    · rename_i q; cases e; exact .inl ⟨q, rfl⟩
    · exact .inr e
  refine ⟨⟨h.heap.allocO (φ' := φ.addLoop s.nx w.heap.size) rfl hle (fun b hb => Nat.lt_of_lt_of_le hb (Nat.le_add_right _ _)) _, fun l x hl => ?_, fun l k e => ?_, fun l l' k e1 e2 => ?_⟩, hg⟩
  · simp only [alg] at hl
    split at hl
    · rename_i e; subst e; cases hl
      exact RecM.recd (m := []) ⟨w.heap.size, #[], 0, by simp [Emb.addLoop], h.heap.below.size, heap_alloc_new _ _, rfl, BornOk.nil _⟩ rfl
    · exact (h.lps l x hl).mono hg fun k o _ _ e => old k _ e
  · have := hx.toExt0.size
    rcases cases' l k e with ⟨rfl, rfl⟩ | q
    · exact ⟨by simp only; omega, by simp⟩
    · have := h.lused _ _ q; simp only; omega
  · rcases cases' l k e1 with ⟨rfl, rfl⟩ | q
    · rcases cases' l' _ e2 with ⟨rfl, -⟩ | q'
      · rfl
      · have := (h.lused _ _ q').2; omega
    · rcases cases' l' k e2 with ⟨rfl, rfl⟩ | q'
      · have := (h.lused _ _ q).2; omega
      · exact h.linj _ _ _ q q'
end
section
variable {P : Program} {nt : Nat} {K : Exit → St → Prop} {s : St} {ops : Array Oper}
theorem awpo_mkmap [Adr] {i : Nat} {o : Oper} {rest : List Nat} {t : TypeId} (hi : ops[i]? = some o) (hop : o.op = .makeMap t none) (hw : wants nt ops o (frGet s.fr) = true) (hd : dstOk nt o = true)
    (h : AWPO P nt ops rest K ⟨frPut s.fr o.dst (.mp s.nx), s.hp, s.nx + 8, (s.nx, mpRec []) :: s.lp⟩) : AWPO P nt ops (i :: rest) K s := by
  intro x w0 w F φ a hf Q hQ
  rw [wpOpsIn_cons]
  unfold wpOpIn
  simp only [hi]
  rw [if_pos (wanted_of hf hw)]
  refine ⟨fun _ _ => trivial, ?_⟩
  rw [show (fen x.r).round = x.r from rfl, Oper.semAt_eq x.r _ _ (by rw [hop]; intro c; simp)]
  have hrun : (execOp a.eval o).run P w = .ok (.value (.map (some w.heap.size))) (w.alloc (.map #[] 0)) := by
    unfold execOp
    simp only [hop, Instr.makeMap, Option.map_none]
    rfl
  rw [hrun, Oper.uponIn_value]
  obtain ⟨m1, m2⟩ := hf.mem.allocMap
  refine h x w0 _ F _ _ ⟨⟨m1.heap, m1.lps, m1.lused, m1.linj⟩, ?_, hf.env.mono m2 (put_defers _ _ _)⟩ Q fun e a2 w2 s2 φ2 F2 g1 g2 g3 => hQ e a2 w2 s2 φ2 F2 g1 (m2.trans g2) g3
  rw [frGet_put]
  exact (hf.tmps.monoW m2).put (ds_lt hd) (by simp only [VRel]; exact ⟨_, by simp [Emb.addLoop], rfl⟩)
end
end Go.AM
end
section
set_option linter.unusedSimpArgs false
set_option linter.unusedVariables false
namespace Go
variable {P : Program} {F : Fence} {n : Nat}
def LeavesC (P : Program) (fn : Func) (tmps : Array Value) (R : Ending → World → Prop) : List Deferred → World → Prop
  | [], w => ∃ v, (results fn tmps).run P w = .ok v w ∧ R (.returned v) w
  | d :: ds, w => (∃ r w', d.target = .collected r ∧ (Instr.takeDeferred r).run P w = .ok [] w' ∧ LeavesC P fn tmps R ds w') ∨
      (∃ b ts t ks v w', d.target = .builtin b ts t ks ∧ (invoke d.target d.args).run P w = .ok (.value v) w' ∧ LeavesC P fn tmps R ds w')
theorem LeavesC.mono {fn : Func} {tmps : Array Value} {R R' : Ending → World → Prop} (hR : ∀ e w, R e w → R' e w) : ∀ (ds : List Deferred) (w : World), LeavesC P fn tmps R ds w → LeavesC P fn tmps R' ds w
  | [], w, ⟨v, h1, h2⟩ => ⟨v, h1, hR _ _ h2⟩
  | d :: ds, w, .inl ⟨r, w', h1, h2, h3⟩ => .inl ⟨r, w', h1, h2, LeavesC.mono hR ds w' h3⟩
  | d :: ds, w, .inr ⟨b, ts, t, ks, v, w', h1, h2, h3⟩ => .inr ⟨b, ts, t, ks, v, w', h1, h2, LeavesC.mono hR ds w' h3⟩
end Go
namespace Go.AM
open Go Go.RowKit
section
variable {P : Program} {w0 wE w : World} {FE F : Nat → Prop} {φE φ : Emb} {s : St} {fn : Func} {nt : Nat} {tmps : Array Value}
end
section
variable {P : Program} {fn : Func} {K : AV → St → Prop} {s : St}
end
end Go.AM
end
