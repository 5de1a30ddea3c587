/- A text of the proof. -/
import Derived.Test.YtnlggkiekcpahaaGreatAAmZd
set_option linter.unusedSimpArgs false
set_option linter.unusedVariables false
namespace Go.AM
open Go Go.RowKit
def gF (m : List (AV × AV)) : yD:=⟨[],0,[],.skip,.skip,.ready,none,some m⟩
section
variable {κ α : Type} [DecidableEq κ]
def yE : List (κ × α) → κ → Option α
  | [],_=>none
  | (k,v)::l,n=>if n = k then some v else yE l n
def jF : List (κ × α) → κ → α → List (κ × α)
  | [],n,x=>[(n,x)]
  | (k,v)::l,n,x=>if n = k then (n,x)::l else (k,v)::jF l n x
end
def kE {κ α : Type} (ek : κ → AV) (ev : α → AV) : List (κ × α) → List (AV × AV)
  | []=>[]
  | (k,v)::l=>(ek k,ev v)::kE ek ev l
theorem hX {P : Program} {l : Nat} {w : World} {es : Array MapEntry} {c : Nat} (h : w.heap[l]? = some (.map es c)) : (getObj l).run P w = .ok (.map es c) w:=by simp [getObj,Sem.run,h]
theorem zbo {P : Program} {l : Nat} {w : World} {es : Array MapEntry} {c : Nat} (o : Obj) (h : w.heap[l]? = some (.map es c)) : (setObj l o).run P w = .ok () (w.putObj l o):=by simp [setObj,Sem.run,h,World.putObj]
structure bU (P : Program) (kt : TypeId) {κ : Type} [DecidableEq κ] (ek : κ → AV) : Prop where
  isP : ∀ a,(ek a).isP = true
  chk : ∀ (w : World) (F : Nat → Prop) (φ : kA) (a : κ) (v : Value) (b : Bool),fA w F φ (ek a) v → (Instr.checkKey b 10000 kt v).run P w = .ok () w
  cmp : ∃ d,P.underlying kt = some d ∧ ∀ (w : World) (F : Nat → Prop) (φ ψ : kA) (a b : κ) (v u : Value),fA w F φ (ek a) v → fA w F ψ (ek b) u → Instr.sameNow d v u = some (decide (a = b)) ∧ (a = b → Instr.sameBits 10000 u v = true)
theorem zm0 {P : Program} {kt : TypeId} {k : IntKind} (h : P.underlying kt = some (.int k)) : bU P kt (fun n : Int=>.int k n):=by
  refine ⟨fun _=>rfl,fun w F φ a v b hv=>?_,⟨.int k,h,fun w F φ ψ a b v u hv hu=>?_⟩⟩
  · simp only [fA] at hv; subst hv
    have : ∀ m : Nat,(Instr.checkKey b (m + 1) kt (.int k a)).run P w = .ok () w:=fun m=>by simp [Instr.checkKey,run_underlying h]
    exact this 9999
  · simp only [fA] at hv hu; subst hv; subst hu
    refine ⟨?_,fun e=>?_⟩
    · simp only [Instr.sameNow,if_true,Option.some.injEq]; rfl
    · subst e
      have : ∀ m : Nat,Instr.sameBits m (.int k a) (.int k a) = true:=fun m=>by cases m <;> simp [Instr.sameBits]
      exact this _
section
variable {P : Program} {kt : TypeId} {κ α : Type} [DecidableEq κ] {ek : κ → AV} {ev : α → AV} {w : World} {F : Nat → Prop} {φ : kA}
theorem zbU (hk : bU P kt ek) {d : TypeDesc} (hd : P.underlying kt = some d) {n : κ} {kv : Value} (hn : fA w F φ (ek n) kv) : ∀ (l : List (κ × α)) (es : List MapEntry) (i : Nat), nG w F (kE ek ev l) es → yE l n = none →
    Instr.findNow d kv es i = some none ∧ ∀ (y : α) (yv : Value) (c : Nat),fA w F kA.zero (ev y) yv → nG w F (kE ek ev (jF l n y)) (es++[{ key:=kv,val:=yv,born:=c }])
  | [],es,i,hm,_=>by
    simp only [kE,nG] at hm; subst hm
    refine ⟨rfl,fun y yv c hy=>?_⟩
    simp only [jF,kE,nG,List.nil_append]
    exact ⟨_,[],rfl,uQ _ _ (hk.isP n) hn,hy,rfl⟩
  | (a,x)::l,es,i,hm,hg=>by
    simp only [kE,nG] at hm
    obtain ⟨e,es',rfl,h1,h2,h3⟩:=hm
    obtain ⟨d',hd',hc⟩:=hk.cmp
    rw [hd] at hd'; cases hd'
    simp only [yE] at hg
    by_cases e : n = a
    · rw [if_pos e] at hg; cases hg
    · rw [if_neg e] at hg
      obtain ⟨q1,q2⟩:=zbU hk hd hn l es' (i + 1) h3 hg
      have:=(hc w F φ kA.zero n a kv _ hn h1).1
      refine ⟨by simp only [Instr.findNow,this,decide_eq_false e]; exact q1,fun y yv c hy=>?_⟩
      simp only [jF,if_neg e,kE,nG,List.cons_append]
      exact ⟨_,_,rfl,h1,h2,q2 y yv c hy⟩
theorem zaQ (hk : bU P kt ek) {d : TypeDesc} (hd : P.underlying kt = some d) {n : κ} {kv : Value} (hn : fA w F φ (ek n) kv) {x0 : α} : ∀ (l : List (κ × α)) (es : List MapEntry) (i : Nat), nG w F (kE ek ev l) es → yE l n = some x0 →
    ∃ (j : Nat) (v : Value) (e : MapEntry),Instr.findNow d kv es i = some (some (i + j,v)) ∧ fA w F kA.zero (ev x0) v ∧ es[j]? = some e ∧ fA w F kA.zero (ek n) e.key ∧
      ∀ (y : α) (yv : Value),fA w F kA.zero (ev y) yv → nG w F (kE ek ev (jF l n y)) (es.modify j fun e=>{ e with key:=kv,val:=yv })
  | [],es,i,hm,hg=>by simp [yE] at hg
  | (a,x)::l,es,i,hm,hg=>by
    simp only [kE,nG] at hm
    obtain ⟨e0,es',rfl,h1,h2,h3⟩:=hm
    obtain ⟨d',hd',hc⟩:=hk.cmp
    rw [hd] at hd'; cases hd'
    simp only [yE] at hg
    have hsame:=(hc w F φ kA.zero n a kv _ hn h1).1
    by_cases e : n = a
    · rw [if_pos e] at hg; cases hg
      subst e
      refine ⟨0,e0.val,e0,by simp only [Instr.findNow,hsame,decide_true,Nat.add_zero],h2,rfl,h1,fun y yv hy=>?_⟩
      simp only [jF,if_true,kE,nG]
      exact ⟨{ e0 with key:=kv,val:=yv },es',by simp [List.modify],uQ _ _ (hk.isP n) hn,hy,h3⟩
    · rw [if_neg e] at hg
      obtain ⟨j,v,en,q1,q2,q3,q4,q5⟩:=zaQ hk hd hn l es' (i + 1) h3 hg
      refine ⟨j + 1,v,en,?_,q2,by simpa using q3,q4,fun y yv hy=>?_⟩
      · simp only [Instr.findNow,hsame,decide_eq_false e]
        rw [q1,show i + 1 + j = i + (j + 1) by omega]
      · simp only [jF,if_neg e,kE,nG]
        exact ⟨e0,es'.modify j fun e=>{ e with key:=kv,val:=yv },by simp [List.modify],h1,h2,q5 y yv hy⟩
end
section
variable {P : Program} {nt : Nat} {K : Exit → St → Prop} {s : St}
def zdG (K : Exit → St → Prop) : Exit → St → Prop
  | .normal,s=>∃ s2,s.nx ≤ s2.nx ∧ LeN [] s s2 ∧ K .normal s2
  | e,s=>K e s
theorem zmb (h : K .ret s) : zdG K .ret s:=h
theorem zbD {c : Code} (h : wB P nt c (zdG K) s) : wB P nt c K s:=by
  intro cx w0 w F φ a hf
  refine wpIn_mono (h cx w0 w F φ a hf) ?_
  rintro e a' w' ⟨s',φ',F',h1,h2,h3⟩
  cases e with
  | exit id=>exact ⟨s',φ',F',h1,h2,h3⟩
  | goto l=>exact ⟨s',φ',F',h1,h2,h3⟩
  | ret=>exact ⟨s',φ',F',h1,h2,h3⟩
  | panic c=>exact ⟨s',φ',F',h1,h2,h3⟩
  | outgrown=>exact ⟨s',φ',F',h1,h2,h3⟩
  | normal =>
    obtain ⟨s2,hn,hl,hk⟩:=h3
    refine ⟨s2,_,F',hl.fits h1,⟨⟨fun b g x hx=>?_,fun l k hk=>?_⟩,h2.sub,h2.new,h2.ext,h2.opn,h2.lps,h2.mps⟩,hk⟩
    · have hx':=h2.le.1 _ _ _ hx
      have hb:=h1.mem.heap.used _ _ _ hx'
      have:=(hl.mem h1.mem).2.1.1 _ _ _ hx'
      simp only [kA.cut]; rw [if_pos (by omega)]; exact this
    · have hk':=h2.le.2 _ _ hk
      have:=(h1.mem.lused _ _ hk').1
      simp only [kA.cut]; rw [if_pos (by omega)]; exact hk'
end
theorem hC.consM {n l : Nat} {lp' jB : List (Nat × yD)} {m : List (AV × AV)} (h1 : l < n) (h2 : wA lp' l = some (gF m)) (hr : hC n lp' jB) : hC n lp' ((l,gF m)::jB) :=
  ⟨h1,⟨gF m,h2,rfl,rfl,rfl,rfl,rfl,rfl,rfl,trivial,rfl⟩,hr⟩
section
variable {w0 w : World} {F : Nat → Prop} {φ : kA} {s : St}
theorem qD.putMap {k l : Nat} {es es' : Array MapEntry} {c c' : Nat} {x : yD} {m m' : List (AV × AV)} (h : qD w0 w F φ s) (hl : wA s.lp l = some x) (hk : φ.loop l = some k) (hr : w.heap[k]? = some (.map es c)) (h0 : w0.heap.size ≤ k)
    (hm : nG w F m' es'.toList) :
    qD w0 (w.putObj k (.map es' c')) F φ { s with lp:=bG s.lp l { x with mp:=some m' } } ∧ fD w0 w F φ (w.putObj k (.map es' c')) F φ:=by
  have hlt : k < w.heap.size:=(Array.getElem?_eq_some_iff.1 hr).1
  have hx:=Ext0.put (o':=.map es' c') h.heap.fwk hr rfl
  have hg : fD w0 w F φ (w.putObj k (.map es' c')) F φ:=by
    refine ⟨kA.le_refl φ,fun _ h=>h,fun _ h=>.inl h,hx,fun k' ho=>?_,fun k' rec' hk'=>?_,fun k' es1 c1 hk'=>?_⟩
    · unfold zE
      rw [World.putObj_heap_other (fun e=>by subst e; unfold zE at ho; rw [hr] at ho; cases ho)]; exact ho
    · exact ⟨rec',by rw [World.putObj_heap_other fun e=>by subst e; rw [hr] at hk'; cases hk']; exact hk',rfl⟩
    · by_cases e : k' = k
      · subst e; exact ⟨_,_,World.putObj_heap_same hlt⟩
      · exact ⟨es1,c1,by rw [World.putObj_heap_other e]; exact hk'⟩
  refine ⟨⟨h.heap.put hr rfl h0,fun l' y hy=>?_,fun l' k' e=>by rw [World.putObj_size]; exact h.lused l' k' e,h.linj⟩,hg⟩
  change wA (bG s.lp l { x with mp:=some m' }) l' = some y at hy
  rw [eX] at hy
  by_cases e : l' = l
  · subst e
    rw [tT] at hy; cases hy
    exact kW.recd ⟨k,es',c',hk,h0,World.putObj_heap_same hlt,hm.mono hx (fun _ h=>h)⟩ rfl
  · rw [tR _ _ _ _ e] at hy
    refine (h.lps l' y hy).mono hg fun k' o' e1 _ e2=>?_
    rw [World.putObj_heap_other fun e3=>e (h.linj l' l k (by rw [e1,e3]) hk)]; exact e2
theorem qD.allocMap (h : qD w0 w F φ s) :
    qD w0 (w.alloc (.map #[] 0)) F (φ.addLoop s.nx w.heap.size) ⟨s.fr,s.hp,s.nx + 8,(s.nx,gF [])::s.lp⟩ ∧
    fD w0 w F φ (w.alloc (.map #[] 0)) F (φ.addLoop s.nx w.heap.size):=by
  have hx:=nU h.heap.fb (.map #[] 0)
  have old : ∀ (k : Nat) (p : Obj),w.heap[k]? = some p → (w.alloc (.map #[] 0)).heap[k]? = some p:=fun k p hk=>by rw [xN w _ k (Array.getElem?_eq_some_iff.1 hk).1]; exact hk
  have hno : φ.loop s.nx = none:=by
    cases e : φ.loop s.nx with
    | none=>rfl
    | some k=>have:=(h.lused _ _ e).1; omega
  have hle : φ.le (φ.addLoop s.nx w.heap.size):=by
    refine ⟨fun _ _ _ h=>h,fun l k hk=>?_⟩
    simp only [kA.addLoop]
    rw [if_neg (fun e=>by subst e; rw [hno] at hk; cases hk)]; exact hk
  have hg : fD w0 w F φ (w.alloc (.map #[] 0)) F (φ.addLoop s.nx w.heap.size):=⟨hle,fun _ h=>h,fun _ h=>.inl h,hx.toExt0,fun k hk=>old k _ hk,fun k rec hk=>⟨rec,old k _ hk,rfl⟩,fun k es c hk=>⟨es,c,old k _ hk⟩⟩
  have cases' : ∀ l k,(φ.addLoop s.nx w.heap.size).loop l = some k → (l = s.nx ∧ k = w.heap.size) ∨ φ.loop l = some k:=fun l k e=>by
    simp only [kA.addLoop] at e
    split at e
    · rename_i q; cases e; exact .inl ⟨q,rfl⟩
    · exact .inr e
  refine ⟨⟨h.heap.allocO (φ':=φ.addLoop s.nx w.heap.size) rfl hle (fun b hb=>Nat.lt_of_lt_of_le hb (Nat.le_add_right _ _)) _,fun l x hl=>?_,fun l k e=>?_,fun l l' k e1 e2=>?_⟩,hg⟩
  · simp only [wA] at hl
    split at hl
    · rename_i e; subst e; cases hl
      exact kW.recd (m:=[]) ⟨w.heap.size,#[],0,by simp [kA.addLoop],h.heap.below.size,mJ _ _,rfl⟩ rfl
    · exact (h.lps l x hl).mono hg fun k o _ _ e=>old k _ e
  · have:=hx.toExt0.size
    rcases cases' l k e with ⟨rfl,rfl⟩ | q
    · exact ⟨by simp only; omega,by simp⟩
    · have:=h.lused _ _ q; simp only; omega
  · rcases cases' l k e1 with ⟨rfl,rfl⟩ | q
    · rcases cases' l' _ e2 with ⟨rfl,-⟩ | q'
      · rfl
      · have:=(h.lused _ _ q').2; omega
    · rcases cases' l' k e2 with ⟨rfl,rfl⟩ | q'
      · have:=(h.lused _ _ q).2; omega
      · exact h.linj _ _ _ q q'
end
section
variable {P : Program} {nt : Nat} {K : Exit → St → Prop} {s : St} {ops : Array Oper}
theorem znT {i : Nat} {o : Oper} {jB : List Nat} {t : TypeId} (hi : ops[i]? = some o) (hop : o.op = .makeMap t none) (hw : kN nt ops o (qB s.fr) = true) (hd : xG nt o = true)
    (h : lE P nt ops jB K ⟨jH s.fr o.dst (.mp s.nx),s.hp,s.nx + 8,(s.nx,gF [])::s.lp⟩) : lE P nt ops (i::jB) K s:=by
  intro x w0 w F φ a hf Q hQ
  rw [wpOpsIn_cons]
  unfold wpOpIn
  simp only [hi]
  rw [if_pos (oU hf hw)]
  refine ⟨fun _ _=>trivial,?_⟩
  rw [show (aE x.r).round = x.r from rfl,Oper.semAt_eq x.r _ _ (by rw [hop]; intro c; simp)]
  have hrun : (execOp a.eval o).run P w = .ok (.value (.map (some w.heap.size))) (w.alloc (.map #[] 0)):=by
    unfold execOp
    simp only [hop,Instr.makeMap,Option.map_none]
    rfl
  rw [hrun,Oper.uponIn_value]
  obtain ⟨m1,m2⟩:=hf.mem.allocMap
  refine h x w0 _ F _ _ ⟨⟨m1.heap,m1.lps,m1.lused,m1.linj⟩,?_,hf.env.mono m2 (oV _ _ _)⟩ Q fun e a2 w2 s2 φ2 F2 g1 g2 g3=>hQ e a2 w2 s2 φ2 F2 g1 (m2.trans g2) g3
  rw [lP]
  exact (hf.tmps.monoW m2).put (fW hd) (by simp only [fA]; exact ⟨_,by simp [kA.addLoop],rfl⟩)
theorem zmC {i : Nat} {o : Oper} {jB : List Nat} {t kt et : TypeId} {x ix : Operand} {l : Nat} {κ α : Type} [DecidableEq κ] {ek : κ → AV} {ev : α → AV} {m : List (κ × α)} {n : κ} {z : α} (hi : ops[i]? = some o) (hop : o.op = .lookup t x ix false) (hw : kN nt ops o (qB s.fr) = true) (hd : xG nt o = true)
    (hu : P.underlying t = some (.map kt et)) (hk : bU P kt ek) (hz : sI P et = some (ev z)) (hv : ∀ a,(ev a).isP = true) (hx : yB (qB s.fr) x = .mp l) (hn : yB (qB s.fr) ix = ek n) (hl : wA s.lp l = some (gF (kE ek ev m)))
    (h : lE P nt ops jB K ⟨jH s.fr o.dst (ev ((yE m n).getD z)),s.hp,s.nx + 8,s.lp⟩) : lE P nt ops (i::jB) K s:=by
  intro cx w0 w F φ a hf Q hQ
  rw [wpOpsIn_cons]
  unfold wpOpIn
  simp only [hi]
  rw [if_pos (oU hf hw)]
  refine ⟨fun _ _=>trivial,?_⟩
  rw [show (aE cx.r).round = cx.r from rfl,Oper.semAt_eq cx.r _ _ (by rw [hop]; intro c; simp)]
  have e1:=vG hf.tmps x
  rw [hx] at e1
  simp only [fA] at e1
  obtain ⟨k,hk1,e1⟩:=e1
  have e2:=vG hf.tmps ix
  rw [hn] at e2
  obtain ⟨k',es,c,hk2,h0,hr,hm⟩:=(hf.mem.lps l _ hl).2 _ rfl
  rw [hk1] at hk2; cases hk2
  obtain ⟨d,hd1,-⟩:=hk.cmp
  have hc:=hk.chk w F φ n (a.eval ix) es.isEmpty e2
  obtain ⟨r,hrv,hrr⟩ : ∃ r,(execOp a.eval o).run P w = .ok (.value r) w ∧ fA w F φ (ev ((yE m n).getD z)) r:=by
    cases hg : yE m n with
    | none =>
      have hf1:=(zbU hk hd1 e2 m es.toList 0 hm hg).1
      obtain ⟨zv,hz1,hz2⟩:=zeg (P:=P) hz w
      refine ⟨zv,?_,hz2 w F φ⟩
      unfold execOp
      simp only [hop,Instr.lookup,e1,Sem.run_bind,run_underlying hu,Result.andThen_ok,hX hr,Sem.run_pure,hc,Instr.findKey,run_underlying hd1,hf1,hz1]
      rfl
    | some v0 =>
      obtain ⟨j,v,e,q1,q2,-⟩:=zaQ hk hd1 e2 m es.toList 0 hm hg
      refine ⟨v,?_,uQ _ _ (hv v0) q2⟩
      unfold execOp
      simp only [hop,Instr.lookup,e1,Sem.run_bind,run_underlying hu,Result.andThen_ok,hX hr,Sem.run_pure,hc,Instr.findKey,run_underlying hd1,q1]
      rfl
  rw [hrv,Oper.uponIn_value]
  refine h cx w0 _ F _ _ ⟨⟨hf.mem.heap.weakenU fun b hb=>Nat.lt_of_lt_of_le hb (Nat.le_add_right _ _),hf.mem.lps,fun l k e=>⟨Nat.lt_of_lt_of_le (hf.mem.lused l k e).1 (Nat.le_add_right _ _),(hf.mem.lused l k e).2⟩,hf.mem.linj⟩,?_,hf.env.mono (fD.refl w0 w F φ) (oV _ _ _)⟩ Q hQ
  rw [lP]
  exact hf.tmps.put (fW hd) hrr
theorem zfj {i : Nat} {o : Oper} {jB : List Nat} {t kt et : TypeId} {x ix vx : Operand} {l : Nat} {κ α : Type} [DecidableEq κ] {ek : κ → AV} {ev : α → AV} {m : List (κ × α)} {n : κ} {y : α} (hi : ops[i]? = some o) (hop : o.op = .mapUpdate t x ix vx) (hw : kN nt ops o (qB s.fr) = true) (hd : xG nt o = true)
    (hu : P.underlying t = some (.map kt et)) (hk : bU P kt ek) (hv : ∀ a,(ev a).isP = true) (hx : yB (qB s.fr) x = .mp l) (hn : yB (qB s.fr) ix = ek n) (hy : yB (qB s.fr) vx = ev y) (hl : wA s.lp l = some (gF (kE ek ev m)))
    (h : lE P nt ops jB K ⟨jH s.fr o.dst .top,s.hp,s.nx + 8,bG s.lp l (gF (kE ek ev (jF m n y)))⟩) : lE P nt ops (i::jB) K s:=by
  intro cx w0 w F φ a hf Q hQ
  rw [wpOpsIn_cons]
  unfold wpOpIn
  simp only [hi]
  rw [if_pos (oU hf hw)]
  refine ⟨fun _ _=>trivial,?_⟩
  rw [show (aE cx.r).round = cx.r from rfl,Oper.semAt_eq cx.r _ _ (by rw [hop]; intro c; simp)]
  have e1:=vG hf.tmps x
  rw [hx] at e1
  simp only [fA] at e1
  obtain ⟨k,hk1,e1⟩:=e1
  have e2:=vG hf.tmps ix
  rw [hn] at e2
  have e3:=vG hf.tmps vx
  rw [hy] at e3
  have e3':=uQ (ψ:=kA.zero) _ _ (hv y) e3
  obtain ⟨k',es,c,hk2,h0,hr,hm⟩:=(hf.mem.lps l _ hl).2 _ rfl
  rw [hk1] at hk2; cases hk2
  obtain ⟨d,hd1,hcmp⟩:=hk.cmp
  have hc:=hk.chk w F φ n (a.eval ix) false e2
  obtain ⟨es',c',hrv,hrr⟩ : ∃ es' c',(execOp a.eval o).run P w = .ok .skip (w.putObj k (.map es' c')) ∧ nG w F (kE ek ev (jF m n y)) es'.toList:=by
    cases hg : yE m n with
    | none =>
      obtain ⟨hf1,hf2⟩:=zbU hk hd1 e2 m es.toList 0 hm hg
      refine ⟨es.push { key:=a.eval ix,val:=a.eval vx,born:=c },c + 1,?_,by rw [Array.toList_push]; exact hf2 y _ c e3'⟩
      unfold execOp
      simp only [hop,Instr.mapUpdate,e1,Sem.run_bind,run_underlying hu,Result.andThen_ok,hX hr,hc,Instr.findKey,run_underlying hd1,hf1,Sem.run_pure,zbo _ hr]
    | some v0 =>
      obtain ⟨j,v,e,q1,q2,q3,q4,q5⟩:=zaQ hk hd1 e2 m es.toList 0 hm hg
      have hb:=(hcmp w F φ kA.zero n n (a.eval ix) e.key e2 q4).2 rfl
      refine ⟨es.modify j fun e=>{ e with key:=a.eval ix,val:=a.eval vx },c,?_,by rw [Array.toList_modify]; exact q5 y _ e3'⟩
      have q3' : es[j]? = some e:=by rw [← Array.getElem?_toList]; exact q3
      unfold execOp
      simp only [hop,Instr.mapUpdate,e1,Sem.run_bind,run_underlying hu,Result.andThen_ok,hX hr,hc,Instr.findKey,run_underlying hd1,q1,Sem.run_pure,Nat.zero_add,q3',Option.map_some,Option.getD_some,Instr.keyThatStays,hb,if_true,zbo _ hr]
  rw [hrv,Oper.uponIn_skip]
  obtain ⟨m1,m2⟩:=hf.mem.putMap hl hk1 hr h0 hrr (c':=c') (m:=kE ek ev m)
  refine h cx w0 _ F _ _ ⟨⟨m1.heap.weakenU fun b hb=>Nat.lt_of_lt_of_le hb (Nat.le_add_right _ _),m1.lps,fun l k e=>⟨Nat.lt_of_lt_of_le (m1.lused l k e).1 (Nat.le_add_right _ _),(m1.lused l k e).2⟩,m1.linj⟩,?_,hf.env.mono m2 (oV _ _ _)⟩ Q fun e a2 w2 s2 φ2 F2 g1 g2 g3=>hQ e a2 w2 s2 φ2 F2 g1 (m2.trans g2) g3
  rw [lP]
  exact (hf.tmps.monoW m2).put (fW hd) (by simp [fA])
end
end Go.AM
