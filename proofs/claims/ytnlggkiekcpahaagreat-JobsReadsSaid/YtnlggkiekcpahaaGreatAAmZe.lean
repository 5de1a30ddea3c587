/- A text of the proof. -/
import Derived.Test.YtnlggkiekcpahaaGreatAAmZd
import Derived.ChangeArms
set_option linter.unusedSimpArgs false
set_option linter.unusedVariables false
namespace Go.AM
open Go Go.RowKit
def cK (W : World) (b : Nat) : Prop:=b < W.heap.size ∧ ∀ o,W.heap[b]? = some o → xQ o = false
theorem ziA (W : World) : FOk (cK W) W:=fun _ h=>h
def jV {α : Type} (R : α → List AV → Prop) : List α → List AV → Prop
  | [],cs=>cs = []
  | f::fl,cs=>∃ a b,cs = a++b ∧ R f a ∧ jV R fl b
def oD (P : Program) : Nat → TypeId → List AV → Prop
  | 0,_,_=>False
  | n + 1,t,cs=>match P.underlying t with
    | some .bool=>∃ b,cs = [.bool b]
    | some (.int k)=>∃ i,cs = [.int k i] ∧ (Lit.int k i).wf = true
    | some .string=>∃ s : List UInt8,cs = [.str s] ∧ s.length ≤ maxLen
    | some (.slice e)=>∃ es,cs = [.psl (P.cellsOf e) es] ∧ es.length ≤ maxLen ∧ ∀ x ∈ es,oD P n e x
    | some (.struct fs)=>jV (fun f x=>oD P n f.type x) fs.toList cs
    | some (.array k e)=>jV (fun (_ : Nat) x=>oD P n e x) (List.range k) cs
    | _=>False
def cP (P : Program) : List (Nat × TypeId) → Nat → Nat → Bool
  | [],o,e=>o == e
  | f::fl,o,e=>f.1 == o && cP P fl (o + P.cellsOf f.2) e
def eR (P : Program) : Nat → TypeId → Bool
  | 0,_=>false
  | n + 1,t=>match P.underlying t with
    | some .bool=>true
    | some (.int _)=>true
    | some .string=>true
    | some (.slice e)=>decide (0 < P.cellsOf e) && eR P n e
    | some (.struct fs)=>cP P (fs.toList.map fun f=>(f.offset,f.type)) 0 (P.cellsOf t) && fs.toList.all fun f=>eR P n f.type
    | some (.array k e)=>cP P ((List.range k).map fun i=>(i * P.cellsOf e,e)) 0 (P.cellsOf t) && eR P n e
    | _=>false
theorem uA.len {w : World} {F : Nat → Prop} {φ : kA} : ∀ {as : List AV} {vs : List Value},uA w F φ as vs → as.length = vs.length
  | [],vs,h=>by simp only [uA] at h; subst h; rfl
  | a::as,vs,h=>by
    simp only [uA] at h
    obtain ⟨v,vs',rfl,-,h2⟩:=h
    simp [uA.len h2]
theorem ze7 {w : World} {F : Nat → Prop} {b : Nat} : ∀ {as : List AV} {cs : List Value} {o : Nat}, uA w F kA.zero as cs → (∀ c ∈ cs, c.oneCell' = true) →
    (∀ i c,cs[i]? = some c → w.cell? ⟨b,o + i,none⟩ = some c) → eE w F kA.zero as b o
  | [],cs,o,h,h1,hc=>by simp [eE]
  | a::as,cs,o,h,h1,hc=>by
    simp only [uA] at h
    obtain ⟨v,vs',rfl,h2,h3⟩:=h
    simp only [eE]
    refine ⟨⟨v,by simpa using hc 0 v rfl,h1 v (by simp),h2⟩,ze7 h3 (fun c hc'=>h1 c (by simp [hc'])) fun i c hi=>?_⟩
    have:=hc (i + 1) c (by simpa using hi)
    rwa [show o + (i + 1) = o + 1 + i by omega] at this
theorem zne {w : World} {base : Nat} {a : Addr} {n : Nat} {cs : List Value} (h : w.cells? base a n = some cs) : base ≤ a.block ∧ cs.length = n ∧ ∀ i c,cs[i]? = some c → w.cell? (a.add i) = some c:=by
  unfold World.cells? at h
  split at h
  · rename_i hb
    refine ⟨hb,?_⟩
    have key : ∀ (l : List Nat) (cs : List Value),l.mapM (fun i=>w.cell? (a.add i)) = some cs → cs.length = l.length ∧ ∀ (i : Nat) (c : Value),cs[i]? = some c → ∃ j : Nat,l[i]? = some j ∧ w.cell? (a.add j) = some c:=by
      intro l
      induction l with
      | nil=>intro cs h; simp at h; subst h; simp
      | cons x l ih =>
        intro cs h
        simp only [List.mapM_cons,Option.bind_eq_bind,Option.bind_eq_some_iff,Option.pure_def,Option.some.injEq] at h
        obtain ⟨c,hc,cs',hcs,rfl⟩:=h
        obtain ⟨h1,h2⟩:=ih cs' hcs
        refine ⟨by simp [h1],fun i d hi=>?_⟩
        cases i with
        | zero=>simp at hi; subst hi; exact ⟨x,rfl,hc⟩
        | succ i=>simpa using h2 i d (by simpa using hi)
    obtain ⟨h1,h2⟩:=key _ _ h
    refine ⟨by simpa using h1,fun i c hi=>?_⟩
    obtain ⟨j,hj,hc⟩:=h2 i c hi
    rw [List.getElem?_range (by
      have:=(List.getElem?_eq_some_iff.1 hi).1
      simpa [h1] using this)] at hj
    cases hj
    exact hc
  · cases h
theorem zhW {w : World} {a : Addr} {v : Value} (h : w.cell? a = some v) : a.spot = none ∧ cK w a.block:=by
  unfold World.cell? at h
  split at h
  · rename_i c el fz hb
    refine ⟨?_,(Array.getElem?_eq_some_iff.1 hb).1,fun o ho=>?_⟩
    · cases hs : a.spot with
      | none=>rfl
      | some _=>simp [hs] at h
    · rw [hb] at ho; cases ho; rfl
  · cases h
theorem zbb {α β : Type} {f : α → Option β} : ∀ {l : List α} {r : List β},l.mapM f = some r → ∀ x ∈ l,∃ y,f x = some y
  | [],_,_,x,hx=>by simp at hx
  | a::l,r,h,x,hx=>by
    simp only [List.mapM_cons,Option.bind_eq_bind,Option.bind_eq_some_iff,Option.pure_def,Option.some.injEq] at h
    obtain ⟨c,hc,cs',hcs,rfl⟩:=h
    rcases List.mem_cons.1 hx with rfl | hx
    · exact ⟨c,hc⟩
    · exact zbb hcs x hx
theorem zfa {P : Program} {W : World} {F : Nat → Prop} {R : TypeId → List AV → Prop} {cs : List Value} : ∀ (fl : List Field) (o : Nat), cP P (fl.map fun f => (f.offset, f.type)) o cs.length = true →
    (∀ f ∈ fl,∃ as,R f.type as ∧ uA W F kA.zero as ((cs.drop f.offset).take (P.cellsOf f.type)) ∧ ∀ c ∈ (cs.drop f.offset).take (P.cellsOf f.type),c.oneCell' = true) →
    ∃ as,jV (fun (f : Field) x=>R f.type x) fl as ∧ uA W F kA.zero as (cs.drop o) ∧ ∀ c ∈ cs.drop o,c.oneCell' = true
  | [],o,hr,h=>by
    simp only [cP,List.map_nil,beq_iff_eq] at hr
    subst hr
    exact ⟨[],rfl,by simp [uA],by simp⟩
  | f::fl,o,hr,h=>by
    simp only [cP,List.map_cons,Bool.and_eq_true,beq_iff_eq] at hr
    obtain ⟨rfl,hr⟩:=hr
    obtain ⟨as,h1,h2,h3⟩:=zfa fl _ hr fun g hg=>h g (by simp [hg])
    obtain ⟨a,k1,k2,k3⟩:=h f (by simp)
    have e : cs.drop f.offset = (cs.drop f.offset).take (P.cellsOf f.type)++cs.drop (f.offset + P.cellsOf f.type):=by
      rw [← List.drop_drop]; exact (List.take_append_drop _ _).symm
    refine ⟨a++as,⟨a,as,rfl,k1,h1⟩,?_,?_⟩
    · rw [e]; exact k2.append h2
    · rw [e]; intro c hc
      rcases List.mem_append.1 hc with hc | hc
      · exact k3 c hc
      · exact h3 c hc
theorem arrL {P : Program} {W : World} {F : Nat → Prop} {R : TypeId → List AV → Prop} {cs : List Value} : ∀ (e : TypeId) (fl : List Nat) (o : Nat), cP P (fl.map fun i => (i * P.cellsOf e, e)) o cs.length = true →
    (∀ f ∈ fl,∃ as,R e as ∧ uA W F kA.zero as ((cs.drop (f * P.cellsOf e)).take (P.cellsOf e)) ∧ ∀ c ∈ (cs.drop (f * P.cellsOf e)).take (P.cellsOf e),c.oneCell' = true) →
    ∃ as,jV (fun (_ : Nat) x=>R e x) fl as ∧ uA W F kA.zero as (cs.drop o) ∧ ∀ c ∈ cs.drop o,c.oneCell' = true
  | e,[],o,hr,h=>by
    simp only [cP,List.map_nil,beq_iff_eq] at hr
    subst hr
    exact ⟨[],rfl,by simp [uA],by simp⟩
  | e,f::fl,o,hr,h=>by
    simp only [cP,List.map_cons,Bool.and_eq_true,beq_iff_eq] at hr
    obtain ⟨rfl,hr⟩:=hr
    obtain ⟨as,h1,h2,h3⟩:=arrL e fl _ hr fun g hg=>h g (by simp [hg])
    obtain ⟨a,k1,k2,k3⟩:=h f (by simp)
    have eq : cs.drop (f * P.cellsOf e) = (cs.drop (f * P.cellsOf e)).take (P.cellsOf e)++cs.drop ((f * P.cellsOf e) + P.cellsOf e):=by
      rw [← List.drop_drop]; exact (List.take_append_drop _ _).symm
    refine ⟨a++as,⟨a,as,rfl,k1,h1⟩,?_,?_⟩
    · rw [eq]; exact k2.append h2
    · rw [eq]; intro c hc
      rcases List.mem_append.1 hc with hc | hc
      · exact k3 c hc
      · exact h3 c hc
theorem fU {H : Type} {enc : TypeId × Value → H} {P : Program} {W : World} {base : Nat} {sp : Nat → Bool} {held : Bool} : ∀ (n : Nat) (t : TypeId) (cs : List Value) (x : DataW H × List MemPlace) (fuel : Nat), eR P n t = true →
    DataW.trod enc P W base sp held fuel t cs = some x → ∃ as,oD P n t as ∧ uA W (cK W) kA.zero as cs ∧ ∀ c ∈ cs,c.oneCell' = true
  | 0,t,cs,x,fuel,hp,h=>by simp [eR] at hp
  | n + 1,t,cs,x,0,hp,h=>by simp [DataW.trod] at h
  | n + 1,t,cs,x,fuel + 1,hp,h=>by
    unfold eR at hp
    unfold oD
    split at hp
    · rename_i hu
      have : ∃ b,cs = [.bool b]:=by
        unfold DataW.trod at h
        rw [hu] at h
        split at h <;> simp_all
      obtain ⟨b,rfl⟩:=this
      exact ⟨_,⟨b,rfl⟩,by simp [uA,fA],by simp [Value.oneCell']⟩
    · rename_i k hu
      have : ∃ i,cs = [.int k i] ∧ (Lit.int k i).wf = true:=by
        unfold DataW.trod at h
        rw [hu] at h
        split at h <;> simp_all
      obtain ⟨i,rfl,hw⟩:=this
      exact ⟨_,⟨i,rfl,hw⟩,by simp [uA,fA],by simp [Value.oneCell']⟩
    · rename_i hu
      have : ∃ s : ByteArray,cs = [.string s] ∧ s.size ≤ maxLen:=by
        unfold DataW.trod at h
        rw [hu] at h
        split at h <;> simp_all
      obtain ⟨s,rfl,hw⟩:=this
      refine ⟨_,⟨s.data.toList,rfl,by simpa using hw⟩,by simp [uA,fA],by simp [Value.oneCell']⟩
    · rename_i e hu
      simp only [Bool.and_eq_true,decide_eq_true_eq] at hp
      rcases DataW.trod_slice hu h with ⟨rfl,hx⟩ | ⟨a,len,cap,elems,jB,m,_,rfl,hx,hba,hl,hcap,hlen,hel,_⟩
      · exact ⟨_,⟨[],rfl,by simp [maxLen],by simp⟩,by simp [uA,fA],by simp [Value.oneCell']⟩
      · have each : ∀ i, i < len → ∃ as cs', oD P n e as ∧ uA W (cK W) kA.zero as cs' ∧ (∀ c ∈ cs', c.oneCell' = true) ∧ cs'.length = P.cellsOf e ∧
            ∀ (j : Nat) (c : Value),cs'[j]? = some c → W.cell? ((a.add (i * P.cellsOf e)).add j) = some c:=by
          intro i hi
          have h1:=hel i hi
          rw [List.getElem?_eq_getElem (by omega)] at h1
          obtain ⟨cs',k1,k2⟩:=Option.bind_eq_some_iff.1 h1
          obtain ⟨as,j1,j2,j3⟩:=fU n e cs' _ _ hp.2 k2
          obtain ⟨_,l2,l3⟩:=zne k1
          exact ⟨as,cs',j1,j2,j3,l2,l3⟩
        have head : 0 < len → a.spot = none ∧ cK W a.block:=by
          intro h0
          obtain ⟨as,cs',-,-,-,l2,l3⟩:=each 0 h0
          have h2 : 0 < cs'.length:=by omega
          have:=l3 0 cs'[0] (List.getElem?_eq_getElem h2)
          exact zhW (a:=a) (by simpa [Addr.add] using this)
        have build : ∀ m,m ≤ len → ∃ es : List (List AV),es.length = m ∧ (∀ x ∈ es,oD P n e x ∧ x.length = P.cellsOf e) ∧ fC W (cK W) kA.zero es a.block (a.off + (len - m) * P.cellsOf e):=by
          intro m
          induction m with
          | zero=>intro _; exact ⟨[],rfl,by simp,by simp [fC]⟩
          | succ m ih =>
            intro hm
            obtain ⟨es,e1,e2,e3⟩:=ih (by omega)
            obtain ⟨as,cs',j1,j2,j3,l2,l3⟩:=each (len - (m + 1)) (by omega)
            obtain ⟨s1,s2⟩:=head (by omega)
            have hlen' : as.length = P.cellsOf e:=by rw [j2.len,l2]
            refine ⟨as::es,by simp [e1],?_,?_⟩
            · intro x hx
              rcases List.mem_cons.1 hx with rfl | hx
              · exact ⟨j1,hlen'⟩
              · exact e2 x hx
            · simp only [fC]
              refine ⟨ze7 j2 j3 fun i c hi=>?_,?_⟩
              · have:=l3 i c hi
                rw [← this]
                congr 1
                unfold Addr.add
                obtain ⟨ab,ao,as'⟩:=a
                simp only at s1
                subst s1
                by_cases q1 : (len - (m + 1)) * P.cellsOf e = 0 <;> by_cases q2 : i = 0 <;> simp [q1,q2,Nat.add_assoc]
              · rw [hlen',Nat.add_assoc,← Nat.succ_mul,show (len - (m + 1)).succ = len - m by omega]
                exact e3
        obtain ⟨es,e1,e2,e3⟩:=build len (Nat.le_refl _)
        refine ⟨_,⟨es,rfl,by omega,fun x hx=>(e2 x hx).1⟩,?_,by simp [Value.oneCell']⟩
        simp only [uA,fA]
        refine ⟨_,[],rfl,⟨some a,cap,by rw [e1],by omega,fun x hx=>(e2 x hx).2,fun hne=>?_⟩,rfl⟩
        have h0 : 0 < len:=by rw [← e1]; exact List.length_pos_iff.2 hne
        obtain ⟨s1,s2⟩:=head h0
        refine ⟨a.block,a.off,?_,s2,by simpa using e3⟩
        obtain ⟨ab,ao,as'⟩:=a
        simp only at s1
        subst s1
        rfl
    · rename_i fs hu
      simp only [Bool.and_eq_true,List.all_eq_true] at hp
      unfold DataW.trod at h
      rw [hu] at h
      have h' : cs.length = P.cellsOf t ∧ ∃ xs,fs.toList.mapM (fun f=>DataW.trod enc P W base sp held fuel f.type ((cs.drop f.offset).take (P.cellsOf f.type))) = some xs:=by
        split at h <;> simp_all
        obtain ⟨h1,xs,h2,_⟩:=h
        exact ⟨xs,h2⟩
      obtain ⟨h1,xs,h2⟩:=h'
      obtain ⟨as,k1,k2,k3⟩:=zfa (R:=oD P n) (W:=W) (F:=cK W) fs.toList 0 (by rw [h1]; exact hp.1) fun f hf=>by
        obtain ⟨y,hy⟩:=zbb h2 f hf
        exact fU n f.type _ _ _ (hp.2 f hf) hy
      exact ⟨as,k1,by simpa using k2,by simpa using k3⟩
    · rename_i k e hu
      simp only [Bool.and_eq_true] at hp
      unfold DataW.trod at h
      rw [hu] at h
      have h' : cs.length = P.cellsOf t ∧ ∃ xs,(List.range k).mapM (fun i=>DataW.trod enc P W base sp held fuel e ((cs.drop (i * P.cellsOf e)).take (P.cellsOf e))) = some xs:=by
        split at h <;> simp_all
        obtain ⟨h1,xs,h2,_⟩:=h
        exact ⟨xs,h2⟩
      obtain ⟨h1,xs,h2⟩:=h'
      obtain ⟨as,k1,k2,k3⟩:=arrL (R:=oD P n) (W:=W) (F:=cK W) e (List.range k) 0 (by rw [h1]; exact hp.1) fun f hf=>by
        obtain ⟨y,hy⟩:=zbb h2 f hf
        exact fU n e _ _ _ hp.2 hy
      exact ⟨as,k1,by simpa using k2,by simpa using k3⟩
    · cases hp
theorem vS {P : Program} {n : Nat} {t e : TypeId} {x : List AV} (hu : P.underlying t = some (.slice e)) (h : oD P (n + 1) t x) : ∃ es,x = [.psl (P.cellsOf e) es] ∧ es.length ≤ maxLen ∧ ∀ y ∈ es,oD P n e y:=by
  unfold oD at h; rw [hu] at h; exact h
theorem iM {P : Program} {n : Nat} {t : TypeId} {fs : Array Field} {x : List AV} (hu : P.underlying t = some (.struct fs)) (h : oD P (n + 1) t x) : jV (fun (f : Field) x=>oD P n f.type x) fs.toList x:=by
  unfold oD at h; rw [hu] at h; exact h
theorem zc2 {P : Program} {n : Nat} {t : TypeId} {k : IntKind} {x : List AV} (hu : P.underlying t = some (.int k)) (h : oD P (n + 1) t x) : ∃ i,x = [.int k i] ∧ (Lit.int k i).wf = true:=by
  unfold oD at h; rw [hu] at h; exact h
theorem zkp {P : Program} {n : Nat} {t : TypeId} {x : List AV} (hu : P.underlying t = some .bool) (h : oD P (n + 1) t x) : ∃ b,x = [.bool b]:=by
  unfold oD at h; rw [hu] at h; exact h
theorem zie {P : Program} {n : Nat} {t : TypeId} {x : List AV} (hu : P.underlying t = some .string) (h : oD P (n + 1) t x) : ∃ s : List UInt8,x = [.str s] ∧ s.length ≤ maxLen:=by
  unfold oD at h; rw [hu] at h; exact h
theorem kR {α : Type} {f : α → List AV} {W : α → Prop} : ∀ {es : List (List AV)},(∀ x ∈ es,∃ a,x = f a ∧ W a) → ∃ l : List α,es = l.map f ∧ ∀ a ∈ l,W a
  | [],_=>⟨[],rfl,by simp⟩
  | x::es,h=>by
    obtain ⟨a,e,ha⟩:=h x (by simp)
    obtain ⟨l,e',hl⟩:=kR (es:=es) fun y hy=>h y (by simp [hy])
    exact ⟨a::l,by simp [e,e'],fun b hb=>by rcases List.mem_cons.1 hb with rfl | hb; exact ha; exact hl b hb⟩
end Go.AM
