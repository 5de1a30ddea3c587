/- Read returns what the document says, of states that are not long; no other condition. -/
import Derived.Test.YtnlggkiekcpahaaGreatAGt
import Derived.Test.YtnlggkiekcpahaaGreatA1
set_option linter.unusedSimpArgs false
set_option linter.unusedVariables false
section
namespace Go.T
open Go Go.AM
structure lR (l : eB) (i : Nat) (j : bB) : Prop where
  low : j.Work.Shadow.Bottom = true → mR l i = true
  at' : ∃ n,n ≤ iC (tC l i) ∧ j = eL l i j.Work.Shadow.Bottom n
structure zaT (s : cB) : Prop where
  lev : zT s.Levels
  next : 1 ≤ s.NextId ∧ s.NextId ≤ 1000001 ∧ iG 0 (vO s.Levels.Levels) < s.NextId
  len : s.Jobs.length = (uC s.Levels).length
  job : ∀ k (h : k < s.Jobs.length) (h2 : k < (uC s.Levels).length),lR s.Levels (uC s.Levels)[k] s.Jobs[k]
theorem zpH (s : cB) (hs : wG s.Levels) (hj : s.Jobs.length ≤ 1000) (hg : zT s.Levels) (hc : Ev (fun fu => oJ fu s.Levels) (0, 0, 0)) :
    ∃ r,(Ev (fun fu=>aF s (tB (uC s.Levels)) fu 0) r ∧ Ev (fun fu=>tG s (tB (uC s.Levels)) fu 0) r) ∧
      ((r = .inl () ∧ ∀ k,k < s.Jobs.length → ∀ h : k < s.Jobs.length,∃ h2 : k < (uC s.Levels).length,lR s.Levels (uC s.Levels)[k] s.Jobs[k]) ∨
       ∃ k v,k < s.Jobs.length ∧ (v.2 ≠ 0 ∧ ∀ h : k < s.Jobs.length,¬ ∃ h2 : k < (uC s.Levels).length,lR s.Levels (uC s.Levels)[k] s.Jobs[k]) ∧ r = .inr v):=by
  have h14:=hs.1
  obtain ⟨r,r1,r2⟩:=sK (β:=Int × Int) (fun n r=>Ev (fun fu=>aF s (tB (uC s.Levels)) fu (n : Int)) r ∧ Ev (fun fu=>tG s (tB (uC s.Levels)) fu (n : Int)) r) s.Jobs.length
    (fun k=>∀ h : k < s.Jobs.length,∃ h2 : k < (uC s.Levels).length,lR s.Levels (uC s.Levels)[k] s.Jobs[k])
    (fun k v=>v.2 ≠ 0 ∧ ∀ h : k < s.Jobs.length,¬ ∃ h2 : k < (uC s.Levels).length,lR s.Levels (uC s.Levels)[k] s.Jobs[k])
    ⟨Ev.succ (Ev.of (fun fu=>by simp [aF]) (Ev.ret _)),Ev.succ (Ev.of (fun fu=>by simp [tG]) (Ev.ret _))⟩
    (fun k hk=>by
      have d1 : decide ((k : Int) < (s.Jobs.length : Int)) = true:=dT (by omega)
      have ixj:=aB s.Jobs k hk
      generalize hjk : s.Jobs[k] = j at ixj
      have bad : ∀ v : Int × Int,v.2 ≠ 0 → (¬ ∃ h2 : k < (uC s.Levels).length,lR s.Levels (uC s.Levels)[k] j) → (v.2 ≠ 0 ∧ ∀ h : k < s.Jobs.length,¬ ∃ h2 : k < (uC s.Levels).length,lR s.Levels (uC s.Levels)[k] s.Jobs[k]):=fun v hv h=>⟨hv,fun _=>by rw [hjk]; exact h⟩
      by_cases hkd : k < (uC s.Levels).length
      · have d2 : decide (((tB (uC s.Levels)).length : Int) ≤ (k : Int)) = false:=dF (by rw [zF]; omega)
        have ixd:=cF (uC s.Levels) k hkd
        obtain ⟨hi,h2⟩:=zff s.Levels k hkd
        generalize hik : (uC s.Levels)[k] = i at ixd hi h2
        by_cases hl : j.Level = (i : Int)
        · have d3 : (!decide (j.Level = (i : Int))) = false:=by rw [dT hl]; rfl
          obtain ⟨hgr,hsn⟩:=zbp s.Levels hs hg i hi h2
          have lw:=zee
          have rlw:=zkq s.Levels hs hc hg i hi
          have c1 : ∃ b,b = (j.Work.Shadow.Bottom && !mR s.Levels i):=⟨_,rfl⟩
          obtain ⟨cb,hcb⟩:=c1
          have e1 : ∀ fu,(if j.Work.Shadow.Bottom = true then (mL fu s.Levels (i : Int)).bind fun vr56=>some (!vr56) else some false) = some cb:=fun fu=>by
            rw [zee fu s.Levels h14 i,hcb]; cases j.Work.Shadow.Bottom <;> rfl
          have e2 : Ev (fun fu=>if j.Work.Shadow.Bottom = true then (qT fu s.Levels (i : Int)).bind fun vr59=>some (!vr59) else some false) cb:=by
            rw [hcb]
            cases j.Work.Shadow.Bottom with
            | true=>exact Ev.bind rlw (Ev.ret _)
            | false=>exact Ev.ret _
          cases cb with
          | true =>
            refine .inl ⟨((k : Int),6),bad _ (show (6 : Int) ≠ 0 by decide) (fun ⟨_,ok⟩=>?_),Ev.succ ?_,Ev.succ ?_⟩
            · have q:=hcb.symm
              simp only [Bool.and_eq_true,Bool.not_eq_true'] at q
              have:=ok.low q.1
              rw [hik,q.2] at this; cases this
            · simp only [aF,d1,↓reduceIte,ixj,bS,d2,bF,ixd,d3]
              simp only [hl,e1,bS,↓reduceIte]
              exact Ev.ret _
            · simp only [tG,d1,↓reduceIte,ixj,bS,d2,bF,ixd,d3]
              simp only [hl]
              refine Ev.bind e2 ?_
              exact Ev.ret _
          | false =>
            obtain ⟨b1,b2⟩:=zoX s.Levels hs hg i j.Work.Shadow.Bottom hi h2
            obtain ⟨l1,l2⟩:=mW (tC s.Levels i) j.Work.Shadow.Bottom 0 hsn hgr (by omega)
            have h120:=hsn.few hgr
            by_cases hst : 0 ≤ j.Work.Steps ∧ j.Work.Steps ≤ ((iC (tC s.Levels i) : Nat) : Int)
            · obtain ⟨n,hn⟩ : ∃ n : Nat,j.Work.Steps = (n : Int):=⟨j.Work.Steps.toNat,by omega⟩
              have hnt : n ≤ iC (tC s.Levels i):=by omega
              have hu : used (tC s.Levels i) 0 n = n:=Nat.min_eq_left (by omega)
              obtain ⟨t1,t2⟩:=ze2 (tC s.Levels i) j.Work.Shadow.Bottom 0 n hsn hgr (by omega)
              rw [hu,Nat.zero_add] at t1 t2
              have f1 : decide ((n : Int) < 0) = false:=dF (by omega)
              have f2 : decide (((iC (tC s.Levels i) - 0 : Nat) : Int) < (n : Int)) = false:=dF (by omega)
              obtain ⟨x,x1,x2⟩:=zk1 (yC (tC s.Levels i) j.Work.Shadow.Bottom n) j.Work (fZ _ _ _ hsn hgr hnt)
              obtain ⟨y,y1,y2⟩:=zem (yC (tC s.Levels i) j.Work.Shadow.Bottom n) j.Work (fZ _ _ _ hsn hgr hnt)
              obtain rfl : x = y:=Bool.eq_iff_iff.2 (x2.trans y2.symm)
              have p1 : ∀ r,Ev (fun fu=>if (!x) = true then some (.inr ((k : Int),6)) else aF s (tB (uC s.Levels)) fu ((k + 1 : Nat) : Int)) r → Ev (fun fu=>aF s (tB (uC s.Levels)) fu (k : Int)) r:=fun r hr=>by
                refine Ev.succ ?_
                simp only [aF,d1,↓reduceIte,ixj,bS,d2,bF,ixd,d3]
                simp only [hl,e1,bS,bF,↓reduceIte]
                refine Ev.bind b1 (Ev.bind (a:=(((iC (tC s.Levels i) - 0 : Nat) : Int),0)) l1 ?_)
                simp only [hn,f1,f2,bF,↓reduceIte,bS]
                refine Ev.bind (a:=(yC (tC s.Levels i) j.Work.Shadow.Bottom n,(n : Int),0)) t1 (Ev.bind x1 ?_)
                rw [sC k (by omega)]
                exact hr
              have p2 : ∀ r,Ev (fun fu=>if (!x) = true then some (.inr ((k : Int),6)) else tG s (tB (uC s.Levels)) fu ((k + 1 : Nat) : Int)) r → Ev (fun fu=>tG s (tB (uC s.Levels)) fu (k : Int)) r:=fun r hr=>by
                refine Ev.succ ?_
                simp only [tG,d1,↓reduceIte,ixj,bS,d2,bF,ixd,d3]
                simp only [hl]
                refine Ev.bind e2 ?_
                simp only [bF,↓reduceIte]
                refine Ev.bind b2 (Ev.bind (a:=(((iC (tC s.Levels i) - 0 : Nat) : Int),0)) l2 ?_)
                simp only [hn,f1,f2,bF,↓reduceIte,bS]
                refine Ev.bind (a:=(yC (tC s.Levels i) j.Work.Shadow.Bottom n,(n : Int),0)) t2 (Ev.bind y1 ?_)
                rw [sC k (by omega)]
                exact hr
              cases x with
              | true =>
                have hw:=x2.1 rfl
                refine .inr ⟨fun _=>⟨hkd,?_⟩,fun r hr=>⟨p1 r hr.1,p2 r hr.2⟩⟩
                rw [hjk,hik]
                refine ⟨fun hb=>?_,n,hnt,?_⟩
                · have q:=hcb.symm
                  rw [hb] at q
                  simpa using q
                · obtain ⟨jl,jw⟩:=j
                  simp only at hl hw
                  subst hl
                  show bB.mk (i : Int) jw = bB.mk (i : Int) (yC (tC s.Levels i) jw.Shadow.Bottom n)
                  rw [hw]
              | false =>
                refine .inl ⟨((k : Int),6),bad _ (show (6 : Int) ≠ 0 by decide) (fun ⟨_,ok⟩=>?_),p1 _ (Ev.ret _),p2 _ (Ev.ret _)⟩
                obtain ⟨n',hn',e⟩:=ok.at'
                rw [hik] at e
                have e3 : j.Work = yC (tC s.Levels i) j.Work.Shadow.Bottom n':=congrArg bB.Work e
                have e4 : j.Work.Steps = (n' : Int):=congrArg mB.Steps e3
                obtain rfl : n' = n:=by omega
                have:=x2.2 e3.symm
                cases this
            · have f3 : (if decide (j.Work.Steps < 0) = true then some true else some (decide (((iC (tC s.Levels i) - 0 : Nat) : Int) < j.Work.Steps))) = some true := by
                by_cases q : j.Work.Steps < 0
                · simp [q]
                · rw [if_neg (by simpa using q),dT (by omega)]
              refine .inl ⟨((k : Int),6),bad _ (show (6 : Int) ≠ 0 by decide) (fun ⟨_,ok⟩=>?_),Ev.succ ?_,Ev.succ ?_⟩
              · obtain ⟨n',hn',e⟩:=ok.at'
                rw [hik] at e hn'
                have e3 : j.Work = yC (tC s.Levels i) j.Work.Shadow.Bottom n':=congrArg bB.Work e
                have e4 : j.Work.Steps = (n' : Int):=congrArg mB.Steps e3
                omega
              · simp only [aF,d1,↓reduceIte,ixj,bS,d2,bF,ixd,d3]
                simp only [hl,e1,bS,bF,↓reduceIte]
                refine Ev.bind b1 (Ev.bind (a:=(((iC (tC s.Levels i) - 0 : Nat) : Int),0)) l1 ?_)
                simp only [f3,bS,↓reduceIte]
                exact Ev.ret _
              · simp only [tG,d1,↓reduceIte,ixj,bS,d2,bF,ixd,d3]
                simp only [hl]
                refine Ev.bind e2 ?_
                simp only [bF,↓reduceIte]
                refine Ev.bind b2 (Ev.bind (a:=(((iC (tC s.Levels i) - 0 : Nat) : Int),0)) l2 ?_)
                simp only [f3,bS,↓reduceIte]
                exact Ev.ret _
        · have d3 : (!decide (j.Level = (i : Int))) = true:=by rw [dF hl]; rfl
          refine .inl ⟨((k : Int),6),bad _ (show (6 : Int) ≠ 0 by decide) (fun ⟨_,ok⟩=>?_),Ev.succ ?_,Ev.succ ?_⟩
          · obtain ⟨n',-,e⟩:=ok.at'
            rw [hik] at e
            exact hl (congrArg bB.Level e)
          · simp only [aF,d1,↓reduceIte,ixj,bS,d2,bF,ixd,d3]
            exact Ev.ret _
          · simp only [tG,d1,↓reduceIte,ixj,bS,d2,bF,ixd,d3]
            exact Ev.ret _
      · have d2 : decide (((tB (uC s.Levels)).length : Int) ≤ (k : Int)) = true:=dT (by rw [zF]; omega)
        refine .inl ⟨((k : Int),6),bad _ (show (6 : Int) ≠ 0 by decide) (fun ⟨h,_⟩=>hkd h),Ev.succ ?_,Ev.succ ?_⟩
        · simp only [aF,d1,↓reduceIte,ixj,bS,d2]
          exact Ev.ret _
        · simp only [tG,d1,↓reduceIte,ixj,bS,d2]
          exact Ev.ret _)
  refine ⟨r,r1,?_⟩
  rcases r2 with ⟨e,h⟩ | ⟨n,v,h1,h2,h3,-⟩
  · exact .inl ⟨e,h⟩
  · exact .inr ⟨n,v,h1,h2,h3⟩
theorem zey (s : cB) (hs : wG s.Levels) (hj : s.Jobs.length ≤ 1000) : ∃ r, Ev (fun fu => bK fu s) r ∧ Ev (fun fu => fL fu s) r ∧
    ((r = (0,0) ∧ zaT s ∧ Ev (fun fu=>aK fu s.Levels) (0,0,0) ∧ Ev (fun fu=>oJ fu s.Levels) (0,0,0)) ∨ r.2 ≠ 0) ∧
    (zaT s → Ev (fun fu=>aK fu s.Levels) (0,0,0) → r = (0,0)):=by
  obtain ⟨c,c1,c2,c3⟩:=zif s.Levels hs
  unfold bK fL lO
  rcases c3 with ⟨rfl,hg⟩ | hc
  · have g1:=znS s.Levels hs
    have g2:=zgv s.Levels hs c2
    obtain ⟨u1,u2⟩:=zdW s.Levels hs.1
    by_cases n1 : s.NextId < 1 ∨ 1000001 < s.NextId
    · have e : (if decide (s.NextId < 1) = true then some true else some (decide (1000001 < s.NextId))) = some true := by
        rcases n1 with h | h
        · simp [h]
        · by_cases q : s.NextId < 1 <;> simp [q,h]
      refine ⟨(-1,7),Ev.bind c1 ?_,Ev.bind c2 ?_,.inr (by decide),fun hr _=>?_⟩
      · simp only [decide_true,Bool.not_true,bF,↓reduceIte,e,bS]; exact Ev.ret _
      · simp only [decide_true,Bool.not_true,bF,↓reduceIte,e,bS]; exact Ev.ret _
      · have:=hr.next; omega
    · have e : (if decide (s.NextId < 1) = true then some true else some (decide (1000001 < s.NextId))) = some false := by
        rw [dF (show ¬ s.NextId < 1 by omega),dF (show ¬ 1000001 < s.NextId by omega)]; rfl
      by_cases n2 : s.NextId ≤ iG 0 (vO s.Levels.Levels)
      · refine ⟨(-1,6),Ev.bind c1 ?_,Ev.bind c2 ?_,.inr (by decide),fun hr _=>?_⟩
        · simp only [decide_true,Bool.not_true,bF,↓reduceIte,e,bS]
          refine Ev.bind g1 ?_
          simp only [dT n2,↓reduceIte]; exact Ev.ret _
        · simp only [decide_true,Bool.not_true,bF,↓reduceIte,e,bS]
          refine Ev.bind (a:=true) (Ev.bind g2 ?_) ?_
          · simp only [dT n2]; exact Ev.ret _
          · simp only [↓reduceIte]; exact Ev.ret _
        · have:=hr.next; omega
      · obtain ⟨r,⟨r1,r1'⟩,r2⟩:=zpH s hs hj hg c2
        have p1 : ∀ v,Ev (fun fu=>(aF s (tB (uC s.Levels)) fu 0).bind fun x48=>match x48 with | .inl _=>if decide ((s.Jobs.length : Int) < ((tB (uC s.Levels)).length : Int)) = true then some (-1,4) else some (0,0) | .inr y=>some y) v → Ev (fun fu=>(aK fu s.Levels).bind fun vr2=>if (!decide (vr2.2.2 = 0)) = true then some (-1,vr2.2.2) else (if decide (s.NextId < 1) = true then some true else some (decide (1000001 < s.NextId))).bind fun b4=>if b4 = true then some (-1,7) else (fO fu s.Levels).bind fun vr7=>if decide (s.NextId ≤ vr7) = true then some (-1,6) else (some (s.Levels.B,s.Levels.Levels)).bind fun vr9=>(qN fu vr9.1 vr9.2).bind fun vr10=>(aF s vr10 fu 0).bind fun x48=>match x48 with | .inl _=>if decide ((s.Jobs.length : Int) < (vr10.length : Int)) = true then some (-1,4) else some (0,0) | .inr y=>some y) v:=fun v hv=>by
          refine Ev.bind c1 ?_
          simp only [decide_true,Bool.not_true,bF,↓reduceIte,e,bS]
          refine Ev.bind g1 ?_
          simp only [dF n2,bF,↓reduceIte]
          exact Ev.bind u1 hv
        have p2 : ∀ v,Ev (fun fu=>(tG s (tB (uC s.Levels)) fu 0).bind fun x48=>match x48 with | .inl _=>if decide ((s.Jobs.length : Int) < ((tB (uC s.Levels)).length : Int)) = true then some (-1,4) else some (0,0) | .inr y=>some y) v → Ev (fun fu=>fL fu s) v:=fun v hv=>by
          unfold fL
          refine Ev.bind c2 ?_
          simp only [decide_true,Bool.not_true,bF,↓reduceIte,e,bS]
          refine Ev.bind (a:=false) (Ev.bind g2 ?_) ?_
          · simp only [dF n2]; exact Ev.ret _
          · simp only [bF,↓reduceIte]
            exact Ev.bind u2 hv
        unfold fL at p2
        rcases r2 with ⟨rfl,h⟩ | ⟨k,v,hk,⟨hv,hb⟩,rfl⟩
        · by_cases hlen : s.Jobs.length < (uC s.Levels).length
          · have d : decide ((s.Jobs.length : Int) < ((tB (uC s.Levels)).length : Int)) = true:=dT (by rw [zF]; omega)
            refine ⟨(-1,4),p1 _ (Ev.bind r1 ?_),p2 _ (Ev.bind r1' ?_),.inr (by decide),fun hr _=>?_⟩
            · simp only [d,↓reduceIte]; exact Ev.ret _
            · simp only [d,↓reduceIte]; exact Ev.ret _
            · have:=hr.len; omega
          · have d : decide ((s.Jobs.length : Int) < ((tB (uC s.Levels)).length : Int)) = false:=dF (by rw [zF]; omega)
            have hl2 : s.Jobs.length = (uC s.Levels).length:=by
              by_cases q : s.Jobs.length = 0
              · omega
              · obtain ⟨h2,-⟩:=h (s.Jobs.length - 1) (by omega) (by omega)
                omega
            refine ⟨(0,0),p1 _ (Ev.bind r1 ?_),p2 _ (Ev.bind r1' ?_),.inl ⟨rfl,⟨hg,⟨by omega,by omega,by omega⟩,hl2,fun k h1 h2=>(h k h1 h1).2⟩,c1,c2⟩,fun _ _=>rfl⟩
            · simp only [d,bF,↓reduceIte]; exact Ev.ret _
            · simp only [d,bF,↓reduceIte]; exact Ev.ret _
        · refine ⟨v,p1 _ (Ev.bind r1 (Ev.ret _)),p2 _ (Ev.bind r1' (Ev.ret _)),.inr hv,fun hr _=>?_⟩
          exact absurd ⟨by have:=hr.len; omega,hr.job k hk (by have:=hr.len; omega)⟩ (hb hk)
  · refine ⟨(-1,c.2.2),Ev.bind c1 ?_,Ev.bind c2 ?_,.inr hc,fun _ hl=>?_⟩
    · simp only [dF hc,Bool.not_false,↓reduceIte]; exact Ev.ret _
    · simp only [dF hc,bF,↓reduceIte,bS,Bool.not_false]; exact Ev.ret _
    · have:=Ev.uniq c1 hl; rw [this] at hc; exact absurd rfl hc
structure kG (s : cB) (level : Int) (k i : Nat) (b : Bool) (n : Nat) : Prop where
  due : (uC s.Levels)[k]? = some i
  lev : level = (i : Int)
  le : n ≤ iC (tC s.Levels i)
  job : s.Jobs[k]? = some (eL s.Levels i b n)
  low : b = true → mR s.Levels i = true
structure pG (s : cB) : Prop where
  small : wG s.Levels
  few : s.Jobs.length ≤ 1000
  right : zaT s
  lc : Ev (fun fu=>aK fu s.Levels) (0,0,0)
  rlc : Ev (fun fu=>oJ fu s.Levels) (0,0,0)
theorem pG.check {s : cB} (h : pG s) : Ev (fun fu=>bK fu s) (0,0) ∧ Ev (fun fu=>fL fu s) (0,0):=by
  obtain ⟨r,r1,r2,-,r4⟩:=zey s h.small h.few
  rw [r4 h.right h.lc] at r1 r2
  exact ⟨r1,r2⟩
theorem zoR (s : cB) (hs : wG s.Levels) (hj : s.Jobs.length ≤ 1000) : pG s ∨ ∃ r : Int × Int,r.2 ≠ 0 ∧ Ev (fun fu=>bK fu s) r ∧ Ev (fun fu=>fL fu s) r:=by
  obtain ⟨r,r1,r2,r3,-⟩:=zey s hs hj
  rcases r3 with ⟨rfl,hr,h1,h2⟩ | h
  · exact .inl ⟨hs,hj,hr,h1,h2⟩
  · exact .inr ⟨r,h,r1,r2⟩
theorem kG.hk {s : cB} {level : Int} {k i n : Nat} {b : Bool} (w : kG s level k i b n) : k < s.Jobs.length:=(List.getElem?_eq_some_iff.1 w.job).1
theorem kG.h2 {s : cB} {level : Int} {k i n : Nat} {b : Bool} (w : kG s level k i b n) : k < (uC s.Levels).length:=(List.getElem?_eq_some_iff.1 w.due).1
theorem kG.at' {s : cB} {level : Int} {k i n : Nat} {b : Bool} (w : kG s level k i b n) : ∃ hi : i < s.Levels.Levels.length,s.Levels.Levels[i].Runs.length = 2:=by
  obtain ⟨h,e⟩:=List.getElem?_eq_some_iff.1 w.due
  have:=zff s.Levels k h
  rw [e] at this; exact this
theorem kG.good {s : cB} {level : Int} {k i n : Nat} {b : Bool} (h : pG s) (w : kG s level k i b n) : dD (tC s.Levels i) ∧ kL (tC s.Levels i):=by
  obtain ⟨q1,q2⟩:=w.at'
  exact zbp s.Levels h.small h.right.lev _ q1 q2
theorem zcl {s : cB} (h : pG s) (k : Nat) (hk : k < s.Jobs.length) : ∃ (i : Nat) (b : Bool) (n : Nat),kG s (i : Int) k i b n:=by
  have h2 : k < (uC s.Levels).length:=by have:=h.right.len; omega
  obtain ⟨hl,n,hn,e⟩:=h.right.job k hk h2
  exact ⟨_,_,n,List.getElem?_eq_getElem h2,rfl,hn,by rw [List.getElem?_eq_getElem hk]; exact congrArg some e,hl⟩
theorem zjg {s : cB} (h : pG s) : Ev (fun fu=>zdE fu s) (tB (uC s.Levels),0) ∧ Ev (fun fu=>yW fu s) (tB (uC s.Levels),0):=by
  obtain ⟨c1,c2⟩:=h.check
  obtain ⟨u1,u2⟩:=zdW s.Levels h.small.1
  constructor
  · unfold zdE lO
    refine Ev.bind c1 ?_
    simp only [decide_true,Bool.not_true,bF,↓reduceIte,bS]
    exact Ev.bind u1 (Ev.ret _)
  · unfold yW
    refine Ev.bind c2 ?_
    simp only [decide_true,Bool.not_true,bF,↓reduceIte]
    exact Ev.bind u2 (Ev.ret _)
theorem zej {s : cB} (h : pG s) (level : Int) :
    (∃ k i b n,kG s level k i b n ∧ Ev (fun fu=>uH fu s level) ((k : Int),0) ∧ Ev (fun fu=>zL fu s level) ((k : Int),0)) ∨
    (Ev (fun fu=>uH fu s level) (0,4) ∧ Ev (fun fu=>zL fu s level) (0,4)):=by
  obtain ⟨c1,c2⟩:=h.check
  obtain ⟨-,p2⟩:=zjg h
  have hlen:=h.right.len
  have hfew:=h.few
  obtain ⟨r,⟨r1,r1'⟩,r2⟩:=sK (β:=Int) (fun n r=>Ev (fun fu=>aG s.Jobs level fu (n : Int)) r ∧ Ev (fun fu=>xL (tB (uC s.Levels),0) level fu (n : Int)) (Sum.map id (fun v=>(v,(0 : Int))) r)) s.Jobs.length
    (fun _=>True) (fun k v=>v = (k : Int) ∧ ∃ h2 : k < (uC s.Levels).length,level = (((uC s.Levels)[k] : Nat) : Int))
    ⟨Ev.succ (Ev.of (fun fu=>by simp [aG]) (Ev.ret _)),Ev.succ (Ev.of (fun fu=>by simp [xL,zF,hlen]) (Ev.ret _))⟩
    (fun k hk=>by
      have h2 : k < (uC s.Levels).length:=by omega
      have d1 : decide ((k : Int) < (s.Jobs.length : Int)) = true:=dT (by omega)
      have d2 : decide ((k : Int) < ((tB (uC s.Levels)).length : Int)) = true:=dT (by rw [zF]; omega)
      obtain ⟨n,-,e⟩:=(h.right.job k hk h2).at'
      have hl : s.Jobs[k].Level = (((uC s.Levels)[k] : Nat) : Int):=by rw [e]; rfl
      by_cases q : (((uC s.Levels)[k] : Nat) : Int) = level
      · refine .inl ⟨(k : Int),⟨rfl,h2,q.symm⟩,Ev.succ ?_,Ev.succ ?_⟩
        · simp only [aG,d1,↓reduceIte,aB s.Jobs k hk,bS,iN,hl,dT q]
          exact Ev.ret _
        · simp only [xL,d2,↓reduceIte,cF (uC s.Levels) k h2,bS,dT q]
          exact Ev.ret _
      · refine .inr ⟨trivial,fun r hr=>⟨Ev.succ ?_,Ev.succ ?_⟩⟩
        · simp only [aG,d1,↓reduceIte,aB s.Jobs k hk,bS,iN,hl,dF q,bF,sC k (show k < 9223372036854775807 by omega)]
          exact hr.1
        · simp only [xL,d2,↓reduceIte,cF (uC s.Levels) k h2,bS,dF q,bF,sC k (show k < 9223372036854775807 by omega)]
          exact hr.2)
  rcases r2 with ⟨rfl,-⟩ | ⟨k,v,hk,⟨rfl,h2,hl⟩,rfl,-⟩
  · right
    constructor
    · unfold uH nP bO
      refine Ev.bind c1 ?_
      simp only [decide_true,Bool.not_true,bF,↓reduceIte]
      refine Ev.bind (a:=(0,4)) (Ev.bind (a:=-1) (Ev.bind r1 (Ev.ret _)) ?_) (Ev.ret _)
      exact Ev.ret _
    · unfold zL
      refine Ev.bind p2 ?_
      simp only [decide_true,Bool.not_true,bF,↓reduceIte]
      exact Ev.bind r1' (Ev.ret _)
  · left
    obtain ⟨i,b,n,w⟩:=zcl h k hk
    have hl' : level = (i : Int):=by
      have:=w.due
      rw [List.getElem?_eq_getElem h2] at this
      rw [hl,oI this]
    refine ⟨k,i,b,n,⟨w.due,hl',w.le,w.job,w.low⟩,?_,?_⟩
    · unfold uH nP bO
      refine Ev.bind c1 ?_
      simp only [decide_true,Bool.not_true,bF,↓reduceIte]
      refine Ev.bind (a:=((k : Int),0)) (Ev.bind (a:=(k : Int)) (Ev.bind r1 (Ev.ret _)) ?_) (Ev.ret _)
      simp only [dF (show ¬ (k : Int) < 0 by omega),bF,↓reduceIte]
      exact Ev.ret _
    · unfold zL
      refine Ev.bind p2 ?_
      simp only [decide_true,Bool.not_true,bF,↓reduceIte]
      exact Ev.bind r1' (Ev.ret _)
theorem kG.uniq {s : cB} {level : Int} {k i n k' i' n' : Nat} {b b' : Bool} (w : kG s level k i b n) (w' : kG s level k' i' b' n') : k = k' ∧ i = i' ∧ b = b' ∧ n = n':=by
  have e:=w.lev.symm.trans w'.lev
  obtain rfl : i = i':=by omega
  obtain ⟨h,e1⟩:=List.getElem?_eq_some_iff.1 w.due
  obtain ⟨h',e1'⟩:=List.getElem?_eq_some_iff.1 w'.due
  obtain rfl : k = k':=zon s.Levels k k' h h' (e1.trans e1'.symm)
  have e2:=oI (w.job.symm.trans w'.job)
  have e3 : (n : Int) = (n' : Int):=congrArg (fun j=>j.Work.Steps) e2
  have e4 : b = b':=congrArg (fun j=>j.Work.Shadow.Bottom) e2
  exact ⟨rfl,rfl,e4,by omega⟩
theorem zbf {s : cB} (h : pG s) {level : Int} {k i n : Nat} {b : Bool} (w : kG s level k i b n) : Ev (fun fu=>uH fu s level) ((k : Int),0) ∧ Ev (fun fu=>zL fu s level) ((k : Int),0):=by
  obtain ⟨c1,c2⟩:=h.check
  rcases zej h level with ⟨k',i',b',n',w',f1,f2⟩ | ⟨f1,f2⟩
  · obtain ⟨rfl,-⟩:=w.uniq w'
    exact ⟨f1,f2⟩
  · exfalso
    have hlen:=h.right.len
    have hfew:=h.few
    have : Ev (fun fu=>bO fu s.Jobs level) (-1) ∨ True:=.inr trivial
    obtain ⟨r,r1,r2⟩:=sK (β:=Int) (fun n r=>Ev (fun fu=>aG s.Jobs level fu (n : Int)) r) s.Jobs.length
      (fun i=>∀ hi : i < s.Jobs.length,s.Jobs[i].Level ≠ level) (fun i v=>v = (i : Int))
      (Ev.succ (Ev.of (fun fu=>by simp [aG]) (Ev.ret _)))
      (fun i hi=>by
        have d1 : decide ((i : Int) < (s.Jobs.length : Int)) = true:=dT (by omega)
        by_cases q : s.Jobs[i].Level = level
        · refine .inl ⟨(i : Int),rfl,Ev.succ ?_⟩
          simp only [aG,d1,↓reduceIte,aB s.Jobs i hi,bS,iN,dT q]
          exact Ev.ret _
        · refine .inr ⟨fun _=>q,fun r hr=>Ev.succ ?_⟩
          simp only [aG,d1,↓reduceIte,aB s.Jobs i hi,bS,iN,dF q,bF,sC i (show i < 9223372036854775807 by omega)]
          exact hr)
    rcases r2 with ⟨rfl,hq⟩ | ⟨i,v,hi,rfl,rfl,-⟩
    · refine hq k w.hk w.hk ?_
      rw [(List.getElem?_eq_some_iff.1 w.job).2,w.lev]; rfl
    · have f : Ev (fun fu => uH fu s level) ((i : Int), 0) := by
        unfold uH nP bO
        refine Ev.bind c1 ?_
        simp only [decide_true,Bool.not_true,bF,↓reduceIte]
        refine Ev.bind (a:=((i : Int),0)) (Ev.bind (a:=(i : Int)) (Ev.bind r1 (Ev.ret _)) ?_) (Ev.ret _)
        simp only [dF (show ¬ (i : Int) < 0 by omega),bF,↓reduceIte]
        exact Ev.ret _
      have:=congrArg Prod.snd (Ev.uniq f f1)
      exact absurd this (show ¬ (0 : Int) = 4 by decide)
theorem zdV {s : cB} (h : pG s) {level : Int} {k i n : Nat} {b : Bool} (w : kG s level k i b n) : Ev (fun fu=>wL fu s level) (((iC (tC s.Levels i) - n : Nat) : Int),0) ∧ Ev (fun fu=>hS fu s level) (((iC (tC s.Levels i) - n : Nat) : Int),0):=by
  obtain ⟨f1,f2⟩:=zbf h w
  obtain ⟨hg,hsn⟩:=w.good h
  obtain ⟨l1,l2⟩:=mW _ b n hsn hg w.le
  have ixk : ix s.Jobs (k : Int) = some (eL s.Levels i b n):=by rw [yT]; exact w.job
  constructor
  · unfold wL
    refine Ev.bind f1 ?_
    simp only [decide_true,Bool.not_true,bF,↓reduceIte,ixk,bS]
    exact Ev.bind (a:=(((iC (tC s.Levels i) - n : Nat) : Int),0)) l1 (Ev.ret _)
  · unfold hS
    refine Ev.bind f2 ?_
    simp only [decide_true,Bool.not_true,bF,↓reduceIte,ixk,bS]
    exact Ev.bind (a:=(((iC (tC s.Levels i) - n : Nat) : Int),0)) l2 (Ev.ret _)
theorem zpF {s : cB} {e : Int} (he : e ≠ 0) (level : Int) (f1 : Ev (fun fu=>uH fu s level) (0,e)) (f2 : Ev (fun fu=>zL fu s level) (0,e)) : Ev (fun fu=>wL fu s level) (0,e) ∧ Ev (fun fu=>hS fu s level) (0,e):=by
  constructor
  · unfold wL
    refine Ev.bind f1 ?_
    simp only [dF he,Bool.not_false,↓reduceIte]
    exact Ev.ret _
  · unfold hS
    refine Ev.bind f2 ?_
    simp only [dF he,Bool.not_false,↓reduceIte]
    exact Ev.ret _
def gW (s : cB) (k i : Nat) (b : Bool) (n : Nat) : cB:=⟨s.Levels,s.Jobs.set k (eL s.Levels i b n),s.NextId⟩
theorem zpe {s : cB} (h : pG s) {level : Int} {k i n : Nat} {b : Bool} (w : kG s level k i b n) (m : Nat) (hm : m ≤ iC (tC s.Levels i)) : pG (gW s k i b m) ∧ kG (gW s k i b m) level k i b m:=by
  have hk:=w.hk
  obtain ⟨h2,hd⟩:=List.getElem?_eq_some_iff.1 w.due
  refine ⟨⟨h.small,by show (s.Jobs.set k _).length ≤ 1000; rw [List.length_set]; exact h.few,⟨h.right.lev,h.right.next,?_,?_⟩,h.lc,h.rlc⟩,⟨w.due,w.lev,hm,?_,w.low⟩⟩
  · show (s.Jobs.set k _).length = _; rw [List.length_set]; exact h.right.len
  · intro j h1 h3
    have h1' : j < s.Jobs.length:=by
      have : j < (s.Jobs.set k (eL s.Levels i b m)).length:=h1
      rwa [List.length_set] at this
    have e : (gW s k i b m).Jobs[j] = if k = j then eL s.Levels i b m else s.Jobs[j]:=by
      show (s.Jobs.set k (eL s.Levels i b m))[j]'(by rw [List.length_set]; exact h1') = _
      exact List.getElem_set ..
    rw [e]
    split
    · rename_i e2; subst e2
      have ok : lR s.Levels i (eL s.Levels i b m):=⟨fun hb=>w.low hb,m,hm,rfl⟩
      rw [← hd] at ok ⊢
      rw [hd] at ok ⊢
      exact hd ▸ ok
    · exact h.right.job j h1' h3
  · show (s.Jobs.set k _)[k]? = _
    exact List.getElem?_set_self hk
theorem zor {s : cB} (h : pG s) {level : Int} {k i n : Nat} {b : Bool} (w : kG s level k i b n) (q : Nat) (hlt : n < iC (tC s.Levels i)) :
    Ev (fun fu=>qG fu s level (q : Int)) (gW s k i b (n + used (tC s.Levels i) n q),(used (tC s.Levels i) n q : Int),0) ∧
    Ev (fun fu=>bJ fu s level (q : Int)) (gW s k i b (n + used (tC s.Levels i) n q),(used (tC s.Levels i) n q : Int),0):=by
  obtain ⟨c1,c2⟩:=h.check
  obtain ⟨f1,f2⟩:=zbf h w
  obtain ⟨-,rl⟩:=zdV h w
  obtain ⟨hg,hsn⟩:=w.good h
  obtain ⟨l1,l2⟩:=mW _ b n hsn hg w.le
  obtain ⟨t1,t2⟩:=ze2 _ b n q hsn hg w.le
  have ixk : ix s.Jobs (k : Int) = some (eL s.Levels i b n):=by rw [yT]; exact w.job
  have d1 : decide ((q : Int) < 0) = false:=dF (by omega)
  have d2 : decide (((iC (tC s.Levels i) - n : Nat) : Int) = 0) = false:=dF (by omega)
  have hne : s.Jobs.isEmpty = false:=by
    cases hj : s.Jobs with
    | nil=>have:=w.hk; rw [hj] at this; simp at this
    | cons=>rfl
  have g : 2 * ((0 + s.Jobs.length) * 176) ≤ 281474976710656:=by have:=h.few; omega
  constructor
  · unfold qG
    refine Ev.bind c1 ?_
    simp only [decide_true,Bool.not_true,bF,↓reduceIte,d1]
    refine Ev.bind f1 ?_
    simp only [decide_true,Bool.not_true,bF,↓reduceIte,ixk,bS]
    refine Ev.bind (a:=(((iC (tC s.Levels i) - n : Nat) : Int),0)) l1 ?_
    simp only [d2,bF,↓reduceIte]
    refine Ev.bind (a:=(yC (tC s.Levels i) b (n + used (tC s.Levels i) n q),(used (tC s.Levels i) n q : Int),0)) t1 ?_
    simp only [decide_true,Bool.not_true,bF,↓reduceIte,kS,hne,if_pos g,bS,ixk,Int.toNat_natCast]
    exact Ev.ret _
  · unfold bJ
    refine Ev.bind c2 ?_
    simp only [decide_true,↓reduceIte,d1,bS,bF,Bool.not_true]
    refine Ev.bind rl ?_
    simp only [decide_true,↓reduceIte,d2,bS,bF,Bool.not_true]
    refine Ev.bind f2 ?_
    simp only [ixk,bS]
    refine Ev.bind (a:=(yC (tC s.Levels i) b (n + used (tC s.Levels i) n q),(used (tC s.Levels i) n q : Int),0)) t2 ?_
    simp only [if_pos g,Int.toNat_natCast]
    rw [w.lev]
    exact Ev.ret _
theorem zkb : yM 40 = some true:=by kernel_rfl
theorem zeI : Ev (fun fu=>yM fu) true:=Ev.mono (n:=40) (fun fu=>zj0 fu) zkb
theorem nZ {β : Type} {L : Nat → Int → Option (Sum Unit β)} (len : Nat) (stop : Ev (fun fu=>L fu (len : Int)) (.inl ())) (step : ∀ n,n < len → ∀ r,Ev (fun fu=>L fu ((n + 1 : Nat) : Int)) r → Ev (fun fu=>L fu (n : Int)) r) : Ev (fun fu=>L fu 0) (.inl ()):=by
  obtain ⟨r,r1,r2⟩:=sK (β:=β) (fun n r=>Ev (fun fu=>L fu (n : Int)) r) len (fun _=>True) (fun _ _=>False) stop (fun n hn=>.inr ⟨trivial,step n hn⟩)
  rcases r2 with ⟨rfl,-⟩ | ⟨_,_,_,h,_⟩
  · exact r1
  · exact h.elim
theorem zhN (l : List aA) (hl : l.length ≤ 1000000) : Ev (fun fu=>qU fu l l) true:=by
  have : Ev (fun fu=>iO l l fu 0) (.inl ()):=nZ l.length
    (Ev.succ (Ev.of (fun fu=>by simp [iO]) (Ev.ret _)))
    (fun n hn r hr=>Ev.succ (by
      have d : decide ((n : Int) < (l.length : Int)) = true:=dT (by omega)
      simp only [iO,d,↓reduceIte,bS,aB l n hn,zaq,decide_true,Bool.not_true,bF,sC n (show n < 9223372036854775807 by omega)]
      exact hr))
  unfold qU
  exact Ev.bind this (Ev.of (fun fu=>by simp) (Ev.ret _))
theorem zn9 (l : List gB) (hl : l.length ≤ 1000) (hE : ∀ r ∈ l,r.Entries.length ≤ 1000000) : Ev (fun fu=>vW fu l l) true:=by
  have : Ev (fun fu=>zN l l fu 0) (.inl ()):=nZ l.length
    (Ev.succ (Ev.of (fun fu=>by simp [zN]) (Ev.ret _)))
    (fun n hn r hr=>Ev.succ (by
      have d : decide ((n : Int) < (l.length : Int)) = true:=dT (by omega)
      simp only [zN,d,↓reduceIte,bS,aB l n hn,zal,decide_true]
      refine Ev.bind (a:=true) (Ev.bind (Ev.bind (zhN _ (hE _ (List.getElem_mem hn))) (Ev.ret _)) (Ev.ret _)) ?_
      simp only [Bool.not_true,bF,↓reduceIte,sC n (show n < 9223372036854775807 by omega)]
      exact hr))
  unfold vW
  simp only [decide_true,Bool.not_true,bF,↓reduceIte]
  exact Ev.bind this (Ev.ret _)
theorem zof (l : eB) (hs : wG l) : Ev (fun fu=>qW fu l l) true:=by
  have h14:=hs.1
  have : Ev (fun fu=>uM l l fu 0) (.inl ()):=nZ l.Levels.length
    (Ev.succ (Ev.of (fun fu=>by simp [uM]) (Ev.ret _)))
    (fun n hn r hr=>Ev.succ (by
      have d : decide ((n : Int) < (l.Levels.length : Int)) = true:=dT (by omega)
      have hx:=hs.2 _ (List.getElem_mem hn)
      simp only [uM,d,↓reduceIte,bS,aB l.Levels n hn]
      refine Ev.bind (zn9 _ (by have:=hx.1; omega) (fun r hr=>by have:=(hx.2 r hr).1; omega)) ?_
      simp only [Bool.not_true,bF,↓reduceIte,sC n (show n < 9223372036854775807 by omega)]
      exact hr))
  unfold qW
  simp only [decide_true,Bool.not_true,bF,↓reduceIte,bS]
  exact Ev.bind this (Ev.ret _)
theorem zga (j : bB) (hj : pR j.Work) : Ev (fun fu=>aW fu j j) true:=by
  unfold aW
  simp only [decide_true,↓reduceIte]
  exact Ev.bind (Ev.bind (zjL _ hj) (Ev.ret _)) (Ev.ret _)
theorem zcs (s : cB) (hs : wG s.Levels) (hj : s.Jobs.length ≤ 1000) (hw : ∀ j ∈ s.Jobs,pR j.Work) : Ev (fun fu=>zQ fu s s) true:=by
  have : Ev (fun fu=>uN s s fu 0) (.inl ()):=nZ s.Jobs.length
    (Ev.succ (Ev.of (fun fu=>by simp [uN]) (Ev.ret _)))
    (fun n hn r hr=>Ev.succ (by
      have d : decide ((n : Int) < (s.Jobs.length : Int)) = true:=dT (by omega)
      simp only [uN,d,↓reduceIte,bS,aB s.Jobs n hn]
      refine Ev.bind (zga _ (hw _ (List.getElem_mem hn))) ?_
      simp only [Bool.not_true,bF,↓reduceIte,sC n (show n < 9223372036854775807 by omega)]
      exact hr))
  unfold zQ
  refine Ev.bind (zof _ hs) ?_
  simp only [decide_true,Bool.not_true,bF,↓reduceIte,bS]
  exact Ev.bind this (Ev.ret _)
theorem pG.works {s : cB} (h : pG s) : ∀ j ∈ s.Jobs,pR j.Work:=by
  intro j hj
  obtain ⟨k,hk,rfl⟩:=List.mem_iff_getElem.1 hj
  obtain ⟨i,b,n,w⟩:=zcl h k hk
  obtain ⟨hg,hsn⟩:=w.good h
  rw [(List.getElem?_eq_some_iff.1 w.job).2]
  exact fZ _ b n hsn hg w.le
theorem pG.self {s : cB} (h : pG s) : Ev (fun fu=>zQ fu s s) true:=zcs s h.small h.few h.works
theorem zhp (s : cB) : ∃ b,Ev (fun fu=>pW fu s) b ∧ (b = false → wG s.Levels ∧ s.Jobs.length ≤ 14):=by
  have wide : ∀ l : List aA,∃ b,Ev (fun fu=>mU fu l) b:=by
    intro l
    obtain ⟨r,r1,r2⟩:=sK (β:=Bool) (fun n r=>Ev (fun fu=>vJ l fu (n : Int)) r) (min l.length 80) (fun _=>True) (fun _ v=>v = true)
      (by
        refine Ev.succ (Ev.of (fun fu=>?_) (Ev.ret _))
        by_cases h : l.length ≤ 80
        · rw [Nat.min_eq_left h]; simp [vJ]
        · rw [Nat.min_eq_right (by omega)]; simp [vJ])
      (fun n hn=>by
        have hl : n < l.length:=Nat.lt_of_lt_of_le hn (Nat.min_le_left _ _)
        have h40 : n < 80:=Nat.lt_of_lt_of_le hn (Nat.min_le_right _ _)
        have d1 : decide ((n : Int) < (l.length : Int)) = true:=dT (by omega)
        have d2 : decide ((n : Int) < 80) = true:=dT (by omega)
        by_cases hk : (100 : Int) < (l[n].Key.length : Int)
        · exact .inl ⟨true,rfl,Ev.succ (Ev.of (fun fu=>by simp only [vJ,d1,d2,aB l n hl,dT hk,↓reduceIte,bS]) (Ev.ret _))⟩
        · by_cases hv : (100 : Int) < (l[n].Val.length : Int)
          · exact .inl ⟨true,rfl,Ev.succ (Ev.of (fun fu=>by simp only [vJ,d1,d2,aB l n hl,dF hk,dT hv,bF,↓reduceIte,bS]) (Ev.ret _))⟩
          · refine .inr ⟨trivial,fun r hr=>Ev.succ (Ev.of (fun fu=>?_) hr)⟩
            simp only [vJ,d1,d2,↓reduceIte,bS,aB l n hl,dF hk,dF hv,bF,sC n (show n < 9223372036854775807 by omega)])
    unfold mU
    rcases r2 with ⟨rfl,-⟩ | ⟨n,v,-,rfl,rfl,-⟩
    · exact ⟨_,Ev.bind r1 (Ev.ret _)⟩
    · exact ⟨_,Ev.bind r1 (Ev.ret _)⟩
  have inner : ∀ j : bB,∃ r,Ev (fun fu=>mK j fu 0) r ∧ (r = .inl () ∨ r = .inr true):=by
    intro j
    obtain ⟨r,r1,r2⟩:=sK (β:=Bool) (fun n r=>Ev (fun fu=>mK j fu (n : Int)) r) (min j.Work.Merge.Runs.length 10) (fun _=>True) (fun _ v=>v = true)
      (by
        refine Ev.succ (Ev.of (fun fu=>?_) (Ev.ret _))
        by_cases h : j.Work.Merge.Runs.length ≤ 10
        · rw [Nat.min_eq_left h]; simp [mK]
        · rw [Nat.min_eq_right (by omega)]; simp [mK])
      (fun n hn=>by
        have hl : n < j.Work.Merge.Runs.length:=Nat.lt_of_lt_of_le hn (Nat.min_le_left _ _)
        have h40 : n < 10:=Nat.lt_of_lt_of_le hn (Nat.min_le_right _ _)
        have d1 : decide ((n : Int) < (j.Work.Merge.Runs.length : Int)) = true:=dT (by omega)
        have d2 : decide ((n : Int) < 10) = true:=dT (by omega)
        obtain ⟨b,b1⟩:=wide j.Work.Merge.Runs[n]
        cases b with
        | true =>
          refine .inl ⟨true,rfl,Ev.succ ?_⟩
          simp only [mK,d1,d2,↓reduceIte,bS,aB _ n hl]
          exact Ev.bind b1 (Ev.ret _)
        | false =>
          refine .inr ⟨trivial,fun r hr=>Ev.succ ?_⟩
          simp only [mK,d1,d2,↓reduceIte,bS,aB _ n hl,sC n (show n < 9223372036854775807 by omega)]
          exact Ev.bind b1 hr)
    refine ⟨r,r1,?_⟩
    rcases r2 with ⟨rfl,-⟩ | ⟨n,v,-,rfl,rfl,-⟩
    · exact .inl rfl
    · exact .inr rfl
  obtain ⟨r,r1,r2⟩:=sK (β:=Bool) (fun n r=>Ev (fun fu=>nJ s fu (n : Int)) r) (min s.Jobs.length 20) (fun _=>True) (fun _ v=>v = true)
    (by
      refine Ev.succ (Ev.of (fun fu=>?_) (Ev.ret _))
      by_cases h : s.Jobs.length ≤ 20
      · rw [Nat.min_eq_left h]; simp [nJ]
      · rw [Nat.min_eq_right (by omega)]; simp [nJ])
    (fun n hn=>by
      have hl : n < s.Jobs.length:=Nat.lt_of_lt_of_le hn (Nat.min_le_left _ _)
      have h40 : n < 20:=Nat.lt_of_lt_of_le hn (Nat.min_le_right _ _)
      have d1 : decide ((n : Int) < (s.Jobs.length : Int)) = true:=dT (by omega)
      have d2 : decide ((n : Int) < 20) = true:=dT (by omega)
      obtain ⟨q,q1,q2⟩:=inner s.Jobs[n]
      rcases q2 with rfl | rfl
      · obtain ⟨b,b1⟩:=wide s.Jobs[n].Work.Out
        obtain ⟨c,hc⟩ : ∃ c : Bool,∀ (f : Bool → Option (Sum Unit Bool)),(((((if b = true then some true else some (decide ((6 : Int) < (s.Jobs[n].Work.Merge.Runs.length : Int)))).bind fun b128=>(if b128 = true then some true else some (decide ((40 : Int) < (s.Jobs[n].Work.Merge.At.length : Int)))).bind fun b129=>(if b129 = true then some true else some (decide ((40 : Int) < (s.Jobs[n].Work.Merge.Tree.Keys.length : Int)))).bind fun b130=>(if b130 = true then some true else some (decide ((40 : Int) < (s.Jobs[n].Work.Merge.Tree.Lose.length : Int)))).bind fun b131=>(if b131 = true then some true else some (decide ((200 : Int) < (s.Jobs[n].Work.Shadow.Last.length : Int)))).bind fun b132=>f b132)))) = f c:=by
          refine ⟨b || decide ((6 : Int) < (s.Jobs[n].Work.Merge.Runs.length : Int)) || decide ((40 : Int) < (s.Jobs[n].Work.Merge.At.length : Int)) || decide ((40 : Int) < (s.Jobs[n].Work.Merge.Tree.Keys.length : Int)) || decide ((40 : Int) < (s.Jobs[n].Work.Merge.Tree.Lose.length : Int)) || decide ((200 : Int) < (s.Jobs[n].Work.Shadow.Last.length : Int)),fun f=>?_⟩
          generalize decide ((6 : Int) < (s.Jobs[n].Work.Merge.Runs.length : Int)) = c1
          generalize decide ((40 : Int) < (s.Jobs[n].Work.Merge.At.length : Int)) = c2
          generalize decide ((40 : Int) < (s.Jobs[n].Work.Merge.Tree.Keys.length : Int)) = c3
          generalize decide ((40 : Int) < (s.Jobs[n].Work.Merge.Tree.Lose.length : Int)) = c4
          generalize decide ((200 : Int) < (s.Jobs[n].Work.Shadow.Last.length : Int)) = c5
          cases b <;> cases c1 <;> cases c2 <;> cases c3 <;> cases c4 <;> cases c5 <;> rfl
        cases c with
        | true =>
          refine .inl ⟨true,rfl,Ev.succ ?_⟩
          simp only [nJ,d1,d2,↓reduceIte,bS,aB s.Jobs n hl]
          refine Ev.bind q1 (Ev.bind b1 ?_)
          refine Ev.of (fun fu=>hc _) ?_
          exact Ev.ret _
        | false =>
          refine .inr ⟨trivial,fun r hr=>Ev.succ ?_⟩
          simp only [nJ,d1,d2,↓reduceIte,bS,aB s.Jobs n hl,sC n (show n < 9223372036854775807 by omega)]
          refine Ev.bind q1 (Ev.bind b1 ?_)
          refine Ev.of (fun fu=>hc _) ?_
          exact hr
      · refine .inl ⟨true,rfl,Ev.succ ?_⟩
        simp only [nJ,d1,d2,↓reduceIte,bS,aB s.Jobs n hl]
        exact Ev.bind q1 (Ev.ret _))
  unfold pW
  rcases r2 with ⟨rfl,-⟩ | ⟨n,v,-,rfl,rfl,-⟩
  · by_cases h : (14 : Int) < (s.Jobs.length : Int)
    · refine ⟨true,Ev.bind r1 ?_,by simp⟩
      simp only [dT h,↓reduceIte,bS]
      exact Ev.ret _
    · obtain ⟨b,b1,b2⟩:=zoD s.Levels
      refine ⟨b,Ev.bind r1 ?_,fun hb=>⟨b2 hb,by omega⟩⟩
      simp only [dF h,bF,↓reduceIte]
      exact Ev.bind (Ev.bind b1 (Ev.ret _)) (Ev.ret _)
  · exact ⟨true,Ev.bind r1 (Ev.ret _),by simp⟩
theorem zhL : wG (⟨0,[]⟩ : eB):=⟨by simp,by simp⟩
theorem sZ : Ev (fun fu=>zQ fu wJ wJ) true:=zcs wJ zhL (by simp [wJ]) (by simp [wJ])
theorem zpv {s : cB} {r : Int × Int} (hr : r.2 ≠ 0) (h1 : Ev (fun fu=>bK fu s) r) (h2 : Ev (fun fu=>fL fu s) r) (level most : Int) : Ev (fun fu=>qG fu s level most) (wJ,0,r.2) ∧ Ev (fun fu=>bJ fu s level most) (wJ,0,r.2):=by
  constructor
  · unfold qG
    refine Ev.bind h1 ?_
    simp only [dF hr,Bool.not_false,↓reduceIte]
    exact Ev.ret _
  · unfold bJ
    refine Ev.bind h2 ?_
    simp only [dF hr,Bool.not_false,bF,↓reduceIte,bS]
    exact Ev.ret _
theorem zis {s : cB} (h : pG s) (level most : Int) (hm : most < 0) : Ev (fun fu=>qG fu s level most) (wJ,0,7) ∧ Ev (fun fu=>bJ fu s level most) (wJ,0,7):=by
  obtain ⟨c1,c2⟩:=h.check
  constructor
  · unfold qG
    refine Ev.bind c1 ?_
    simp only [decide_true,Bool.not_true,bF,↓reduceIte,dT hm]
    exact Ev.ret _
  · unfold bJ
    refine Ev.bind c2 ?_
    simp only [decide_true,↓reduceIte,dT hm,bS]
    exact Ev.ret _
theorem zoG {s : cB} (h : pG s) (level : Int) (q : Nat) (f1 : Ev (fun fu=>uH fu s level) (0,4)) (f2 : Ev (fun fu=>zL fu s level) (0,4)) : Ev (fun fu=>qG fu s level (q : Int)) (wJ,0,4) ∧ Ev (fun fu=>bJ fu s level (q : Int)) (wJ,0,4):=by
  obtain ⟨c1,c2⟩:=h.check
  obtain ⟨-,l2⟩:=zpF (by decide) level f1 f2
  have d1 : decide ((q : Int) < 0) = false:=dF (by omega)
  have d4 : decide ((4 : Int) = 0) = false:=rfl
  constructor
  · unfold qG
    refine Ev.bind c1 ?_
    simp only [decide_true,Bool.not_true,bF,↓reduceIte,d1]
    refine Ev.bind f1 ?_
    simp only [d4,Bool.not_false,↓reduceIte]
    exact Ev.ret _
  · unfold bJ
    refine Ev.bind c2 ?_
    simp only [decide_true,↓reduceIte,d1,bS,bF,Bool.not_true]
    refine Ev.bind l2 ?_
    simp only [d4,bF,↓reduceIte,bS,Bool.not_false]
    exact Ev.ret _
theorem zgl {s : cB} (h : pG s) {level : Int} {k i : Nat} {b : Bool} (w : kG s level k i b (iC (tC s.Levels i))) (q : Nat) : Ev (fun fu=>qG fu s level (q : Int)) (wJ,0,9) ∧ Ev (fun fu=>bJ fu s level (q : Int)) (wJ,0,9):=by
  obtain ⟨c1,c2⟩:=h.check
  obtain ⟨f1,f2⟩:=zbf h w
  obtain ⟨-,rl⟩:=zdV h w
  obtain ⟨hg,hsn⟩:=w.good h
  obtain ⟨l1,l2⟩:=mW _ b _ hsn hg w.le
  have ixk : ix s.Jobs (k : Int) = some (eL s.Levels i b (iC (tC s.Levels i))):=by rw [yT]; exact w.job
  have d1 : decide ((q : Int) < 0) = false:=dF (by omega)
  have d2 : decide (((iC (tC s.Levels i) - iC (tC s.Levels i) : Nat) : Int) = 0) = true:=dT (by omega)
  constructor
  · unfold qG
    refine Ev.bind c1 ?_
    simp only [decide_true,Bool.not_true,bF,↓reduceIte,d1]
    refine Ev.bind f1 ?_
    simp only [decide_true,Bool.not_true,bF,↓reduceIte,ixk,bS]
    refine Ev.bind (a:=(((iC (tC s.Levels i) - iC (tC s.Levels i) : Nat) : Int),0)) l1 ?_
    simp only [d2,↓reduceIte]
    exact Ev.ret _
  · unfold bJ
    refine Ev.bind c2 ?_
    simp only [decide_true,↓reduceIte,d1,bS,bF,Bool.not_true]
    refine Ev.bind rl ?_
    simp only [decide_true,↓reduceIte,d2,bS]
    exact Ev.ret _
theorem zf9 (s : cB) (hs : wG s.Levels) (hj : s.Jobs.length ≤ 1000) (level most : Int) : ∃ t : cB × Int × Int,Ev (fun fu=>qG fu s level most) t ∧ Ev (fun fu=>bJ fu s level most) t ∧ Ev (fun fu=>zQ fu t.1 t.1) true:=by
  rcases zoR s hs hj with h | ⟨r,hr,c1,c2⟩
  · by_cases hm : most < 0
    · obtain ⟨a,b⟩:=zis h level most hm
      exact ⟨_,a,b,sZ⟩
    · obtain ⟨q,rfl⟩ : ∃ q : Nat,most = (q : Int):=⟨most.toNat,by omega⟩
      rcases zej h level with ⟨k,i,b,n,w,-,-⟩ | ⟨f1,f2⟩
      · by_cases hn : n = iC (tC s.Levels i)
        · subst hn
          obtain ⟨x,y⟩:=zgl h w q
          exact ⟨_,x,y,sZ⟩
        · have hle:=w.le
          obtain ⟨x,y⟩:=zor h w q (by omega)
          have hu : used (tC s.Levels i) n q ≤ iC (tC s.Levels i) - n:=Nat.min_le_right _ _
          exact ⟨_,x,y,(zpe h w _ (by omega)).1.self⟩
      · obtain ⟨x,y⟩:=zoG h level q f1 f2
        exact ⟨_,x,y,sZ⟩
  · obtain ⟨x,y⟩:=zpv hr c1 c2 level most
    exact ⟨_,x,y,sZ⟩
theorem zli (s : cB) (level most : Int) : Ev (fun fu=>xY fu s level most) true:=by
  obtain ⟨f,f1,f2⟩:=zhp s
  unfold xY
  refine Ev.bind f1 ?_
  cases f with
  | true=>exact Ev.bind zeI (Ev.ret _)
  | false =>
    obtain ⟨hs,hj⟩:=f2 rfl
    obtain ⟨t,t1,t2,t3⟩:=zf9 s hs (by omega) level most
    simp only [bF,↓reduceIte]
    refine Ev.bind t1 (Ev.bind t2 (Ev.bind t3 ?_))
    simp only [decide_true,↓reduceIte,bS]
    exact Ev.bind (Ev.bind zeI (Ev.ret _)) (Ev.ret _)
end Go.T
end
section
namespace Go.T
open Go Go.AM Go.Proofs
set_option maxRecDepth 100000
set_option maxHeartbeats 4000000
set_option linter.unusedVariables false
theorem iT {fu : Nat} {l1 : List aA} {r : Bool} (h0 : mU fu l1 = some r) : yA Tryz.prog 28 [.psl 4 (l1.map aA.enc)] (.bool r) []:=by
 refine dB Tryz.func28 rfl (by decide) rL ?_
 dsimp only [Tryz.f28]
 rw [mU] at h0
 refine xS 8 [0] ?_
 refine iA ?_
 refine xS 16 [0,3] ?_
 obtain ⟨x17,hxx17,h0⟩:=bA h0
 refine pC (fun s'=>∃ o26 : Unit,x17 = .inl o26 ∧ s'.nx ≤ 80 ∧ LeN [] s' ⟨[(0,.psl 4 (List.map aA.enc l1))],[],80,[]⟩) ?_ ?_
 ·
  intro s' hs
  obtain ⟨o26,rfl,hn,hs⟩:=hs
  refine cA ?_
  refine oB [] hn hs ?_
  refine xS 112 [2] ?_
  refine jA ?_
  obtain rfl:=oI h0
  exact lA [] rG
 refine lC (ι:={ p : Nat × Int // vJ l1 p.1 p.2 = some x17 }) (fun p=>⟨[(0,.psl 4 (List.map aA.enc l1)),(3,.int .i64 p.1.2)],[],16,[]⟩) (fun p=>p.1.1) ⟨(fu,0),hxx17⟩ ⟨rF,rE,rfl,rfl,trivial,trivial⟩ (fun _=>Nat.le_refl _) ?_
 rintro ⟨⟨fu,i18⟩,h1⟩
 cases fu with
 | zero =>
  replace h1 : vJ l1 0 i18 = some x17:=h1
  rw [vJ] at h1; cases h1
 | succ fu =>
  replace h1 : vJ l1 (fu + 1) i18 = some x17:=h1
  rw [vJ] at h1
  dsimp only
  refine iA ?_
  obtain ⟨b19,hb19,h1⟩:=bA h1
  refine jC (fr':=[(0,.psl 4 (List.map aA.enc l1)),(3,.int .i64 i18),(11,.bool b19)]) (hp':=[]) [] 80 [0,3,11] (fun _=>none) rfl (fun Kt hK=>by
    cases hg20 : (decide (i18 < (l1.length : Int))) with
    | false =>
     replace hb19:=sA hb19 hg20
     have hqb19:=oI hb19
     subst hqb19
     exact rW hg20 hK
    | true =>
     replace hb19:=zA hb19 hg20
     have hqb19:=oI hb19
     subst hqb19
     exact rW hg20 hK) ?_
  refine xI h1 rfl (fun h1 hb21=>?_) (fun h1 hb21=>?_)
  ·
   refine oA (cA (iA (vB ?_)))
   obtain ⟨e22,he22,h1⟩:=bA h1
   obtain ⟨he22a,he22b,he22c⟩:=vA he22
   obtain ⟨b23,hb23,h1⟩:=bA h1
   refine jC (fr':=[(0,.psl 4 (List.map aA.enc l1)),(3,.int .i64 i18),(29,.bool b23)]) (hp':=[]) [] 208 [0,3,29] (fun _=>none) rfl (fun Kt hK=>by
     cases hg24 : (decide (100 < (e22.Key.length : Int))) with
     | false =>
      replace hb23:=sA hb23 hg24
      have hqb23:=oI hb23
      subst hqb23
      exact sD hg24 (rA he22a (rA he22b he22c)) hK
     | true =>
      replace hb23:=zA hb23 hg24
      have hqb23:=oI hb23
      subst hqb23
      exact sD hg24 (rA he22a (rA he22b he22c)) hK) ?_
   refine xI h1 rfl (fun h1 hb25=>?_) (fun h1 hb25=>?_)
   ·
    refine nA 216 [2] (fun _=>none) rfl (fun _ _=>rS (rA he22a (rA he22b he22c))) ?_
    refine jA ?_
    obtain rfl:=oI h1
    refine zB (mA (mA (xC (mA ?_))))
    obtain rfl:=oI h0
    refine lA [] ?_
    exact rJ (rA he22a (rA he22b he22c))
   refine oA (pB (cA ?_))
   refine nB 232 [0,3] (fun _=>none) rfl (fun _ _=>rS (rA he22a (rA he22b he22c))) ?_
   refine cA ?_
   exact ⟨⟨(fu,(IntKind.i64.wrap (i18 + 1))),h1⟩,⟨rF,rE,rfl,rfl,trivial,trivial⟩,Nat.lt_succ_self _⟩
  refine dC (xA (xA (gC ?_)))
  obtain rfl:=oI h1
  exact ⟨_,rfl,rL,⟨rF,rE,rfl,rfl,trivial,trivial⟩⟩
theorem zoe {fu : Nat} {l1 : List aA} {r : Bool} (h0 : nX fu l1 = some r) : yA Tryz.prog 83 [.psl 4 (l1.map aA.enc)] (.bool r) []:=by
 refine dB Tryz.func83 rfl (by decide) rL ?_
 dsimp only [Tryz.f83]
 rw [nX] at h0
 refine xS 8 [0] ?_
 refine iA ?_
 refine xS 16 [0,3] ?_
 obtain ⟨x17,hxx17,h0⟩:=bA h0
 refine pC (fun s'=>∃ o26 : Unit,x17 = .inl o26 ∧ s'.nx ≤ 80 ∧ LeN [] s' ⟨[(0,.psl 4 (List.map aA.enc l1))],[],80,[]⟩) ?_ ?_
 ·
  intro s' hs
  obtain ⟨o26,rfl,hn,hs⟩:=hs
  refine cA ?_
  refine oB [] hn hs ?_
  refine xS 112 [2] ?_
  refine jA ?_
  obtain rfl:=oI h0
  exact lA [] rG
 refine lC (ι:={ p : Nat × Int // nK l1 p.1 p.2 = some x17 }) (fun p=>⟨[(0,.psl 4 (List.map aA.enc l1)),(3,.int .i64 p.1.2)],[],16,[]⟩) (fun p=>p.1.1) ⟨(fu,0),hxx17⟩ ⟨rF,rE,rfl,rfl,trivial,trivial⟩ (fun _=>Nat.le_refl _) ?_
 rintro ⟨⟨fu,i18⟩,h1⟩
 cases fu with
 | zero =>
  replace h1 : nK l1 0 i18 = some x17:=h1
  rw [nK] at h1; cases h1
 | succ fu =>
  replace h1 : nK l1 (fu + 1) i18 = some x17:=h1
  rw [nK] at h1
  dsimp only
  refine iA ?_
  obtain ⟨b19,hb19,h1⟩:=bA h1
  refine jC (fr':=[(0,.psl 4 (List.map aA.enc l1)),(3,.int .i64 i18),(11,.bool b19)]) (hp':=[]) [] 80 [0,3,11] (fun _=>none) rfl (fun Kt hK=>by
    cases hg20 : (decide (i18 < (l1.length : Int))) with
    | false =>
     replace hb19:=sA hb19 hg20
     have hqb19:=oI hb19
     subst hqb19
     exact rW hg20 hK
    | true =>
     replace hb19:=zA hb19 hg20
     have hqb19:=oI hb19
     subst hqb19
     exact rW hg20 hK) ?_
  refine xI h1 rfl (fun h1 hb21=>?_) (fun h1 hb21=>?_)
  ·
   refine oA (cA (iA (vB ?_)))
   obtain ⟨e22,he22,h1⟩:=bA h1
   obtain ⟨he22a,he22b,he22c⟩:=vA he22
   obtain ⟨b23,hb23,h1⟩:=bA h1
   refine jC (fr':=[(0,.psl 4 (List.map aA.enc l1)),(3,.int .i64 i18),(29,.bool b23)]) (hp':=[]) [] 208 [0,3,29] (fun _=>none) rfl (fun Kt hK=>by
     cases hg24 : (decide (100 < (e22.Key.length : Int))) with
     | false =>
      replace hb23:=sA hb23 hg24
      have hqb23:=oI hb23
      subst hqb23
      exact sD hg24 (rA he22a (rA he22b he22c)) hK
     | true =>
      replace hb23:=zA hb23 hg24
      have hqb23:=oI hb23
      subst hqb23
      exact sD hg24 (rA he22a (rA he22b he22c)) hK) ?_
   refine xI h1 rfl (fun h1 hb25=>?_) (fun h1 hb25=>?_)
   ·
    refine nA 216 [2] (fun _=>none) rfl (fun _ _=>rS (rA he22a (rA he22b he22c))) ?_
    refine jA ?_
    obtain rfl:=oI h1
    refine zB (mA (mA (xC (mA ?_))))
    obtain rfl:=oI h0
    refine lA [] ?_
    exact rJ (rA he22a (rA he22b he22c))
   refine oA (pB (cA ?_))
   refine nB 232 [0,3] (fun _=>none) rfl (fun _ _=>rS (rA he22a (rA he22b he22c))) ?_
   refine cA ?_
   exact ⟨⟨(fu,(IntKind.i64.wrap (i18 + 1))),h1⟩,⟨rF,rE,rfl,rfl,trivial,trivial⟩,Nat.lt_succ_self _⟩
  refine dC (xA (xA (gC ?_)))
  obtain rfl:=oI h1
  exact ⟨_,rfl,rL,⟨rF,rE,rfl,rfl,trivial,trivial⟩⟩
theorem zjo {fu : Nat} {l1 : List gB} {r : Bool} (h0 : kX fu l1 = some r) : yA Tryz.prog 51 [.psl 2 (l1.map gB.enc)] (.bool r) []:=by
 refine dB Tryz.func51 rfl (by decide) rL ?_
 dsimp only [Tryz.f51]
 rw [kX] at h0
 refine xS 8 [0] ?_
 refine iA ?_
 refine xS 16 [0,3] ?_
 obtain ⟨x15,hxx15,h0⟩:=bA h0
 refine pC (fun s'=>∃ o23 : Unit,x15 = .inl o23 ∧ s'.nx ≤ 80 ∧ LeN [] s' ⟨[(0,.psl 2 (List.map gB.enc l1))],[],80,[]⟩) ?_ ?_
 ·
  intro s' hs
  obtain ⟨o23,rfl,hn,hs⟩:=hs
  refine cA ?_
  refine oB [] hn hs ?_
  refine xS 112 [2] ?_
  refine jA ?_
  obtain rfl:=oI h0
  exact lA [] rG
 refine lC (ι:={ p : Nat × Int // tK l1 p.1 p.2 = some x15 }) (fun p=>⟨[(0,.psl 2 (List.map gB.enc l1)),(3,.int .i64 p.1.2)],[],16,[]⟩) (fun p=>p.1.1) ⟨(fu,0),hxx15⟩ ⟨rF,rE,rfl,rfl,trivial,trivial⟩ (fun _=>Nat.le_refl _) ?_
 rintro ⟨⟨fu,i16⟩,h1⟩
 cases fu with
 | zero =>
  replace h1 : tK l1 0 i16 = some x15:=h1
  rw [tK] at h1; cases h1
 | succ fu =>
  replace h1 : tK l1 (fu + 1) i16 = some x15:=h1
  rw [tK] at h1
  dsimp only
  refine iA ?_
  obtain ⟨b17,hb17,h1⟩:=bA h1
  refine jC (fr':=[(0,.psl 2 (List.map gB.enc l1)),(3,.int .i64 i16),(11,.bool b17)]) (hp':=[]) [] 80 [0,3,11] (fun _=>none) rfl (fun Kt hK=>by
    cases hg18 : (decide (i16 < (l1.length : Int))) with
    | false =>
     replace hb17:=sA hb17 hg18
     have hqb17:=oI hb17
     subst hqb17
     exact rW hg18 hK
    | true =>
     replace hb17:=zA hb17 hg18
     have hqb17:=oI hb17
     subst hqb17
     exact rW hg18 hK) ?_
  refine xI h1 rfl (fun h1 hb19=>?_) (fun h1 hb19=>?_)
  ·
   refine oA (cA (iA (vB ?_)))
   obtain ⟨e20,he20,h1⟩:=bA h1
   obtain ⟨he20a,he20b,he20c⟩:=vA he20
   obtain ⟨vr21,hvr21,h1⟩:=bA h1
   refine nA 128 [0,3,19] (fun | 5=>some (.bool vr21,[]) | _=>none) rfl (fun _ _=>rB (rA he20a (rA he20b he20c)) (zoe hvr21)) ?_
   refine xI h1 rfl (fun h1 hb22=>?_) (fun h1 hb22=>?_)
   ·
    refine nA 136 [2] (fun _=>none) rfl (fun _ _=>rS (rA he20a (rA he20b he20c))) ?_
    refine jA ?_
    obtain rfl:=oI h1
    refine zB (mA (mA (xC (mA ?_))))
    obtain rfl:=oI h0
    refine lA [] ?_
    exact rJ (rA he20a (rA he20b he20c))
   refine oA (pB (cA ?_))
   refine nB 152 [0,3] (fun _=>none) rfl (fun _ _=>rS (rA he20a (rA he20b he20c))) ?_
   refine cA ?_
   exact ⟨⟨(fu,(IntKind.i64.wrap (i16 + 1))),h1⟩,⟨rF,rE,rfl,rfl,trivial,trivial⟩,Nat.lt_succ_self _⟩
  refine dC (xA (xA (gC ?_)))
  obtain rfl:=oI h1
  exact ⟨_,rfl,rL,⟨rF,rE,rfl,rfl,trivial,trivial⟩⟩
theorem zek {fu : Nat} {l1 : eB} {r : Bool} (h0 : cU fu l1 = some r) : yA Tryz.prog 20 [.agg (eB.enc l1)] (.bool r) []:=by
 refine dB Tryz.func20 rfl (by decide) rL ?_
 dsimp only [Tryz.f20]
 rw [cU] at h0
 refine xS 16 [1] ?_
 refine iA ?_
 refine xS 24 [1,3] ?_
 obtain ⟨x15,hxx15,h0⟩:=bA h0
 refine pC (fun s'=>∃ o23 : Unit,x15 = .inl o23 ∧ s'.nx ≤ 96 ∧ LeN [] s' ⟨[(1,.ref 0 0 0 0)],[(0,⟨0,true,true,2,[[.int .i64 l1.B,.psl 1 (List.map qA.enc l1.Levels)]]⟩)],96,[]⟩) ?_ ?_
 ·
  intro s' hs
  obtain ⟨o23,rfl,hn,hs⟩:=hs
  refine cA ?_
  refine oB [] hn hs ?_
  refine xS 136 [2] ?_
  refine jA ?_
  obtain rfl:=oI h0
  exact lA [] rG
 refine lC (ι:={ p : Nat × Int // zK l1 p.1 p.2 = some x15 }) (fun p=>⟨[(1,.ref 0 0 0 0),(3,.int .i64 p.1.2)],[(0,⟨0,true,true,2,[[.int .i64 l1.B,.psl 1 (List.map qA.enc l1.Levels)]]⟩)],24,[]⟩) (fun p=>p.1.1) ⟨(fu,0),hxx15⟩ ⟨rF,rE,rfl,rfl,trivial,trivial⟩ (fun _=>Nat.le_refl _) ?_
 rintro ⟨⟨fu,i16⟩,h1⟩
 cases fu with
 | zero =>
  replace h1 : zK l1 0 i16 = some x15:=h1
  rw [zK] at h1; cases h1
 | succ fu =>
  replace h1 : zK l1 (fu + 1) i16 = some x15:=h1
  rw [zK] at h1
  dsimp only
  refine iA ?_
  obtain ⟨b17,hb17,h1⟩:=bA h1
  refine jC (fr':=[(1,.ref 0 0 0 0),(3,.int .i64 i16),(12,.bool b17)]) (hp':=[(0,⟨0,true,true,2,[[.int .i64 l1.B,.psl 1 (List.map qA.enc l1.Levels)]]⟩)]) [0] 96 [1,3,12] (fun _=>none) rfl (fun Kt hK=>by
    cases hg18 : (decide (i16 < (l1.Levels.length : Int))) with
    | false =>
     replace hb17:=sA hb17 hg18
     have hqb17:=oI hb17
     subst hqb17
     exact rW hg18 hK
    | true =>
     replace hb17:=zA hb17 hg18
     have hqb17:=oI hb17
     subst hqb17
     exact rW hg18 hK) ?_
  refine xI h1 rfl (fun h1 hb19=>?_) (fun h1 hb19=>?_)
  ·
   refine oA (cA (iA (vB ?_)))
   obtain ⟨e20,he20,h1⟩:=bA h1
   obtain ⟨he20a,he20b,he20c⟩:=vA he20
   obtain ⟨vr21,hvr21,h1⟩:=bA h1
   refine nA 152 [1,3,21] (fun | 6=>some (.bool vr21,[]) | _=>none) rfl (fun _ _=>rB (rA he20a (rA he20b he20c)) (zjo hvr21)) ?_
   refine xI h1 rfl (fun h1 hb22=>?_) (fun h1 hb22=>?_)
   ·
    refine nA 160 [2] (fun _=>none) rfl (fun _ _=>rS (rA he20a (rA he20b he20c))) ?_
    refine jA ?_
    obtain rfl:=oI h1
    refine zB (mA (mA (xC (mA ?_))))
    obtain rfl:=oI h0
    refine lA [] ?_
    exact rJ (rA he20a (rA he20b he20c))
   refine oA (pB (cA ?_))
   refine nB 176 [1,3] (fun _=>none) rfl (fun _ _=>rS (rA he20a (rA he20b he20c))) ?_
   refine cA ?_
   exact ⟨⟨(fu,(IntKind.i64.wrap (i16 + 1))),h1⟩,⟨rF,rE,rfl,rfl,trivial,trivial⟩,Nat.lt_succ_self _⟩
  refine dC (xA (xA (gC ?_)))
  obtain rfl:=oI h1
  exact ⟨_,rfl,rL,⟨rF,rE,rfl,rfl,trivial,trivial⟩⟩
theorem zkV {fu : Nat} {vs1 : cB} {r : Bool} (h0 : pW fu vs1 = some r) : yA Tryz.prog 6 [.agg (cB.enc vs1)] (.bool r) []:=by
 refine dB Tryz.func6 rfl (by decide) rL ?_
 dsimp only [Tryz.f6,List.append]
 rw [pW] at h0
 refine xS 16 [1] ?_
 refine iA ?_
 refine xS 24 [1,3] ?_
 obtain ⟨x99,hxx99,h0⟩:=bA h0
 refine pC (fun s'=>∃ o149 : Unit,x99 = .inl o149 ∧ s'.nx ≤ 96 ∧ LeN [] s' ⟨[(1,.ref 0 0 0 0)],[(0,⟨0,true,true,4,[[.int .i64 vs1.Levels.B,.psl 1 (List.map qA.enc vs1.Levels.Levels),.psl 11 (List.map bB.enc vs1.Jobs),.int .i64 vs1.NextId]]⟩)],96,[]⟩) ?_ ?_
 ·
  intro s' hs
  obtain ⟨o149,rfl,hn,hs⟩:=hs
  refine cA ?_
  refine oB [] hn hs ?_
  obtain ⟨b151,hb151,h0⟩:=bA h0
  refine jC (fr':=[(2,.bool b151)]) (hp':=[(0,⟨0,true,true,4,[[.int .i64 vs1.Levels.B,.psl 1 (List.map qA.enc vs1.Levels.Levels),.psl 11 (List.map bB.enc vs1.Jobs),.int .i64 vs1.NextId]]⟩)]) [0] 176 [2] (fun | 7=>(cU fu vs1.Levels).bind fun vr150=>some (.bool vr150,[]) | _=>none) rfl (fun Kt hK=>by
    cases hg152 : (decide (14 < (vs1.Jobs.length : Int))) with
    | false =>
     replace hb151:=sA hb151 hg152
     obtain ⟨vr150,hvr150,hb151⟩:=bA hb151
     have hqb151:=oI hb151
     subst hqb151
     first | exact dI hg152 hvr150 (zek hvr150) hK | exact sD hg152 hvr150 hK
    | true =>
     replace hb151:=zA hb151 hg152
     have hqb151:=oI hb151
     subst hqb151
     first | exact fJ hg152 (zek hvr150) hK | exact rW hg152 hK) ?_
  refine jA ?_
  obtain rfl:=oI h0
  exact lA [] rG
 refine lC (ι:={ p : Nat × Int // nJ vs1 p.1 p.2 = some x99 }) (fun p=>⟨[(1,.ref 0 0 0 0),(3,.int .i64 p.1.2)],[(0,⟨0,true,true,4,[[.int .i64 vs1.Levels.B,.psl 1 (List.map qA.enc vs1.Levels.Levels),.psl 11 (List.map bB.enc vs1.Jobs),.int .i64 vs1.NextId]]⟩)],24,[]⟩) (fun p=>p.1.1) ⟨(fu,0),hxx99⟩ ⟨rF,rE,rfl,rfl,trivial,trivial⟩ (fun _=>Nat.le_refl _) ?_
 rintro ⟨⟨fu,i100⟩,h1⟩
 cases fu with
 | zero =>
  replace h1 : nJ vs1 0 i100 = some x99:=h1
  rw [nJ] at h1; cases h1
 | succ fu =>
  replace h1 : nJ vs1 (fu + 1) i100 = some x99:=h1
  rw [nJ] at h1
  dsimp only
  refine iA ?_
  obtain ⟨b101,hb101,h1⟩:=bA h1
  refine jC (fr':=[(1,.ref 0 0 0 0),(3,.int .i64 i100),(14,.bool b101)]) (hp':=[(0,⟨0,true,true,4,[[.int .i64 vs1.Levels.B,.psl 1 (List.map qA.enc vs1.Levels.Levels),.psl 11 (List.map bB.enc vs1.Jobs),.int .i64 vs1.NextId]]⟩)]) [0] 96 [1,3,14] (fun _=>none) rfl (fun Kt hK=>by
    cases hg102 : (decide (i100 < (vs1.Jobs.length : Int))) with
    | false =>
     replace hb101:=sA hb101 hg102
     have hqb101:=oI hb101
     subst hqb101
     exact rW hg102 hK
    | true =>
     replace hb101:=zA hb101 hg102
     have hqb101:=oI hb101
     subst hqb101
     exact rW hg102 hK) ?_
  refine xI h1 rfl (fun h1 hb103=>?_) (fun h1 hb103=>?_)
  ·
   refine oA (cA (iA (vB ?_)))
   obtain ⟨e104,he104,h1⟩:=bA h1
   obtain ⟨he104a,he104b,he104c⟩:=vA he104
   refine nA 160 [1,3,4] (fun _=>none) rfl (fun _ _=>rS (rA he104a (rA he104b he104c))) ?_
   refine iA ?_
   refine nA 168 [1,3,4,5] (fun _=>none) rfl (fun _ _=>rS (rA he104a (rA he104b he104c))) ?_
   obtain ⟨x118,hxx118,h1⟩:=bA h1
   refine pC (fun s'=>∃ o126 : Unit,x118 = .inl o126 ∧ s'.nx ≤ 248 ∧ LeN [] s' ⟨[(1,.ref 0 0 0 0),(3,.int .i64 i100),(4,.ref 144 0 0 0)],[(0,⟨0,true,true,4,[[.int .i64 vs1.Levels.B,.psl 1 (List.map qA.enc vs1.Levels.Levels),.psl 11 (List.map bB.enc vs1.Jobs),.int .i64 vs1.NextId]]⟩),(144,⟨0,true,true,10,[[.psl 1 (List.map (tA 4 aA.enc) e104.Work.Merge.Runs),.psl 1 (List.map (gA .i64) e104.Work.Merge.At),.psl 2 (List.map eA.enc e104.Work.Merge.Tree.Keys),.psl 1 (List.map (gA .i64) e104.Work.Merge.Tree.Lose),.int .i64 e104.Work.Merge.Tree.Win,.bool e104.Work.Shadow.Some,.str e104.Work.Shadow.Last,.bool e104.Work.Shadow.Bottom,.psl 4 (List.map aA.enc e104.Work.Out),.int .i64 e104.Work.Steps]]⟩)],248,[]⟩) ?_ ?_
   ·
    intro s' hs
    obtain ⟨o126,rfl,hn,hs⟩:=hs
    refine cA ?_
    refine oB [] hn hs ?_
    obtain ⟨vr127,hvr127,h1⟩:=bA h1
    obtain ⟨b128,hb128,h1⟩:=bA h1
    obtain ⟨b129,hb129,h1⟩:=bA h1
    obtain ⟨b130,hb130,h1⟩:=bA h1
    obtain ⟨b131,hb131,h1⟩:=bA h1
    obtain ⟨b132,hb132,h1⟩:=bA h1
    refine jC (fr':=[(1,.ref 0 0 0 0),(3,.int .i64 i100),(81,.bool b132)]) (hp':=[(0,⟨0,true,true,4,[[.int .i64 vs1.Levels.B,.psl 1 (List.map qA.enc vs1.Levels.Levels),.psl 11 (List.map bB.enc vs1.Jobs),.int .i64 vs1.NextId]]⟩),(144,⟨0,true,true,10,[[.psl 1 (List.map (tA 4 aA.enc) e104.Work.Merge.Runs),.psl 1 (List.map (gA .i64) e104.Work.Merge.At),.psl 2 (List.map eA.enc e104.Work.Merge.Tree.Keys),.psl 1 (List.map (gA .i64) e104.Work.Merge.Tree.Lose),.int .i64 e104.Work.Merge.Tree.Win,.bool e104.Work.Shadow.Some,.str e104.Work.Shadow.Last,.bool e104.Work.Shadow.Bottom,.psl 4 (List.map aA.enc e104.Work.Out),.int .i64 e104.Work.Steps]]⟩)]) [0,144] 568 [1,3,81] (fun | 2=>some (.bool vr127,[]) | _=>none) rfl (fun Kt hK=>by
      cases vr127 with
      | false =>
       replace hb128:=sA hb128 rfl
       have hqb128:=oI hb128
       cases b128 with
       | false =>
        replace hb129:=sA hb129 rfl
        have hqb129:=oI hb129
        cases b129 with
        | false =>
         replace hb130:=sA hb130 rfl
         have hqb130:=oI hb130
         cases b130 with
         | false =>
          replace hb131:=sA hb131 rfl
          have hqb131:=oI hb131
          cases b131 with
          | false =>
           replace hb132:=sA hb132 rfl
           have hqb132:=oI hb132
           subst hqb132
           first | exact dI (rA hqb128 (rA hqb129 (rA hqb130 hqb131))) (rA he104a (rA he104b he104c)) (iT hvr127) hK | exact sD (rA hqb128 (rA hqb129 (rA hqb130 hqb131))) (rA he104a (rA he104b he104c)) hK
          | true =>
           replace hb132:=zA hb132 rfl
           have hqb132:=oI hb132
           subst hqb132
           first | exact dI (rA hqb128 (rA hqb129 (rA hqb130 hqb131))) (rA he104a (rA he104b he104c)) (iT hvr127) hK | exact sD (rA hqb128 (rA hqb129 (rA hqb130 hqb131))) (rA he104a (rA he104b he104c)) hK
         | true =>
          replace hb131:=zA hb131 rfl
          have hqb131:=oI hb131
          cases b131 with
          | false =>
           cases hqb131
          | true =>
           replace hb132:=zA hb132 rfl
           have hqb132:=oI hb132
           subst hqb132
           first | exact dI (rA hqb128 (rA hqb129 hqb130)) (rA he104a (rA he104b he104c)) (iT hvr127) hK | exact sD (rA hqb128 (rA hqb129 hqb130)) (rA he104a (rA he104b he104c)) hK
        | true =>
         replace hb130:=zA hb130 rfl
         have hqb130:=oI hb130
         cases b130 with
         | false =>
          cases hqb130
         | true =>
          replace hb131:=zA hb131 rfl
          have hqb131:=oI hb131
          cases b131 with
          | false =>
           cases hqb131
          | true =>
           replace hb132:=zA hb132 rfl
           have hqb132:=oI hb132
           subst hqb132
           first | exact dI (rA hqb128 hqb129) (rA he104a (rA he104b he104c)) (iT hvr127) hK | exact sD (rA hqb128 hqb129) (rA he104a (rA he104b he104c)) hK
       | true =>
        replace hb129:=zA hb129 rfl
        have hqb129:=oI hb129
        cases b129 with
        | false =>
         cases hqb129
        | true =>
         replace hb130:=zA hb130 rfl
         have hqb130:=oI hb130
         cases b130 with
         | false =>
          cases hqb130
         | true =>
          replace hb131:=zA hb131 rfl
          have hqb131:=oI hb131
          cases b131 with
          | false =>
           cases hqb131
          | true =>
           replace hb132:=zA hb132 rfl
           have hqb132:=oI hb132
           subst hqb132
           first | exact dI hqb128 (rA he104a (rA he104b he104c)) (iT hvr127) hK | exact sD hqb128 (rA he104a (rA he104b he104c)) hK
      | true =>
       replace hb128:=zA hb128 rfl
       have hqb128:=oI hb128
       cases b128 with
       | false =>
        cases hqb128
       | true =>
        replace hb129:=zA hb129 rfl
        have hqb129:=oI hb129
        cases b129 with
        | false =>
         cases hqb129
        | true =>
         replace hb130:=zA hb130 rfl
         have hqb130:=oI hb130
         cases b130 with
         | false =>
          cases hqb130
         | true =>
          replace hb131:=zA hb131 rfl
          have hqb131:=oI hb131
          cases b131 with
          | false =>
           cases hqb131
          | true =>
           replace hb132:=zA hb132 rfl
           have hqb132:=oI hb132
           subst hqb132
           try have q0:=iT hvr127
           exact rS (rA he104a (rA he104b he104c))) ?_
    refine xI h1 rfl (fun h1 hb148=>?_) (fun h1 hb148=>?_)
    ·
     refine nA 576 [2] (fun _=>none) rfl (fun _ _=>rS (rA he104a (rA he104b he104c))) ?_
     refine jA ?_
     obtain rfl:=oI h1
     refine zB (mA (mA (xC (mA ?_))))
     obtain rfl:=oI h0
     refine lA [] ?_
     exact rJ (rA he104a (rA he104b he104c))
    refine oA (pB (cA ?_))
    refine nB 592 [1,3] (fun _=>none) rfl (fun _ _=>rS (rA he104a (rA he104b he104c))) ?_
    refine cA ?_
    exact ⟨⟨(fu,(IntKind.i64.wrap (i100 + 1))),h1⟩,⟨rF,rE,rfl,rfl,trivial,trivial⟩,Nat.lt_succ_self _⟩
   refine lC (ι:={ p : Nat × Int // mK e104 p.1 p.2 = some x118 }) (fun p=>⟨[(1,.ref 0 0 0 0),(3,.int .i64 i100),(4,.ref 144 0 0 0),(5,.int .i64 p.1.2)],[(0,⟨0,true,true,4,[[.int .i64 vs1.Levels.B,.psl 1 (List.map qA.enc vs1.Levels.Levels),.psl 11 (List.map bB.enc vs1.Jobs),.int .i64 vs1.NextId]]⟩),(144,⟨0,true,true,10,[[.psl 1 (List.map (tA 4 aA.enc) e104.Work.Merge.Runs),.psl 1 (List.map (gA .i64) e104.Work.Merge.At),.psl 2 (List.map eA.enc e104.Work.Merge.Tree.Keys),.psl 1 (List.map (gA .i64) e104.Work.Merge.Tree.Lose),.int .i64 e104.Work.Merge.Tree.Win,.bool e104.Work.Shadow.Some,.str e104.Work.Shadow.Last,.bool e104.Work.Shadow.Bottom,.psl 4 (List.map aA.enc e104.Work.Out),.int .i64 e104.Work.Steps]]⟩)],168,[]⟩) (fun p=>p.1.1) ⟨(fu,0),hxx118⟩ ⟨rF,rE,rfl,rfl,trivial,trivial⟩ (fun _=>Nat.le_refl _) ?_
   rintro ⟨⟨fu,k119⟩,h2⟩
   cases fu with
   | zero =>
  replace h2 : mK e104 0 k119 = some x118:=h2
  rw [mK] at h2; cases h2
   | succ fu =>
    replace h2 : mK e104 (fu + 1) k119 = some x118:=h2
    rw [mK] at h2
    dsimp only
    refine iA ?_
    obtain ⟨b120,hb120,h2⟩:=bA h2
    refine jC (fr':=[(1,.ref 0 0 0 0),(3,.int .i64 i100),(4,.ref 144 0 0 0),(5,.int .i64 k119),(32,.bool b120)]) (hp':=[(0,⟨0,true,true,4,[[.int .i64 vs1.Levels.B,.psl 1 (List.map qA.enc vs1.Levels.Levels),.psl 11 (List.map bB.enc vs1.Jobs),.int .i64 vs1.NextId]]⟩),(144,⟨0,true,true,10,[[.psl 1 (List.map (tA 4 aA.enc) e104.Work.Merge.Runs),.psl 1 (List.map (gA .i64) e104.Work.Merge.At),.psl 2 (List.map eA.enc e104.Work.Merge.Tree.Keys),.psl 1 (List.map (gA .i64) e104.Work.Merge.Tree.Lose),.int .i64 e104.Work.Merge.Tree.Win,.bool e104.Work.Shadow.Some,.str e104.Work.Shadow.Last,.bool e104.Work.Shadow.Bottom,.psl 4 (List.map aA.enc e104.Work.Out),.int .i64 e104.Work.Steps]]⟩)]) [0,144] 248 [1,3,4,5,32] (fun _=>none) rfl (fun Kt hK=>by
      cases hg121 : (decide (k119 < (e104.Work.Merge.Runs.length : Int))) with
      | false =>
       replace hb120:=sA hb120 hg121
       have hqb120:=oI hb120
       subst hqb120
       exact sD hg121 (rA he104a (rA he104b he104c)) hK
      | true =>
       replace hb120:=zA hb120 hg121
       have hqb120:=oI hb120
       subst hqb120
       exact sD hg121 (rA he104a (rA he104b he104c)) hK) ?_
    refine xI h2 rfl (fun h2 hb122=>?_) (fun h2 hb122=>?_)
    ·
     refine oA (cA (iA (vB ?_)))
     obtain ⟨e123,he123,h2⟩:=bA h2
     obtain ⟨he123a,he123b,he123c⟩:=vA he123
     obtain ⟨vr124,hvr124,h2⟩:=bA h2
     refine nA 304 [1,3,4,5,41] (fun | 6=>some (.bool vr124,[]) | _=>none) rfl (fun _ _=>rB (rA he104a (rA he104b (rA he104c (rA he123a (rA he123b he123c))))) (iT hvr124)) ?_
     refine xI h2 rfl (fun h2 hb125=>?_) (fun h2 hb125=>?_)
     ·
      refine nA 312 [2] (fun _=>none) rfl (fun _ _=>rS (rA he104a (rA he104b (rA he104c (rA he123a (rA he123b he123c)))))) ?_
      refine jA ?_
      obtain rfl:=oI h2
      obtain rfl:=oI h1
      refine zB (mA (mA (xC (mA (zB (mA (mA (xC (mA ?_)))))))))
      obtain rfl:=oI h0
      refine lA [] ?_
      exact rJ (rA he104a (rA he104b (rA he104c (rA he123a (rA he123b he123c)))))
     refine oA (pB (cA ?_))
     refine nB 328 [1,3,4,5] (fun _=>none) rfl (fun _ _=>rS (rA he104a (rA he104b (rA he104c (rA he123a (rA he123b he123c)))))) ?_
     refine cA ?_
     exact ⟨⟨(fu,(IntKind.i64.wrap (k119 + 1))),h2⟩,⟨rF,rE,rfl,rfl,trivial,trivial⟩,Nat.lt_succ_self _⟩
    refine dC (xA (xA (gC ?_)))
    obtain rfl:=oI h2
    exact ⟨_,rfl,rL,⟨rF,rE,rfl,rfl,trivial,trivial⟩⟩
  refine dC (xA (xA (gC ?_)))
  obtain rfl:=oI h1
  exact ⟨_,rfl,rL,⟨rF,rE,rfl,rfl,trivial,trivial⟩⟩
theorem zbX {fu : Nat} {bottom1 : Bool} {r : lB} (h0 : sM fu bottom1 = some r) : yA Tryz.prog 87 [.bool bottom1] (.agg (lB.enc r)) []:=by
 refine dB Tryz.func87 rfl (by decide) rL ?_
 dsimp only [Tryz.f87]
 rw [sM] at h0
 refine xS 8 [0,2] ?_
 refine xS 32 [2] ?_
 refine jA ?_
 obtain rfl:=oI h0
 exact lA [] rG
theorem zbL {fu : Nat} {k1 : List UInt8} {r : Int} (h0 : wM fu k1 = some r) : yA Tryz.prog 146 [.str k1] (.int .i64 r) []:=by
 refine dB Tryz.func146 rfl (by decide) rL ?_
 dsimp only [Tryz.f146]
 rw [wM] at h0
 refine xS 8 [0] ?_
 refine iA ?_
 refine xS 32 [5] ?_
 refine xI h0 rfl (fun h0 hb2=>?_) (fun h0 hb2=>?_)
 ·
  refine xS 40 [2] ?_
  refine jA (mA ?_)
  obtain rfl:=oI h0
  exact lA [] rG
 refine oA (cA ?_)
 refine xS 40 [2] ?_
 refine jA ?_
 obtain rfl:=oI h0
 exact lA [] rG
theorem zbF {fu : Nat} {vx1 : aA} {r : Int} (h0 : tO fu vx1 = some r) : yA Tryz.prog 135 [.agg (aA.enc vx1)] (.int .i64 r) []:=by
 refine dB Tryz.func135 rfl (by decide) rL ?_
 dsimp only [Tryz.f135]
 rw [tO] at h0
 refine xS 16 [1] ?_
 refine iA (vB ?_)
 obtain ⟨vr2,hvr2,h0⟩:=bA h0
 obtain ⟨b3,hb3,h0⟩:=bA h0
 refine jC (fr':=[(1,.ref 0 0 0 0),(3,.bool b3)]) (hp':=[(0,⟨0,true,true,4,[[.str vx1.Key,.str vx1.Val,.bool vx1.Dead,.int .i64 vx1.Seq]]⟩)]) [0] 104 [1,3] (fun | 2=>some (.int .i64 vr2,[]) | _=>none) rfl (fun Kt hK=>by
   cases hg4 : (!(decide (vr2 = 0))) with
   | false =>
    replace hb3:=sA hb3 hg4
    have hqb3:=oI hb3
    subst hqb3
    first | exact fJ hg4 (zbL hvr2) hK | exact rW hg4 hK
   | true =>
    replace hb3:=zA hb3 hg4
    have hqb3:=oI hb3
    subst hqb3
    first | exact fJ hg4 (zbL hvr2) hK | exact rW hg4 hK) ?_
 refine xI h0 rfl (fun h0 hb5=>?_) (fun h0 hb5=>?_)
 ·
  refine xS 112 [2] ?_
  refine jA (zB (mA ?_))
  obtain rfl:=oI h0
  exact lA [] rG
 obtain ⟨b6,hb6,h0⟩:=bA h0
 refine jC (fr':=[(1,.ref 0 0 0 0),(14,.bool b6)]) (hp':=[(0,⟨0,true,true,4,[[.str vx1.Key,.str vx1.Val,.bool vx1.Dead,.int .i64 vx1.Seq]]⟩)]) [0] 168 [1,14] (fun _=>none) rfl (fun Kt hK=>by
   cases hg7 : vx1.Dead with
   | false =>
    replace hb6:=sA hb6 hg7
    have hqb6:=oI hb6
    subst hqb6
    exact rW hg7 hK
   | true =>
    replace hb6:=zA hb6 hg7
    have hqb6:=oI hb6
    subst hqb6
    exact rW hg7 hK) ?_
 refine xI h0 rfl (fun h0 hb8=>?_) (fun h0 hb8=>?_)
 ·
  refine xS 176 [2] ?_
  refine jA (zB (mA ?_))
  obtain rfl:=oI h0
  exact lA [] rG
 obtain ⟨b9,hb9,h0⟩:=bA h0
 refine jC (fr':=[(22,.bool b9)]) (hp':=[(0,⟨0,true,true,4,[[.str vx1.Key,.str vx1.Val,.bool vx1.Dead,.int .i64 vx1.Seq]]⟩)]) [0] 240 [22] (fun _=>none) rfl (fun Kt hK=>by
   cases hg10 : (decide (vx1.Seq < 1)) with
   | false =>
    replace hb9:=sA hb9 hg10
    have hqb9:=oI hb9
    subst hqb9
    exact rW hg10 hK
   | true =>
    replace hb9:=zA hb9 hg10
    have hqb9:=oI hb9
    subst hqb9
    exact rW hg10 hK) ?_
 refine xI h0 rfl (fun h0 hb11=>?_) (fun h0 hb11=>?_)
 ·
  refine xS 248 [2] ?_
  refine jA (zB (mA ?_))
  obtain rfl:=oI h0
  exact lA [] rG
 refine oA (pB (cA ?_))
 refine xS 248 [2] ?_
 refine jA ?_
 obtain rfl:=oI h0
 exact lA [] rG
theorem zc8 {fu : Nat} {l1 : List aA} {r : Int × Int} (h0 : pJ fu l1 = some r) : yA Tryz.prog 124 [.psl 4 (l1.map aA.enc)] (.tup [.int .i64 r.1,.int .i64 r.2]) []:=by
 refine dB Tryz.func124 rfl (by decide) rL ?_
 dsimp only [Tryz.f124]
 rw [pJ] at h0
 refine xS 16 [0] ?_
 refine iA ?_
 refine xS 40 [0,9] ?_
 refine xI h0 rfl (fun h0 hb2=>?_) (fun h0 hb2=>?_)
 ·
  refine xS 56 [2,3] ?_
  refine jA (mA ?_)
  obtain rfl:=oI h0
  exact lA [] rG
 refine oA (cA (iA ?_))
 refine xS 64 [0,10,11,12] ?_
 obtain ⟨x16,hxx16,h0⟩:=bA h0
 refine pC (fun s'=>∃ o26 : Unit,x16 = .inl o26 ∧ s'.nx ≤ 72 ∧ LeN [] s' ⟨[],[],72,[]⟩) ?_ ?_
 ·
  intro s' hs
  obtain ⟨o26,rfl,hn,hs⟩:=hs
  refine cA ?_
  refine oB [] hn hs ?_
  refine xS 88 [2,3] ?_
  refine jA ?_
  obtain rfl:=oI h0
  exact lA [] rG
 refine lC (ι:={ p : Nat × Int // oF l1 p.1 p.2 = some x16 }) (fun p=>⟨[(0,.psl 4 (List.map aA.enc l1)),(10,.psl 4 (List.map aA.enc l1)),(11,.int .i64 (l1.length : Int)),(12,.int .i64 p.1.2)],[],64,[]⟩) (fun p=>p.1.1) ⟨(fu,0),hxx16⟩ ⟨rF,rE,rfl,rfl,trivial,trivial⟩ (fun _=>Nat.le_refl _) ?_
 rintro ⟨⟨fu,v17⟩,h1⟩
 cases fu with
 | zero =>
  replace h1 : oF l1 0 v17 = some x16:=h1
  rw [oF] at h1; cases h1
 | succ fu =>
  replace h1 : oF l1 (fu + 1) v17 = some x16:=h1
  rw [oF] at h1
  dsimp only
  refine xS 72 [0,10,11,12,13] ?_
  refine iA ?_
  refine xI h1 rfl (fun h1 hb18=>?_) (fun h1 hb18=>?_)
  ·
   refine oA (cA (iA (vB ?_)))
   obtain ⟨e19,he19,h1⟩:=bA h1
   obtain ⟨he19a,he19b,he19c⟩:=vA he19
   refine nA 120 [0,4,5,10,11,12] (fun _=>none) rfl (fun _ _=>rS (rA he19a (rA he19b he19c))) ?_
   refine iA ?_
   obtain ⟨vr20,hvr20,h1⟩:=bA h1
   refine nA 144 [0,4,5,6,10,11,12] (fun | 1=>some (.int .i64 vr20,[]) | _=>none) rfl (fun _ _=>rB (rA he19a (rA he19b he19c)) (zbF hvr20)) ?_
   refine nA 160 [0,4,5,6,10,11,12,20] (fun _=>none) rfl (fun _ _=>rS (rA he19a (rA he19b he19c))) ?_
   refine xI h1 rfl (fun h1 hb21=>?_) (fun h1 hb21=>?_)
   ·
    refine nA 192 [2,3] (fun _=>none) rfl (fun _ _=>rS (rA he19a (rA he19b he19c))) ?_
    refine jA ?_
    obtain rfl:=oI h1
    refine mA (zB (mA (mA (xC (mA ?_)))))
    obtain rfl:=oI h0
    refine lA [] ?_
    exact rJ (rA he19a (rA he19b he19c))
   refine oA (cA ?_)
   obtain ⟨b23,hb23,h1⟩:=bA h1
   refine iL (fr':=[(0,.psl 4 (List.map aA.enc l1)),(4,.int .i64 v17),(10,.psl 4 (List.map aA.enc l1)),(11,.int .i64 (l1.length : Int)),(12,.int .i64 v17),(35,.bool b23)]) (hp':=[(96,⟨0,true,true,4,[[.str e19.Key,.str e19.Val,.bool e19.Dead,.int .i64 e19.Seq]]⟩)]) [96] 264 [0,4,10,11,12,35] (fun _=>none) rfl rfl rfl (fun Kt hK=>by
     cases hg24 : (decide (0 < v17)) with
     | false =>
      replace hb23:=sA hb23 hg24
      have hqb23:=oI hb23
      subst hqb23
      exact yG hg24 (rA he19a (rA he19b he19c)) hK
     | true =>
      replace hb23:=zA hb23 hg24
      obtain ⟨e22,he22,hb23⟩:=bA hb23
      obtain ⟨he22a,he22b,he22c⟩:=vA he22
      have hqb23:=oI hb23
      subst hqb23
      exact yG hg24 (rA he19a (rA he19b (rA he19c (rA he22a (rA he22b (rA he22c he22)))))) hK) ?_
   refine xI h1 rfl (fun h1 hb25=>?_) (fun h1 hb25=>?_)
   ·
    refine nA 288 [2,3] (fun _=>none) rfl (fun _ _=>rS (rA he19a (rA he19b he19c))) ?_
    refine jA ?_
    obtain rfl:=oI h1
    refine zB (mA (mA (xC (mA ?_))))
    obtain rfl:=oI h0
    refine lA [] ?_
    exact rJ (rA he19a (rA he19b he19c))
   refine oA (pB (cA ?_))
   refine nB 280 [0,10,11,12] (fun _=>none) rfl (fun _ _=>rS (rA he19a (rA he19b he19c))) ?_
   refine cA ?_
   exact ⟨⟨(fu,(IntKind.i64.wrap (v17 + 1))),h1⟩,⟨rF,rE,rfl,rfl,trivial,trivial⟩,Nat.lt_succ_self _⟩
  refine dC (xA (xA (gC ?_)))
  obtain rfl:=oI h1
  exact ⟨_,rfl,rL,⟨rF,rE,rfl,rfl,trivial,trivial⟩⟩
theorem zaY {fu : Nat} {runs1 : List (List aA)} {r : Int × Int} (h0 : yJ fu runs1 = some r) : yA Tryz.prog 106 [.psl 1 (runs1.map (tA 4 aA.enc))] (.tup [.int .i64 r.1,.int .i64 r.2]) []:=by
 refine dB Tryz.func106 rfl (by decide) rL ?_
 dsimp only [Tryz.f106]
 rw [yJ] at h0
 refine xS 16 [0] ?_
 refine iA (vB ?_)
 refine xS 48 [0,8] ?_
 refine xI h0 rfl (fun h0 hb2=>?_) (fun h0 hb2=>?_)
 ·
  refine xS 64 [2,3] ?_
  refine jA (zB (mA ?_))
  obtain rfl:=oI h0
  exact lA [] rG
 refine xS 80 [0,12] ?_
 refine xI h0 rfl (fun h0 hb3=>?_) (fun h0 hb3=>?_)
 ·
  refine xS 96 [2,3] ?_
  refine jA (zB (mA ?_))
  obtain rfl:=oI h0
  exact lA [] rG
 refine oA (pB (cA (iA ?_)))
 refine xS 104 [16,17,18] ?_
 obtain ⟨x13,hxx13,h0⟩:=bA h0
 refine pC (fun s'=>∃ o19 : Unit,x13 = .inl o19 ∧ s'.nx ≤ 112 ∧ LeN [] s' ⟨[],[],112,[]⟩) ?_ ?_
 ·
  intro s' hs
  obtain ⟨o19,rfl,hn,hs⟩:=hs
  refine cA ?_
  refine oB [] hn hs ?_
  refine xS 128 [2,3] ?_
  refine jA ?_
  obtain rfl:=oI h0
  exact lA [] rG
 refine lC (ι:={ p : Nat × Int // nF runs1 p.1 p.2 = some x13 }) (fun p=>⟨[(16,.psl 1 (List.map (tA 4 aA.enc) runs1)),(17,.int .i64 (runs1.length : Int)),(18,.int .i64 p.1.2)],[],104,[]⟩) (fun p=>p.1.1) ⟨(fu,0),hxx13⟩ ⟨rF,rE,rfl,rfl,trivial,trivial⟩ (fun _=>Nat.le_refl _) ?_
 rintro ⟨⟨fu,v14⟩,h1⟩
 cases fu with
 | zero =>
  replace h1 : nF runs1 0 v14 = some x13:=h1
  rw [nF] at h1; cases h1
 | succ fu =>
  replace h1 : nF runs1 (fu + 1) v14 = some x13:=h1
  rw [nF] at h1
  dsimp only
  refine xS 112 [16,17,18,19] ?_
  refine iA ?_
  refine xI h1 rfl (fun h1 hb15=>?_) (fun h1 hb15=>?_)
  ·
   refine oA (cA (iA (vB ?_)))
   obtain ⟨e16,he16,h1⟩:=bA h1
   obtain ⟨he16a,he16b,he16c⟩:=vA he16
   refine nA 152 [4,5,16,17,18] (fun _=>none) rfl (fun _ _=>rS (rA he16a (rA he16b he16c))) ?_
   obtain ⟨vr17,hvr17,h1⟩:=bA h1
   refine nA 208 [4,7,16,17,18] (fun | 1=>some (.tup [.int .i64 vr17.1,.int .i64 vr17.2],[]) | _=>none) rfl (fun _ _=>rB (rA he16a (rA he16b he16c)) (zc8 hvr17)) ?_
   refine nA 224 [4,7,16,17,18,29] (fun _=>none) rfl (fun _ _=>rS (rA he16a (rA he16b he16c))) ?_
   refine xI h1 rfl (fun h1 hb18=>?_) (fun h1 hb18=>?_)
   ·
    refine nA 256 [2,3] (fun _=>none) rfl (fun _ _=>rS (rA he16a (rA he16b he16c))) ?_
    refine jA ?_
    obtain rfl:=oI h1
    refine zB (mA (mA (xC (mA ?_))))
    obtain rfl:=oI h0
    refine lA [] ?_
    exact rJ (rA he16a (rA he16b he16c))
   refine oA (pB (cA ?_))
   refine nB 240 [16,17,18] (fun _=>none) rfl (fun _ _=>rS (rA he16a (rA he16b he16c))) ?_
   refine cA ?_
   exact ⟨⟨(fu,(IntKind.i64.wrap (v14 + 1))),h1⟩,⟨rF,rE,rfl,rfl,trivial,trivial⟩,Nat.lt_succ_self _⟩
  refine dC (xA (xA (gC ?_)))
  obtain rfl:=oI h1
  exact ⟨_,rfl,rL,⟨rF,rE,rfl,rfl,trivial,trivial⟩⟩
theorem jZ {fu : Nat} {l1 : List aA} {vat2 : Int} {r : eA} (h0 : lK fu l1 vat2 = some r) : yA Tryz.prog 126 [.psl 4 (l1.map aA.enc),.int .i64 vat2] (.agg (eA.enc r)) []:=by
 refine dB Tryz.func126 rfl (by decide) rL ?_
 dsimp only [Tryz.f126]
 rw [lK] at h0
 refine xS 8 [0,1,4] ?_
 refine iA ?_
 refine xS 40 [0,1,4,8] ?_
 refine xI h0 rfl (fun h0 hb3=>?_) (fun h0 hb3=>?_)
 ·
  refine xS 56 [4] ?_
  refine jA (mA ?_)
  obtain rfl:=oI h0
  exact lA [] rG
 refine oA (cA ?_)
 obtain ⟨e4,he4,h0⟩:=bA h0
 obtain ⟨he4a,he4b,he4c⟩:=vA he4
 refine nA 96 [4] (fun _=>none) rfl (fun _ _=>rS (rA he4a (rA he4b he4c))) ?_
 refine jA ?_
 obtain rfl:=oI h0
 refine lA [] ?_
 exact rJ (rA he4a (rA he4b he4c))
theorem zhm {fu : Nat} {k1 : eA} {r : Bool} (h0 : wS fu k1 = some r) : yA Tryz.prog 150 [.agg (eA.enc k1)] (.bool r) []:=by
 refine dB Tryz.func150 rfl (by decide) rL ?_
 dsimp only [Tryz.f150]
 rw [wS] at h0
 refine xS 16 [1] ?_
 obtain ⟨b2,hb2,h0⟩:=bA h0
 refine jC (fr':=[(2,.bool b2)]) (hp':=[(0,⟨0,true,true,2,[[.str k1.Key,.bool k1.Done]]⟩)]) [0] 80 [2] (fun _=>none) rfl (fun Kt hK=>by
   cases hg3 : k1.Done with
   | false =>
    replace hb2:=sA hb2 hg3
    have hqb2:=oI hb2
    subst hqb2
    exact rW hg3 hK
   | true =>
    replace hb2:=zA hb2 hg3
    have hqb2:=oI hb2
    subst hqb2
    exact rW hg3 hK) ?_
 refine jA ?_
 obtain rfl:=oI h0
 exact lA [] rG
theorem zls {fu : Nat} {vs1 : List eA} {r : Int} (h0 : gS fu vs1 = some r) : yA Tryz.prog 153 [.psl 2 (vs1.map eA.enc),.fn 150 [] []] (.int .i64 r) []:=by
 refine dB Tryz.func153 rfl (by decide) rL ?_
 dsimp only [Tryz.f153]
 rw [gS] at h0
 refine xS 8 [0,1] ?_
 refine iA ?_
 refine xS 32 [0,1,7,8] ?_
 obtain ⟨x11,hxx11,h0⟩:=bA h0
 refine pC (fun s'=>∃ o17 : Unit,x11 = .inl o17 ∧ s'.nx ≤ 40 ∧ LeN [] s' ⟨[],[],40,[]⟩) ?_ ?_
 ·
  intro s' hs
  obtain ⟨o17,rfl,hn,hs⟩:=hs
  refine cA ?_
  refine oB [] hn hs ?_
  refine xS 48 [4] ?_
  refine jA ?_
  obtain rfl:=oI h0
  exact lA [] rG
 refine lC (ι:={ p : Nat × Int // pI vs1 p.1 p.2 = some x11 }) (fun p=>⟨[(0,.psl 2 (List.map eA.enc vs1)),(1,.fn 150 [] []),(7,.int .i64 (vs1.length : Int)),(8,.int .i64 p.1.2)],[],32,[]⟩) (fun p=>p.1.1) ⟨(fu,0),hxx11⟩ ⟨rF,rE,rfl,rfl,trivial,trivial⟩ (fun _=>Nat.le_refl _) ?_
 rintro ⟨⟨fu,v12⟩,h1⟩
 cases fu with
 | zero =>
  replace h1 : pI vs1 0 v12 = some x11:=h1
  rw [pI] at h1; cases h1
 | succ fu =>
  replace h1 : pI vs1 (fu + 1) v12 = some x11:=h1
  rw [pI] at h1
  dsimp only
  refine xS 40 [0,1,7,8,9] ?_
  refine iA ?_
  refine xI h1 rfl (fun h1 hb13=>?_) (fun h1 hb13=>?_)
  ·
   refine oA (cA (iA (vB ?_)))
   refine xS 56 [0,1,5,7,8] ?_
   obtain ⟨e14,he14,h1⟩:=bA h1
   obtain ⟨he14a,he14b,he14c⟩:=vA he14
   obtain ⟨vr15,hvr15,h1⟩:=bA h1
   refine nA 104 [0,1,5,7,8,16] (fun | 5=>some (.bool vr15,[]) | _=>none) rfl (fun _ _=>rB (rA he14a (rA he14b he14c)) (zhm hvr15)) ?_
   refine xI h1 rfl (fun h1 hb16=>?_) (fun h1 hb16=>?_)
   ·
    refine nA 120 [4] (fun _=>none) rfl (fun _ _=>rS (rA he14a (rA he14b he14c))) ?_
    refine jA ?_
    obtain rfl:=oI h1
    refine zB (mA (mA (xC (mA ?_))))
    obtain rfl:=oI h0
    refine lA [] ?_
    exact rJ (rA he14a (rA he14b he14c))
   refine oA (pB (cA ?_))
   refine nB 120 [0,1,7,8] (fun _=>none) rfl (fun _ _=>rS (rA he14a (rA he14b he14c))) ?_
   refine cA ?_
   exact ⟨⟨(fu,(IntKind.i64.wrap (v12 + 1))),h1⟩,⟨rF,rE,rfl,rfl,trivial,trivial⟩,Nat.lt_succ_self _⟩
  refine dC (xA (xA (gC ?_)))
  obtain rfl:=oI h1
  exact ⟨_,rfl,rL,⟨rF,rE,rfl,rfl,trivial,trivial⟩⟩
theorem zkR {fu : Nat} {vs1 : List eA} {r : Bool} (h0 : uS fu vs1 = some r) : yA Tryz.prog 149 [.psl 2 (vs1.map eA.enc),.fn 150 [] []] (.bool r) []:=by
 refine dB Tryz.func149 rfl (by decide) rL ?_
 dsimp only [Tryz.f149]
 rw [uS] at h0
 refine xS 8 [0,1] ?_
 obtain ⟨vr2,hvr2,h0⟩:=bA h0
 refine nA 48 [4] (fun | 2=>some (.int .i64 vr2,[]) | _=>none) rfl (fun _ _=>rC (zls hvr2)) ?_
 refine jA ?_
 obtain rfl:=oI h0
 exact lA [] rG
theorem mZ {fu : Nat} {keys1 : List eA} {r : Int} (h0 : eM fu keys1 = some r) : yA Tryz.prog 141 [.psl 2 (keys1.map eA.enc)] (.int .i64 r) []:=by
 refine dB Tryz.func141 rfl (by decide) rL ?_
 dsimp only [Tryz.f141]
 rw [eM] at h0
 refine xS 8 [0] ?_
 refine iA (vB ?_)
 refine xS 40 [0,3] ?_
 refine xI h0 rfl (fun h0 hb2=>?_) (fun h0 hb2=>?_)
 ·
  refine xS 48 [2] ?_
  refine jA (zB (mA ?_))
  obtain rfl:=oI h0
  exact lA [] rG
 refine xS 72 [0,7] ?_
 refine xI h0 rfl (fun h0 hb3=>?_) (fun h0 hb3=>?_)
 ·
  refine xS 80 [2] ?_
  refine jA (zB (mA ?_))
  obtain rfl:=oI h0
  exact lA [] rG
 obtain ⟨vr4,hvr4,h0⟩:=bA h0
 refine nA 96 [11] (fun | 1=>some (.bool vr4,[]) | _=>none) rfl (fun _ _=>rC (zkR hvr4)) ?_
 refine xI h0 rfl (fun h0 hb5=>?_) (fun h0 hb5=>?_)
 ·
  refine xS 104 [2] ?_
  refine jA (zB (mA ?_))
  obtain rfl:=oI h0
  exact lA [] rG
 refine oA (pB (cA ?_))
 refine xS 104 [2] ?_
 refine jA ?_
 obtain rfl:=oI h0
 exact lA [] rG
theorem zbG {fu : Nat} {keys1 : List eA} {r : List eA} (h0 : fN fu keys1 = some r) : yA Tryz.prog 145 [.psl 2 (keys1.map eA.enc)] (.fn 151 [] [.pp [.psl 2 (r.map eA.enc)]]) []:=by
 refine dB Tryz.func145 rfl (by decide) rL ?_
 dsimp only [Tryz.f145]
 rw [fN] at h0
 refine xS 16 [1] ?_
 refine xS 32 [2] ?_
 refine jA ?_
 obtain rfl:=oI h0
 exact lA [] rG
theorem zhK {fu : Nat} {vs1 : List eA} {r : List eA} (h0 : nT fu vs1 = some r) : yA Tryz.prog 144 [.psl 2 (vs1.map eA.enc)] (.psl 2 (r.map eA.enc)) []:=by
 refine dB Tryz.func144 rfl (by decide) rL ?_
 dsimp only [Tryz.f144]
 rw [nT] at h0
 refine xS 8 [0] ?_
 refine iA ?_
 cases hb2 : vs1.isEmpty with
 | true =>
  replace h0:=zA h0 hb2
  obtain rfl : vs1 = []:=List.isEmpty_iff.1 hb2
  refine xS 24 [0,4] ?_
  refine mX rfl ?_ ?_
  ·
   skip
   refine xS 32 [2] ?_
   refine jA (mA ?_)
   obtain rfl:=oI h0
   exact lA [] rG
  ·
   skip
   refine oA (cA ?_)
   refine xS 56 [2] ?_
   refine xE ⟨[(2,.sl 24 1 2 0 0)],[(24,⟨1,true,true,2,List.map eA.enc []⟩)],56,[]⟩ ?_
   refine jA ?_
   obtain rfl:=oI h0
   exact lA [] rG
 | false =>
  replace h0:=sA h0 hb2
  refine nA 24 [0,4] (fun _=>none) rfl (fun _ _=>rS hb2) ?_
  refine pF rfl ?_
  refine oA (cA ?_)
  obtain ⟨hc3,h0⟩:=pD h0
  refine nA 56 [2] (fun _=>none) rfl (fun _ _=>rS hb2) ?_
  refine xE ⟨[(2,.sl 24 1 2 0 vs1.length)],[(24,⟨1,true,true,2,List.map eA.enc vs1⟩)],56,[]⟩ ?_
  refine jA ?_
  obtain rfl:=oI h0
  refine lA [] ?_
  exact rJ hb2
theorem zbs {fu : Nat} {p1 : Int} {q2 : Int} {p3 : List eA} {r : Bool} (h0 : eN fu p1 q2 p3 = some r) : yA Tryz.prog 151 [.int .i64 p1,.int .i64 q2,.pp [.psl 2 (p3.map eA.enc)]] (.bool r) []:=by
 refine dB Tryz.func151 rfl (by decide) rL ?_
 dsimp only [Tryz.f151]
 rw [eN] at h0
 refine xS 8 [0,1,2] ?_
 obtain ⟨e4,he4,h0⟩:=bA h0
 obtain ⟨he4a,he4b,he4c⟩:=vA he4
 obtain ⟨e5,he5,h0⟩:=bA h0
 obtain ⟨he5a,he5b,he5c⟩:=vA he5
 refine qC 104 [0,1,6,7] (fun _=>none) rfl rfl rfl (fun _ _=>xD (rA he4a (rA he4b (rA he4c (rA he5a (rA he5b he5c)))))) ?_
 refine iA (vB ?_)
 refine nA 152 [0,1,6,7,16] (fun _=>none) rfl (fun _ _=>rS (rA he4a (rA he4b (rA he4c (rA he5a (rA he5b he5c)))))) ?_
 refine xI h0 rfl (fun h0 hb6=>?_) (fun h0 hb6=>?_)
 ·
  refine nA 176 [5] (fun _=>none) rfl (fun _ _=>rS (rA he4a (rA he4b (rA he4c (rA he5a (rA he5b he5c)))))) ?_
  refine jA (zB (mA ?_))
  obtain rfl:=oI h0
  refine lA [] ?_
  exact rJ (rA he4a (rA he4b (rA he4c (rA he5a (rA he5b he5c)))))
 refine nA 200 [0,1,6,7,24] (fun _=>none) rfl (fun _ _=>rS (rA he4a (rA he4b (rA he4c (rA he5a (rA he5b he5c)))))) ?_
 refine xI h0 rfl (fun h0 hb7=>?_) (fun h0 hb7=>?_)
 ·
  refine nA 248 [5] (fun _=>none) rfl (fun _ _=>rS (rA he4a (rA he4b (rA he4c (rA he5a (rA he5b he5c)))))) ?_
  refine jA (zB (mA ?_))
  obtain rfl:=oI h0
  refine lA [] ?_
  exact rJ (rA he4a (rA he4b (rA he4c (rA he5a (rA he5b he5c)))))
 refine oA (pB (cA ?_))
 refine nA 232 [5] (fun _=>none) rfl (fun _ _=>rS (rA he4a (rA he4b (rA he4c (rA he5a (rA he5b he5c)))))) ?_
 refine jA ?_
 obtain rfl:=oI h0
 refine lA [] ?_
 exact rJ (rA he4a (rA he4b (rA he4c (rA he5a (rA he5b he5c)))))
theorem zdl {fu : Nat} {keys1 : List eA} {r : fB} (h0 : wP fu keys1 = some r) : yA Tryz.prog 142 [.psl 2 (keys1.map eA.enc)] (.agg (fB.enc r)) []:=by
 refine dB Tryz.func142 rfl (by decide) rL ?_
 dsimp only [Tryz.f142]
 rw [wP] at h0
 refine xS 8 [0,2] ?_
 refine xS 32 [0,2,3] ?_
 obtain ⟨vr2,hvr2,h0⟩:=bA h0
 refine nA 56 [0,2,3,4] (fun | 1=>some (.fn 151 [] [.pp [.psl 2 (vr2.map eA.enc)]],[]) | _=>none) rfl (fun _ _=>rC (zbG hvr2)) ?_
 obtain ⟨hc3,h0⟩:=pD h0
 refine xS 88 [0,2,3,4,5] ?_
 refine xE ⟨[(0,.psl 2 (List.map eA.enc keys1)),(2,.ref 0 0 0 0),(3,.int .i64 (keys1.length : Int)),(4,.fn 151 [] [.pp [.psl 2 (List.map eA.enc vr2)]]),(5,.sl 72 0 1 0 ((List.replicate (IntKind.i64.wrap (2 * (keys1.length : Int))).toNat 0 : List Int).length))],[(0,⟨0,true,true,3,[[.nils,.nils,.int .i64 0]]⟩),(72,⟨0,true,true,1,List.map (gA .i64) (List.replicate (IntKind.i64.wrap (2 * (keys1.length : Int))).toNat 0 : List Int)⟩)],88,[]⟩ ?_
 obtain ⟨vr4,hvr4,h0⟩:=bA h0
 obtain ⟨hc5,h0⟩:=pD h0
 refine qC 144 [2,3,4,5,6] (fun | 1=>some (.psl 2 (vr4.map eA.enc),[]) | _=>none) rfl rfl rfl (fun _ _=>hO (zhK hvr4)) ?_
 refine xE ⟨[(2,.ref 0 0 0 0),(3,.int .i64 (keys1.length : Int)),(4,.fn 151 [] [.pp [.psl 2 (List.map eA.enc vr2)]]),(5,.sl 72 0 1 0 ((List.replicate (IntKind.i64.wrap (2 * (keys1.length : Int))).toNat 0 : List Int).length)),(6,.ref 128 0 0 0)],[(0,⟨0,true,true,3,[[.nils,.nils,.int .i64 0]]⟩),(72,⟨0,true,true,1,List.map (gA .i64) (List.replicate (IntKind.i64.wrap (2 * (keys1.length : Int))).toNat 0 : List Int)⟩),(112,⟨0,true,true,1,List.map (gA .i64) (List.replicate keys1.length 0 : List Int)⟩),(128,⟨0,true,false,3,[[.psl 2 (List.map eA.enc vr4),.sl 112 0 1 0 ((List.replicate keys1.length 0 : List Int).length),.int .i64 0]]⟩)],144,[]⟩ ?_
 refine iA ?_
 refine xS 176 [2,3,4,5,6,7] ?_
 obtain ⟨x33,hxx33,h0⟩:=bA h0
 refine pC (fun s'=>∃ g50 : Nat,∃ g51 : Nat,s'.nx ≤ 192 ∧ LeN [] s' ⟨[(2,.ref 0 0 0 0),(5,.sl 72 g50 1 0 x33.1.length),(6,.ref 128 0 0 0)],[(0,⟨0,true,true,3,[[.nils,.nils,.int .i64 0]]⟩),(72,⟨g50,true,true,1,List.map (gA .i64) x33.1⟩),(112,⟨g51,true,true,1,List.map (gA .i64) x33.2⟩),(128,⟨0,true,false,3,[[.psl 2 (List.map eA.enc vr4),.sl 112 g51 1 0 x33.2.length,.int .i64 0]]⟩)],192,[]⟩) ?_ ?_
 ·
  intro s' hs
  obtain ⟨g50,g51,hn,hs⟩:=hs
  refine cA ?_
  refine oB [] hn hs ?_
  obtain ⟨e52,he52,h0⟩:=bA h0
  have he52b:=(vA he52).2.1
  have he52c:=(dG 1 he52 rfl).1
  have he52a:=(dG 1 he52 rfl).2
  refine nA 232 [2,6] (fun _=>none) rfl (fun _ _=>rS (rA he52a (rA he52b he52c))) ?_
  refine nA 248 [2] (fun _=>none) rfl (fun _ _=>rS (rA he52a (rA he52b he52c))) ?_
  refine jA ?_
  obtain rfl:=oI h0
  refine lA [] ?_
  exact rJ (rA he52a (rA he52b he52c))
 refine lC (ι:={ p : Nat × Int × List Int × List Int × Nat × Nat // iH keys1 vr2 p.1 p.2.1 p.2.2.1 p.2.2.2.1 = some x33 }) (fun p=>⟨[(2,.ref 0 0 0 0),(3,.int .i64 (keys1.length : Int)),(4,.fn 151 [] [.pp [.psl 2 (List.map eA.enc vr2)]]),(5,.sl 72 p.1.2.2.2.2.1 1 0 p.1.2.2.1.length),(6,.ref 128 0 0 0),(7,.int .i64 p.1.2.1)],[(0,⟨0,true,true,3,[[.nils,.nils,.int .i64 0]]⟩),(72,⟨p.1.2.2.2.2.1,true,true,1,List.map (gA .i64) p.1.2.2.1⟩),(112,⟨p.1.2.2.2.2.2,true,true,1,List.map (gA .i64) p.1.2.2.2.1⟩),(128,⟨0,true,false,3,[[.psl 2 (List.map eA.enc vr4),.sl 112 p.1.2.2.2.2.2 1 0 p.1.2.2.2.1.length,.int .i64 0]]⟩)],176,[]⟩) (fun p=>p.1.1) ⟨(fu,(IntKind.i64.wrap ((IntKind.i64.wrap (2 * (keys1.length : Int))) - 1)),(List.replicate (IntKind.i64.wrap (2 * (keys1.length : Int))).toNat 0 : List Int),(List.replicate keys1.length 0 : List Int),0,0),hxx33⟩ ⟨rF,rE,rfl,rfl,trivial,trivial⟩ (fun _=>Nat.le_refl _) ?_
 rintro ⟨⟨fu,i34,players35,v36,g37,g38⟩,h1⟩
 cases fu with
 | zero =>
  replace h1 : iH keys1 vr2 0 i34 players35 v36 = some x33:=h1
  rw [iH] at h1; cases h1
 | succ fu =>
  replace h1 : iH keys1 vr2 (fu + 1) i34 players35 v36 = some x33:=h1
  rw [iH] at h1
  dsimp only
  refine iA ?_
  refine xS 192 [2,3,4,5,6,7,26] ?_
  refine xI h1 rfl (fun h1 hb39=>?_) (fun h1 hb39=>?_)
  ·
   refine oA (cA (iA (vB (iA ?_))))
   refine xS 216 [2,3,4,5,6,7,31] ?_
   refine xI h1 rfl (fun h1 hb40=>?_) (fun h1 hb40=>?_)
   ·
    obtain ⟨e41,he41,h1⟩:=bA h1
    obtain ⟨he41a,he41b,he41c⟩:=vA he41
    refine nA 272 [2,3,4,5,6,7] (fun _=>none) rfl (fun _ _=>rS (rA he41a (rA he41b he41c))) ?_
    refine xE ⟨[(2,.ref 0 0 0 0),(3,.int .i64 (keys1.length : Int)),(4,.fn 151 [] [.pp [.psl 2 (List.map eA.enc vr2)]]),(5,.sl 72 g37 1 0 ((players35.set i34.toNat (IntKind.i64.wrap (i34 - (keys1.length : Int)))).length)),(6,.ref 128 0 0 0),(7,.int .i64 i34)],[(0,⟨0,true,true,3,[[.nils,.nils,.int .i64 0]]⟩),(72,⟨g37,true,true,1,List.map (gA .i64) (players35.set i34.toNat (IntKind.i64.wrap (i34 - (keys1.length : Int))))⟩),(112,⟨g38,true,true,1,List.map (gA .i64) v36⟩),(128,⟨0,true,false,3,[[.psl 2 (List.map eA.enc vr4),.sl 112 g38 1 0 v36.length,.int .i64 0]]⟩)],272,[]⟩ ?_
    refine dC (xA (za3 (cA ?_)))
    refine nB 296 [2,3,4,5,6,7] (fun _=>none) rfl (fun _ _=>rS (rA he41a (rA he41b he41c))) ?_
    refine cA ?_
    exact ⟨⟨(fu,(IntKind.i64.wrap (i34 - 1)),(players35.set i34.toNat (IntKind.i64.wrap (i34 - (keys1.length : Int)))),v36,g37,g38),h1⟩,⟨rF,rE,rfl,rfl,trivial,trivial⟩,Nat.lt_succ_self _⟩
   refine oA (cA ?_)
   obtain ⟨e42,he42,h1⟩:=bA h1
   obtain ⟨he42a,he42b,he42c⟩:=vA he42
   obtain ⟨e43,he43,h1⟩:=bA h1
   obtain ⟨he43a,he43b,he43c⟩:=vA he43
   refine qC 320 [2,3,4,5,6,7,8,9] (fun _=>none) rfl rfl rfl (fun _ _=>xD (rA he42a (rA he42b (rA he42c (rA he43a (rA he43b he43c)))))) ?_
   refine iA ?_
   obtain ⟨vr44,hvr44,h1⟩:=bA h1
   refine nA 360 [2,3,4,5,6,7,8,9,53] (fun | 3=>some (.bool vr44,[]) | _=>none) rfl (fun _ _=>rB (rA he42a (rA he42b (rA he42c (rA he43a (rA he43b he43c))))) (zbs hvr44)) ?_
   refine xI h1 rfl (fun h1 hb45=>?_) (fun h1 hb45=>?_)
   ·
    refine nB 392 [2,3,4,5,6,7,8,9] (fun _=>none) rfl (fun _ _=>rS (rA he42a (rA he42b (rA he42c (rA he43a (rA he43b he43c)))))) ?_
    refine cA ?_
    obtain ⟨e46,he46,h1⟩:=bA h1
    obtain ⟨he46a,he46b,he46c⟩:=vA he46
    obtain ⟨e47,he47,h1⟩:=bA h1
    obtain ⟨he47a,he47b,he47c⟩:=vA he47
    refine aH 480 [2,3,4,5,6,7] (fun _=>none) rfl rfl rfl (fun _ _=>xD (rA he42a (rA he42b (rA he42c (rA he43a (rA he43b (rA he43c (rA he46a (rA he46b (rA he46c (rA he47a (rA he47b he47c)))))))))))) ?_
    refine pB (cA ?_)
    refine xE ⟨[(2,.ref 0 0 0 0),(3,.int .i64 (keys1.length : Int)),(4,.fn 151 [] [.pp [.psl 2 (List.map eA.enc vr2)]]),(5,.sl 72 g37 1 0 ((players35.set i34.toNat e43).length)),(6,.ref 128 0 0 0),(7,.int .i64 i34)],[(0,⟨0,true,true,3,[[.nils,.nils,.int .i64 0]]⟩),(72,⟨g37,true,true,1,List.map (gA .i64) (players35.set i34.toNat e43)⟩),(112,⟨g38,true,true,1,List.map (gA .i64) (v36.set i34.toNat e42)⟩),(128,⟨0,true,false,3,[[.psl 2 (List.map eA.enc vr4),.sl 112 g38 1 0 ((v36.set i34.toNat e42).length),.int .i64 0]]⟩)],480,[]⟩ ?_
    refine nB 504 [2,3,4,5,6,7] (fun _=>none) rfl (fun _ _=>rS (rA he42a (rA he42b (rA he42c (rA he43a (rA he43b (rA he43c (rA he46a (rA he46b (rA he46c (rA he47a (rA he47b he47c)))))))))))) ?_
    refine cA ?_
    exact ⟨⟨(fu,(IntKind.i64.wrap (i34 - 1)),(players35.set i34.toNat e43),(v36.set i34.toNat e42),g37,g38),h1⟩,⟨rF,rE,rfl,rfl,trivial,trivial⟩,Nat.lt_succ_self _⟩
   refine oA (cA ?_)
   obtain ⟨e48,he48,h1⟩:=bA h1
   obtain ⟨he48a,he48b,he48c⟩:=vA he48
   obtain ⟨e49,he49,h1⟩:=bA h1
   obtain ⟨he49a,he49b,he49c⟩:=vA he49
   refine aH 448 [2,3,4,5,6,7] (fun _=>none) rfl rfl rfl (fun _ _=>xD (rA he42a (rA he42b (rA he42c (rA he43a (rA he43b (rA he43c (rA he48a (rA he48b (rA he48c (rA he49a (rA he49b he49c)))))))))))) ?_
   refine pB (cA ?_)
   refine xE ⟨[(2,.ref 0 0 0 0),(3,.int .i64 (keys1.length : Int)),(4,.fn 151 [] [.pp [.psl 2 (List.map eA.enc vr2)]]),(5,.sl 72 g37 1 0 ((players35.set i34.toNat e42).length)),(6,.ref 128 0 0 0),(7,.int .i64 i34)],[(0,⟨0,true,true,3,[[.nils,.nils,.int .i64 0]]⟩),(72,⟨g37,true,true,1,List.map (gA .i64) (players35.set i34.toNat e42)⟩),(112,⟨g38,true,true,1,List.map (gA .i64) (v36.set i34.toNat e43)⟩),(128,⟨0,true,false,3,[[.psl 2 (List.map eA.enc vr4),.sl 112 g38 1 0 ((v36.set i34.toNat e43).length),.int .i64 0]]⟩)],448,[]⟩ ?_
   refine nB 472 [2,3,4,5,6,7] (fun _=>none) rfl (fun _ _=>rS (rA he42a (rA he42b (rA he42c (rA he43a (rA he43b (rA he43c (rA he48a (rA he48b (rA he48c (rA he49a (rA he49b he49c)))))))))))) ?_
   refine cA ?_
   exact ⟨⟨(fu,(IntKind.i64.wrap (i34 - 1)),(players35.set i34.toNat e42),(v36.set i34.toNat e43),g37,g38),h1⟩,⟨rF,rE,rfl,rfl,trivial,trivial⟩,Nat.lt_succ_self _⟩
  refine dC (xA (xA (gC ?_)))
  obtain rfl:=oI h1
  exact ⟨g37,g38,rL,⟨rF,rE,rfl,rfl,trivial,trivial⟩⟩
theorem znG {fu : Nat} {keys1 : List eA} {r : fB × Int} (h0 : iQ fu keys1 = some r) : yA Tryz.prog 127 [.psl 2 (keys1.map eA.enc)] (.tup [.agg (fB.enc r.1),.int .i64 r.2]) []:=by
 refine dB Tryz.func127 rfl (by decide) rL ?_
 dsimp only [Tryz.f127]
 rw [iQ] at h0
 refine xS 16 [0,2] ?_
 refine iA ?_
 obtain ⟨vr2,hvr2,h0⟩:=bA h0
 refine nA 40 [0,2,4] (fun | 1=>some (.int .i64 vr2,[]) | _=>none) rfl (fun _ _=>rC (mZ hvr2)) ?_
 refine xS 56 [0,2,4,8] ?_
 refine xI h0 rfl (fun h0 hb3=>?_) (fun h0 hb3=>?_)
 ·
  refine xS 88 [2,3] ?_
  refine jA (mA ?_)
  obtain rfl:=oI h0
  exact lA [] rG
 refine oA (cA ?_)
 obtain ⟨vr4,hvr4,h0⟩:=bA h0
 refine nA 88 [2,3] (fun | 1=>some (.agg (fB.enc vr4),[]) | _=>none) rfl (fun _ _=>rC (zdl hvr4)) ?_
 refine jA ?_
 obtain rfl:=oI h0
 exact lA [] rG
theorem zeG {fu : Nat} {runs1 : List (List aA)} {vat2 : List Int} {r : fB} (h0 : jP fu runs1 vat2 = some r) : yA Tryz.prog 108 [.psl 1 (runs1.map (tA 4 aA.enc)),.psl 1 (vat2.map (gA .i64))] (.agg (fB.enc r)) []:=by
 refine dB Tryz.func108 rfl (by decide) rL ?_
 dsimp only [Tryz.f108]
 rw [jP] at h0
 refine xS 8 [0,1,4] ?_
 obtain ⟨hc3,h0⟩:=pD h0
 refine xS 40 [0,1,4,5] ?_
 refine xE ⟨[(0,.psl 1 (List.map (tA 4 aA.enc) runs1)),(1,.psl 1 (List.map (gA .i64) vat2)),(4,.ref 0 0 0 0),(5,.sl 24 0 2 0 ((List.replicate runs1.length (eA.mk [] false) : List eA).length))],[(0,⟨0,true,true,3,[[.nils,.nils,.int .i64 0]]⟩),(24,⟨0,true,true,2,List.map eA.enc (List.replicate runs1.length (eA.mk [] false) : List eA)⟩)],40,[]⟩ ?_
 refine iA ?_
 refine xS 64 [1,4,5,13,14,15] ?_
 obtain ⟨x17,hxx17,h0⟩:=bA h0
 refine pC (fun s'=>∃ g26 : Nat,s'.nx ≤ 72 ∧ LeN [] s' ⟨[(4,.ref 0 0 0 0),(5,.sl 24 g26 2 0 x17.length)],[(0,⟨0,true,true,3,[[.nils,.nils,.int .i64 0]]⟩),(24,⟨g26,true,true,2,List.map eA.enc x17⟩)],72,[]⟩) ?_ ?_
 ·
  intro s' hs
  obtain ⟨g26,hn,hs⟩:=hs
  refine cA ?_
  refine oB [] hn hs ?_
  obtain ⟨vr27,hvr27,h0⟩:=bA h0
  refine nA 136 [4,8] (fun | 1=>some (.tup [.agg (fB.enc vr27.1),.int .i64 vr27.2],[]) | _=>none) rfl (fun _ _=>rC (znG hvr27)) ?_
  refine xS 152 [4] ?_
  refine jA ?_
  obtain rfl:=oI h0
  exact lA [] rG
 refine lC (ι:={ p : Nat × Int × List eA × Nat // lI runs1 vat2 p.1 p.2.1 p.2.2.1 = some x17 }) (fun p=>⟨[(1,.psl 1 (List.map (gA .i64) vat2)),(4,.ref 0 0 0 0),(5,.sl 24 p.1.2.2.2 2 0 p.1.2.2.1.length),(13,.psl 1 (List.map (tA 4 aA.enc) runs1)),(14,.int .i64 (runs1.length : Int)),(15,.int .i64 p.1.2.1)],[(0,⟨0,true,true,3,[[.nils,.nils,.int .i64 0]]⟩),(24,⟨p.1.2.2.2,true,true,2,List.map eA.enc p.1.2.2.1⟩)],64,[]⟩) (fun p=>p.1.1) ⟨(fu,0,(List.replicate runs1.length (eA.mk [] false) : List eA),0),hxx17⟩ ⟨rF,rE,rfl,rfl,trivial,trivial⟩ (fun _=>Nat.le_refl _) ?_
 rintro ⟨⟨fu,v18,keys19,g20⟩,h1⟩
 cases fu with
 | zero =>
  replace h1 : lI runs1 vat2 0 v18 keys19 = some x17:=h1
  rw [lI] at h1; cases h1
 | succ fu =>
  replace h1 : lI runs1 vat2 (fu + 1) v18 keys19 = some x17:=h1
  rw [lI] at h1
  dsimp only
  refine xS 72 [1,4,5,13,14,15,16] ?_
  refine iA ?_
  refine xI h1 rfl (fun h1 hb21=>?_) (fun h1 hb21=>?_)
  ·
   refine oA (cA (iA (vB ?_)))
   obtain ⟨e22,he22,h1⟩:=bA h1
   obtain ⟨he22a,he22b,he22c⟩:=vA he22
   refine nA 112 [1,4,5,6,7,13,14,15] (fun _=>none) rfl (fun _ _=>rS (rA he22a (rA he22b he22c))) ?_
   obtain ⟨e23,he23,h1⟩:=bA h1
   obtain ⟨he23a,he23b,he23c⟩:=vA he23
   obtain ⟨vr24,hvr24,h1⟩:=bA h1
   obtain ⟨e25,he25,h1⟩:=bA h1
   obtain ⟨he25a,he25b,he25c⟩:=vA he25
   refine nB 192 [1,4,5,13,14,15] (fun | 7=>some (.agg (eA.enc vr24),[]) | _=>none) rfl (fun _ _=>rB (rA he22a (rA he22b (rA he22c (rA he23a (rA he23b (rA he23c (rA he25a (rA he25b he25c)))))))) (jZ hvr24)) ?_
   refine pB (cA ?_)
   refine xE ⟨[(1,.psl 1 (List.map (gA .i64) vat2)),(4,.ref 0 0 0 0),(5,.sl 24 g20 2 0 ((keys19.set v18.toNat vr24).length)),(13,.psl 1 (List.map (tA 4 aA.enc) runs1)),(14,.int .i64 (runs1.length : Int)),(15,.int .i64 v18)],[(0,⟨0,true,true,3,[[.nils,.nils,.int .i64 0]]⟩),(24,⟨g20,true,true,2,List.map eA.enc (keys19.set v18.toNat vr24)⟩)],192,[]⟩ ?_
   refine nB 208 [1,4,5,13,14,15] (fun _=>none) rfl (fun _ _=>rS (rA he22a (rA he22b (rA he22c (rA he23a (rA he23b (rA he23c (rA he25a (rA he25b he25c))))))))) ?_
   refine cA ?_
   exact ⟨⟨(fu,(IntKind.i64.wrap (v18 + 1)),(keys19.set v18.toNat vr24),g20),h1⟩,⟨rF,rE,rfl,rfl,trivial,trivial⟩,Nat.lt_succ_self _⟩
  refine dC (xA (xA (gC ?_)))
  obtain rfl:=oI h1
  exact ⟨g20,rL,⟨rF,rE,rfl,rfl,trivial,trivial⟩⟩
theorem tL {fu : Nat} {s11 : List eA} {s22 : List eA} {r : Bool} (h0 : oL fu s11 s22 = some r) : yA Tryz.prog 72 [.psl 2 (s11.map eA.enc),.psl 2 (s22.map eA.enc)] (.bool r) []:=by
 refine dB Tryz.func72 rfl (by decide) rL ?_
 dsimp only [Tryz.f72]
 rw [oL] at h0
 refine xS 8 [0,1] ?_
 refine iA ?_
 refine xS 48 [0,1,10] ?_
 refine xI h0 rfl (fun h0 hb3=>?_) (fun h0 hb3=>?_)
 ·
  refine xS 56 [4] ?_
  refine jA (mA ?_)
  obtain rfl:=oI h0
  exact lA [] rG
 refine oA (cA (iA ?_))
 refine xS 72 [0,1,12,13] ?_
 obtain ⟨x13,hxx13,h0⟩:=bA h0
 refine pC (fun s'=>∃ o19 : Unit,x13 = .inl o19 ∧ s'.nx ≤ 80 ∧ LeN [] s' ⟨[],[],80,[]⟩) ?_ ?_
 ·
  intro s' hs
  obtain ⟨o19,rfl,hn,hs⟩:=hs
  refine cA ?_
  refine oB [] hn hs ?_
  refine xS 88 [4] ?_
  refine jA ?_
  obtain rfl:=oI h0
  exact lA [] rG
 refine lC (ι:={ p : Nat × Int // zI s11 s22 p.1 p.2 = some x13 }) (fun p=>⟨[(0,.psl 2 (List.map eA.enc s11)),(1,.psl 2 (List.map eA.enc s22)),(12,.int .i64 (s11.length : Int)),(13,.int .i64 p.1.2)],[],72,[]⟩) (fun p=>p.1.1) ⟨(fu,0),hxx13⟩ ⟨rF,rE,rfl,rfl,trivial,trivial⟩ (fun _=>Nat.le_refl _) ?_
 rintro ⟨⟨fu,v14⟩,h1⟩
 cases fu with
 | zero =>
  replace h1 : zI s11 s22 0 v14 = some x13:=h1
  rw [zI] at h1; cases h1
 | succ fu =>
  replace h1 : zI s11 s22 (fu + 1) v14 = some x13:=h1
  rw [zI] at h1
  dsimp only
  refine xS 80 [0,1,12,13,14] ?_
  refine iA ?_
  refine xI h1 rfl (fun h1 hb15=>?_) (fun h1 hb15=>?_)
  ·
   refine oA (cA (iA (vB ?_)))
   refine xS 96 [0,1,5,12,13] ?_
   obtain ⟨e16,he16,h1⟩:=bA h1
   obtain ⟨he16a,he16b,he16c⟩:=vA he16
   obtain ⟨e17,he17,h1⟩:=bA h1
   obtain ⟨he17a,he17b,he17c⟩:=vA he17
   refine qC 168 [0,1,12,13,24] (fun _=>none) rfl rfl rfl (fun _ _=>xD (rA he16a (rA he16b (rA he16c (rA he17a (rA he17b he17c)))))) ?_
   refine xI h1 rfl (fun h1 hb18=>?_) (fun h1 hb18=>?_)
   ·
    refine nA 176 [4] (fun _=>none) rfl (fun _ _=>rS (rA he16a (rA he16b (rA he16c (rA he17a (rA he17b he17c)))))) ?_
    refine jA ?_
    obtain rfl:=oI h1
    refine zB (mA (mA (xC (mA ?_))))
    obtain rfl:=oI h0
    refine lA [] ?_
    exact rJ (rA he16a (rA he16b (rA he16c (rA he17a (rA he17b he17c)))))
   refine oA (pB (cA ?_))
   refine nB 184 [0,1,12,13] (fun _=>none) rfl (fun _ _=>rS (rA he16a (rA he16b (rA he16c (rA he17a (rA he17b he17c)))))) ?_
   refine cA ?_
   exact ⟨⟨(fu,(IntKind.i64.wrap (v14 + 1))),h1⟩,⟨rF,rE,rfl,rfl,trivial,trivial⟩,Nat.lt_succ_self _⟩
  refine dC (xA (xA (gC ?_)))
  obtain rfl:=oI h1
  exact ⟨_,rfl,rL,⟨rF,rE,rfl,rfl,trivial,trivial⟩⟩
theorem jG {fu : Nat} {s11 : List Int} {s22 : List Int} {r : Bool} (h0 : qK fu s11 s22 = some r) : yA Tryz.prog 71 [.psl 1 (s11.map (gA .i64)),.psl 1 (s22.map (gA .i64))] (.bool r) []:=by
 refine dB Tryz.func71 rfl (by decide) rL ?_
 dsimp only [Tryz.f71]
 rw [qK] at h0
 refine xS 8 [0,1] ?_
 refine iA ?_
 refine xS 48 [0,1,10] ?_
 refine xI h0 rfl (fun h0 hb3=>?_) (fun h0 hb3=>?_)
 ·
  refine xS 56 [4] ?_
  refine jA (mA ?_)
  obtain rfl:=oI h0
  exact lA [] rG
 refine oA (cA (iA ?_))
 refine xS 72 [0,1,12,13] ?_
 obtain ⟨x13,hxx13,h0⟩:=bA h0
 refine pC (fun s'=>∃ o19 : Unit,x13 = .inl o19 ∧ s'.nx ≤ 80 ∧ LeN [] s' ⟨[],[],80,[]⟩) ?_ ?_
 ·
  intro s' hs
  obtain ⟨o19,rfl,hn,hs⟩:=hs
  refine cA ?_
  refine oB [] hn hs ?_
  refine xS 88 [4] ?_
  refine jA ?_
  obtain rfl:=oI h0
  exact lA [] rG
 refine lC (ι:={ p : Nat × Int // aJ s11 s22 p.1 p.2 = some x13 }) (fun p=>⟨[(0,.psl 1 (List.map (gA .i64) s11)),(1,.psl 1 (List.map (gA .i64) s22)),(12,.int .i64 (s11.length : Int)),(13,.int .i64 p.1.2)],[],72,[]⟩) (fun p=>p.1.1) ⟨(fu,0),hxx13⟩ ⟨rF,rE,rfl,rfl,trivial,trivial⟩ (fun _=>Nat.le_refl _) ?_
 rintro ⟨⟨fu,v14⟩,h1⟩
 cases fu with
 | zero =>
  replace h1 : aJ s11 s22 0 v14 = some x13:=h1
  rw [aJ] at h1; cases h1
 | succ fu =>
  replace h1 : aJ s11 s22 (fu + 1) v14 = some x13:=h1
  rw [aJ] at h1
  dsimp only
  refine xS 80 [0,1,12,13,14] ?_
  refine iA ?_
  refine xI h1 rfl (fun h1 hb15=>?_) (fun h1 hb15=>?_)
  ·
   refine oA (cA (iA (vB ?_)))
   refine xS 96 [0,1,5,12,13] ?_
   obtain ⟨e16,he16,h1⟩:=bA h1
   obtain ⟨he16a,he16b,he16c⟩:=vA he16
   obtain ⟨e17,he17,h1⟩:=bA h1
   obtain ⟨he17a,he17b,he17c⟩:=vA he17
   refine qC 168 [0,1,12,13,24] (fun _=>none) rfl rfl rfl (fun _ _=>xD (rA he16a (rA he16b (rA he16c (rA he17a (rA he17b he17c)))))) ?_
   refine xI h1 rfl (fun h1 hb18=>?_) (fun h1 hb18=>?_)
   ·
    refine nA 176 [4] (fun _=>none) rfl (fun _ _=>rS (rA he16a (rA he16b (rA he16c (rA he17a (rA he17b he17c)))))) ?_
    refine jA ?_
    obtain rfl:=oI h1
    refine zB (mA (mA (xC (mA ?_))))
    obtain rfl:=oI h0
    refine lA [] ?_
    exact rJ (rA he16a (rA he16b (rA he16c (rA he17a (rA he17b he17c)))))
   refine oA (pB (cA ?_))
   refine nB 184 [0,1,12,13] (fun _=>none) rfl (fun _ _=>rS (rA he16a (rA he16b (rA he16c (rA he17a (rA he17b he17c)))))) ?_
   refine cA ?_
   exact ⟨⟨(fu,(IntKind.i64.wrap (v14 + 1))),h1⟩,⟨rF,rE,rfl,rfl,trivial,trivial⟩,Nat.lt_succ_self _⟩
  refine dC (xA (xA (gC ?_)))
  obtain rfl:=oI h1
  exact ⟨_,rfl,rL,⟨rF,rE,rfl,rfl,trivial,trivial⟩⟩
theorem zm6 {fu : Nat} {a1 : fB} {b2 : fB} {r : Bool} (h0 : wQ fu a1 b2 = some r) : yA Tryz.prog 107 [.agg (fB.enc a1),.agg (fB.enc b2)] (.bool r) []:=by
 refine dB Tryz.func107 rfl (by decide) rL ?_
 dsimp only [Tryz.f107]
 rw [wQ] at h0
 refine xS 24 [2,3] ?_
 obtain ⟨b4,hb4,h0⟩:=bA h0
 obtain ⟨b6,hb6,h0⟩:=bA h0
 refine jC (fr':=[(4,.bool b6)]) (hp':=[(0,⟨0,true,true,3,[[.psl 2 (List.map eA.enc a1.Keys),.psl 1 (List.map (gA .i64) a1.Lose),.int .i64 a1.Win]]⟩),(8,⟨0,true,true,3,[[.psl 2 (List.map eA.enc b2.Keys),.psl 1 (List.map (gA .i64) b2.Lose),.int .i64 b2.Win]]⟩)]) [0,8] 184 [4] (fun | 10=>(oL fu a1.Keys b2.Keys).bind fun vr3=>some (.bool vr3,[]) | 17=>(qK fu a1.Lose b2.Lose).bind fun vr5=>some (.bool vr5,[]) | _=>none) rfl (fun Kt hK=>by
   cases hg7 : (decide (a1.Win = b2.Win)) with
   | false =>
    replace hb4:=sA hb4 hg7
    have hqb4:=oI hb4
    cases b4 with
    | false =>
     replace hb6:=sA hb6 rfl
     have hqb6:=oI hb6
     subst hqb6
     simp (maxSteps:=1000000) only [↓reduceIte,reduceCtorEq,Nat.reduceEqDiff,Nat.reduceLT,Nat.reduceLeDiff,Nat.reduceAdd,Nat.reduceMul,Int.reduceToNat,push_cast,↓hg7]
     try simp only [↓hg7] at hK
     try have q0:=tL hvr3
     try have q1:=jG hvr5
     all_goals exact rU
    | true =>
     cases hqb4
   | true =>
    replace hb4:=zA hb4 hg7
    obtain ⟨vr3,hvr3,hb4⟩:=bA hb4
    have hqb4:=oI hb4
    cases b4 with
    | false =>
     subst hqb4
     replace hb6:=sA hb6 rfl
     have hqb6:=oI hb6
     subst hqb6
     simp (maxSteps:=1000000) only [↓reduceIte,reduceCtorEq,Nat.reduceEqDiff,Nat.reduceLT,Nat.reduceLeDiff,Nat.reduceAdd,Nat.reduceMul,Int.reduceToNat,push_cast,↓hg7,hvr3]
     try simp only [↓hg7] at hK
     try have q0:=tL hvr3
     try have q1:=jG hvr5
     all_goals exact rU
    | true =>
     subst hqb4
     replace hb6:=zA hb6 rfl
     obtain ⟨vr5,hvr5,hb6⟩:=bA hb6
     have hqb6:=oI hb6
     subst hqb6
     simp (maxSteps:=1000000) only [↓reduceIte,reduceCtorEq,Nat.reduceEqDiff,Nat.reduceLT,Nat.reduceLeDiff,Nat.reduceAdd,Nat.reduceMul,Int.reduceToNat,push_cast,↓hg7,hvr3,hvr5]
     try simp only [↓hg7] at hK
     try have q0:=tL hvr3
     try have q1:=jG hvr5
     all_goals exact rU) ?_
 refine jA ?_
 obtain rfl:=oI h0
 exact lA [] rG
theorem zlb {fu : Nat} {t1 : fB} {r : Int × Int} (h0 : sQ fu t1 = some r) : yA Tryz.prog 143 [.agg (fB.enc t1)] (.tup [.int .i64 r.1,.int .i64 r.2]) []:=by
 refine dB Tryz.func143 rfl (by decide) rL ?_
 dsimp only [Tryz.f143]
 rw [sQ] at h0
 refine xS 24 [1] ?_
 refine iA ?_
 obtain ⟨vr2,hvr2,h0⟩:=bA h0
 refine nA 56 [1,4] (fun | 2=>some (.int .i64 vr2,[]) | _=>none) rfl (fun _ _=>rC (mZ hvr2)) ?_
 refine xS 72 [1,4,12] ?_
 refine xI h0 rfl (fun h0 hb3=>?_) (fun h0 hb3=>?_)
 ·
  refine xS 96 [2,3] ?_
  refine jA (mA ?_)
  obtain rfl:=oI h0
  exact lA [] rG
 refine oA (cA (iA ?_))
 refine xS 128 [1,20] ?_
 refine xI h0 rfl (fun h0 hb4=>?_) (fun h0 hb4=>?_)
 ·
  refine xS 144 [2,3] ?_
  refine jA (mA ?_)
  obtain rfl:=oI h0
  exact lA [] rG
 refine oA (cA ?_)
 obtain ⟨vr5,hvr5,h0⟩:=bA h0
 refine nA 168 [1,5] (fun | 2=>some (.agg (fB.enc vr5),[]) | _=>none) rfl (fun _ _=>rC (zdl hvr5)) ?_
 refine iA ?_
 refine xS 200 [1,5,25,26,27] ?_
 obtain ⟨x15,hxx15,h0⟩:=bA h0
 refine pC (fun s'=>∃ o21 : Unit,x15 = .inl o21 ∧ s'.nx ≤ 208 ∧ LeN [] s' ⟨[(1,.ref 0 0 0 0),(5,.ref 152 0 0 0)],[(0,⟨0,true,true,3,[[.psl 2 (List.map eA.enc t1.Keys),.psl 1 (List.map (gA .i64) t1.Lose),.int .i64 t1.Win]]⟩),(152,⟨0,true,true,3,[[.psl 2 (List.map eA.enc vr5.Keys),.psl 1 (List.map (gA .i64) vr5.Lose),.int .i64 vr5.Win]]⟩)],208,[]⟩) ?_ ?_
 ·
  intro s' hs
  obtain ⟨o21,rfl,hn,hs⟩:=hs
  refine cA ?_
  refine oB [] hn hs ?_
  refine iA ?_
  refine xS 248 [45] ?_
  refine xI h0 rfl (fun h0 hb22=>?_) (fun h0 hb22=>?_)
  ·
   refine xS 264 [2,3] ?_
   refine jA (mA ?_)
   obtain rfl:=oI h0
   exact lA [] rG
  refine oA (cA ?_)
  refine xS 264 [2,3] ?_
  refine jA ?_
  obtain rfl:=oI h0
  exact lA [] rG
 refine lC (ι:={ p : Nat × Int // iI vr5 t1 p.1 p.2 = some x15 }) (fun p=>⟨[(1,.ref 0 0 0 0),(5,.ref 152 0 0 0),(25,.psl 1 (List.map (gA .i64) vr5.Lose)),(26,.int .i64 (vr5.Lose.length : Int)),(27,.int .i64 p.1.2)],[(0,⟨0,true,true,3,[[.psl 2 (List.map eA.enc t1.Keys),.psl 1 (List.map (gA .i64) t1.Lose),.int .i64 t1.Win]]⟩),(152,⟨0,true,true,3,[[.psl 2 (List.map eA.enc vr5.Keys),.psl 1 (List.map (gA .i64) vr5.Lose),.int .i64 vr5.Win]]⟩)],200,[]⟩) (fun p=>p.1.1) ⟨(fu,0),hxx15⟩ ⟨rF,rE,rfl,rfl,trivial,trivial⟩ (fun _=>Nat.le_refl _) ?_
 rintro ⟨⟨fu,v16⟩,h1⟩
 cases fu with
 | zero =>
  replace h1 : iI vr5 t1 0 v16 = some x15:=h1
  rw [iI] at h1; cases h1
 | succ fu =>
  replace h1 : iI vr5 t1 (fu + 1) v16 = some x15:=h1
  rw [iI] at h1
  dsimp only
  refine xS 208 [1,5,25,26,27,28] ?_
  refine iA ?_
  refine xI h1 rfl (fun h1 hb17=>?_) (fun h1 hb17=>?_)
  ·
   refine oA (cA (iA (vB ?_)))
   obtain ⟨e18,he18,h1⟩:=bA h1
   obtain ⟨he18a,he18b,he18c⟩:=vA he18
   refine nA 248 [1,5,6,7,25,26,27] (fun _=>none) rfl (fun _ _=>rS (rA he18a (rA he18b he18c))) ?_
   obtain ⟨e19,he19,h1⟩:=bA h1
   obtain ⟨he19a,he19b,he19c⟩:=vA he19
   refine nA 304 [1,5,6,25,26,27,38] (fun _=>none) rfl (fun _ _=>rS (rA he18a (rA he18b (rA he18c (rA he19a (rA he19b he19c)))))) ?_
   refine xI h1 rfl (fun h1 hb20=>?_) (fun h1 hb20=>?_)
   ·
    refine nA 328 [2,3] (fun _=>none) rfl (fun _ _=>rS (rA he18a (rA he18b (rA he18c (rA he19a (rA he19b he19c)))))) ?_
    refine jA ?_
    obtain rfl:=oI h1
    refine zB (mA (mA (xC (mA ?_))))
    obtain rfl:=oI h0
    refine lA [] ?_
    exact rJ (rA he18a (rA he18b (rA he18c (rA he19a (rA he19b he19c)))))
   refine oA (pB (cA ?_))
   refine nB 320 [1,5,25,26,27] (fun _=>none) rfl (fun _ _=>rS (rA he18a (rA he18b (rA he18c (rA he19a (rA he19b he19c)))))) ?_
   refine cA ?_
   exact ⟨⟨(fu,(IntKind.i64.wrap (v16 + 1))),h1⟩,⟨rF,rE,rfl,rfl,trivial,trivial⟩,Nat.lt_succ_self _⟩
  refine dC (xA (xA (gC ?_)))
  obtain rfl:=oI h1
  exact ⟨_,rfl,rL,⟨rF,rE,rfl,rfl,trivial,trivial⟩⟩
theorem zdk {fu : Nat} {t1 : fB} {r : Int} (h0 : aP fu t1 = some r) : yA Tryz.prog 128 [.agg (fB.enc t1)] (.int .i64 r) []:=by
 refine dB Tryz.func128 rfl (by decide) rL ?_
 dsimp only [Tryz.f128]
 rw [aP] at h0
 refine xS 16 [1] ?_
 refine iA ?_
 obtain ⟨vr2,hvr2,h0⟩:=bA h0
 refine nA 72 [1,4] (fun | 1=>some (.tup [.int .i64 vr2.1,.int .i64 vr2.2],[]) | _=>none) rfl (fun _ _=>rC (zlb hvr2)) ?_
 refine xS 88 [1,4,11] ?_
 refine xI h0 rfl (fun h0 hb3=>?_) (fun h0 hb3=>?_)
 ·
  refine xS 104 [2] ?_
  refine jA (mA ?_)
  obtain rfl:=oI h0
  exact lA [] rG
 refine oA (cA (iA ?_))
 obtain ⟨e4,he4,h0⟩:=bA h0
 obtain ⟨he4a,he4b,he4c⟩:=vA he4
 refine nA 144 [19] (fun _=>none) rfl (fun _ _=>rS (rA he4a (rA he4b he4c))) ?_
 refine xI h0 rfl (fun h0 hb5=>?_) (fun h0 hb5=>?_)
 ·
  refine nA 152 [2] (fun _=>none) rfl (fun _ _=>rS (rA he4a (rA he4b he4c))) ?_
  refine jA (mA ?_)
  obtain rfl:=oI h0
  refine lA [] ?_
  exact rJ (rA he4a (rA he4b he4c))
 refine oA (cA ?_)
 refine nA 152 [2] (fun _=>none) rfl (fun _ _=>rS (rA he4a (rA he4b he4c))) ?_
 refine jA ?_
 obtain rfl:=oI h0
 refine lA [] ?_
 exact rJ (rA he4a (rA he4b he4c))
theorem zdf {fu : Nat} {t1 : fB} {r : Int × List UInt8 × Int} (h0 : wO fu t1 = some r) : yA Tryz.prog 109 [.agg (fB.enc t1)] (.tup [.int .i64 r.1,.str r.2.1,.int .i64 r.2.2]) []:=by
 refine dB Tryz.func109 rfl (by decide) rL ?_
 dsimp only [Tryz.f109]
 rw [wO] at h0
 refine xS 32 [1] ?_
 refine iA ?_
 obtain ⟨vr2,hvr2,h0⟩:=bA h0
 refine nA 56 [1,5] (fun | 1=>some (.int .i64 vr2,[]) | _=>none) rfl (fun _ _=>rC (zdk hvr2)) ?_
 refine xS 72 [1,5,9] ?_
 refine xI h0 rfl (fun h0 hb3=>?_) (fun h0 hb3=>?_)
 ·
  refine xS 104 [2,3,4] ?_
  refine jA (mA ?_)
  obtain rfl:=oI h0
  exact lA [] rG
 refine oA (cA ?_)
 obtain ⟨e4,he4,h0⟩:=bA h0
 obtain ⟨he4a,he4b,he4c⟩:=vA he4
 refine qC 168 [2,3,4] (fun _=>none) rfl rfl rfl (fun _ _=>xD (rA he4a (rA he4b he4c))) ?_
 refine jA ?_
 obtain rfl:=oI h0
 refine lA [] ?_
 exact rJ (rA he4a (rA he4b he4c))
theorem zdO {fu : Nat} {vx1 : List UInt8} {r : Bool} (h0 : qQ fu vx1 = some r) : yA Tryz.prog 129 [.str vx1] (.bool r) []:=by
 refine dB Tryz.func129 rfl (by decide) rL ?_
 dsimp only [Tryz.f129]
 rw [qQ] at h0
 refine xS 8 [0] ?_
 refine xS 40 [2] ?_
 refine jA ?_
 obtain rfl:=oI h0
 exact lA [] rG
theorem zeL {fu : Nat} {vx1 : List UInt8} {y2 : List UInt8} {r : Int} (h0 : rM fu vx1 y2 = some r) : yA Tryz.prog 111 [.str vx1,.str y2] (.int .i64 r) []:=by
 refine dB Tryz.func111 rfl (by decide) rL ?_
 dsimp only [Tryz.f111]
 rw [rM] at h0
 refine xS 8 [0,1] ?_
 obtain ⟨vr3,hvr3,h0⟩:=bA h0
 refine nA 32 [0,1,5] (fun | 1=>some (.bool vr3,[]) | _=>none) rfl (fun _ _=>rC (zdO hvr3)) ?_
 obtain ⟨vr4,hvr4,h0⟩:=bA h0
 refine nA 56 [0,1,5,6] (fun | 1=>some (.bool vr4,[]) | _=>none) rfl (fun _ _=>rC (zdO hvr4)) ?_
 refine iA ?_
 refine xS 64 [0,1,6,11] ?_
 refine xI h0 rfl (fun h0 hb5=>?_) (fun h0 hb5=>?_)
 ·
  refine iA ?_
  refine xS 72 [12] ?_
  refine xI h0 rfl (fun h0 hb6=>?_) (fun h0 hb6=>?_)
  ·
   refine xS 80 [4] ?_
   refine jA (mA (mA ?_))
   obtain rfl:=oI h0
   exact lA [] rG
  refine oA (cA ?_)
  refine xS 80 [4] ?_
  refine jA (mA ?_)
  obtain rfl:=oI h0
  exact lA [] rG
 refine oA (cA (iA ?_))
 refine xS 72 [0,1,13] ?_
 refine xI h0 rfl (fun h0 hb7=>?_) (fun h0 hb7=>?_)
 ·
  refine xS 80 [4] ?_
  refine jA (mA ?_)
  obtain rfl:=oI h0
  exact lA [] rG
 refine oA (cA (iA ?_))
 refine xS 96 [0,1,16] ?_
 refine xI h0 rfl (fun h0 hb8=>?_) (fun h0 hb8=>?_)
 ·
  refine xS 104 [4] ?_
  refine jA (mA ?_)
  obtain rfl:=oI h0
  exact lA [] rG
 refine oA (cA (iA ?_))
 refine xS 120 [19] ?_
 refine xI h0 rfl (fun h0 hb9=>?_) (fun h0 hb9=>?_)
 ·
  refine xS 128 [4] ?_
  refine jA (mA ?_)
  obtain rfl:=oI h0
  exact lA [] rG
 refine oA (cA ?_)
 refine xS 128 [4] ?_
 refine jA ?_
 obtain rfl:=oI h0
 exact lA [] rG
theorem zdY {fu : Nat} {vx1 : Int} {r : Bool} (h0 : aR fu vx1 = some r) : yA Tryz.prog 130 [.int .i64 vx1] (.bool r) []:=by
 refine dB Tryz.func130 rfl (by decide) rL ?_
 dsimp only [Tryz.f130]
 rw [aR] at h0
 refine xS 8 [0] ?_
 refine xS 40 [2] ?_
 refine jA ?_
 obtain rfl:=oI h0
 exact lA [] rG
theorem zet {fu : Nat} {vx1 : Int} {y2 : Int} {r : Int} (h0 : dN fu vx1 y2 = some r) : yA Tryz.prog 112 [.int .i64 vx1,.int .i64 y2] (.int .i64 r) []:=by
 refine dB Tryz.func112 rfl (by decide) rL ?_
 dsimp only [Tryz.f112]
 rw [dN] at h0
 refine xS 8 [0,1] ?_
 obtain ⟨vr3,hvr3,h0⟩:=bA h0
 refine nA 32 [0,1,5] (fun | 1=>some (.bool vr3,[]) | _=>none) rfl (fun _ _=>rC (zdY hvr3)) ?_
 obtain ⟨vr4,hvr4,h0⟩:=bA h0
 refine nA 56 [0,1,5,6] (fun | 1=>some (.bool vr4,[]) | _=>none) rfl (fun _ _=>rC (zdY hvr4)) ?_
 refine iA ?_
 refine xS 64 [0,1,6,11] ?_
 refine xI h0 rfl (fun h0 hb5=>?_) (fun h0 hb5=>?_)
 ·
  refine iA ?_
  refine xS 72 [12] ?_
  refine xI h0 rfl (fun h0 hb6=>?_) (fun h0 hb6=>?_)
  ·
   refine xS 80 [4] ?_
   refine jA (mA (mA ?_))
   obtain rfl:=oI h0
   exact lA [] rG
  refine oA (cA ?_)
  refine xS 80 [4] ?_
  refine jA (mA ?_)
  obtain rfl:=oI h0
  exact lA [] rG
 refine oA (cA (iA ?_))
 refine xS 72 [0,1,13] ?_
 refine xI h0 rfl (fun h0 hb7=>?_) (fun h0 hb7=>?_)
 ·
  refine xS 80 [4] ?_
  refine jA (mA ?_)
  obtain rfl:=oI h0
  exact lA [] rG
 refine oA (cA (iA ?_))
 refine xS 96 [0,1,16] ?_
 refine xI h0 rfl (fun h0 hb8=>?_) (fun h0 hb8=>?_)
 ·
  refine xS 104 [4] ?_
  refine jA (mA ?_)
  obtain rfl:=oI h0
  exact lA [] rG
 refine oA (cA (iA ?_))
 refine xS 120 [19] ?_
 refine xI h0 rfl (fun h0 hb9=>?_) (fun h0 hb9=>?_)
 ·
  refine xS 128 [4] ?_
  refine jA (mA ?_)
  obtain rfl:=oI h0
  exact lA [] rG
 refine oA (cA ?_)
 refine xS 128 [4] ?_
 refine jA ?_
 obtain rfl:=oI h0
 exact lA [] rG
theorem zef {fu : Nat} {vals1 : List Int} {r : Int} (h0 : aO fu vals1 = some r) : yA Tryz.prog 110 [.psl 1 (vals1.map (gA .i64))] (.int .i64 r) []:=by
 refine dB Tryz.func110 rfl (by decide) rL ?_
 dsimp only [Tryz.f110]
 rw [aO] at h0
 refine xS 8 [0] ?_
 refine xS 16 [0,3] ?_
 refine iA ?_
 refine xS 40 [3,6,7,8] ?_
 obtain ⟨x9,hxx9,h0⟩:=bA h0
 refine pC (fun s'=>∃ o14 : Unit,x9 = .inl o14 ∧ s'.nx ≤ 48 ∧ LeN [] s' ⟨[(3,.int .i64 0)],[],48,[]⟩) ?_ ?_
 ·
  intro s' hs
  obtain ⟨o14,rfl,hn,hs⟩:=hs
  refine cA ?_
  refine oB [] hn hs ?_
  refine xS 64 [2] ?_
  refine jA ?_
  obtain rfl:=oI h0
  exact lA [] rG
 refine lC (ι:={ p : Nat × Int // eI vals1 p.1 p.2 = some x9 }) (fun p=>⟨[(3,.int .i64 0),(6,.psl 1 (List.map (gA .i64) vals1)),(7,.int .i64 (vals1.length : Int)),(8,.int .i64 p.1.2)],[],40,[]⟩) (fun p=>p.1.1) ⟨(fu,0),hxx9⟩ ⟨rF,rE,rfl,rfl,trivial,trivial⟩ (fun _=>Nat.le_refl _) ?_
 rintro ⟨⟨fu,v10⟩,h1⟩
 cases fu with
 | zero =>
  replace h1 : eI vals1 0 v10 = some x9:=h1
  rw [eI] at h1; cases h1
 | succ fu =>
  replace h1 : eI vals1 (fu + 1) v10 = some x9:=h1
  rw [eI] at h1
  dsimp only
  refine xS 48 [3,6,7,8,9] ?_
  refine iA ?_
  refine xI h1 rfl (fun h1 hb11=>?_) (fun h1 hb11=>?_)
  ·
   refine oA (cA (iA (vB ?_)))
   obtain ⟨e12,he12,h1⟩:=bA h1
   obtain ⟨he12a,he12b,he12c⟩:=vA he12
   refine nA 72 [3,5,6,7,8] (fun _=>none) rfl (fun _ _=>rS (rA he12a (rA he12b he12c))) ?_
   refine nA 96 [3,5,6,7,8,14] (fun _=>none) rfl (fun _ _=>rS (rA he12a (rA he12b he12c))) ?_
   refine xI h1 rfl (fun h1 hb13=>?_) (fun h1 hb13=>?_)
   ·
    refine nA 112 [2] (fun _=>none) rfl (fun _ _=>rS (rA he12a (rA he12b he12c))) ?_
    refine jA ?_
    obtain rfl:=oI h1
    refine zB (mA (mA (xC (mA ?_))))
    obtain rfl:=oI h0
    refine lA [] ?_
    exact rJ (rA he12a (rA he12b he12c))
   refine oA (pB (cA ?_))
   refine nB 112 [3,6,7,8] (fun _=>none) rfl (fun _ _=>rS (rA he12a (rA he12b he12c))) ?_
   refine cA ?_
   exact ⟨⟨(fu,(IntKind.i64.wrap (v10 + 1))),h1⟩,⟨rF,rE,rfl,rfl,trivial,trivial⟩,Nat.lt_succ_self _⟩
  refine dC (xA (xA (gC ?_)))
  obtain rfl:=oI h1
  exact ⟨_,rfl,rL,⟨rF,rE,rfl,rfl,trivial,trivial⟩⟩
theorem zau {fu : Nat} {vs1 : iB} {r : Int × Int} (h0 : eH fu vs1 = some r) : yA Tryz.prog 84 [.agg (iB.enc vs1)] (.tup [.int .i64 r.1,.int .i64 r.2]) []:=by
 refine dB Tryz.func84 rfl (by decide) rL ?_
 dsimp only [Tryz.f84]
 rw [eH] at h0
 refine xS 24 [1] ?_
 refine iA ?_
 obtain ⟨vr2,hvr2,h0⟩:=bA h0
 refine nA 88 [1,4,5] (fun | 2=>some (.tup [.int .i64 vr2.1,.int .i64 vr2.2],[]) | _=>none) rfl (fun _ _=>rC (zaY hvr2)) ?_
 refine xS 104 [1,4,5,19] ?_
 refine xI h0 rfl (fun h0 hb3=>?_) (fun h0 hb3=>?_)
 ·
  refine xS 136 [2,3] ?_
  refine jA (mA ?_)
  obtain rfl:=oI h0
  exact lA [] rG
 refine oA (cA (iA ?_))
 refine xS 160 [1,28] ?_
 refine xI h0 rfl (fun h0 hb4=>?_) (fun h0 hb4=>?_)
 ·
  refine xS 176 [2,3] ?_
  refine jA (mA ?_)
  obtain rfl:=oI h0
  exact lA [] rG
 refine oA (cA (iA ?_))
 refine xS 192 [1,30,31,32] ?_
 obtain ⟨x18,hxx18,h0⟩:=bA h0
 refine pC (fun s'=>∃ o26 : Unit,x18 = .inl o26 ∧ s'.nx ≤ 200 ∧ LeN [] s' ⟨[(1,.ref 0 0 0 0)],[(0,⟨0,true,true,5,[[.psl 1 (List.map (tA 4 aA.enc) vs1.Runs),.psl 1 (List.map (gA .i64) vs1.At),.psl 2 (List.map eA.enc vs1.Tree.Keys),.psl 1 (List.map (gA .i64) vs1.Tree.Lose),.int .i64 vs1.Tree.Win]]⟩)],200,[]⟩) ?_ ?_
 ·
  intro s' hs
  obtain ⟨o26,rfl,hn,hs⟩:=hs
  refine cA ?_
  refine oB [] hn hs ?_
  refine iA ?_
  obtain ⟨vr27,hvr27,h0⟩:=bA h0
  obtain ⟨vr28,hvr28,h0⟩:=bA h0
  refine qC 272 [1,59] (fun | 6=>some (.agg (fB.enc vr27),[]) | 7=>some (.bool vr28,[]) | _=>none) rfl rfl rfl (fun Kt hK=>by
    try have q0:=zeG hvr27
    try have q1:=zm6 hvr28
    exact iF) ?_
  refine xI h0 rfl (fun h0 hb29=>?_) (fun h0 hb29=>?_)
  ·
   refine xS 288 [2,3] ?_
   refine jA (mA ?_)
   obtain rfl:=oI h0
   exact lA [] rG
  refine oA (cA ?_)
  obtain ⟨vr30,hvr30,h0⟩:=bA h0
  refine nA 352 [1,3,8,9] (fun | 2=>some (.tup [.int .i64 vr30.1,.str vr30.2.1,.int .i64 vr30.2.2],[]) | _=>none) rfl (fun _ _=>rC (zdf hvr30)) ?_
  refine iA ?_
  refine xS 368 [1,8,9,68] ?_
  refine xI h0 rfl (fun h0 hb31=>?_) (fun h0 hb31=>?_)
  ·
   refine xS 384 [2,3] ?_
   refine jA (mA ?_)
   obtain rfl:=oI h0
   exact lA [] rG
  refine oA (cA (iA ?_))
  refine xS 400 [1,8,9,70,71,72] ?_
  obtain ⟨x53,hxx53,h0⟩:=bA h0
  refine pC (fun s'=>∃ o65 : Unit,x53 = .inl o65 ∧ s'.nx ≤ 408 ∧ LeN [] s' ⟨[],[(0,⟨0,true,true,5,[[.psl 1 (List.map (tA 4 aA.enc) vs1.Runs),.psl 1 (List.map (gA .i64) vs1.At),.psl 2 (List.map eA.enc vs1.Tree.Keys),.psl 1 (List.map (gA .i64) vs1.Tree.Lose),.int .i64 vs1.Tree.Win]]⟩)],408,[]⟩) ?_ ?_
  ·
   intro s' hs
   obtain ⟨o65,rfl,hn,hs⟩:=hs
   refine cA ?_
   refine oB [] hn hs ?_
   refine xS 424 [2,3] ?_
   refine jA ?_
   obtain rfl:=oI h0
   exact lA [] rG
  refine lC (ι:={ p : Nat × Int // uF vs1 vr30 p.1 p.2 = some x53 }) (fun p=>⟨[(1,.ref 0 0 0 0),(8,.int .i64 vr30.1),(9,.str vr30.2.1),(70,.psl 1 (List.map (gA .i64) vs1.At)),(71,.int .i64 (vs1.At.length : Int)),(72,.int .i64 p.1.2)],[(0,⟨0,true,true,5,[[.psl 1 (List.map (tA 4 aA.enc) vs1.Runs),.psl 1 (List.map (gA .i64) vs1.At),.psl 2 (List.map eA.enc vs1.Tree.Keys),.psl 1 (List.map (gA .i64) vs1.Tree.Lose),.int .i64 vs1.Tree.Win]]⟩)],400,[]⟩) (fun p=>p.1.1) ⟨(fu,0),hxx53⟩ ⟨rF,rE,rfl,rfl,trivial,trivial⟩ (fun _=>Nat.le_refl _) ?_
  rintro ⟨⟨fu,v54⟩,h1⟩
  cases fu with
  | zero =>
  replace h1 : uF vs1 vr30 0 v54 = some x53:=h1
  rw [uF] at h1; cases h1
  | succ fu =>
   replace h1 : uF vs1 vr30 (fu + 1) v54 = some x53:=h1
   rw [uF] at h1
   dsimp only
   refine xS 408 [1,8,9,70,71,72,73] ?_
   refine iA ?_
   refine xI h1 rfl (fun h1 hb55=>?_) (fun h1 hb55=>?_)
   ·
    refine oA (cA (iA (vB ?_)))
    obtain ⟨e56,he56,h1⟩:=bA h1
    obtain ⟨he56a,he56b,he56c⟩:=vA he56
    refine nA 448 [1,8,9,10,11,70,71,72] (fun _=>none) rfl (fun _ _=>rS (rA he56a (rA he56b he56c))) ?_
    obtain ⟨b62,hb62,h1⟩:=bA h1
    refine jC (fr':=[(1,.ref 0 0 0 0),(8,.int .i64 vr30.1),(9,.str vr30.2.1),(70,.psl 1 (List.map (gA .i64) vs1.At)),(71,.int .i64 (vs1.At.length : Int)),(72,.int .i64 v54),(98,.bool b62)]) (hp':=[(0,⟨0,true,true,5,[[.psl 1 (List.map (tA 4 aA.enc) vs1.Runs),.psl 1 (List.map (gA .i64) vs1.At),.psl 2 (List.map eA.enc vs1.Tree.Keys),.psl 1 (List.map (gA .i64) vs1.Tree.Lose),.int .i64 vs1.Tree.Win]]⟩)]) [0] 624 [1,8,9,70,71,72,98] (fun | 14=>(ix vs1.Runs v54).bind fun e57=>(ix e57 (IntKind.i64.wrap (e56 - 1))).bind fun e58=>(rM fu e58.Key vr30.2.1).bind fun vr59=>some (.int .i64 vr59,[]) | 17=>(ix vs1.Runs v54).bind fun e57=>(ix e57 (IntKind.i64.wrap (e56 - 1))).bind fun e58=>(rM fu e58.Key vr30.2.1).bind fun vr59=>(dN fu v54 vr30.1).bind fun vr60=>some (.int .i64 vr60,[]) | 19=>(ix vs1.Runs v54).bind fun e57=>(ix e57 (IntKind.i64.wrap (e56 - 1))).bind fun e58=>(rM fu e58.Key vr30.2.1).bind fun vr59=>(dN fu v54 vr30.1).bind fun vr60=>(aO fu [vr59,vr60]).bind fun vr61=>some (.int .i64 vr61,[]) | _=>none) rfl (fun Kt hK=>by
      cases hg63 : (decide (0 < e56)) with
      | false =>
       replace hb62:=sA hb62 hg63
       have hqb62:=oI hb62
       subst hqb62
       simp (maxSteps:=1000000) only [↓reduceIte,reduceCtorEq,Nat.reduceEqDiff,Nat.reduceLT,Nat.reduceLeDiff,Nat.reduceAdd,Nat.reduceMul,Int.reduceToNat,push_cast,he56a,he56b,he56c,↓hg63]
       try simp only [↓hg63] at hK
       try have q0:=zeL hvr59
       try have q1:=zet hvr60
       try have q2:=zef hvr61
       all_goals exact rU
      | true =>
       replace hb62:=zA hb62 hg63
       obtain ⟨e57,he57,hb62⟩:=bA hb62
       obtain ⟨he57a,he57b,he57c⟩:=vA he57
       obtain ⟨e58,he58,hb62⟩:=bA hb62
       obtain ⟨he58a,he58b,he58c⟩:=vA he58
       obtain ⟨vr59,hvr59,hb62⟩:=bA hb62
       obtain ⟨vr60,hvr60,hb62⟩:=bA hb62
       obtain ⟨vr61,hvr61,hb62⟩:=bA hb62
       have hqb62:=oI hb62
       subst hqb62
       simp (maxSteps:=1000000) only [↓reduceIte,reduceCtorEq,Nat.reduceEqDiff,Nat.reduceLT,Nat.reduceLeDiff,Nat.reduceAdd,Nat.reduceMul,Int.reduceToNat,push_cast,he56a,he56b,he56c,↓hg63,he57a,he57b,he57c,he57,he58a,he58b,he58c,he58,hvr59,hvr60,hvr61]
       try simp only [↓hg63] at hK
       try have q0:=zeL hvr59
       try have q1:=zet hvr60
       try have q2:=zef hvr61
       all_goals exact rU) ?_
    refine xE ⟨[(1,.ref 0 0 0 0),(8,.int .i64 vr30.1),(9,.str vr30.2.1),(70,.psl 1 (List.map (gA .i64) vs1.At)),(71,.int .i64 (vs1.At.length : Int)),(72,.int .i64 v54),(98,.bool b62)],[(0,⟨0,true,true,5,[[.psl 1 (List.map (tA 4 aA.enc) vs1.Runs),.psl 1 (List.map (gA .i64) vs1.At),.psl 2 (List.map eA.enc vs1.Tree.Keys),.psl 1 (List.map (gA .i64) vs1.Tree.Lose),.int .i64 vs1.Tree.Win]]⟩)],624,[]⟩ ?_
    refine xI h1 rfl (fun h1 hb64=>?_) (fun h1 hb64=>?_)
    ·
     refine nA 648 [2,3] (fun _=>none) rfl (fun _ _=>rS (rA he56a (rA he56b he56c))) ?_
     refine jA ?_
     obtain rfl:=oI h1
     refine zB (mA (mA (xC (mA ?_))))
     obtain rfl:=oI h0
     refine lA [] ?_
     exact rJ (rA he56a (rA he56b he56c))
    refine oA (pB (cA ?_))
    refine nB 640 [1,8,9,70,71,72] (fun _=>none) rfl (fun _ _=>rS (rA he56a (rA he56b he56c))) ?_
    refine cA ?_
    exact ⟨⟨(fu,(IntKind.i64.wrap (v54 + 1))),h1⟩,⟨rF,rE,rfl,rfl,trivial,trivial⟩,Nat.lt_succ_self _⟩
   refine dC (xA (xA (gC ?_)))
   obtain rfl:=oI h1
   exact ⟨_,rfl,rL,⟨rF,rE,rfl,rfl,trivial,trivial⟩⟩
 refine lC (ι:={ p : Nat × Int // cH vs1 p.1 p.2 = some x18 }) (fun p=>⟨[(1,.ref 0 0 0 0),(30,.psl 1 (List.map (gA .i64) vs1.At)),(31,.int .i64 (vs1.At.length : Int)),(32,.int .i64 p.1.2)],[(0,⟨0,true,true,5,[[.psl 1 (List.map (tA 4 aA.enc) vs1.Runs),.psl 1 (List.map (gA .i64) vs1.At),.psl 2 (List.map eA.enc vs1.Tree.Keys),.psl 1 (List.map (gA .i64) vs1.Tree.Lose),.int .i64 vs1.Tree.Win]]⟩)],192,[]⟩) (fun p=>p.1.1) ⟨(fu,0),hxx18⟩ ⟨rF,rE,rfl,rfl,trivial,trivial⟩ (fun _=>Nat.le_refl _) ?_
 rintro ⟨⟨fu,v19⟩,h1⟩
 cases fu with
 | zero =>
  replace h1 : cH vs1 0 v19 = some x18:=h1
  rw [cH] at h1; cases h1
 | succ fu =>
  replace h1 : cH vs1 (fu + 1) v19 = some x18:=h1
  rw [cH] at h1
  dsimp only
  refine xS 200 [1,30,31,32,33] ?_
  refine iA ?_
  refine xI h1 rfl (fun h1 hb20=>?_) (fun h1 hb20=>?_)
  ·
   refine oA (cA (iA (vB ?_)))
   obtain ⟨e21,he21,h1⟩:=bA h1
   obtain ⟨he21a,he21b,he21c⟩:=vA he21
   refine nA 240 [1,6,7,30,31,32] (fun _=>none) rfl (fun _ _=>rS (rA he21a (rA he21b he21c))) ?_
   obtain ⟨b23,hb23,h1⟩:=bA h1
   refine jC (fr':=[(1,.ref 0 0 0 0),(6,.int .i64 v19),(30,.psl 1 (List.map (gA .i64) vs1.At)),(31,.int .i64 (vs1.At.length : Int)),(32,.int .i64 v19),(48,.bool b23)]) (hp':=[(0,⟨0,true,true,5,[[.psl 1 (List.map (tA 4 aA.enc) vs1.Runs),.psl 1 (List.map (gA .i64) vs1.At),.psl 2 (List.map eA.enc vs1.Tree.Keys),.psl 1 (List.map (gA .i64) vs1.Tree.Lose),.int .i64 vs1.Tree.Win]]⟩)]) [0] 336 [1,6,30,31,32,48] (fun _=>none) rfl (fun Kt hK=>by
     cases hg24 : (decide (e21 < 0)) with
     | false =>
      replace hb23:=sA hb23 hg24
      obtain ⟨e22,he22,hb23⟩:=bA hb23
      obtain ⟨he22a,he22b,he22c⟩:=vA he22
      have hqb23:=oI hb23
      subst hqb23
      exact sD hg24 (rA he21a (rA he21b (rA he21c (rA he22a (rA he22b (rA he22c he22)))))) hK
     | true =>
      replace hb23:=zA hb23 hg24
      have hqb23:=oI hb23
      subst hqb23
      exact sD hg24 (rA he21a (rA he21b he21c)) hK) ?_
   refine xI h1 rfl (fun h1 hb25=>?_) (fun h1 hb25=>?_)
   ·
    refine nA 360 [2,3] (fun _=>none) rfl (fun _ _=>rS (rA he21a (rA he21b he21c))) ?_
    refine jA ?_
    obtain rfl:=oI h1
    refine zB (mA (mA (xC (mA ?_))))
    obtain rfl:=oI h0
    refine lA [] ?_
    exact rJ (rA he21a (rA he21b he21c))
   refine oA (pB (cA ?_))
   refine nB 352 [1,30,31,32] (fun _=>none) rfl (fun _ _=>rS (rA he21a (rA he21b he21c))) ?_
   refine cA ?_
   exact ⟨⟨(fu,(IntKind.i64.wrap (v19 + 1))),h1⟩,⟨rF,rE,rfl,rfl,trivial,trivial⟩,Nat.lt_succ_self _⟩
  refine dC (xA (xA (gC ?_)))
  obtain rfl:=oI h1
  exact ⟨_,rfl,rL,⟨rF,rE,rfl,rfl,trivial,trivial⟩⟩
theorem zeJ {fu : Nat} {vr1 : List (List aA)} {vr2 : List Int} {vr3 : List eA} {vr4 : List Int} {vr5 : Int} {r : aA × Int × Int} (h0 : hM fu vr1 vr2 vr3 vr4 vr5 = some r) : yA Tryz.prog 117 [.pp [.psl 1 (vr1.map (tA 4 aA.enc)),.psl 1 (vr2.map (gA .i64)),.psl 2 (vr3.map eA.enc),.psl 1 (vr4.map (gA .i64)),.int .i64 vr5]] (.tup [.agg (aA.enc r.1),.int .i64 r.2.1,.int .i64 r.2.2]) []:=by
 refine dB Tryz.func117 rfl (by decide) rL ?_
 dsimp only [Tryz.f117]
 rw [hM] at h0
 refine xS 24 [0,2] ?_
 obtain ⟨vr6,hvr6,h0⟩:=bA h0
 refine nA 128 [0,2,5,7] (fun | 5=>some (.tup [.int .i64 vr6.1,.str vr6.2.1,.int .i64 vr6.2.2],[]) | _=>none) rfl (fun _ _=>rC (zdf hvr6)) ?_
 refine iA ?_
 refine xS 144 [0,2,5,7,19] ?_
 refine xI h0 rfl (fun h0 hb7=>?_) (fun h0 hb7=>?_)
 ·
  refine xS 184 [2,3,4] ?_
  refine jA (mA ?_)
  obtain rfl:=oI h0
  exact lA [] rG
 refine oA (cA ?_)
 obtain ⟨e8,he8,h0⟩:=bA h0
 obtain ⟨he8a,he8b,he8c⟩:=vA he8
 obtain ⟨e9,he9,h0⟩:=bA h0
 obtain ⟨he9a,he9b,he9c⟩:=vA he9
 obtain ⟨e10,he10,h0⟩:=bA h0
 obtain ⟨he10a,he10b,he10c⟩:=vA he10
 refine qC 320 [2,3,4] (fun _=>none) rfl rfl rfl (fun _ _=>xD (rA he8a (rA he8b (rA he8c (rA he9a (rA he9b (rA he9c (rA he10a (rA he10b he10c))))))))) ?_
 refine jA ?_
 obtain rfl:=oI h0
 refine lA [] ?_
 exact rJ (rA he8a (rA he8b (rA he8c (rA he9a (rA he9b (rA he9c (rA he10a (rA he10b he10c))))))))
theorem zbe {fu : Nat} {vs1 : List (List aA)} {r : List (List aA)} (h0 : nL fu vs1 = some r) : yA Tryz.prog 125 [.psl 1 (vs1.map (tA 4 aA.enc))] (.psl 1 (r.map (tA 4 aA.enc))) []:=by
 refine dB Tryz.func125 rfl (by decide) rL ?_
 dsimp only [Tryz.f125]
 rw [nL] at h0
 refine xS 8 [0] ?_
 refine iA ?_
 cases hb2 : vs1.isEmpty with
 | true =>
  replace h0:=zA h0 hb2
  obtain rfl : vs1 = []:=List.isEmpty_iff.1 hb2
  refine xS 24 [0,4] ?_
  refine mX rfl ?_ ?_
  ·
   skip
   refine xS 32 [2] ?_
   refine jA (mA ?_)
   obtain rfl:=oI h0
   exact lA [] rG
  ·
   skip
   refine oA (cA ?_)
   refine xS 56 [2] ?_
   refine xE ⟨[(2,.sl 24 1 1 0 0)],[(24,⟨1,true,true,1,List.map (tA 4 aA.enc) []⟩)],56,[]⟩ ?_
   refine jA ?_
   obtain rfl:=oI h0
   exact lA [] rG
 | false =>
  replace h0:=sA h0 hb2
  refine nA 24 [0,4] (fun _=>none) rfl (fun _ _=>rS hb2) ?_
  refine pF rfl ?_
  refine oA (cA ?_)
  obtain ⟨hc3,h0⟩:=pD h0
  refine nA 56 [2] (fun _=>none) rfl (fun _ _=>rS hb2) ?_
  refine xE ⟨[(2,.sl 24 1 1 0 vs1.length)],[(24,⟨1,true,true,1,List.map (tA 4 aA.enc) vs1⟩)],56,[]⟩ ?_
  refine jA ?_
  obtain rfl:=oI h0
  refine lA [] ?_
  exact rJ hb2
theorem zcq {fu : Nat} {vs1 : List eA} {r : List eA} (h0 : oQ fu vs1 = some r) : yA Tryz.prog 144 [.psl 2 (vs1.map eA.enc)] (.sl 0 0 2 0 r.length) [⟨0,true,true,2,r.map eA.enc⟩]:=by
 refine dB Tryz.func144 rfl (by decide) rL ?_
 dsimp only [Tryz.f144]
 rw [oQ] at h0
 refine xS 8 [0] ?_
 refine iA ?_
 cases hb2 : vs1.isEmpty with
 | true =>
  replace h0:=zA h0 hb2
  obtain rfl : vs1 = []:=List.isEmpty_iff.1 hb2
  refine xS 24 [0,4] ?_
  refine mX rfl ?_ ?_
  ·
   skip
   refine xS 32 [2] ?_
   refine oB (s2:=⟨[(2,.sl 32 0 2 0 0)],[(32,⟨0,true,true,2,List.map eA.enc []⟩)],33,[]⟩) [(32,2)] rL ⟨rF,rE,rfl,rfl,trivial,rN⟩ ?_
   refine jA (mA ?_)
   obtain rfl:=oI h0
   exact lA [32] rG
  ·
   skip
   refine oA (cA ?_)
   refine xS 56 [2] ?_
   refine xE ⟨[(2,.sl 24 1 2 0 0)],[(24,⟨1,true,true,2,List.map eA.enc []⟩)],56,[]⟩ ?_
   refine jA ?_
   obtain rfl:=oI h0
   exact lA [24] rG
 | false =>
  replace h0:=sA h0 hb2
  refine nA 24 [0,4] (fun _=>none) rfl (fun _ _=>rS hb2) ?_
  refine pF rfl ?_
  refine oA (cA ?_)
  obtain ⟨hc3,h0⟩:=pD h0
  refine nA 56 [2] (fun _=>none) rfl (fun _ _=>rS hb2) ?_
  refine xE ⟨[(2,.sl 24 1 2 0 vs1.length)],[(24,⟨1,true,true,2,List.map eA.enc vs1⟩)],56,[]⟩ ?_
  refine jA ?_
  obtain rfl:=oI h0
  refine lA [24] ?_
  exact rJ hb2
theorem zjy {fu : Nat} {keys1 : List eA} {r : fB} (h0 : pU fu keys1 = some r) : yA Tryz.prog 142 [.psl 2 (keys1.map eA.enc)] (.agg [.sl 0 0 2 0 r.Keys.length,.sl 1 0 1 0 r.Lose.length,.int .i64 r.Win]) [⟨0,true,true,2,r.Keys.map eA.enc⟩,⟨0,true,true,1,r.Lose.map (gA .i64)⟩]:=by
 refine dB Tryz.func142 rfl (by decide) rL ?_
 dsimp only [Tryz.f142]
 rw [pU] at h0
 refine xS 8 [0,2] ?_
 refine xS 32 [0,2,3] ?_
 obtain ⟨vr2,hvr2,h0⟩:=bA h0
 refine nA 56 [0,2,3,4] (fun | 1=>some (.fn 151 [] [.pp [.psl 2 (vr2.map eA.enc)]],[]) | _=>none) rfl (fun _ _=>rC (zbG hvr2)) ?_
 obtain ⟨hc3,h0⟩:=pD h0
 refine xS 88 [0,2,3,4,5] ?_
 refine xE ⟨[(0,.psl 2 (List.map eA.enc keys1)),(2,.ref 0 0 0 0),(3,.int .i64 (keys1.length : Int)),(4,.fn 151 [] [.pp [.psl 2 (List.map eA.enc vr2)]]),(5,.sl 72 0 1 0 ((List.replicate (IntKind.i64.wrap (2 * (keys1.length : Int))).toNat 0 : List Int).length))],[(0,⟨0,true,true,3,[[.nils,.nils,.int .i64 0]]⟩),(72,⟨0,true,true,1,List.map (gA .i64) (List.replicate (IntKind.i64.wrap (2 * (keys1.length : Int))).toNat 0 : List Int)⟩)],88,[]⟩ ?_
 obtain ⟨vr4,hvr4,h0⟩:=bA h0
 obtain ⟨hc5,h0⟩:=pD h0
 refine qC 144 [2,3,4,5,6] (fun | 1=>some (.sl 0 0 2 0 vr4.length,[⟨0,true,true,2,vr4.map eA.enc⟩]) | _=>none) rfl rfl rfl (fun _ _=>hO (zcq hvr4)) ?_
 refine xE ⟨[(2,.ref 0 0 0 0),(3,.int .i64 (keys1.length : Int)),(4,.fn 151 [] [.pp [.psl 2 (List.map eA.enc vr2)]]),(5,.sl 72 0 1 0 ((List.replicate (IntKind.i64.wrap (2 * (keys1.length : Int))).toNat 0 : List Int).length)),(6,.ref 128 0 0 0)],[(0,⟨0,true,true,3,[[.nils,.nils,.int .i64 0]]⟩),(72,⟨0,true,true,1,List.map (gA .i64) (List.replicate (IntKind.i64.wrap (2 * (keys1.length : Int))).toNat 0 : List Int)⟩),(96,⟨0,true,true,2,List.map eA.enc vr4⟩),(112,⟨0,true,true,1,List.map (gA .i64) (List.replicate keys1.length 0 : List Int)⟩),(128,⟨0,true,false,3,[[.sl 96 0 2 0 vr4.length,.sl 112 0 1 0 ((List.replicate keys1.length 0 : List Int).length),.int .i64 0]]⟩)],144,[]⟩ ?_
 refine iA ?_
 refine xS 176 [2,3,4,5,6,7] ?_
 obtain ⟨x33,hxx33,h0⟩:=bA h0
 refine pC (fun s'=>∃ g50 : Nat,∃ g51 : Nat,s'.nx ≤ 192 ∧ LeN [] s' ⟨[(2,.ref 0 0 0 0),(5,.sl 72 g50 1 0 x33.1.length),(6,.ref 128 0 0 0)],[(0,⟨0,true,true,3,[[.nils,.nils,.int .i64 0]]⟩),(72,⟨g50,true,true,1,List.map (gA .i64) x33.1⟩),(96,⟨0,true,true,2,List.map eA.enc vr4⟩),(112,⟨g51,true,true,1,List.map (gA .i64) x33.2⟩),(128,⟨0,true,false,3,[[.sl 96 0 2 0 vr4.length,.sl 112 g51 1 0 x33.2.length,.int .i64 0]]⟩)],192,[]⟩) ?_ ?_
 ·
  intro s' hs
  obtain ⟨g50,g51,hn,hs⟩:=hs
  refine cA ?_
  refine oB [] hn hs ?_
  obtain ⟨e52,he52,h0⟩:=bA h0
  have he52b:=(vA he52).2.1
  have he52c:=(dG 1 he52 rfl).1
  have he52a:=(dG 1 he52 rfl).2
  refine nA 232 [2,6] (fun _=>none) rfl (fun _ _=>rS (rA he52a (rA he52b he52c))) ?_
  refine nA 248 [2] (fun _=>none) rfl (fun _ _=>rS (rA he52a (rA he52b he52c))) ?_
  refine jA ?_
  obtain rfl:=oI h0
  refine lA [96,112] ?_
  exact rJ (rA he52a (rA he52b he52c))
 refine lC (ι:={ p : Nat × Int × List Int × List Int × Nat × Nat // eJ keys1 vr2 p.1 p.2.1 p.2.2.1 p.2.2.2.1 = some x33 }) (fun p=>⟨[(2,.ref 0 0 0 0),(3,.int .i64 (keys1.length : Int)),(4,.fn 151 [] [.pp [.psl 2 (List.map eA.enc vr2)]]),(5,.sl 72 p.1.2.2.2.2.1 1 0 p.1.2.2.1.length),(6,.ref 128 0 0 0),(7,.int .i64 p.1.2.1)],[(0,⟨0,true,true,3,[[.nils,.nils,.int .i64 0]]⟩),(72,⟨p.1.2.2.2.2.1,true,true,1,List.map (gA .i64) p.1.2.2.1⟩),(96,⟨0,true,true,2,List.map eA.enc vr4⟩),(112,⟨p.1.2.2.2.2.2,true,true,1,List.map (gA .i64) p.1.2.2.2.1⟩),(128,⟨0,true,false,3,[[.sl 96 0 2 0 vr4.length,.sl 112 p.1.2.2.2.2.2 1 0 p.1.2.2.2.1.length,.int .i64 0]]⟩)],176,[]⟩) (fun p=>p.1.1) ⟨(fu,(IntKind.i64.wrap ((IntKind.i64.wrap (2 * (keys1.length : Int))) - 1)),(List.replicate (IntKind.i64.wrap (2 * (keys1.length : Int))).toNat 0 : List Int),(List.replicate keys1.length 0 : List Int),0,0),hxx33⟩ ⟨rF,rE,rfl,rfl,trivial,trivial⟩ (fun _=>Nat.le_refl _) ?_
 rintro ⟨⟨fu,i34,players35,v36,g37,g38⟩,h1⟩
 cases fu with
 | zero =>
  replace h1 : eJ keys1 vr2 0 i34 players35 v36 = some x33:=h1
  rw [eJ] at h1; cases h1
 | succ fu =>
  replace h1 : eJ keys1 vr2 (fu + 1) i34 players35 v36 = some x33:=h1
  rw [eJ] at h1
  dsimp only
  refine iA ?_
  refine xS 192 [2,3,4,5,6,7,26] ?_
  refine xI h1 rfl (fun h1 hb39=>?_) (fun h1 hb39=>?_)
  ·
   refine oA (cA (iA (vB (iA ?_))))
   refine xS 216 [2,3,4,5,6,7,31] ?_
   refine xI h1 rfl (fun h1 hb40=>?_) (fun h1 hb40=>?_)
   ·
    obtain ⟨e41,he41,h1⟩:=bA h1
    obtain ⟨he41a,he41b,he41c⟩:=vA he41
    refine nA 272 [2,3,4,5,6,7] (fun _=>none) rfl (fun _ _=>rS (rA he41a (rA he41b he41c))) ?_
    refine xE ⟨[(2,.ref 0 0 0 0),(3,.int .i64 (keys1.length : Int)),(4,.fn 151 [] [.pp [.psl 2 (List.map eA.enc vr2)]]),(5,.sl 72 g37 1 0 ((players35.set i34.toNat (IntKind.i64.wrap (i34 - (keys1.length : Int)))).length)),(6,.ref 128 0 0 0),(7,.int .i64 i34)],[(0,⟨0,true,true,3,[[.nils,.nils,.int .i64 0]]⟩),(72,⟨g37,true,true,1,List.map (gA .i64) (players35.set i34.toNat (IntKind.i64.wrap (i34 - (keys1.length : Int))))⟩),(96,⟨0,true,true,2,List.map eA.enc vr4⟩),(112,⟨g38,true,true,1,List.map (gA .i64) v36⟩),(128,⟨0,true,false,3,[[.sl 96 0 2 0 vr4.length,.sl 112 g38 1 0 v36.length,.int .i64 0]]⟩)],272,[]⟩ ?_
    refine dC (xA (za3 (cA ?_)))
    refine nB 296 [2,3,4,5,6,7] (fun _=>none) rfl (fun _ _=>rS (rA he41a (rA he41b he41c))) ?_
    refine cA ?_
    exact ⟨⟨(fu,(IntKind.i64.wrap (i34 - 1)),(players35.set i34.toNat (IntKind.i64.wrap (i34 - (keys1.length : Int)))),v36,g37,g38),h1⟩,⟨rF,rE,rfl,rfl,trivial,trivial⟩,Nat.lt_succ_self _⟩
   refine oA (cA ?_)
   obtain ⟨e42,he42,h1⟩:=bA h1
   obtain ⟨he42a,he42b,he42c⟩:=vA he42
   obtain ⟨e43,he43,h1⟩:=bA h1
   obtain ⟨he43a,he43b,he43c⟩:=vA he43
   refine qC 320 [2,3,4,5,6,7,8,9] (fun _=>none) rfl rfl rfl (fun _ _=>xD (rA he42a (rA he42b (rA he42c (rA he43a (rA he43b he43c)))))) ?_
   refine iA ?_
   obtain ⟨vr44,hvr44,h1⟩:=bA h1
   refine nA 360 [2,3,4,5,6,7,8,9,53] (fun | 3=>some (.bool vr44,[]) | _=>none) rfl (fun _ _=>rB (rA he42a (rA he42b (rA he42c (rA he43a (rA he43b he43c))))) (zbs hvr44)) ?_
   refine xI h1 rfl (fun h1 hb45=>?_) (fun h1 hb45=>?_)
   ·
    refine nB 392 [2,3,4,5,6,7,8,9] (fun _=>none) rfl (fun _ _=>rS (rA he42a (rA he42b (rA he42c (rA he43a (rA he43b he43c)))))) ?_
    refine cA ?_
    obtain ⟨e46,he46,h1⟩:=bA h1
    obtain ⟨he46a,he46b,he46c⟩:=vA he46
    obtain ⟨e47,he47,h1⟩:=bA h1
    obtain ⟨he47a,he47b,he47c⟩:=vA he47
    refine aH 480 [2,3,4,5,6,7] (fun _=>none) rfl rfl rfl (fun _ _=>xD (rA he42a (rA he42b (rA he42c (rA he43a (rA he43b (rA he43c (rA he46a (rA he46b (rA he46c (rA he47a (rA he47b he47c)))))))))))) ?_
    refine pB (cA ?_)
    refine xE ⟨[(2,.ref 0 0 0 0),(3,.int .i64 (keys1.length : Int)),(4,.fn 151 [] [.pp [.psl 2 (List.map eA.enc vr2)]]),(5,.sl 72 g37 1 0 ((players35.set i34.toNat e43).length)),(6,.ref 128 0 0 0),(7,.int .i64 i34)],[(0,⟨0,true,true,3,[[.nils,.nils,.int .i64 0]]⟩),(72,⟨g37,true,true,1,List.map (gA .i64) (players35.set i34.toNat e43)⟩),(96,⟨0,true,true,2,List.map eA.enc vr4⟩),(112,⟨g38,true,true,1,List.map (gA .i64) (v36.set i34.toNat e42)⟩),(128,⟨0,true,false,3,[[.sl 96 0 2 0 vr4.length,.sl 112 g38 1 0 ((v36.set i34.toNat e42).length),.int .i64 0]]⟩)],480,[]⟩ ?_
    refine nB 504 [2,3,4,5,6,7] (fun _=>none) rfl (fun _ _=>rS (rA he42a (rA he42b (rA he42c (rA he43a (rA he43b (rA he43c (rA he46a (rA he46b (rA he46c (rA he47a (rA he47b he47c)))))))))))) ?_
    refine cA ?_
    exact ⟨⟨(fu,(IntKind.i64.wrap (i34 - 1)),(players35.set i34.toNat e43),(v36.set i34.toNat e42),g37,g38),h1⟩,⟨rF,rE,rfl,rfl,trivial,trivial⟩,Nat.lt_succ_self _⟩
   refine oA (cA ?_)
   obtain ⟨e48,he48,h1⟩:=bA h1
   obtain ⟨he48a,he48b,he48c⟩:=vA he48
   obtain ⟨e49,he49,h1⟩:=bA h1
   obtain ⟨he49a,he49b,he49c⟩:=vA he49
   refine aH 448 [2,3,4,5,6,7] (fun _=>none) rfl rfl rfl (fun _ _=>xD (rA he42a (rA he42b (rA he42c (rA he43a (rA he43b (rA he43c (rA he48a (rA he48b (rA he48c (rA he49a (rA he49b he49c)))))))))))) ?_
   refine pB (cA ?_)
   refine xE ⟨[(2,.ref 0 0 0 0),(3,.int .i64 (keys1.length : Int)),(4,.fn 151 [] [.pp [.psl 2 (List.map eA.enc vr2)]]),(5,.sl 72 g37 1 0 ((players35.set i34.toNat e42).length)),(6,.ref 128 0 0 0),(7,.int .i64 i34)],[(0,⟨0,true,true,3,[[.nils,.nils,.int .i64 0]]⟩),(72,⟨g37,true,true,1,List.map (gA .i64) (players35.set i34.toNat e42)⟩),(96,⟨0,true,true,2,List.map eA.enc vr4⟩),(112,⟨g38,true,true,1,List.map (gA .i64) (v36.set i34.toNat e43)⟩),(128,⟨0,true,false,3,[[.sl 96 0 2 0 vr4.length,.sl 112 g38 1 0 ((v36.set i34.toNat e43).length),.int .i64 0]]⟩)],448,[]⟩ ?_
   refine nB 472 [2,3,4,5,6,7] (fun _=>none) rfl (fun _ _=>rS (rA he42a (rA he42b (rA he42c (rA he43a (rA he43b (rA he43c (rA he48a (rA he48b (rA he48c (rA he49a (rA he49b he49c)))))))))))) ?_
   refine cA ?_
   exact ⟨⟨(fu,(IntKind.i64.wrap (i34 - 1)),(players35.set i34.toNat e42),(v36.set i34.toNat e43),g37,g38),h1⟩,⟨rF,rE,rfl,rfl,trivial,trivial⟩,Nat.lt_succ_self _⟩
  refine dC (xA (xA (gC ?_)))
  obtain rfl:=oI h1
  exact ⟨g37,g38,rL,⟨rF,rE,rfl,rfl,trivial,trivial⟩⟩
theorem zkB {fu : Nat} {keys1 : List eA} {r : fB × Int} (h0 : gV fu keys1 = some r) : yA Tryz.prog 127 [.psl 2 (keys1.map eA.enc)] (.tup [.agg [.sl 0 0 2 0 r.1.Keys.length,.sl 1 0 1 0 r.1.Lose.length,.int .i64 r.1.Win],.int .i64 r.2]) [⟨0,true,true,2,r.1.Keys.map eA.enc⟩,⟨0,true,true,1,r.1.Lose.map (gA .i64)⟩]:=by
 refine dB Tryz.func127 rfl (by decide) rL ?_
 dsimp only [Tryz.f127]
 rw [gV] at h0
 refine xS 16 [0,2] ?_
 refine iA ?_
 obtain ⟨vr2,hvr2,h0⟩:=bA h0
 refine nA 40 [0,2,4] (fun | 1=>some (.int .i64 vr2,[]) | _=>none) rfl (fun _ _=>rC (mZ hvr2)) ?_
 refine xS 56 [0,2,4,8] ?_
 refine xI h0 rfl (fun h0 hb3=>?_) (fun h0 hb3=>?_)
 ·
  refine xS 88 [2,3] ?_
  refine oB (s2:=⟨[(2,.ref 0 0 0 0),(3,.int .i64 vr2)],[(0,⟨0,true,false,3,[[.sl 88 0 2 0 0,.sl 89 0 1 0 0,.int .i64 0]]⟩),(88,⟨0,true,true,2,List.map eA.enc []⟩),(89,⟨0,true,true,1,List.map (gA .i64) []⟩)],90,[]⟩) [(88,2),(89,1)] rL ⟨rF,rE,rfl,rfl,trivial,rN⟩ ?_
  refine jA (mA ?_)
  obtain rfl:=oI h0
  exact lA [88,89] rG
 refine oA (cA ?_)
 obtain ⟨vr4,hvr4,h0⟩:=bA h0
 refine nA 88 [2,3] (fun | 1=>some (.agg [.sl 0 0 2 0 vr4.Keys.length,.sl 1 0 1 0 vr4.Lose.length,.int .i64 vr4.Win],[⟨0,true,true,2,vr4.Keys.map eA.enc⟩,⟨0,true,true,1,vr4.Lose.map (gA .i64)⟩]) | _=>none) rfl (fun _ _=>rC (zjy hvr4)) ?_
 refine jA ?_
 obtain rfl:=oI h0
 exact lA [64,65] rG
theorem zmc {fu : Nat} {runs1 : List (List aA)} {vat2 : List Int} {r : fB} (h0 : eU fu runs1 vat2 = some r) : yA Tryz.prog 108 [.psl 1 (runs1.map (tA 4 aA.enc)),.psl 1 (vat2.map (gA .i64))] (.agg [.sl 0 0 2 0 r.Keys.length,.sl 1 0 1 0 r.Lose.length,.int .i64 r.Win]) [⟨0,true,true,2,r.Keys.map eA.enc⟩,⟨0,true,true,1,r.Lose.map (gA .i64)⟩]:=by
 refine dB Tryz.func108 rfl (by decide) rL ?_
 dsimp only [Tryz.f108]
 rw [eU] at h0
 refine xS 8 [0,1,4] ?_
 obtain ⟨hc3,h0⟩:=pD h0
 refine xS 40 [0,1,4,5] ?_
 refine xE ⟨[(0,.psl 1 (List.map (tA 4 aA.enc) runs1)),(1,.psl 1 (List.map (gA .i64) vat2)),(4,.ref 0 0 0 0),(5,.sl 24 0 2 0 ((List.replicate runs1.length (eA.mk [] false) : List eA).length))],[(0,⟨0,true,true,3,[[.nils,.nils,.int .i64 0]]⟩),(24,⟨0,true,true,2,List.map eA.enc (List.replicate runs1.length (eA.mk [] false) : List eA)⟩)],40,[]⟩ ?_
 refine iA ?_
 refine xS 64 [1,4,5,13,14,15] ?_
 obtain ⟨x17,hxx17,h0⟩:=bA h0
 refine pC (fun s'=>∃ g26 : Nat,s'.nx ≤ 72 ∧ LeN [] s' ⟨[(4,.ref 0 0 0 0),(5,.sl 24 g26 2 0 x17.length)],[(0,⟨0,true,true,3,[[.nils,.nils,.int .i64 0]]⟩),(24,⟨g26,true,true,2,List.map eA.enc x17⟩)],72,[]⟩) ?_ ?_
 ·
  intro s' hs
  obtain ⟨g26,hn,hs⟩:=hs
  refine cA ?_
  refine oB [] hn hs ?_
  obtain ⟨vr27,hvr27,h0⟩:=bA h0
  refine nA 136 [4,8] (fun | 1=>some (.tup [.agg [.sl 0 0 2 0 vr27.1.Keys.length,.sl 1 0 1 0 vr27.1.Lose.length,.int .i64 vr27.1.Win],.int .i64 vr27.2],[⟨0,true,true,2,vr27.1.Keys.map eA.enc⟩,⟨0,true,true,1,vr27.1.Lose.map (gA .i64)⟩]) | _=>none) rfl (fun _ _=>rC (zkB hvr27)) ?_
  refine xS 152 [4] ?_
  refine jA ?_
  obtain rfl:=oI h0
  exact lA [80,81] rG
 refine lC (ι:={ p : Nat × Int × List eA × Nat // uK runs1 vat2 p.1 p.2.1 p.2.2.1 = some x17 }) (fun p=>⟨[(1,.psl 1 (List.map (gA .i64) vat2)),(4,.ref 0 0 0 0),(5,.sl 24 p.1.2.2.2 2 0 p.1.2.2.1.length),(13,.psl 1 (List.map (tA 4 aA.enc) runs1)),(14,.int .i64 (runs1.length : Int)),(15,.int .i64 p.1.2.1)],[(0,⟨0,true,true,3,[[.nils,.nils,.int .i64 0]]⟩),(24,⟨p.1.2.2.2,true,true,2,List.map eA.enc p.1.2.2.1⟩)],64,[]⟩) (fun p=>p.1.1) ⟨(fu,0,(List.replicate runs1.length (eA.mk [] false) : List eA),0),hxx17⟩ ⟨rF,rE,rfl,rfl,trivial,trivial⟩ (fun _=>Nat.le_refl _) ?_
 rintro ⟨⟨fu,v18,keys19,g20⟩,h1⟩
 cases fu with
 | zero =>
  replace h1 : uK runs1 vat2 0 v18 keys19 = some x17:=h1
  rw [uK] at h1; cases h1
 | succ fu =>
  replace h1 : uK runs1 vat2 (fu + 1) v18 keys19 = some x17:=h1
  rw [uK] at h1
  dsimp only
  refine xS 72 [1,4,5,13,14,15,16] ?_
  refine iA ?_
  refine xI h1 rfl (fun h1 hb21=>?_) (fun h1 hb21=>?_)
  ·
   refine oA (cA (iA (vB ?_)))
   obtain ⟨e22,he22,h1⟩:=bA h1
   obtain ⟨he22a,he22b,he22c⟩:=vA he22
   refine nA 112 [1,4,5,6,7,13,14,15] (fun _=>none) rfl (fun _ _=>rS (rA he22a (rA he22b he22c))) ?_
   obtain ⟨e23,he23,h1⟩:=bA h1
   obtain ⟨he23a,he23b,he23c⟩:=vA he23
   obtain ⟨vr24,hvr24,h1⟩:=bA h1
   obtain ⟨e25,he25,h1⟩:=bA h1
   obtain ⟨he25a,he25b,he25c⟩:=vA he25
   refine nB 192 [1,4,5,13,14,15] (fun | 7=>some (.agg (eA.enc vr24),[]) | _=>none) rfl (fun _ _=>rB (rA he22a (rA he22b (rA he22c (rA he23a (rA he23b (rA he23c (rA he25a (rA he25b he25c)))))))) (jZ hvr24)) ?_
   refine pB (cA ?_)
   refine xE ⟨[(1,.psl 1 (List.map (gA .i64) vat2)),(4,.ref 0 0 0 0),(5,.sl 24 g20 2 0 ((keys19.set v18.toNat vr24).length)),(13,.psl 1 (List.map (tA 4 aA.enc) runs1)),(14,.int .i64 (runs1.length : Int)),(15,.int .i64 v18)],[(0,⟨0,true,true,3,[[.nils,.nils,.int .i64 0]]⟩),(24,⟨g20,true,true,2,List.map eA.enc (keys19.set v18.toNat vr24)⟩)],192,[]⟩ ?_
   refine nB 208 [1,4,5,13,14,15] (fun _=>none) rfl (fun _ _=>rS (rA he22a (rA he22b (rA he22c (rA he23a (rA he23b (rA he23c (rA he25a (rA he25b he25c))))))))) ?_
   refine cA ?_
   exact ⟨⟨(fu,(IntKind.i64.wrap (v18 + 1)),(keys19.set v18.toNat vr24),g20),h1⟩,⟨rF,rE,rfl,rfl,trivial,trivial⟩,Nat.lt_succ_self _⟩
  refine dC (xA (xA (gC ?_)))
  obtain rfl:=oI h1
  exact ⟨g20,rL,⟨rF,rE,rfl,rfl,trivial,trivial⟩⟩
theorem zkf {fu : Nat} {runs1 : List (List aA)} {r : iB × Int × Int} (h0 : yS fu runs1 = some r) : yA Tryz.prog 99 [.psl 1 (runs1.map (tA 4 aA.enc))] (.tup [.agg [.psl 1 (List.map (tA 4 aA.enc) r.1.Runs),.sl 0 0 1 0 r.1.At.length,.psl 2 (List.map eA.enc r.1.Tree.Keys),.psl 1 (List.map (gA .i64) r.1.Tree.Lose),.int .i64 r.1.Tree.Win],.int .i64 r.2.1,.int .i64 r.2.2]) [⟨0,true,true,1,r.1.At.map (gA .i64)⟩]:=by
 refine dB Tryz.func99 rfl (by decide) rL ?_
 dsimp only [Tryz.f99]
 rw [yS] at h0
 refine xS 24 [0,2] ?_
 refine iA ?_
 obtain ⟨vr2,hvr2,h0⟩:=bA h0
 refine nA 80 [0,2,5,6] (fun | 1=>some (.tup [.int .i64 vr2.1,.int .i64 vr2.2],[]) | _=>none) rfl (fun _ _=>rC (zaY hvr2)) ?_
 refine xS 96 [0,2,5,6,14] ?_
 refine xI h0 rfl (fun h0 hb3=>?_) (fun h0 hb3=>?_)
 ·
  refine xS 144 [2,3,4] ?_
  refine oB (s2:=⟨[(2,.ref 0 0 0 0),(3,.int .i64 vr2.1),(4,.int .i64 vr2.2)],[(0,⟨0,true,false,5,[[.nils,.sl 144 0 1 0 0,.nils,.nils,.int .i64 0]]⟩),(144,⟨0,true,true,1,List.map (gA .i64) []⟩)],145,[]⟩) [(144,1)] rL ⟨rF,rE,rfl,rfl,trivial,rN⟩ ?_
  refine jA (mA ?_)
  obtain rfl:=oI h0
  exact lA [144] rG
 refine oA (cA ?_)
 obtain ⟨hc4,h0⟩:=pD h0
 refine xS 128 [0,2,7] ?_
 refine xE ⟨[(0,.psl 1 (List.map (tA 4 aA.enc) runs1)),(2,.ref 0 0 0 0),(7,.sl 112 0 1 0 ((List.replicate runs1.length 0 : List Int).length))],[(0,⟨0,true,true,5,[[.nils,.nils,.nils,.nils,.int .i64 0]]⟩),(112,⟨0,true,true,1,List.map (gA .i64) (List.replicate runs1.length 0 : List Int)⟩)],128,[]⟩ ?_
 obtain ⟨vr5,hvr5,h0⟩:=bA h0
 obtain ⟨vr6,hvr6,h0⟩:=bA h0
 refine nA 208 [2,3,4] (fun | 1=>some (.psl 1 (vr5.map (tA 4 aA.enc)),[]) | 5=>some (.agg [.sl 0 0 2 0 vr6.Keys.length,.sl 1 0 1 0 vr6.Lose.length,.int .i64 vr6.Win],[⟨0,true,true,2,vr6.Keys.map eA.enc⟩,⟨0,true,true,1,vr6.Lose.map (gA .i64)⟩]) | _=>none) rfl (fun Kt hK=>by
   try have q0:=zbe hvr5
   try have q1:=zmc hvr6
   exact rT) ?_
 refine jA ?_
 obtain rfl:=oI h0
 exact lA [112] rG
theorem ze0 {fu : Nat} {vs1 : List Int} {r : List Int} (h0 : pO fu vs1 = some r) : yA Tryz.prog 132 [.psl 1 (vs1.map (gA .i64))] (.sl 0 0 1 0 r.length) [⟨0,true,true,1,r.map (gA .i64)⟩]:=by
 refine dB Tryz.func132 rfl (by decide) rL ?_
 dsimp only [Tryz.f132]
 rw [pO] at h0
 refine xS 8 [0] ?_
 refine iA ?_
 cases hb2 : vs1.isEmpty with
 | true =>
  replace h0:=zA h0 hb2
  obtain rfl : vs1 = []:=List.isEmpty_iff.1 hb2
  refine xS 24 [0,4] ?_
  refine mX rfl ?_ ?_
  ·
   skip
   refine xS 32 [2] ?_
   refine oB (s2:=⟨[(2,.sl 32 0 1 0 0)],[(32,⟨0,true,true,1,List.map (gA .i64) []⟩)],33,[]⟩) [(32,1)] rL ⟨rF,rE,rfl,rfl,trivial,rN⟩ ?_
   refine jA (mA ?_)
   obtain rfl:=oI h0
   exact lA [32] rG
  ·
   skip
   refine oA (cA ?_)
   refine xS 56 [2] ?_
   refine xE ⟨[(2,.sl 24 1 1 0 0)],[(24,⟨1,true,true,1,List.map (gA .i64) []⟩)],56,[]⟩ ?_
   refine jA ?_
   obtain rfl:=oI h0
   exact lA [24] rG
 | false =>
  replace h0:=sA h0 hb2
  refine nA 24 [0,4] (fun _=>none) rfl (fun _ _=>rS hb2) ?_
  refine pF rfl ?_
  refine oA (cA ?_)
  obtain ⟨hc3,h0⟩:=pD h0
  refine nA 56 [2] (fun _=>none) rfl (fun _ _=>rS hb2) ?_
  refine xE ⟨[(2,.sl 24 1 1 0 vs1.length)],[(24,⟨1,true,true,1,List.map (gA .i64) vs1⟩)],56,[]⟩ ?_
  refine jA ?_
  obtain rfl:=oI h0
  refine lA [24] ?_
  exact rJ hb2
theorem zfv {fu : Nat} {t1 : fB} {k2 : eA} {r : fB × Int × Int} (h0 : nN fu t1 k2 = some r) : yA Tryz.prog 133 [.agg (fB.enc t1),.agg (eA.enc k2)] (.tup [.agg (fB.enc r.1),.int .i64 r.2.1,.int .i64 r.2.2]) []:=by
 refine dB Tryz.func133 rfl (by decide) rL ?_
 dsimp only [Tryz.f133]
 rw [nN] at h0
 refine xS 40 [2,3,4,5] ?_
 refine zo7 (iA ?_)
 obtain ⟨vr3,hvr3,h0⟩:=bA h0
 refine nA 64 [2,3,4,5,7] (fun | 1=>some (.int .i64 vr3,[]) | _=>none) rfl (fun _ _=>rC (zdk hvr3)) ?_
 refine xS 80 [2,3,4,5,7,14] ?_
 refine xI h0 rfl (fun h0 hb4=>?_) (fun h0 hb4=>?_)
 ·
  refine xS 120 [4,5,6] ?_
  refine jA (mA (fY ?_))
  obtain rfl:=oI h0
  exact lA [] rG
 refine oA (cA (iA ?_))
 obtain ⟨vr5,hvr5,h0⟩:=bA h0
 refine nA 112 [2,3,4,5,8] (fun | 2=>some (.int .i64 vr5,[]) | _=>none) rfl (fun _ _=>rC (mZ hvr5)) ?_
 refine xE ⟨[(2,.ref 0 0 0 0),(3,.ref 8 0 0 0),(4,.ref 16 0 0 0),(5,.int .i64 0),(8,.int .i64 vr5)],[(0,⟨0,true,true,3,[[.psl 2 (List.map eA.enc t1.Keys),.psl 1 (List.map (gA .i64) t1.Lose),.int .i64 t1.Win]]⟩),(8,⟨0,true,true,2,[[.str k2.Key,.bool k2.Done]]⟩),(16,⟨0,true,true,3,[[.nils,.nils,.int .i64 0]]⟩)],112,[]⟩ ?_
 refine xS 128 [2,3,4,5,8,21] ?_
 refine xI h0 rfl (fun h0 hb6=>?_) (fun h0 hb6=>?_)
 ·
  refine xS 168 [4,5,6] ?_
  refine jA (mA (fY ?_))
  obtain rfl:=oI h0
  exact lA [] rG
 refine oA (cA (iA ?_))
 obtain ⟨b8,hb8,h0⟩:=bA h0
 refine iL (fr':=[(2,.ref 0 0 0 0),(3,.ref 8 0 0 0),(4,.ref 16 0 0 0),(5,.int .i64 0),(38,.bool b8)]) (hp':=[(0,⟨0,true,true,3,[[.psl 2 (List.map eA.enc t1.Keys),.psl 1 (List.map (gA .i64) t1.Lose),.int .i64 t1.Win]]⟩),(8,⟨0,true,true,2,[[.str k2.Key,.bool k2.Done]]⟩),(16,⟨0,true,true,3,[[.nils,.nils,.int .i64 0]]⟩)]) [0,8,16] 248 [2,3,4,5,38] (fun _=>none) rfl rfl rfl (fun Kt hK=>by
   cases hg9 : (!k2.Done) with
   | false =>
    replace hb8:=sA hb8 hg9
    have hqb8:=oI hb8
    subst hqb8
    exact uO hg9 hK
   | true =>
    replace hb8:=zA hb8 hg9
    obtain ⟨e7,he7,hb8⟩:=bA hb8
    obtain ⟨he7a,he7b,he7c⟩:=vA he7
    have hqb8:=oI hb8
    subst hqb8
    exact yG hg9 (rA he7a (rA he7b (rA he7c he7))) hK) ?_
 refine xI h0 rfl (fun h0 hb10=>?_) (fun h0 hb10=>?_)
 ·
  refine xS 280 [4,5,6] ?_
  refine jA (mA (fY ?_))
  obtain rfl:=oI h0
  exact lA [] rG
 refine oA (cA ?_)
 obtain ⟨vr11,hvr11,h0⟩:=bA h0
 obtain ⟨vr12,hvr12,h0⟩:=bA h0
 refine qC 328 [3,4,5] (fun | 2=>some (.sl 0 0 2 0 vr11.length,[⟨0,true,true,2,vr11.map eA.enc⟩]) | 5=>some (.sl 0 0 1 0 vr12.length,[⟨0,true,true,1,vr12.map (gA .i64)⟩]) | _=>none) rfl rfl rfl (fun Kt hK=>by
   try have q0:=zcq hvr11
   try have q1:=ze0 hvr12
   exact iF) ?_
 obtain ⟨e13,he13,h0⟩:=bA h0
 obtain ⟨he13a,he13b,he13c⟩:=vA he13
 refine nA 384 [4,5] (fun _=>none) rfl (fun _ _=>rS (rA he13a (rA he13b he13c))) ?_
 refine xE ⟨[(4,.ref 16 0 0 0),(5,.int .i64 0)],[(16,⟨0,true,false,3,[[.sl 264 0 2 0 ((vr11.set t1.Win.toNat k2).length),.sl 288 0 1 0 vr12.length,.int .i64 t1.Win]]⟩),(264,⟨0,true,true,2,List.map eA.enc (vr11.set t1.Win.toNat k2)⟩),(288,⟨0,true,true,1,List.map (gA .i64) vr12⟩)],384,[]⟩ ?_
 obtain ⟨vr14,hvr14,h0⟩:=bA h0
 refine nA 416 [4,5,9] (fun | 2=>some (.fn 151 [] [.pp [.psl 2 (vr14.map eA.enc)]],[]) | _=>none) rfl (fun _ _=>rB (rA he13a (rA he13b he13c)) (zbG hvr14)) ?_
 refine nA 472 [4,5,9,10] (fun _=>none) rfl (fun _ _=>rS (rA he13a (rA he13b he13c))) ?_
 refine iA ?_
 refine zcR ?_
 refine cA ?_
 obtain ⟨x28,hxx28,h0⟩:=bA h0
 refine zeW (fun s'=>∃ g38 : Nat,s'.nx ≤ 512 ∧ LeN [] s' ⟨[(4,.ref 16 0 0 0),(5,.int .i64 x28.1)],[(16,⟨0,true,false,3,[[.sl 264 0 2 0 ((vr11.set t1.Win.toNat k2).length),.sl 288 g38 1 0 x28.2.2.length,.int .i64 x28.2.1]]⟩),(264,⟨0,false,true,2,List.map eA.enc (vr11.set t1.Win.toNat k2)⟩),(288,⟨g38,true,true,1,List.map (gA .i64) x28.2.2⟩)],512,[]⟩) ?_ ?_
 ·
  intro s' hs
  obtain ⟨g38,hn,hs⟩:=hs
  refine oB [] hn hs ?_
  refine nA 552 [4,5,6] (fun _=>none) rfl (fun _ _=>rS (rA he13a (rA he13b he13c))) ?_
  refine jA (fY ?_)
  obtain rfl:=oI h0
  refine lA [] ?_
  exact rJ (rA he13a (rA he13b he13c))
 refine lC (ι:={ p : Nat × Int × Int × Int × List Int × Nat // yH vr14 p.1 p.2.1 p.2.2.1 p.2.2.2.1 p.2.2.2.2.1 = some x28 }) (fun p=>⟨[(4,.ref 16 0 0 0),(5,.int .i64 p.1.2.1),(9,.fn 151 [] [.pp [.psl 2 (List.map eA.enc vr14)]]),(10,.int .i64 p.1.2.2.1)],[(16,⟨0,true,false,3,[[.sl 264 0 2 0 ((vr11.set t1.Win.toNat k2).length),.sl 288 p.1.2.2.2.2.2 1 0 p.1.2.2.2.2.1.length,.int .i64 p.1.2.2.2.1]]⟩),(264,⟨0,false,true,2,List.map eA.enc (vr11.set t1.Win.toNat k2)⟩),(288,⟨p.1.2.2.2.2.2,true,true,1,List.map (gA .i64) p.1.2.2.2.2.1⟩)],472,[]⟩) (fun p=>p.1.1) ⟨(fu,0,(IntKind.i64.wrap (((vr11.set t1.Win.toNat k2).length : Int) + t1.Win)),t1.Win,vr12,0),hxx28⟩ ⟨rF,rE,rfl,rfl,trivial,trivial⟩ (fun _=>Nat.le_refl _) ?_
 rintro ⟨⟨fu,games29,node30,u31,v32,g33⟩,h1⟩
 cases fu with
 | zero =>
  replace h1 : yH vr14 0 games29 node30 u31 v32 = some x28:=h1
  rw [yH] at h1; cases h1
 | succ fu =>
  replace h1 : yH vr14 (fu + 1) games29 node30 u31 v32 = some x28:=h1
  rw [yH] at h1
  dsimp only
  refine vB ?_
  refine nA 496 [4,5,9,10] (fun _=>none) rfl (fun _ _=>rS (rA he13a (rA he13b he13c))) ?_
  refine iA ?_
  refine nA 512 [4,5,9,10,67] (fun _=>none) rfl (fun _ _=>rS (rA he13a (rA he13b he13c))) ?_
  refine xI h1 rfl (fun h1 hb34=>?_) (fun h1 hb34=>?_)
  ·
   refine dC (xA (jR (by decide) (xA (gC ?_))))
   obtain rfl:=oI h1
   exact ⟨g33,rL,⟨rF,rE,rfl,rfl,trivial,trivial⟩⟩
  refine oA (cA ?_)
  refine nA 536 [4,5,9,10] (fun _=>none) rfl (fun _ _=>rS (rA he13a (rA he13b he13c))) ?_
  obtain ⟨e35,he35,h1⟩:=bA h1
  obtain ⟨he35a,he35b,he35c⟩:=vA he35
  obtain ⟨vr36,hvr36,h1⟩:=bA h1
  refine qC 608 [4,5,9,10,78] (fun | 8=>some (.bool vr36,[]) | _=>none) rfl rfl rfl (fun _ _=>wK (rA he13a (rA he13b (rA he13c (rA he35a (rA he35b he35c))))) (zbs hvr36)) ?_
  refine xI h1 rfl (fun h1 hb37=>?_) (fun h1 hb37=>?_)
  ·
   refine aH 720 [4,5,9,10] (fun _=>none) rfl rfl rfl (fun _ _=>xD (rA he13a (rA he13b (rA he13c (rA he35a (rA he35b he35c)))))) ?_
   refine pB (cA ?_)
   exact ⟨⟨(fu,(IntKind.i64.wrap (games29 + 1)),(IntKind.i64.wrap (node30.tdiv 2)),e35,(v32.set ((IntKind.i64.wrap (node30.tdiv 2)).toNat) u31),g33),h1⟩,⟨rF,rE,rfl,rfl,trivial,trivial⟩,Nat.lt_succ_self _⟩
  refine oA (pB (cA ?_))
  exact ⟨⟨(fu,(IntKind.i64.wrap (games29 + 1)),(IntKind.i64.wrap (node30.tdiv 2)),u31,v32,g33),h1⟩,⟨rF,rE,rfl,rfl,trivial,trivial⟩,Nat.lt_succ_self _⟩
theorem znb {fu : Nat} {runs1 : List (List aA)} {r : List aA × List Int × Int} (h0 : uL fu runs1 = some r) : yA Tryz.prog 85 [.psl 1 (runs1.map (tA 4 aA.enc))] (.tup [.psl 4 (r.1.map aA.enc),.psl 1 (r.2.1.map (gA .i64)),.int .i64 r.2.2]) []:=by
 refine dB Tryz.func85 rfl (by decide) rL ?_
 dsimp only [Tryz.f85]
 rw [uL] at h0
 refine xS 24 [0,2,3] ?_
 obtain ⟨vr2,hvr2,h0⟩:=bA h0
 refine nA 104 [2,3,4,5] (fun | 1=>some (.tup [.agg [.psl 1 (List.map (tA 4 aA.enc) vr2.1.Runs),.sl 0 0 1 0 vr2.1.At.length,.psl 2 (List.map eA.enc vr2.1.Tree.Keys),.psl 1 (List.map (gA .i64) vr2.1.Tree.Lose),.int .i64 vr2.1.Tree.Win],.int .i64 vr2.2.1,.int .i64 vr2.2.2],[⟨0,true,true,1,vr2.1.At.map (gA .i64)⟩]) | _=>none) rfl (fun _ _=>rC (zkf hvr2)) ?_
 refine iA ?_
 refine xS 120 [2,3,4,5,17] ?_
 refine xI h0 rfl (fun h0 hb3=>?_) (fun h0 hb3=>?_)
 ·
  refine xS 152 [2,3,4] ?_
  refine jA (mA ?_)
  obtain rfl:=oI h0
  exact lA [] rG
 refine oA (cA ?_)
 refine xS 152 [2,3,4,7] ?_
 refine iA ?_
 refine vH 2 rfl ?_
 refine oC (l':=List.range' 0 1++(1::(List.range' 2 0++[]))) rfl ?_
 refine vC 0 1 160 (1::(List.range' 2 0++[])) (fun _=>none) rfl rfl rfl (fun _ _=>rT) ?_
 refine fK rfl rfl rfl rfl rfl Tryz.func113 rfl (by decide) rfl rL ?_
 dsimp only [Tryz.f113]
 refine xE ⟨[(0,.ref 136 0 0 0)],[(0,⟨0,true,true,1,[[.nils]]⟩),(8,⟨0,true,true,1,[[.nils]]⟩),(32,⟨0,true,true,1,List.map (gA .i64) vr2.1.At⟩),(72,⟨0,true,false,5,[[.psl 1 (List.map (tA 4 aA.enc) vr2.1.Runs),.sl 32 0 1 0 vr2.1.At.length,.psl 2 (List.map eA.enc vr2.1.Tree.Keys),.psl 1 (List.map (gA .i64) vr2.1.Tree.Lose),.int .i64 vr2.1.Tree.Win]]⟩),(136,⟨0,true,false,5,[[.psl 1 (List.map (tA 4 aA.enc) vr2.1.Runs),.sl 32 0 1 0 vr2.1.At.length,.psl 2 (List.map eA.enc vr2.1.Tree.Keys),.psl 1 (List.map (gA .i64) vr2.1.Tree.Lose),.int .i64 vr2.1.Tree.Win]]⟩)],160,[]⟩ ?_
 refine xS 176 [1] ?_
 refine xS 192 [2] ?_
 refine jA ?_
 refine oE (fun _ _=>rT) ?_
 refine xF ⟨[(2,.ref 0 0 0 0),(3,.ref 8 0 0 0),(4,.int .i64 vr2.2.2),(7,.ref 136 0 0 0),(22,.ref 136 0 0 0),(23,.fn 131 [] [.ref 160 0 0 0])],[(0,⟨0,true,true,1,[[.nils]]⟩),(8,⟨0,true,true,1,[[.nils]]⟩),(32,⟨0,true,true,1,List.map (gA .i64) vr2.1.At⟩),(136,⟨0,true,false,5,[[.psl 1 (List.map (tA 4 aA.enc) vr2.1.Runs),.sl 32 0 1 0 vr2.1.At.length,.psl 2 (List.map eA.enc vr2.1.Tree.Keys),.psl 1 (List.map (gA .i64) vr2.1.Tree.Lose),.int .i64 vr2.1.Tree.Win]]⟩),(160,⟨0,true,false,1,[[.ref 136 0 0 0]]⟩)],192,[]⟩ ?_
 refine oC (l':=[]) rfl ?_
 refine mD ?_
 refine cA ?_
 refine xE ⟨[(2,.ref 0 0 0 0),(3,.ref 8 0 0 0),(4,.int .i64 vr2.2.2),(23,.fn 131 [] [.ref 160 0 0 0])],[(0,⟨0,true,true,1,[[.nils]]⟩),(8,⟨0,true,true,1,[[.nils]]⟩),(32,⟨0,true,true,1,List.map (gA .i64) vr2.1.At⟩),(136,⟨0,true,false,5,[[.psl 1 (List.map (tA 4 aA.enc) vr2.1.Runs),.sl 32 0 1 0 vr2.1.At.length,.psl 2 (List.map eA.enc vr2.1.Tree.Keys),.psl 1 (List.map (gA .i64) vr2.1.Tree.Lose),.int .i64 vr2.1.Tree.Win]]⟩),(160,⟨0,true,false,1,[[.ref 136 0 0 0]]⟩)],192,[]⟩ ?_
 refine vB ?_
 refine za4 rfl Tryz.func131 rfl (by decide) rL ?_
 intro RC4 hRC4
 have stRC4 : RC4.st = .ready ∧ RC4.pend = none:=by rw [hRC4]; exact ⟨rfl,rfl⟩
 have okRC4 : uY 192 RC4:=by rw [hRC4]; exact And.intro (rR) rfl
 dsimp only [Tryz.f131]
 refine oB (s2:=⟨[(0,.yld 192),(1,.ref 160 0 0 0)],[(0,⟨0,true,true,1,[[.nils]]⟩),(8,⟨0,true,true,1,[[.nils]]⟩),(32,⟨0,true,true,1,List.map (gA .i64) vr2.1.At⟩),(136,⟨0,true,false,5,[[.psl 1 (List.map (tA 4 aA.enc) vr2.1.Runs),.sl 32 0 1 0 vr2.1.At.length,.psl 2 (List.map eA.enc vr2.1.Tree.Keys),.psl 1 (List.map (gA .i64) vr2.1.Tree.Lose),.int .i64 vr2.1.Tree.Win]]⟩),(160,⟨0,true,false,1,[[.ref 136 0 0 0]]⟩)],193,[(192,RC4)]⟩) [] rL ⟨rF,rE,rfl,rfl,(hC.consR rL rfl okRC4 rL trivial),trivial⟩ ?_
 refine zbD ?_
 refine oB (s2:=⟨[(0,.yld 192),(1,.ref 160 0 0 0)],[(0,⟨0,true,false,1,[[.sl 193 0 4 0 0]]⟩),(8,⟨0,true,false,1,[[.sl 194 0 1 0 0]]⟩),(32,⟨0,true,true,1,List.map (gA .i64) vr2.1.At⟩),(136,⟨0,true,false,5,[[.psl 1 (List.map (tA 4 aA.enc) vr2.1.Runs),.sl 32 0 1 0 vr2.1.At.length,.psl 2 (List.map eA.enc vr2.1.Tree.Keys),.psl 1 (List.map (gA .i64) vr2.1.Tree.Lose),.int .i64 vr2.1.Tree.Win]]⟩),(160,⟨0,true,false,1,[[.ref 136 0 0 0]]⟩),(193,⟨0,true,true,4,List.map aA.enc []⟩),(194,⟨0,true,true,1,List.map (gA .i64) []⟩)],195,[(192,RC4)]⟩) [(193,4),(194,1)] rL ⟨rF,rE,rfl,rfl,(hC.consR rL rfl okRC4 rL trivial),rN⟩ ?_
 obtain ⟨x37,hxx37,h0⟩:=bA h0
 refine pC (fun _=>False) ?_ ?_
 ·
  intro _ h; exact h.elim
 refine lC (ι:={ p : Nat × List Int × List eA × List Int × Int × List aA × List Int × Nat × Nat × Nat // jI vr2 p.1 p.2.1 p.2.2.1 p.2.2.2.1 p.2.2.2.2.1 p.2.2.2.2.2.1 p.2.2.2.2.2.2.1 = some x37 }) (fun p=>⟨[(0,.yld 192),(1,.ref 160 0 0 0)],[(0,⟨0,true,false,1,[[.sl 193 p.1.2.2.2.2.2.2.2.2.1 4 0 p.1.2.2.2.2.2.1.length]]⟩),(8,⟨0,true,false,1,[[.sl 194 p.1.2.2.2.2.2.2.2.2.2 1 0 p.1.2.2.2.2.2.2.1.length]]⟩),(32,⟨p.1.2.2.2.2.2.2.2.1,true,true,1,List.map (gA .i64) p.1.2.1⟩),(136,⟨0,true,false,5,[[.psl 1 (List.map (tA 4 aA.enc) vr2.1.Runs),.sl 32 p.1.2.2.2.2.2.2.2.1 1 0 p.1.2.1.length,.psl 2 (List.map eA.enc p.1.2.2.1),.psl 1 (List.map (gA .i64) p.1.2.2.2.1),.int .i64 p.1.2.2.2.2.1]]⟩),(160,⟨0,true,false,1,[[.ref 136 0 0 0]]⟩),(193,⟨p.1.2.2.2.2.2.2.2.2.1,true,true,4,List.map aA.enc p.1.2.2.2.2.2.1⟩),(194,⟨p.1.2.2.2.2.2.2.2.2.2,true,true,1,List.map (gA .i64) p.1.2.2.2.2.2.2.1⟩)],195,[(192,RC4)]⟩) (fun p=>p.1.1) ⟨(fu,vr2.1.At,vr2.1.Tree.Keys,vr2.1.Tree.Lose,vr2.1.Tree.Win,[],[],0,0,0),hxx37⟩ ⟨rF,rE,rfl,rfl,(hC.consR rL rfl okRC4 rL trivial),trivial⟩ (fun _=>Nat.le_refl _) ?_
 rintro ⟨⟨fu,v38,v39,v40,v41,v42,v43,g44,g45,g46⟩,h1⟩
 cases fu with
 | zero =>
  replace h1 : jI vr2 0 v38 v39 v40 v41 v42 v43 = some x37:=h1
  rw [jI] at h1; cases h1
 | succ fu =>
  replace h1 : jI vr2 (fu + 1) v38 v39 v40 v41 v42 v43 = some x37:=h1
  rw [jI] at h1
  dsimp only
  refine vB ?_
  obtain ⟨vr47,hvr47,h1⟩:=bA h1
  refine nA 275 [0,1,3,4,5] (fun | 1=>some (.tup [.agg (aA.enc vr47.1),.int .i64 vr47.2.1,.int .i64 vr47.2.2],[]) | _=>none) rfl (fun _ _=>rC (zeJ hvr47)) ?_
  refine iA ?_
  refine vH 9 rfl ?_
  refine oC (l':=List.range' 0 3++(List.range' 3 6++[])) rfl ?_
  refine vC 0 3 299 (List.range' 3 6++[]) (fun _=>none) rfl rfl rfl (fun _ _=>rT) ?_
  refine kK (s2:=⟨[(0,.yld 192),(1,.ref 160 0 0 0),(3,.ref 243 0 0 0),(4,.int .i64 vr47.2.1),(5,.int .i64 vr47.2.2),(12,.int .i64 vr47.2.2),(13,.bool (!(decide (vr47.2.2 = 0)))),(14,.bool (!(decide (vr47.2.2 = 0))))],[(0,⟨0,true,false,1,[[.sl 193 g45 4 0 v42.length]]⟩),(8,⟨0,true,false,1,[[.sl 194 g46 1 0 v43.length]]⟩),(32,⟨g44,true,true,1,List.map (gA .i64) v38⟩),(136,⟨0,true,false,5,[[.psl 1 (List.map (tA 4 aA.enc) vr2.1.Runs),.sl 32 g44 1 0 v38.length,.psl 2 (List.map eA.enc v39),.psl 1 (List.map (gA .i64) v40),.int .i64 v41]]⟩),(160,⟨0,true,false,1,[[.ref 136 0 0 0]]⟩),(193,⟨g45,true,true,4,List.map aA.enc v42⟩),(194,⟨g46,true,true,1,List.map (gA .i64) v43⟩),(243,⟨0,true,true,4,[[.str vr47.1.Key,.str vr47.1.Val,.bool vr47.1.Dead,.int .i64 vr47.1.Seq]]⟩)],299,[(192,RC4)]⟩) [] rL ⟨rF,rE,rfl,rfl,(hC.consR rL rfl okRC4 rL trivial),trivial⟩ ?_
  generalize hg48 : (!(decide (vr47.2.2 = 0))) = b48
  cases b48 with
  | true =>
   replace h1:=zA h1 hg48
   refine oC (l':=List.range' 3 6++[]) rfl ?_
   refine vC 3 6 347 [] (fun _=>none) rfl rfl rfl (fun _ _=>rT) ?_
   refine mD ?_
   refine cA ?_
   refine oB (s2:=⟨[(0,.yld 192),(1,.ref 160 0 0 0),(4,.int .i64 vr47.2.1),(20,.bool true)],[(0,⟨0,true,false,1,[[.sl 193 g45 4 0 v42.length]]⟩),(8,⟨0,true,false,1,[[.sl 194 g46 1 0 v43.length]]⟩),(32,⟨g44,true,true,1,List.map (gA .i64) v38⟩),(136,⟨0,true,false,5,[[.psl 1 (List.map (tA 4 aA.enc) vr2.1.Runs),.sl 32 g44 1 0 v38.length,.psl 2 (List.map eA.enc v39),.psl 1 (List.map (gA .i64) v40),.int .i64 v41]]⟩),(160,⟨0,true,false,1,[[.ref 136 0 0 0]]⟩),(193,⟨g45,true,true,4,List.map aA.enc v42⟩),(194,⟨g46,true,true,1,List.map (gA .i64) v43⟩)],347,[(192,RC4)]⟩) [] rL ⟨rF,rE,rfl,rfl,(hC.consR rL rfl okRC4 rL trivial),trivial⟩ ?_
   refine kI rfl ?_
   refine jA ?_
   obtain rfl:=oI h1
   refine mA (zB (mA (xC (zmb ?_))))
   refine oE (fun _ _=>rT) ?_
   refine zbI stRC4 rfl ?_
   refine pB (cA ?_)
   refine xE ⟨[(2,.ref 0 0 0 0),(3,.ref 8 0 0 0),(4,.int .i64 vr2.2.2),(23,.fn 131 [] [.ref 160 0 0 0])],[(0,⟨0,true,false,1,[[.sl 193 g45 4 0 v42.length]]⟩),(8,⟨0,true,false,1,[[.sl 194 g46 1 0 v43.length]]⟩),(32,⟨g44,true,true,1,List.map (gA .i64) v38⟩),(136,⟨0,true,false,5,[[.psl 1 (List.map (tA 4 aA.enc) vr2.1.Runs),.sl 32 g44 1 0 v38.length,.psl 2 (List.map eA.enc v39),.psl 1 (List.map (gA .i64) v40),.int .i64 v41]]⟩),(160,⟨0,true,false,1,[[.ref 136 0 0 0]]⟩),(193,⟨g45,true,true,4,List.map aA.enc v42⟩),(194,⟨g46,true,true,1,List.map (gA .i64) v43⟩)],347,[]⟩ ?_
   refine qC 387 [2,3,4] (fun _=>none) rfl rfl rfl (fun _ _=>iF) ?_
   refine jA ?_
   obtain rfl:=oI h0
   exact lA [] rG
  | false =>
   replace h1:=sA h1 hg48
   refine oC (l':=List.range' 3 3++(6::(List.range' 7 2++[]))) rfl ?_
   refine vC 3 3 323 (6::(List.range' 7 2++[])) (fun _=>none) rfl rfl rfl (fun _ _=>rT) ?_
   refine zaR hRC4 rfl rfl rfl rfl rfl rfl rfl rfl rfl ?_
   refine oB (s2:=⟨[(2,.ref 0 0 0 0),(3,.ref 8 0 0 0),(4,.int .i64 vr2.2.2),(23,.fn 131 [] [.ref 160 0 0 0]),(24,.int .i64 vr47.2.1),(25,.agg [.str vr47.1.Key,.str vr47.1.Val,.bool vr47.1.Dead,.int .i64 vr47.1.Seq])],[(0,⟨0,true,false,1,[[.sl 193 g45 4 0 v42.length]]⟩),(8,⟨0,true,false,1,[[.sl 194 g46 1 0 v43.length]]⟩),(32,⟨g44,true,true,1,List.map (gA .i64) v38⟩),(136,⟨0,true,false,5,[[.psl 1 (List.map (tA 4 aA.enc) vr2.1.Runs),.sl 32 g44 1 0 v38.length,.psl 2 (List.map eA.enc v39),.psl 1 (List.map (gA .i64) v40),.int .i64 v41]]⟩),(160,⟨0,true,false,1,[[.ref 136 0 0 0]]⟩),(193,⟨g45,true,true,4,List.map aA.enc v42⟩),(194,⟨g46,true,true,1,List.map (gA .i64) v43⟩),(243,⟨0,true,true,4,[[.str vr47.1.Key,.str vr47.1.Val,.bool vr47.1.Dead,.int .i64 vr47.1.Seq]]⟩)],323,[(192,RC4)]⟩) [] rL ⟨rF,rE,rfl,rfl,(hC.consR rL rfl okRC4 rL trivial),trivial⟩ ?_
   refine xS 331 [2,3,4,8,25] ?_
   refine xR 347 [2,3,4,8,9] ?_
   refine cA ?_
   refine ⟨RC4,rfl,stRC4.1,?_⟩
   refine oB (s2:=⟨[(2,.ref 0 0 0 0),(3,.ref 8 0 0 0),(4,.int .i64 vr2.2.2),(8,.int .i64 vr47.2.1),(9,.ref 331 0 0 0)],[(0,⟨0,true,false,1,[[.sl 193 g45 4 0 v42.length]]⟩),(8,⟨0,true,false,1,[[.sl 194 g46 1 0 v43.length]]⟩),(32,⟨g44,true,true,1,List.map (gA .i64) v38⟩),(136,⟨0,true,false,5,[[.psl 1 (List.map (tA 4 aA.enc) vr2.1.Runs),.sl 32 g44 1 0 v38.length,.psl 2 (List.map eA.enc v39),.psl 1 (List.map (gA .i64) v40),.int .i64 v41]]⟩),(160,⟨0,true,false,1,[[.ref 136 0 0 0]]⟩),(193,⟨g45,true,true,4,List.map aA.enc v42⟩),(194,⟨g46,true,true,1,List.map (gA .i64) v43⟩),(243,⟨0,true,true,4,[[.str vr47.1.Key,.str vr47.1.Val,.bool vr47.1.Dead,.int .i64 vr47.1.Seq]]⟩),(331,⟨0,true,true,4,[[.str vr47.1.Key,.str vr47.1.Val,.bool vr47.1.Dead,.int .i64 vr47.1.Seq]]⟩)],347,[(192,{ RC4 with st:=.busy,pend:=RC4.pend })]⟩) [] rL ⟨rF,rE,rfl,rfl,(hC.consR rL rfl okRC4 rL trivial),trivial⟩ ?_
   refine vB ?_
   obtain ⟨hc49,h1⟩:=pD h1
   obtain ⟨hc50,h1⟩:=pD h1
   refine aH 427 [2,3,4] (fun _=>none) rfl rfl rfl (fun _ _=>iF) ?_
   refine pB ?_
   refine za5 stRC4 rfl ?_
   refine kK (s2:=⟨[(0,.yld 192),(1,.ref 160 0 0 0),(3,.ref 243 0 0 0),(4,.int .i64 vr47.2.1),(5,.int .i64 vr47.2.2),(12,.int .i64 vr47.2.2),(13,.bool false),(14,.bool false),(15,.yld 192),(16,.int .i64 vr47.2.1),(17,.agg [.str vr47.1.Key,.str vr47.1.Val,.bool vr47.1.Dead,.int .i64 vr47.1.Seq]),(18,.bool true)],[(0,⟨0,true,false,1,[[.sl 193 (g45 + 1) 4 0 ((v42++[vr47.1]).length)]]⟩),(8,⟨0,true,false,1,[[.sl 194 (g46 + 1) 1 0 ((v43++[vr47.2.1]).length)]]⟩),(32,⟨g44,true,true,1,List.map (gA .i64) v38⟩),(136,⟨0,true,false,5,[[.psl 1 (List.map (tA 4 aA.enc) vr2.1.Runs),.sl 32 g44 1 0 v38.length,.psl 2 (List.map eA.enc v39),.psl 1 (List.map (gA .i64) v40),.int .i64 v41]]⟩),(160,⟨0,true,false,1,[[.ref 136 0 0 0]]⟩),(193,⟨(g45 + 1),true,true,4,List.map aA.enc (v42++[vr47.1])⟩),(194,⟨(g46 + 1),true,true,1,List.map (gA .i64) (v43++[vr47.2.1])⟩),(243,⟨0,true,true,4,[[.str vr47.1.Key,.str vr47.1.Val,.bool vr47.1.Dead,.int .i64 vr47.1.Seq]]⟩)],427,[(192,RC4)]⟩) [] rL ⟨rF,rE,rfl,rfl,(hC.consR rL rfl okRC4 rL trivial),trivial⟩ ?_
   refine oC (l':=List.range' 7 2++[]) rfl ?_
   refine vC 7 2 443 [] (fun _=>none) rfl rfl rfl (fun _ _=>rT) ?_
   refine mD ?_
   refine cA ?_
   refine oB (s2:=⟨[(0,.yld 192),(1,.ref 160 0 0 0),(4,.int .i64 vr47.2.1),(15,.yld 192),(16,.int .i64 vr47.2.1),(17,.agg [.str vr47.1.Key,.str vr47.1.Val,.bool vr47.1.Dead,.int .i64 vr47.1.Seq]),(18,.bool true),(19,.bool false),(20,.bool false)],[(0,⟨0,true,false,1,[[.sl 193 (g45 + 1) 4 0 ((v42++[vr47.1]).length)]]⟩),(8,⟨0,true,false,1,[[.sl 194 (g46 + 1) 1 0 ((v43++[vr47.2.1]).length)]]⟩),(32,⟨g44,true,true,1,List.map (gA .i64) v38⟩),(136,⟨0,true,false,5,[[.psl 1 (List.map (tA 4 aA.enc) vr2.1.Runs),.sl 32 g44 1 0 v38.length,.psl 2 (List.map eA.enc v39),.psl 1 (List.map (gA .i64) v40),.int .i64 v41]]⟩),(160,⟨0,true,false,1,[[.ref 136 0 0 0]]⟩),(193,⟨(g45 + 1),true,true,4,List.map aA.enc (v42++[vr47.1])⟩),(194,⟨(g46 + 1),true,true,1,List.map (gA .i64) (v43++[vr47.2.1])⟩)],443,[(192,RC4)]⟩) [] rL ⟨rF,rE,rfl,rfl,(hC.consR rL rfl okRC4 rL trivial),trivial⟩ ?_
   refine pF rfl ?_
   refine oA (cA ?_)
   refine oX 3 rfl ?_
   refine oC (l':=List.range' 0 2++(2::(List.range' 3 0++[]))) rfl ?_
   refine vC 0 2 459 (2::(List.range' 3 0++[])) (fun _=>none) rfl rfl rfl (fun _ _=>rT) ?_
   refine fK rfl rfl rfl rfl rfl Tryz.func118 rfl (by decide) rfl rL ?_
   dsimp only [Tryz.f118]
   refine oB (s2:=⟨[(0,.ref 136 0 0 0),(1,.int .i64 vr47.2.1)],[(0,⟨0,true,false,1,[[.sl 193 (g45 + 1) 4 0 ((v42++[vr47.1]).length)]]⟩),(8,⟨0,true,false,1,[[.sl 194 (g46 + 1) 1 0 ((v43++[vr47.2.1]).length)]]⟩),(32,⟨g44,true,true,1,List.map (gA .i64) v38⟩),(136,⟨0,true,false,5,[[.psl 1 (List.map (tA 4 aA.enc) vr2.1.Runs),.sl 32 g44 1 0 v38.length,.psl 2 (List.map eA.enc v39),.psl 1 (List.map (gA .i64) v40),.int .i64 v41]]⟩),(160,⟨0,true,false,1,[[.ref 136 0 0 0]]⟩),(193,⟨(g45 + 1),true,true,4,List.map aA.enc (v42++[vr47.1])⟩),(194,⟨(g46 + 1),true,true,1,List.map (gA .i64) (v43++[vr47.2.1])⟩)],459,[(192,RC4)]⟩) [] rL ⟨rF,rE,rfl,rfl,(hC.consR rL rfl okRC4 rL trivial),trivial⟩ ?_
   obtain ⟨e51,he51,h1⟩:=bA h1
   obtain ⟨he51a,he51b,he51c⟩:=vA he51
   refine nA 547 [0,1] (fun _=>none) rfl (fun _ _=>rS (rA he51a (rA he51b he51c))) ?_
   refine oB (s2:=⟨[(0,.ref 136 0 0 0),(1,.int .i64 vr47.2.1)],[(0,⟨0,true,false,1,[[.sl 193 (g45 + 1) 4 0 ((v42++[vr47.1]).length)]]⟩),(8,⟨0,true,false,1,[[.sl 194 (g46 + 1) 1 0 ((v43++[vr47.2.1]).length)]]⟩),(32,⟨g44,true,true,1,List.map (gA .i64) (v38.set vr47.2.1.toNat (IntKind.i64.wrap (e51 + 1)))⟩),(136,⟨0,true,false,5,[[.psl 1 (List.map (tA 4 aA.enc) vr2.1.Runs),.sl 32 g44 1 0 ((v38.set vr47.2.1.toNat (IntKind.i64.wrap (e51 + 1))).length),.psl 2 (List.map eA.enc v39),.psl 1 (List.map (gA .i64) v40),.int .i64 v41]]⟩),(160,⟨0,true,false,1,[[.ref 136 0 0 0]]⟩),(193,⟨(g45 + 1),true,true,4,List.map aA.enc (v42++[vr47.1])⟩),(194,⟨(g46 + 1),true,true,1,List.map (gA .i64) (v43++[vr47.2.1])⟩)],547,[(192,RC4)]⟩) [] rL ⟨rF,rE,rfl,rfl,(hC.consR rL rfl okRC4 rL trivial),trivial⟩ ?_
   obtain ⟨e52,he52,h1⟩:=bA h1
   obtain ⟨he52a,he52b,he52c⟩:=vA he52
   obtain ⟨e53,he53,h1⟩:=bA h1
   obtain ⟨he53a,he53b,he53c⟩:=vA he53
   obtain ⟨vr54,hvr54,h1⟩:=bA h1
   obtain ⟨vr55,hvr55,h1⟩:=bA h1
   refine aH 803 [] (fun | 22=>some (.agg (eA.enc vr54),[]) | 23=>some (.tup [.agg (fB.enc vr55.1),.int .i64 vr55.2.1,.int .i64 vr55.2.2],[]) | _=>none) rfl rfl rfl (fun Kt hK=>by
     try have q0:=jZ hvr54
     try have q1:=zfv hvr55
     exact xD (rA he51a (rA he51b (rA he51c (rA he52a (rA he52b (rA he52c (rA he53a (rA he53b he53c))))))))) ?_
   refine jS (fun _ _=>rS (rA he51a (rA he51b (rA he51c (rA he52a (rA he52b (rA he52c (rA he53a (rA he53b he53c))))))))) ?_
   refine kK (s2:=⟨[(0,.yld 192),(1,.ref 160 0 0 0),(4,.int .i64 vr47.2.1),(15,.yld 192),(16,.int .i64 vr47.2.1),(17,.agg [.str vr47.1.Key,.str vr47.1.Val,.bool vr47.1.Dead,.int .i64 vr47.1.Seq]),(18,.bool true),(19,.bool false),(20,.bool false),(21,.ref 136 0 0 0),(22,.int .i64 vr47.2.1),(23,.tup [])],[(0,⟨0,true,false,1,[[.sl 193 (g45 + 1) 4 0 ((v42++[vr47.1]).length)]]⟩),(8,⟨0,true,false,1,[[.sl 194 (g46 + 1) 1 0 ((v43++[vr47.2.1]).length)]]⟩),(32,⟨g44,true,true,1,List.map (gA .i64) (v38.set vr47.2.1.toNat (IntKind.i64.wrap (e51 + 1)))⟩),(136,⟨0,true,false,5,[[.psl 1 (List.map (tA 4 aA.enc) vr2.1.Runs),.sl 32 g44 1 0 ((v38.set vr47.2.1.toNat (IntKind.i64.wrap (e51 + 1))).length),.psl 2 (List.map eA.enc vr55.1.Keys),.psl 1 (List.map (gA .i64) vr55.1.Lose),.int .i64 vr55.1.Win]]⟩),(160,⟨0,true,false,1,[[.ref 136 0 0 0]]⟩),(193,⟨(g45 + 1),true,true,4,List.map aA.enc (v42++[vr47.1])⟩),(194,⟨(g46 + 1),true,true,1,List.map (gA .i64) (v43++[vr47.2.1])⟩)],803,[(192,RC4)]⟩) [] rL ⟨rF,rE,rfl,rfl,(hC.consR rL rfl okRC4 rL trivial),trivial⟩ ?_
   refine oC (l':=[]) rfl ?_
   refine mD ?_
   refine pB (cA ?_)
   exact ⟨⟨(fu,(v38.set vr47.2.1.toNat (IntKind.i64.wrap (e51 + 1))),vr55.1.Keys,vr55.1.Lose,vr55.1.Win,(v42++[vr47.1]),(v43++[vr47.2.1]),g44,(g45 + 1),(g46 + 1)),h1⟩,⟨rF,rE,rfl,rfl,(hC.consR rL rfl okRC4 rL trivial),trivial⟩,Nat.lt_succ_self _⟩
theorem zcP {fu : Nat} {vs1 : lB} {r : Int} (h0 : zP fu vs1 = some r) : yA Tryz.prog 134 [.agg (lB.enc vs1)] (.int .i64 r) []:=by
 refine dB Tryz.func134 rfl (by decide) rL ?_
 dsimp only [Tryz.f134]
 rw [zP] at h0
 refine xS 16 [1] ?_
 refine iA ?_
 obtain ⟨vr2,hvr2,h0⟩:=bA h0
 refine nA 48 [1,3] (fun | 2=>some (.int .i64 vr2,[]) | _=>none) rfl (fun _ _=>rC (zbL hvr2)) ?_
 refine xS 64 [1,3,8] ?_
 refine xI h0 rfl (fun h0 hb3=>?_) (fun h0 hb3=>?_)
 ·
  refine xS 80 [2] ?_
  refine jA (mA ?_)
  obtain rfl:=oI h0
  exact lA [] rG
 refine oA (cA (iA ?_))
 obtain ⟨b4,hb4,h0⟩:=bA h0
 refine jC (fr':=[(17,.bool b4)]) (hp':=[(0,⟨0,true,true,3,[[.bool vs1.Some,.str vs1.Last,.bool vs1.Bottom]]⟩)]) [0] 128 [17] (fun _=>none) rfl (fun Kt hK=>by
   cases hg5 : (!vs1.Some) with
   | false =>
    replace hb4:=sA hb4 hg5
    have hqb4:=oI hb4
    subst hqb4
    exact rW hg5 hK
   | true =>
    replace hb4:=zA hb4 hg5
    have hqb4:=oI hb4
    subst hqb4
    exact rW hg5 hK) ?_
 refine xI h0 rfl (fun h0 hb6=>?_) (fun h0 hb6=>?_)
 ·
  refine xS 136 [2] ?_
  refine jA (mA ?_)
  obtain rfl:=oI h0
  exact lA [] rG
 refine oA (cA ?_)
 refine xS 136 [2] ?_
 refine jA ?_
 obtain rfl:=oI h0
 exact lA [] rG
theorem zpJ {fu : Nat} {vx1 : uE} {r : aA} (h0 : iS fu vx1 = some r) : yA Tryz.prog 169 [.agg (uE.enc vx1)] (.agg (aA.enc r)) []:=by
 refine dB Tryz.func169 rfl (by decide) rL ?_
 dsimp only [Tryz.f169]
 rw [iS] at h0
 refine xS 16 [1,2] ?_
 refine xS 32 [2] ?_
 refine jA ?_
 obtain rfl:=oI h0
 exact lA [] rG
theorem zpb {fu : Nat} {l1 : List aA} {bottom2 : Bool} {r : List aA × Int × Int} (h0 : zR fu l1 bottom2 = some r) : yA Tryz.prog 86 [.psl 4 (l1.map aA.enc),.bool bottom2] (.tup [.psl 4 (r.1.map aA.enc),.int .i64 r.2.1,.int .i64 r.2.2]) []:=by
 refine dB Tryz.func86 rfl (by decide) rL ?_
 dsimp only [Tryz.f86]
 rw [zR] at h0
 refine xS 24 [0,1,4] ?_
 refine vH 9 rfl ?_
 refine oC (l':=List.range' 0 3++(3::(List.range' 4 5++[]))) rfl ?_
 refine vC 0 3 48 (3::(List.range' 4 5++[])) (fun _=>none) rfl rfl rfl (fun _ _=>rT) ?_
 refine fK rfl rfl rfl rfl rfl Tryz.func114 rfl (by decide) rfl rL ?_
 dsimp only [Tryz.f114]
 refine xE ⟨[(0,.psl 4 (List.map aA.enc l1)),(1,.bool bottom2),(2,.fn 115 [] [.ref 0 0 0 0])],[(0,⟨0,true,true,1,[[.nils]]⟩)],48,[]⟩ ?_
 refine xS 64 [0,1,2] ?_
 refine iA ?_
 refine xS 88 [0,1,2,16] ?_
 refine xI h0 rfl (fun h0 hb3=>?_) (fun h0 hb3=>?_)
 ·
  refine xS 104 [6,7] ?_
  refine jA (mA ?_)
  refine oE (fun _ _=>rT) ?_
  refine xF ⟨[(0,.psl 4 (List.map aA.enc l1)),(1,.bool bottom2),(4,.ref 0 0 0 0),(8,.psl 4 (List.map aA.enc l1)),(9,.bool bottom2),(10,.fn 115 [] [.ref 0 0 0 0]),(11,.tup [.int .i64 (-1),.int .i64 3])],[(0,⟨0,true,true,1,[[.nils]]⟩)],104,[]⟩ ?_
  refine oC (l':=List.range' 4 5++[]) rfl ?_
  refine vC 4 5 144 [] (fun _=>none) rfl rfl rfl (fun _ _=>rT) ?_
  refine mD ?_
  refine cA ?_
  refine xE ⟨[(4,.ref 0 0 0 0),(5,.int .i64 (-1)),(6,.int .i64 3)],[(0,⟨0,true,true,1,[[.nils]]⟩)],144,[]⟩ ?_
  refine iA ?_
  refine xS 160 [4,5,6,15] ?_
  refine kI rfl ?_
  refine xS 200 [4,5,6] ?_
  refine jA (mA ?_)
  obtain rfl:=oI h0
  exact lA [] rG
 refine oA (cA ?_)
 obtain ⟨vr4,hvr4,h0⟩:=bA h0
 refine nA 120 [0,2,8] (fun | 1=>some (.agg (lB.enc vr4),[]) | _=>none) rfl (fun _ _=>rC (zbX hvr4)) ?_
 refine iA ?_
 refine xS 144 [2,8,19,20,21] ?_
 refine oB (s2:=⟨[(2,.fn 115 [] [.ref 0 0 0 0]),(8,.ref 104 0 0 0),(19,.psl 4 (List.map aA.enc l1)),(20,.int .i64 (l1.length : Int)),(21,.int .i64 0)],[(0,⟨0,true,false,1,[[.sl 144 0 4 0 0]]⟩),(104,⟨0,true,true,3,[[.bool vr4.Some,.str vr4.Last,.bool vr4.Bottom]]⟩),(144,⟨0,true,true,4,List.map aA.enc []⟩)],145,[]⟩) [(144,4)] rL ⟨rF,rE,rfl,rfl,trivial,rN⟩ ?_
 obtain ⟨x59,hxx59,h0⟩:=bA h0
 refine pC (fun s'=>∃ o82 : Bool × List UInt8 × List aA,∃ g83 : Nat,x59 = .inl o82 ∧ s'.nx ≤ 153 ∧ LeN [] s' ⟨[],[(0,⟨0,true,false,1,[[.sl 144 g83 4 0 o82.2.2.length]]⟩),(104,⟨0,true,true,3,[[.bool o82.1,.str o82.2.1,.bool vr4.Bottom]]⟩),(144,⟨g83,true,true,4,List.map aA.enc o82.2.2⟩)],153,[]⟩) ?_ ?_
 ·
  intro s' hs
  obtain ⟨o82,g83,rfl,hn,hs⟩:=hs
  refine cA ?_
  refine oB [] hn hs ?_
  refine xS 169 [6,7] ?_
  refine jA ?_
  refine oE (fun _ _=>rT) ?_
  refine xF ⟨[(0,.psl 4 (List.map aA.enc l1)),(1,.bool bottom2),(4,.ref 0 0 0 0),(8,.psl 4 (List.map aA.enc l1)),(9,.bool bottom2),(10,.fn 115 [] [.ref 0 0 0 0]),(11,.tup [.int .i64 0,.int .i64 0])],[(0,⟨0,true,false,1,[[.sl 144 g83 4 0 o82.2.2.length]]⟩),(144,⟨g83,true,true,4,List.map aA.enc o82.2.2⟩)],169,[]⟩ ?_
  refine oC (l':=List.range' 4 5++[]) rfl ?_
  refine vC 4 5 209 [] (fun _=>none) rfl rfl rfl (fun _ _=>rT) ?_
  refine mD ?_
  refine cA ?_
  refine xE ⟨[(4,.ref 0 0 0 0),(5,.int .i64 0),(6,.int .i64 0)],[(0,⟨0,true,false,1,[[.sl 144 g83 4 0 o82.2.2.length]]⟩),(144,⟨g83,true,true,4,List.map aA.enc o82.2.2⟩)],209,[]⟩ ?_
  refine iA ?_
  refine xS 225 [4,5,6,15] ?_
  refine pF rfl ?_
  refine oA (cA ?_)
  refine xS 257 [4,5,6] ?_
  refine jA ?_
  obtain rfl:=oI h0
  exact lA [] rG
 refine lC (ι:={ p : Nat × Int × Bool × List UInt8 × List aA × Nat // sH l1 vr4 p.1 p.2.1 p.2.2.1 p.2.2.2.1 p.2.2.2.2.1 = some x59 }) (fun p=>⟨[(2,.fn 115 [] [.ref 0 0 0 0]),(8,.ref 104 0 0 0),(19,.psl 4 (List.map aA.enc l1)),(20,.int .i64 (l1.length : Int)),(21,.int .i64 p.1.2.1)],[(0,⟨0,true,false,1,[[.sl 144 p.1.2.2.2.2.2 4 0 p.1.2.2.2.2.1.length]]⟩),(104,⟨0,true,true,3,[[.bool p.1.2.2.1,.str p.1.2.2.2.1,.bool vr4.Bottom]]⟩),(144,⟨p.1.2.2.2.2.2,true,true,4,List.map aA.enc p.1.2.2.2.2.1⟩)],145,[]⟩) (fun p=>p.1.1) ⟨(fu,0,vr4.Some,vr4.Last,[],0),hxx59⟩ ⟨rF,rE,rfl,rfl,trivial,trivial⟩ (fun _=>Nat.le_refl _) ?_
 rintro ⟨⟨fu,v60,v61,v62,v63,g64⟩,h1⟩
 cases fu with
 | zero =>
  replace h1 : sH l1 vr4 0 v60 v61 v62 v63 = some x59:=h1
  rw [sH] at h1; cases h1
 | succ fu =>
  replace h1 : sH l1 vr4 (fu + 1) v60 v61 v62 v63 = some x59:=h1
  rw [sH] at h1
  dsimp only
  refine xS 153 [2,8,19,20,21,22] ?_
  refine iA ?_
  refine xI h1 rfl (fun h1 hb65=>?_) (fun h1 hb65=>?_)
  ·
   refine oA (cA (iA (vB ?_)))
   obtain ⟨e66,he66,h1⟩:=bA h1
   obtain ⟨he66a,he66b,he66c⟩:=vA he66
   refine nA 201 [2,8,9,10,19,20,21] (fun _=>none) rfl (fun _ _=>rS (rA he66a (rA he66b he66c))) ?_
   refine vH 11 rfl ?_
   refine oC (l':=List.range' 0 2++(2::(List.range' 3 8++[]))) rfl ?_
   refine vC 0 2 217 (2::(List.range' 3 8++[])) (fun _=>none) rfl rfl rfl (fun _ _=>rS (rA he66a (rA he66b he66c))) ?_
   refine fK rfl rfl rfl rfl rfl Tryz.func119 rfl (by decide) rfl rL ?_
   dsimp only [Tryz.f119]
   refine xE ⟨[(0,.agg [.bool v61,.str v62,.bool vr4.Bottom]),(1,.agg [.str e66.Key,.str e66.Val,.bool e66.Dead,.int .i64 e66.Seq])],[(0,⟨0,true,false,1,[[.sl 144 g64 4 0 v63.length]]⟩),(104,⟨0,true,true,3,[[.bool v61,.str v62,.bool vr4.Bottom]]⟩),(144,⟨g64,true,true,4,List.map aA.enc v63⟩),(177,⟨0,true,true,4,[[.str e66.Key,.str e66.Val,.bool e66.Dead,.int .i64 e66.Seq]]⟩)],217,[]⟩ ?_
   refine nA 257 [2,3,5] (fun _=>none) rfl (fun _ _=>rS (rA he66a (rA he66b he66c))) ?_
   refine iA ?_
   obtain ⟨vr67,hvr67,h1⟩:=bA h1
   refine nA 281 [2,3,5,7] (fun | 1=>some (.int .i64 vr67,[]) | _=>none) rfl (fun _ _=>rB (rA he66a (rA he66b he66c)) (zcP hvr67)) ?_
   refine nA 297 [2,3,5,7,13] (fun _=>none) rfl (fun _ _=>rS (rA he66a (rA he66b he66c))) ?_
   refine xI h1 rfl (fun h1 hb68=>?_) (fun h1 hb68=>?_)
   ·
    refine nA 337 [4,5,6] (fun _=>none) rfl (fun _ _=>rS (rA he66a (rA he66b he66c))) ?_
    refine jA (mA ?_)
    refine oE (fun _ _=>rS (rA he66a (rA he66b he66c))) ?_
    refine xF ⟨[(2,.fn 115 [] [.ref 0 0 0 0]),(8,.ref 104 0 0 0),(9,.int .i64 v60),(10,.ref 177 0 0 0),(19,.psl 4 (List.map aA.enc l1)),(20,.int .i64 (l1.length : Int)),(21,.int .i64 v60),(27,.agg [.bool v61,.str v62,.bool vr4.Bottom]),(28,.agg [.str e66.Key,.str e66.Val,.bool e66.Dead,.int .i64 e66.Seq]),(29,.tup [.nili,.agg [.bool false,.str [],.bool false],.int .i64 vr67])],[(0,⟨0,true,false,1,[[.sl 144 g64 4 0 v63.length]]⟩),(104,⟨0,true,true,3,[[.bool v61,.str v62,.bool vr4.Bottom]]⟩),(144,⟨g64,true,true,4,List.map aA.enc v63⟩),(177,⟨0,true,true,4,[[.str e66.Key,.str e66.Val,.bool e66.Dead,.int .i64 e66.Seq]]⟩)],337,[]⟩ ?_
    refine oC (l':=List.range' 3 8++[]) rfl ?_
    refine vC 3 8 401 [] (fun _=>none) rfl rfl rfl (fun _ _=>rS (rA he66a (rA he66b he66c))) ?_
    refine mD ?_
    refine cA ?_
    refine xE ⟨[(2,.fn 115 [] [.ref 0 0 0 0]),(8,.ref 104 0 0 0),(9,.int .i64 v60),(11,.nili),(12,.ref 369 0 0 0),(13,.int .i64 vr67),(19,.psl 4 (List.map aA.enc l1)),(20,.int .i64 (l1.length : Int)),(21,.int .i64 v60)],[(0,⟨0,true,false,1,[[.sl 144 g64 4 0 v63.length]]⟩),(104,⟨0,true,true,3,[[.bool v61,.str v62,.bool vr4.Bottom]]⟩),(144,⟨g64,true,true,4,List.map aA.enc v63⟩),(369,⟨0,true,true,3,[[.bool false,.str [],.bool false]]⟩)],401,[]⟩ ?_
    refine iA ?_
    refine nA 417 [2,8,9,11,12,13,19,20,21,34] (fun _=>none) rfl (fun _ _=>rS (rA he66a (rA he66b he66c))) ?_
    refine gP rfl hb68 ?_
    refine nA 449 [6,7] (fun _=>none) rfl (fun _ _=>rS (rA he66a (rA he66b he66c))) ?_
    refine jA ?_
    obtain rfl:=oI h1
    refine mA (zB (mA (mA (xC (mA ?_)))))
    refine oE (fun _ _=>rS (rA he66a (rA he66b he66c))) ?_
    refine xF ⟨[(0,.psl 4 (List.map aA.enc l1)),(1,.bool bottom2),(4,.ref 0 0 0 0),(8,.psl 4 (List.map aA.enc l1)),(9,.bool bottom2),(10,.fn 115 [] [.ref 0 0 0 0]),(11,.tup [.int .i64 v60,.int .i64 vr67])],[(0,⟨0,true,false,1,[[.sl 144 g64 4 0 v63.length]]⟩),(144,⟨g64,true,true,4,List.map aA.enc v63⟩)],449,[]⟩ ?_
    refine oC (l':=List.range' 4 5++[]) rfl ?_
    refine vC 4 5 489 [] (fun _=>none) rfl rfl rfl (fun _ _=>rS (rA he66a (rA he66b he66c))) ?_
    refine mD ?_
    refine cA ?_
    refine xE ⟨[(4,.ref 0 0 0 0),(5,.int .i64 v60),(6,.int .i64 vr67)],[(0,⟨0,true,false,1,[[.sl 144 g64 4 0 v63.length]]⟩),(144,⟨g64,true,true,4,List.map aA.enc v63⟩)],489,[]⟩ ?_
    refine iA ?_
    refine nA 505 [4,5,6,15] (fun _=>none) rfl (fun _ _=>rS (rA he66a (rA he66b he66c))) ?_
    refine gP rfl hb68 ?_
    refine nA 545 [4,5,6] (fun _=>none) rfl (fun _ _=>rS (rA he66a (rA he66b he66c))) ?_
    refine jA (mA ?_)
    obtain rfl:=oI h0
    refine lA [] ?_
    exact rJ (rA he66a (rA he66b he66c))
   refine oA (cA (iA ?_))
   obtain ⟨vr69,hvr69,h1⟩:=bA h1
   refine nA 321 [2,3,5,8] (fun | 1=>some (.int .i64 vr69,[]) | _=>none) rfl (fun _ _=>rB (rA he66a (rA he66b he66c)) (zbF hvr69)) ?_
   refine nA 337 [2,3,5,8,19] (fun _=>none) rfl (fun _ _=>rS (rA he66a (rA he66b he66c))) ?_
   refine xI h1 rfl (fun h1 hb70=>?_) (fun h1 hb70=>?_)
   ·
    refine nA 377 [4,5,6] (fun _=>none) rfl (fun _ _=>rS (rA he66a (rA he66b he66c))) ?_
    refine jA (mA ?_)
    refine oE (fun _ _=>rS (rA he66a (rA he66b he66c))) ?_
    refine xF ⟨[(2,.fn 115 [] [.ref 0 0 0 0]),(8,.ref 104 0 0 0),(9,.int .i64 v60),(10,.ref 177 0 0 0),(19,.psl 4 (List.map aA.enc l1)),(20,.int .i64 (l1.length : Int)),(21,.int .i64 v60),(27,.agg [.bool v61,.str v62,.bool vr4.Bottom]),(28,.agg [.str e66.Key,.str e66.Val,.bool e66.Dead,.int .i64 e66.Seq]),(29,.tup [.nili,.agg [.bool false,.str [],.bool false],.int .i64 vr69])],[(0,⟨0,true,false,1,[[.sl 144 g64 4 0 v63.length]]⟩),(104,⟨0,true,true,3,[[.bool v61,.str v62,.bool vr4.Bottom]]⟩),(144,⟨g64,true,true,4,List.map aA.enc v63⟩),(177,⟨0,true,true,4,[[.str e66.Key,.str e66.Val,.bool e66.Dead,.int .i64 e66.Seq]]⟩)],377,[]⟩ ?_
    refine oC (l':=List.range' 3 8++[]) rfl ?_
    refine vC 3 8 441 [] (fun _=>none) rfl rfl rfl (fun _ _=>rS (rA he66a (rA he66b he66c))) ?_
    refine mD ?_
    refine cA ?_
    refine xE ⟨[(2,.fn 115 [] [.ref 0 0 0 0]),(8,.ref 104 0 0 0),(9,.int .i64 v60),(11,.nili),(12,.ref 409 0 0 0),(13,.int .i64 vr69),(19,.psl 4 (List.map aA.enc l1)),(20,.int .i64 (l1.length : Int)),(21,.int .i64 v60)],[(0,⟨0,true,false,1,[[.sl 144 g64 4 0 v63.length]]⟩),(104,⟨0,true,true,3,[[.bool v61,.str v62,.bool vr4.Bottom]]⟩),(144,⟨g64,true,true,4,List.map aA.enc v63⟩),(409,⟨0,true,true,3,[[.bool false,.str [],.bool false]]⟩)],441,[]⟩ ?_
    refine iA ?_
    refine nA 457 [2,8,9,11,12,13,19,20,21,34] (fun _=>none) rfl (fun _ _=>rS (rA he66a (rA he66b he66c))) ?_
    refine gP rfl hb70 ?_
    refine nA 489 [6,7] (fun _=>none) rfl (fun _ _=>rS (rA he66a (rA he66b he66c))) ?_
    refine jA ?_
    obtain rfl:=oI h1
    refine mA (zB (mA (mA (xC (mA ?_)))))
    refine oE (fun _ _=>rS (rA he66a (rA he66b he66c))) ?_
    refine xF ⟨[(0,.psl 4 (List.map aA.enc l1)),(1,.bool bottom2),(4,.ref 0 0 0 0),(8,.psl 4 (List.map aA.enc l1)),(9,.bool bottom2),(10,.fn 115 [] [.ref 0 0 0 0]),(11,.tup [.int .i64 v60,.int .i64 vr69])],[(0,⟨0,true,false,1,[[.sl 144 g64 4 0 v63.length]]⟩),(144,⟨g64,true,true,4,List.map aA.enc v63⟩)],489,[]⟩ ?_
    refine oC (l':=List.range' 4 5++[]) rfl ?_
    refine vC 4 5 529 [] (fun _=>none) rfl rfl rfl (fun _ _=>rS (rA he66a (rA he66b he66c))) ?_
    refine mD ?_
    refine cA ?_
    refine xE ⟨[(4,.ref 0 0 0 0),(5,.int .i64 v60),(6,.int .i64 vr69)],[(0,⟨0,true,false,1,[[.sl 144 g64 4 0 v63.length]]⟩),(144,⟨g64,true,true,4,List.map aA.enc v63⟩)],529,[]⟩ ?_
    refine iA ?_
    refine nA 545 [4,5,6,15] (fun _=>none) rfl (fun _ _=>rS (rA he66a (rA he66b he66c))) ?_
    refine gP rfl hb70 ?_
    refine nA 585 [4,5,6] (fun _=>none) rfl (fun _ _=>rS (rA he66a (rA he66b he66c))) ?_
    refine jA (mA ?_)
    obtain rfl:=oI h0
    refine lA [] ?_
    exact rJ (rA he66a (rA he66b he66c))
   refine oA (cA (iA ?_))
   obtain ⟨b71,hb71,h1⟩:=bA h1
   refine jC (fr':=[(2,.ref 217 0 0 0),(3,.ref 225 0 0 0),(5,.ref 241 0 0 0),(30,.bool b71)]) (hp':=[(0,⟨0,true,false,1,[[.sl 144 g64 4 0 v63.length]]⟩),(104,⟨0,true,true,3,[[.bool v61,.str v62,.bool vr4.Bottom]]⟩),(144,⟨g64,true,true,4,List.map aA.enc v63⟩),(177,⟨0,true,true,4,[[.str e66.Key,.str e66.Val,.bool e66.Dead,.int .i64 e66.Seq]]⟩),(217,⟨0,true,true,3,[[.bool v61,.str v62,.bool vr4.Bottom]]⟩),(225,⟨0,true,true,4,[[.str e66.Key,.str e66.Val,.bool e66.Dead,.int .i64 e66.Seq]]⟩),(241,⟨0,true,true,3,[[.bool false,.str [],.bool false]]⟩)]) [0,104,144,177,217,225,241] 409 [2,3,5,30] (fun _=>none) rfl (fun Kt hK=>by
     cases v61 with
     | false =>
      replace hb71:=sA hb71 rfl
      have hqb71:=oI hb71
      subst hqb71
      exact rS (rA he66a (rA he66b he66c))
     | true =>
      replace hb71:=zA hb71 rfl
      have hqb71:=oI hb71
      subst hqb71
      exact rS (rA he66a (rA he66b he66c))) ?_
   refine xI h1 rfl (fun h1 hb73=>?_) (fun h1 hb73=>?_)
   ·
    refine nA 441 [4,5,6] (fun _=>none) rfl (fun _ _=>rS (rA he66a (rA he66b he66c))) ?_
    refine jA (mA ?_)
    refine oE (fun _ _=>rS (rA he66a (rA he66b he66c))) ?_
    refine xF ⟨[(2,.fn 115 [] [.ref 0 0 0 0]),(8,.ref 104 0 0 0),(9,.int .i64 v60),(10,.ref 177 0 0 0),(19,.psl 4 (List.map aA.enc l1)),(20,.int .i64 (l1.length : Int)),(21,.int .i64 v60),(27,.agg [.bool v61,.str v62,.bool vr4.Bottom]),(28,.agg [.str e66.Key,.str e66.Val,.bool e66.Dead,.int .i64 e66.Seq]),(29,.tup [.nili,.agg [.bool false,.str [],.bool false],.int .i64 6])],[(0,⟨0,true,false,1,[[.sl 144 g64 4 0 v63.length]]⟩),(104,⟨0,true,true,3,[[.bool v61,.str v62,.bool vr4.Bottom]]⟩),(144,⟨g64,true,true,4,List.map aA.enc v63⟩),(177,⟨0,true,true,4,[[.str e66.Key,.str e66.Val,.bool e66.Dead,.int .i64 e66.Seq]]⟩)],441,[]⟩ ?_
    refine oC (l':=List.range' 3 8++[]) rfl ?_
    refine vC 3 8 505 [] (fun _=>none) rfl rfl rfl (fun _ _=>rS (rA he66a (rA he66b he66c))) ?_
    refine mD ?_
    refine cA ?_
    refine xE ⟨[(2,.fn 115 [] [.ref 0 0 0 0]),(8,.ref 104 0 0 0),(9,.int .i64 v60),(11,.nili),(12,.ref 473 0 0 0),(13,.int .i64 6),(19,.psl 4 (List.map aA.enc l1)),(20,.int .i64 (l1.length : Int)),(21,.int .i64 v60)],[(0,⟨0,true,false,1,[[.sl 144 g64 4 0 v63.length]]⟩),(104,⟨0,true,true,3,[[.bool v61,.str v62,.bool vr4.Bottom]]⟩),(144,⟨g64,true,true,4,List.map aA.enc v63⟩),(473,⟨0,true,true,3,[[.bool false,.str [],.bool false]]⟩)],505,[]⟩ ?_
    refine iA ?_
    refine nA 521 [2,8,9,11,12,13,19,20,21,34] (fun _=>none) rfl (fun _ _=>rS (rA he66a (rA he66b he66c))) ?_
    refine kI rfl ?_
    refine nA 553 [6,7] (fun _=>none) rfl (fun _ _=>rS (rA he66a (rA he66b he66c))) ?_
    refine jA ?_
    obtain rfl:=oI h1
    refine mA (zB (mA (mA (xC (mA ?_)))))
    refine oE (fun _ _=>rS (rA he66a (rA he66b he66c))) ?_
    refine xF ⟨[(0,.psl 4 (List.map aA.enc l1)),(1,.bool bottom2),(4,.ref 0 0 0 0),(8,.psl 4 (List.map aA.enc l1)),(9,.bool bottom2),(10,.fn 115 [] [.ref 0 0 0 0]),(11,.tup [.int .i64 v60,.int .i64 6])],[(0,⟨0,true,false,1,[[.sl 144 g64 4 0 v63.length]]⟩),(144,⟨g64,true,true,4,List.map aA.enc v63⟩)],553,[]⟩ ?_
    refine oC (l':=List.range' 4 5++[]) rfl ?_
    refine vC 4 5 593 [] (fun _=>none) rfl rfl rfl (fun _ _=>rS (rA he66a (rA he66b he66c))) ?_
    refine mD ?_
    refine cA ?_
    refine xE ⟨[(4,.ref 0 0 0 0),(5,.int .i64 v60),(6,.int .i64 6)],[(0,⟨0,true,false,1,[[.sl 144 g64 4 0 v63.length]]⟩),(144,⟨g64,true,true,4,List.map aA.enc v63⟩)],593,[]⟩ ?_
    refine iA ?_
    refine nA 609 [4,5,6,15] (fun _=>none) rfl (fun _ _=>rS (rA he66a (rA he66b he66c))) ?_
    refine kI rfl ?_
    refine nA 649 [4,5,6] (fun _=>none) rfl (fun _ _=>rS (rA he66a (rA he66b he66c))) ?_
    refine jA (mA ?_)
    obtain rfl:=oI h0
    refine lA [] ?_
    exact rJ (rA he66a (rA he66b he66c))
   refine oA (cA ?_)
   refine nA 465 [2,3,5,9] (fun _=>none) rfl (fun _ _=>rS (rA he66a (rA he66b he66c))) ?_
   refine iA (vB ?_)
   obtain ⟨b74,hb74,h1⟩:=bA h1
   refine jC (fr':=[(2,.ref 217 0 0 0),(3,.ref 225 0 0 0),(5,.ref 241 0 0 0),(9,.ref 449 0 0 0),(37,.bool b74)]) (hp':=[(0,⟨0,true,false,1,[[.sl 144 g64 4 0 v63.length]]⟩),(104,⟨0,true,true,3,[[.bool v61,.str v62,.bool vr4.Bottom]]⟩),(144,⟨g64,true,true,4,List.map aA.enc v63⟩),(177,⟨0,true,true,4,[[.str e66.Key,.str e66.Val,.bool e66.Dead,.int .i64 e66.Seq]]⟩),(217,⟨0,true,true,3,[[.bool v61,.str v62,.bool vr4.Bottom]]⟩),(225,⟨0,true,true,4,[[.str e66.Key,.str e66.Val,.bool e66.Dead,.int .i64 e66.Seq]]⟩),(241,⟨0,true,true,3,[[.bool false,.str [],.bool false]]⟩),(449,⟨0,true,true,3,[[.bool true,.str e66.Key,.bool vr4.Bottom]]⟩)]) [0,104,144,177,217,225,241,449] 545 [2,3,5,9,37] (fun _=>none) rfl (fun Kt hK=>by
     cases v61 with
     | false =>
      replace hb74:=sA hb74 rfl
      have hqb74:=oI hb74
      subst hqb74
      exact rS (rA he66a (rA he66b he66c))
     | true =>
      replace hb74:=zA hb74 rfl
      have hqb74:=oI hb74
      subst hqb74
      exact rS (rA he66a (rA he66b he66c))) ?_
   refine xI h1 rfl (fun h1 hb76=>?_) (fun h1 hb76=>?_)
   ·
    refine qC 593 [4,5,6] (fun _=>none) rfl rfl rfl (fun _ _=>xD (rA he66a (rA he66b he66c))) ?_
    refine jA (zB (mA ?_))
    refine oE (fun _ _=>rS (rA he66a (rA he66b he66c))) ?_
    refine xF ⟨[(2,.fn 115 [] [.ref 0 0 0 0]),(8,.ref 104 0 0 0),(9,.int .i64 v60),(10,.ref 177 0 0 0),(19,.psl 4 (List.map aA.enc l1)),(20,.int .i64 (l1.length : Int)),(21,.int .i64 v60),(27,.agg [.bool v61,.str v62,.bool vr4.Bottom]),(28,.agg [.str e66.Key,.str e66.Val,.bool e66.Dead,.int .i64 e66.Seq]),(29,.tup [.iface 181 (.agg [.str e66.Key,.str e66.Val,.bool e66.Dead,.int .i64 e66.Seq]),.agg [.bool true,.str e66.Key,.bool vr4.Bottom],.int .i64 0])],[(0,⟨0,true,false,1,[[.sl 144 g64 4 0 v63.length]]⟩),(104,⟨0,true,true,3,[[.bool v61,.str v62,.bool vr4.Bottom]]⟩),(144,⟨g64,true,true,4,List.map aA.enc v63⟩),(177,⟨0,true,true,4,[[.str e66.Key,.str e66.Val,.bool e66.Dead,.int .i64 e66.Seq]]⟩)],593,[]⟩ ?_
    refine oC (l':=List.range' 3 8++[]) rfl ?_
    refine vC 3 8 657 [] (fun _=>none) rfl rfl rfl (fun _ _=>rS (rA he66a (rA he66b he66c))) ?_
    refine mD ?_
    refine cA ?_
    refine xE ⟨[(2,.fn 115 [] [.ref 0 0 0 0]),(8,.ref 104 0 0 0),(9,.int .i64 v60),(11,.iface 181 (.agg [.str e66.Key,.str e66.Val,.bool e66.Dead,.int .i64 e66.Seq])),(12,.ref 625 0 0 0),(13,.int .i64 0),(19,.psl 4 (List.map aA.enc l1)),(20,.int .i64 (l1.length : Int)),(21,.int .i64 v60)],[(0,⟨0,true,false,1,[[.sl 144 g64 4 0 v63.length]]⟩),(104,⟨0,true,true,3,[[.bool v61,.str v62,.bool vr4.Bottom]]⟩),(144,⟨g64,true,true,4,List.map aA.enc v63⟩),(625,⟨0,true,true,3,[[.bool true,.str e66.Key,.bool vr4.Bottom]]⟩)],657,[]⟩ ?_
    refine iA ?_
    refine nA 673 [2,8,9,11,12,13,19,20,21,34] (fun _=>none) rfl (fun _ _=>rS (rA he66a (rA he66b he66c))) ?_
    refine pF rfl ?_
    refine oA (cA ?_)
    refine vH 3 rfl ?_
    refine oC (l':=List.range' 0 2++(2::(List.range' 3 0++[]))) rfl ?_
    refine vC 0 2 689 (2::(List.range' 3 0++[])) (fun _=>none) rfl rfl rfl (fun _ _=>rS (rA he66a (rA he66b he66c))) ?_
    refine fK rfl rfl rfl rfl rfl Tryz.func115 rfl (by decide) rfl rL ?_
    dsimp only [Tryz.f115]
    refine xE ⟨[(0,.iface 181 (.agg [.str e66.Key,.str e66.Val,.bool e66.Dead,.int .i64 e66.Seq])),(1,.ref 0 0 0 0)],[(0,⟨0,true,false,1,[[.sl 144 g64 4 0 v63.length]]⟩),(104,⟨0,true,true,3,[[.bool v61,.str v62,.bool vr4.Bottom]]⟩),(144,⟨g64,true,true,4,List.map aA.enc v63⟩),(625,⟨0,true,true,3,[[.bool true,.str e66.Key,.bool vr4.Bottom]]⟩)],689,[]⟩ ?_
    refine nA 753 [0,1,4] (fun _=>none) rfl (fun _ _=>rS (rA he66a (rA he66b he66c))) ?_
    refine nA 761 [0,1,10] (fun _=>none) rfl (fun _ _=>rS (rA he66a (rA he66b he66c))) ?_
    refine pF rfl ?_
    refine oA ?_
    refine jS (fun _ _=>rS (rA he66a (rA he66b he66c))) ?_
    refine xF ⟨[(2,.fn 115 [] [.ref 0 0 0 0]),(8,.ref 104 0 0 0),(9,.int .i64 v60),(11,.iface 181 (.agg [.str e66.Key,.str e66.Val,.bool e66.Dead,.int .i64 e66.Seq])),(12,.ref 625 0 0 0),(13,.int .i64 0),(19,.psl 4 (List.map aA.enc l1)),(20,.int .i64 (l1.length : Int)),(21,.int .i64 v60),(34,.bool false),(37,.fn 115 [] [.ref 0 0 0 0]),(38,.iface 181 (.agg [.str e66.Key,.str e66.Val,.bool e66.Dead,.int .i64 e66.Seq])),(39,.tup [])],[(0,⟨0,true,false,1,[[.sl 144 g64 4 0 v63.length]]⟩),(104,⟨0,true,true,3,[[.bool v61,.str v62,.bool vr4.Bottom]]⟩),(144,⟨g64,true,true,4,List.map aA.enc v63⟩),(625,⟨0,true,true,3,[[.bool true,.str e66.Key,.bool vr4.Bottom]]⟩)],761,[]⟩ ?_
    refine oC (l':=[]) rfl ?_
    refine mD ?_
    refine cA ?_
    refine xE ⟨[(2,.fn 115 [] [.ref 0 0 0 0]),(8,.ref 104 0 0 0),(12,.ref 625 0 0 0),(19,.psl 4 (List.map aA.enc l1)),(20,.int .i64 (l1.length : Int)),(21,.int .i64 v60)],[(0,⟨0,true,false,1,[[.sl 144 g64 4 0 v63.length]]⟩),(104,⟨0,true,true,3,[[.bool v61,.str v62,.bool vr4.Bottom]]⟩),(144,⟨g64,true,true,4,List.map aA.enc v63⟩),(625,⟨0,true,true,3,[[.bool true,.str e66.Key,.bool vr4.Bottom]]⟩)],761,[]⟩ ?_
    refine nB 777 [2,8,19,20,21] (fun _=>none) rfl (fun _ _=>rS (rA he66a (rA he66b he66c))) ?_
    refine pB (cA ?_)
    refine nB 793 [2,8,19,20,21] (fun _=>none) rfl (fun _ _=>rS (rA he66a (rA he66b he66c))) ?_
    refine cA ?_
    exact ⟨⟨(fu,(IntKind.i64.wrap (v60 + 1)),true,e66.Key,v63,g64),h1⟩,⟨rF,rE,rfl,rfl,trivial,trivial⟩,Nat.lt_succ_self _⟩
   obtain ⟨b77,hb77,h1⟩:=bA h1
   refine jC (fr':=[(3,.ref 225 0 0 0),(5,.ref 241 0 0 0),(9,.ref 449 0 0 0),(50,.bool b77)]) (hp':=[(0,⟨0,true,false,1,[[.sl 144 g64 4 0 v63.length]]⟩),(104,⟨0,true,true,3,[[.bool v61,.str v62,.bool vr4.Bottom]]⟩),(144,⟨g64,true,true,4,List.map aA.enc v63⟩),(177,⟨0,true,true,4,[[.str e66.Key,.str e66.Val,.bool e66.Dead,.int .i64 e66.Seq]]⟩),(217,⟨0,true,true,3,[[.bool v61,.str v62,.bool vr4.Bottom]]⟩),(225,⟨0,true,true,4,[[.str e66.Key,.str e66.Val,.bool e66.Dead,.int .i64 e66.Seq]]⟩),(241,⟨0,true,true,3,[[.bool false,.str [],.bool false]]⟩),(449,⟨0,true,true,3,[[.bool true,.str e66.Key,.bool vr4.Bottom]]⟩)]) [0,104,144,177,217,225,241,449] 601 [3,5,9,50] (fun _=>none) rfl (fun Kt hK=>by
     cases hg78 : vr4.Bottom with
     | false =>
      replace hb77:=sA hb77 hg78
      have hqb77:=oI hb77
      subst hqb77
      exact sD hg78 (rA he66a (rA he66b he66c)) hK
     | true =>
      replace hb77:=zA hb77 hg78
      have hqb77:=oI hb77
      subst hqb77
      exact sD hg78 (rA he66a (rA he66b he66c)) hK) ?_
   refine xI h1 rfl (fun h1 hb79=>?_) (fun h1 hb79=>?_)
   ·
    refine qC 649 [4,5,6] (fun _=>none) rfl rfl rfl (fun _ _=>xD (rA he66a (rA he66b he66c))) ?_
    refine jA (zB (mA ?_))
    refine oE (fun _ _=>rS (rA he66a (rA he66b he66c))) ?_
    refine xF ⟨[(2,.fn 115 [] [.ref 0 0 0 0]),(8,.ref 104 0 0 0),(9,.int .i64 v60),(10,.ref 177 0 0 0),(19,.psl 4 (List.map aA.enc l1)),(20,.int .i64 (l1.length : Int)),(21,.int .i64 v60),(27,.agg [.bool v61,.str v62,.bool vr4.Bottom]),(28,.agg [.str e66.Key,.str e66.Val,.bool e66.Dead,.int .i64 e66.Seq]),(29,.tup [.iface 182 (.agg [.str e66.Key,.str e66.Val,.bool e66.Dead,.int .i64 e66.Seq]),.agg [.bool true,.str e66.Key,.bool vr4.Bottom],.int .i64 0])],[(0,⟨0,true,false,1,[[.sl 144 g64 4 0 v63.length]]⟩),(104,⟨0,true,true,3,[[.bool v61,.str v62,.bool vr4.Bottom]]⟩),(144,⟨g64,true,true,4,List.map aA.enc v63⟩),(177,⟨0,true,true,4,[[.str e66.Key,.str e66.Val,.bool e66.Dead,.int .i64 e66.Seq]]⟩)],649,[]⟩ ?_
    refine oC (l':=List.range' 3 8++[]) rfl ?_
    refine vC 3 8 713 [] (fun _=>none) rfl rfl rfl (fun _ _=>rS (rA he66a (rA he66b he66c))) ?_
    refine mD ?_
    refine cA ?_
    refine xE ⟨[(2,.fn 115 [] [.ref 0 0 0 0]),(8,.ref 104 0 0 0),(9,.int .i64 v60),(11,.iface 182 (.agg [.str e66.Key,.str e66.Val,.bool e66.Dead,.int .i64 e66.Seq])),(12,.ref 681 0 0 0),(13,.int .i64 0),(19,.psl 4 (List.map aA.enc l1)),(20,.int .i64 (l1.length : Int)),(21,.int .i64 v60)],[(0,⟨0,true,false,1,[[.sl 144 g64 4 0 v63.length]]⟩),(104,⟨0,true,true,3,[[.bool v61,.str v62,.bool vr4.Bottom]]⟩),(144,⟨g64,true,true,4,List.map aA.enc v63⟩),(681,⟨0,true,true,3,[[.bool true,.str e66.Key,.bool vr4.Bottom]]⟩)],713,[]⟩ ?_
    refine iA ?_
    refine nA 729 [2,8,9,11,12,13,19,20,21,34] (fun _=>none) rfl (fun _ _=>rS (rA he66a (rA he66b he66c))) ?_
    refine pF rfl ?_
    refine oA (cA ?_)
    refine vH 3 rfl ?_
    refine oC (l':=List.range' 0 2++(2::(List.range' 3 0++[]))) rfl ?_
    refine vC 0 2 745 (2::(List.range' 3 0++[])) (fun _=>none) rfl rfl rfl (fun _ _=>rS (rA he66a (rA he66b he66c))) ?_
    refine fK rfl rfl rfl rfl rfl Tryz.func115 rfl (by decide) rfl rL ?_
    dsimp only [Tryz.f115]
    refine xE ⟨[(0,.iface 182 (.agg [.str e66.Key,.str e66.Val,.bool e66.Dead,.int .i64 e66.Seq])),(1,.ref 0 0 0 0)],[(0,⟨0,true,false,1,[[.sl 144 g64 4 0 v63.length]]⟩),(104,⟨0,true,true,3,[[.bool v61,.str v62,.bool vr4.Bottom]]⟩),(144,⟨g64,true,true,4,List.map aA.enc v63⟩),(681,⟨0,true,true,3,[[.bool true,.str e66.Key,.bool vr4.Bottom]]⟩)],745,[]⟩ ?_
    refine nA 809 [0,1,4] (fun _=>none) rfl (fun _ _=>rS (rA he66a (rA he66b he66c))) ?_
    refine nA 817 [0,1,10] (fun _=>none) rfl (fun _ _=>rS (rA he66a (rA he66b he66c))) ?_
    refine pF rfl ?_
    refine oA ?_
    refine jS (fun _ _=>rS (rA he66a (rA he66b he66c))) ?_
    refine xF ⟨[(2,.fn 115 [] [.ref 0 0 0 0]),(8,.ref 104 0 0 0),(9,.int .i64 v60),(11,.iface 182 (.agg [.str e66.Key,.str e66.Val,.bool e66.Dead,.int .i64 e66.Seq])),(12,.ref 681 0 0 0),(13,.int .i64 0),(19,.psl 4 (List.map aA.enc l1)),(20,.int .i64 (l1.length : Int)),(21,.int .i64 v60),(34,.bool false),(37,.fn 115 [] [.ref 0 0 0 0]),(38,.iface 182 (.agg [.str e66.Key,.str e66.Val,.bool e66.Dead,.int .i64 e66.Seq])),(39,.tup [])],[(0,⟨0,true,false,1,[[.sl 144 g64 4 0 v63.length]]⟩),(104,⟨0,true,true,3,[[.bool v61,.str v62,.bool vr4.Bottom]]⟩),(144,⟨g64,true,true,4,List.map aA.enc v63⟩),(681,⟨0,true,true,3,[[.bool true,.str e66.Key,.bool vr4.Bottom]]⟩)],817,[]⟩ ?_
    refine oC (l':=[]) rfl ?_
    refine mD ?_
    refine cA ?_
    refine xE ⟨[(2,.fn 115 [] [.ref 0 0 0 0]),(8,.ref 104 0 0 0),(12,.ref 681 0 0 0),(19,.psl 4 (List.map aA.enc l1)),(20,.int .i64 (l1.length : Int)),(21,.int .i64 v60)],[(0,⟨0,true,false,1,[[.sl 144 g64 4 0 v63.length]]⟩),(104,⟨0,true,true,3,[[.bool v61,.str v62,.bool vr4.Bottom]]⟩),(144,⟨g64,true,true,4,List.map aA.enc v63⟩),(681,⟨0,true,true,3,[[.bool true,.str e66.Key,.bool vr4.Bottom]]⟩)],817,[]⟩ ?_
    refine nB 833 [2,8,19,20,21] (fun _=>none) rfl (fun _ _=>rS (rA he66a (rA he66b he66c))) ?_
    refine pB (cA ?_)
    refine nB 849 [2,8,19,20,21] (fun _=>none) rfl (fun _ _=>rS (rA he66a (rA he66b he66c))) ?_
    refine cA ?_
    exact ⟨⟨(fu,(IntKind.i64.wrap (v60 + 1)),true,e66.Key,v63,g64),h1⟩,⟨rF,rE,rfl,rfl,trivial,trivial⟩,Nat.lt_succ_self _⟩
   refine oA (pB (cA ?_))
   refine qC 649 [4,5,6] (fun _=>none) rfl rfl rfl (fun _ _=>xD (rA he66a (rA he66b he66c))) ?_
   refine jA ?_
   refine oE (fun _ _=>rS (rA he66a (rA he66b he66c))) ?_
   refine xF ⟨[(2,.fn 115 [] [.ref 0 0 0 0]),(8,.ref 104 0 0 0),(9,.int .i64 v60),(10,.ref 177 0 0 0),(19,.psl 4 (List.map aA.enc l1)),(20,.int .i64 (l1.length : Int)),(21,.int .i64 v60),(27,.agg [.bool v61,.str v62,.bool vr4.Bottom]),(28,.agg [.str e66.Key,.str e66.Val,.bool e66.Dead,.int .i64 e66.Seq]),(29,.tup [.iface 157 (.agg [.str e66.Key,.str e66.Val,.bool e66.Dead,.int .i64 e66.Seq]),.agg [.bool true,.str e66.Key,.bool vr4.Bottom],.int .i64 0])],[(0,⟨0,true,false,1,[[.sl 144 g64 4 0 v63.length]]⟩),(104,⟨0,true,true,3,[[.bool v61,.str v62,.bool vr4.Bottom]]⟩),(144,⟨g64,true,true,4,List.map aA.enc v63⟩),(177,⟨0,true,true,4,[[.str e66.Key,.str e66.Val,.bool e66.Dead,.int .i64 e66.Seq]]⟩)],649,[]⟩ ?_
   refine oC (l':=List.range' 3 8++[]) rfl ?_
   refine vC 3 8 713 [] (fun _=>none) rfl rfl rfl (fun _ _=>rS (rA he66a (rA he66b he66c))) ?_
   refine mD ?_
   refine cA ?_
   refine xE ⟨[(2,.fn 115 [] [.ref 0 0 0 0]),(8,.ref 104 0 0 0),(9,.int .i64 v60),(11,.iface 157 (.agg [.str e66.Key,.str e66.Val,.bool e66.Dead,.int .i64 e66.Seq])),(12,.ref 681 0 0 0),(13,.int .i64 0),(19,.psl 4 (List.map aA.enc l1)),(20,.int .i64 (l1.length : Int)),(21,.int .i64 v60)],[(0,⟨0,true,false,1,[[.sl 144 g64 4 0 v63.length]]⟩),(104,⟨0,true,true,3,[[.bool v61,.str v62,.bool vr4.Bottom]]⟩),(144,⟨g64,true,true,4,List.map aA.enc v63⟩),(681,⟨0,true,true,3,[[.bool true,.str e66.Key,.bool vr4.Bottom]]⟩)],713,[]⟩ ?_
   refine iA ?_
   refine nA 729 [2,8,9,11,12,13,19,20,21,34] (fun _=>none) rfl (fun _ _=>rS (rA he66a (rA he66b he66c))) ?_
   refine pF rfl ?_
   refine oA (cA ?_)
   refine vH 3 rfl ?_
   refine oC (l':=List.range' 0 2++(2::(List.range' 3 0++[]))) rfl ?_
   refine vC 0 2 745 (2::(List.range' 3 0++[])) (fun _=>none) rfl rfl rfl (fun _ _=>rS (rA he66a (rA he66b he66c))) ?_
   refine fK rfl rfl rfl rfl rfl Tryz.func115 rfl (by decide) rfl rL ?_
   dsimp only [Tryz.f115]
   refine xE ⟨[(0,.iface 157 (.agg [.str e66.Key,.str e66.Val,.bool e66.Dead,.int .i64 e66.Seq])),(1,.ref 0 0 0 0)],[(0,⟨0,true,false,1,[[.sl 144 g64 4 0 v63.length]]⟩),(104,⟨0,true,true,3,[[.bool v61,.str v62,.bool vr4.Bottom]]⟩),(144,⟨g64,true,true,4,List.map aA.enc v63⟩),(681,⟨0,true,true,3,[[.bool true,.str e66.Key,.bool vr4.Bottom]]⟩)],745,[]⟩ ?_
   refine nA 809 [0,1,4] (fun _=>none) rfl (fun _ _=>rS (rA he66a (rA he66b he66c))) ?_
   refine nA 817 [0,1,10] (fun _=>none) rfl (fun _ _=>rS (rA he66a (rA he66b he66c))) ?_
   refine kI rfl ?_
   obtain ⟨vr80,hvr80,h1⟩:=bA h1
   obtain ⟨hc81,h1⟩:=pD h1
   refine aH 865 [] (fun | 2=>some (.agg (aA.enc vr80),[]) | _=>none) rfl rfl rfl (fun _ _=>wK (rA he66a (rA he66b he66c)) (zpJ hvr80)) ?_
   refine jS (fun _ _=>rS (rA he66a (rA he66b he66c))) ?_
   refine xF ⟨[(2,.fn 115 [] [.ref 0 0 0 0]),(8,.ref 104 0 0 0),(9,.int .i64 v60),(11,.iface 157 (.agg [.str e66.Key,.str e66.Val,.bool e66.Dead,.int .i64 e66.Seq])),(12,.ref 681 0 0 0),(13,.int .i64 0),(19,.psl 4 (List.map aA.enc l1)),(20,.int .i64 (l1.length : Int)),(21,.int .i64 v60),(34,.bool false),(37,.fn 115 [] [.ref 0 0 0 0]),(38,.iface 157 (.agg [.str e66.Key,.str e66.Val,.bool e66.Dead,.int .i64 e66.Seq])),(39,.tup [])],[(0,⟨0,true,false,1,[[.sl 144 (g64 + 1) 4 0 ((v63++[vr80]).length)]]⟩),(104,⟨0,true,true,3,[[.bool v61,.str v62,.bool vr4.Bottom]]⟩),(144,⟨(g64 + 1),true,true,4,List.map aA.enc (v63++[vr80])⟩),(681,⟨0,true,true,3,[[.bool true,.str e66.Key,.bool vr4.Bottom]]⟩)],865,[]⟩ ?_
   refine oC (l':=[]) rfl ?_
   refine mD ?_
   refine cA ?_
   refine xE ⟨[(2,.fn 115 [] [.ref 0 0 0 0]),(8,.ref 104 0 0 0),(12,.ref 681 0 0 0),(19,.psl 4 (List.map aA.enc l1)),(20,.int .i64 (l1.length : Int)),(21,.int .i64 v60)],[(0,⟨0,true,false,1,[[.sl 144 (g64 + 1) 4 0 ((v63++[vr80]).length)]]⟩),(104,⟨0,true,true,3,[[.bool v61,.str v62,.bool vr4.Bottom]]⟩),(144,⟨(g64 + 1),true,true,4,List.map aA.enc (v63++[vr80])⟩),(681,⟨0,true,true,3,[[.bool true,.str e66.Key,.bool vr4.Bottom]]⟩)],865,[]⟩ ?_
   refine nB 881 [2,8,19,20,21] (fun _=>none) rfl (fun _ _=>rS (rA he66a (rA he66b he66c))) ?_
   refine pB (cA ?_)
   refine nB 897 [2,8,19,20,21] (fun _=>none) rfl (fun _ _=>rS (rA he66a (rA he66b he66c))) ?_
   refine cA ?_
   exact ⟨⟨(fu,(IntKind.i64.wrap (v60 + 1)),true,e66.Key,(v63++[vr80]),(g64 + 1)),h1⟩,⟨rF,rE,rfl,rfl,trivial,trivial⟩,Nat.lt_succ_self _⟩
  refine dC (xA (xA (gC ?_)))
  obtain rfl:=oI h1
  exact ⟨_,g64,rfl,rL,⟨rF,rE,rfl,rfl,trivial,trivial⟩⟩
theorem oZ {fu : Nat} {a1 : List aA} {b2 : List aA} {r : Bool} (h0 : mP fu a1 b2 = some r) : yA Tryz.prog 88 [.psl 4 (a1.map aA.enc),.psl 4 (b2.map aA.enc)] (.bool r) []:=by
 refine dB Tryz.func88 rfl (by decide) rL ?_
 dsimp only [Tryz.f88]
 rw [mP] at h0
 refine xS 8 [0,1] ?_
 refine iA ?_
 refine xS 48 [0,1,11] ?_
 refine xI h0 rfl (fun h0 hb3=>?_) (fun h0 hb3=>?_)
 ·
  refine xS 56 [4] ?_
  refine jA (mA ?_)
  obtain rfl:=oI h0
  exact lA [] rG
 refine oA (cA (iA ?_))
 refine xS 72 [1,12,13,14] ?_
 obtain ⟨x13,hxx13,h0⟩:=bA h0
 refine pC (fun s'=>∃ o19 : Unit,x13 = .inl o19 ∧ s'.nx ≤ 80 ∧ LeN [] s' ⟨[],[],80,[]⟩) ?_ ?_
 ·
  intro s' hs
  obtain ⟨o19,rfl,hn,hs⟩:=hs
  refine cA ?_
  refine oB [] hn hs ?_
  refine xS 88 [4] ?_
  refine jA ?_
  obtain rfl:=oI h0
  exact lA [] rG
 refine lC (ι:={ p : Nat × Int // bI a1 b2 p.1 p.2 = some x13 }) (fun p=>⟨[(1,.psl 4 (List.map aA.enc b2)),(12,.psl 4 (List.map aA.enc a1)),(13,.int .i64 (a1.length : Int)),(14,.int .i64 p.1.2)],[],72,[]⟩) (fun p=>p.1.1) ⟨(fu,0),hxx13⟩ ⟨rF,rE,rfl,rfl,trivial,trivial⟩ (fun _=>Nat.le_refl _) ?_
 rintro ⟨⟨fu,v14⟩,h1⟩
 cases fu with
 | zero =>
  replace h1 : bI a1 b2 0 v14 = some x13:=h1
  rw [bI] at h1; cases h1
 | succ fu =>
  replace h1 : bI a1 b2 (fu + 1) v14 = some x13:=h1
  rw [bI] at h1
  dsimp only
  refine xS 80 [1,12,13,14,15] ?_
  refine iA ?_
  refine xI h1 rfl (fun h1 hb15=>?_) (fun h1 hb15=>?_)
  ·
   refine oA (cA (iA (vB ?_)))
   obtain ⟨e16,he16,h1⟩:=bA h1
   obtain ⟨he16a,he16b,he16c⟩:=vA he16
   refine nA 128 [1,5,6,12,13,14] (fun _=>none) rfl (fun _ _=>rS (rA he16a (rA he16b he16c))) ?_
   obtain ⟨e17,he17,h1⟩:=bA h1
   obtain ⟨he17a,he17b,he17c⟩:=vA he17
   refine qC 176 [1,12,13,14,24] (fun _=>none) rfl rfl rfl (fun _ _=>xD (rA he16a (rA he16b (rA he16c (rA he17a (rA he17b he17c)))))) ?_
   refine xI h1 rfl (fun h1 hb18=>?_) (fun h1 hb18=>?_)
   ·
    refine nA 184 [4] (fun _=>none) rfl (fun _ _=>rS (rA he16a (rA he16b (rA he16c (rA he17a (rA he17b he17c)))))) ?_
    refine jA ?_
    obtain rfl:=oI h1
    refine zB (mA (mA (xC (mA ?_))))
    obtain rfl:=oI h0
    refine lA [] ?_
    exact rJ (rA he16a (rA he16b (rA he16c (rA he17a (rA he17b he17c)))))
   refine oA (pB (cA ?_))
   refine nB 192 [1,12,13,14] (fun _=>none) rfl (fun _ _=>rS (rA he16a (rA he16b (rA he16c (rA he17a (rA he17b he17c)))))) ?_
   refine cA ?_
   exact ⟨⟨(fu,(IntKind.i64.wrap (v14 + 1))),h1⟩,⟨rF,rE,rfl,rfl,trivial,trivial⟩,Nat.lt_succ_self _⟩
  refine dC (xA (xA (gC ?_)))
  obtain rfl:=oI h1
  exact ⟨_,rfl,rL,⟨rF,rE,rfl,rfl,trivial,trivial⟩⟩
theorem zit {fu : Nat} {vs1 : mB} {r : Int} (h0 : eP fu vs1 = some r) : yA Tryz.prog 56 [.agg (mB.enc vs1)] (.int .i64 r) []:=by
 refine dB Tryz.func56 rfl (by decide) rL ?_
 dsimp only [Tryz.f56]
 rw [eP] at h0
 refine xS 16 [1] ?_
 refine iA ?_
 obtain ⟨vr2,hvr2,h0⟩:=bA h0
 refine nA 80 [1,4] (fun | 2=>some (.tup [.int .i64 vr2.1,.int .i64 vr2.2],[]) | _=>none) rfl (fun _ _=>rC (zau hvr2)) ?_
 refine xS 96 [1,4,21] ?_
 refine xI h0 rfl (fun h0 hb3=>?_) (fun h0 hb3=>?_)
 ·
  refine xS 112 [2] ?_
  refine jA (mA ?_)
  obtain rfl:=oI h0
  exact lA [] rG
 refine oA (cA ?_)
 refine xS 104 [1,5] ?_
 refine iA ?_
 refine xS 144 [1,5,25,26,27] ?_
 obtain ⟨x10,hxx10,h0⟩:=bA h0
 refine pC (fun s'=>s'.nx ≤ 152 ∧ LeN [] s' ⟨[(1,.ref 0 0 0 0),(5,.int .i64 x10)],[(0,⟨0,true,true,10,[[.psl 1 (List.map (tA 4 aA.enc) vs1.Merge.Runs),.psl 1 (List.map (gA .i64) vs1.Merge.At),.psl 2 (List.map eA.enc vs1.Merge.Tree.Keys),.psl 1 (List.map (gA .i64) vs1.Merge.Tree.Lose),.int .i64 vs1.Merge.Tree.Win,.bool vs1.Shadow.Some,.str vs1.Shadow.Last,.bool vs1.Shadow.Bottom,.psl 4 (List.map aA.enc vs1.Out),.int .i64 vs1.Steps]]⟩)],152,[]⟩) ?_ ?_
 ·
  intro s' hs
  obtain ⟨hn,hs⟩:=hs
  refine cA ?_
  refine oB [] hn hs ?_
  refine iA (vB ?_)
  obtain ⟨b15,hb15,h0⟩:=bA h0
  refine jC (fr':=[(1,.ref 0 0 0 0),(5,.int .i64 x10),(35,.bool b15)]) (hp':=[(0,⟨0,true,true,10,[[.psl 1 (List.map (tA 4 aA.enc) vs1.Merge.Runs),.psl 1 (List.map (gA .i64) vs1.Merge.At),.psl 2 (List.map eA.enc vs1.Merge.Tree.Keys),.psl 1 (List.map (gA .i64) vs1.Merge.Tree.Lose),.int .i64 vs1.Merge.Tree.Win,.bool vs1.Shadow.Some,.str vs1.Shadow.Last,.bool vs1.Shadow.Bottom,.psl 4 (List.map aA.enc vs1.Out),.int .i64 vs1.Steps]]⟩)]) [0] 224 [1,5,35] (fun _=>none) rfl (fun Kt hK=>by
    cases hg16 : (decide (20000 < (vs1.Out.length : Int))) with
    | false =>
     replace hb15:=sA hb15 hg16
     have hqb15:=oI hb15
     subst hqb15
     exact rW hg16 hK
    | true =>
     replace hb15:=zA hb15 hg16
     have hqb15:=oI hb15
     subst hqb15
     exact rW hg16 hK) ?_
  refine xI h0 rfl (fun h0 hb17=>?_) (fun h0 hb17=>?_)
  ·
   refine xS 232 [2] ?_
   refine jA (zB (mA ?_))
   obtain rfl:=oI h0
   exact lA [] rG
  refine xS 264 [1,5,44] ?_
  refine xI h0 rfl (fun h0 hb18=>?_) (fun h0 hb18=>?_)
  ·
   refine xS 272 [2] ?_
   refine jA (zB (mA ?_))
   obtain rfl:=oI h0
   exact lA [] rG
  refine oA (pB (cA ?_))
  obtain ⟨vr19,hvr19,h0⟩:=bA h0
  refine nA 352 [1,5,8,10] (fun | 3=>some (.tup [.psl 4 (vr19.1.map aA.enc),.psl 1 (vr19.2.1.map (gA .i64)),.int .i64 vr19.2.2],[]) | _=>none) rfl (fun _ _=>rC (znb hvr19)) ?_
  refine iA ?_
  refine xS 368 [1,5,8,10,58] ?_
  refine xI h0 rfl (fun h0 hb20=>?_) (fun h0 hb20=>?_)
  ·
   refine xS 384 [2] ?_
   refine jA (mA ?_)
   obtain rfl:=oI h0
   exact lA [] rG
  refine oA (cA ?_)
  obtain ⟨hc21,h0⟩:=pD h0
  obtain ⟨vr22,hvr22,h0⟩:=bA h0
  refine qC 480 [1,5,8,10,11] (fun | 6=>some (.tup [.psl 4 (vr22.1.map aA.enc),.int .i64 vr22.2.1,.int .i64 vr22.2.2],[]) | _=>none) rfl rfl rfl (fun _ _=>hO (zpb hvr22)) ?_
  refine iA ?_
  refine xS 496 [1,5,8,10,11,72] ?_
  refine xI h0 rfl (fun h0 hb23=>?_) (fun h0 hb23=>?_)
  ·
   refine xS 512 [2] ?_
   refine jA (mA ?_)
   obtain rfl:=oI h0
   exact lA [] rG
  refine oA (cA ?_)
  obtain ⟨vr24,hvr24,h0⟩:=bA h0
  refine nA 544 [1,5,8,11,13] (fun | 3=>some (.agg (lB.enc vr24),[]) | _=>none) rfl (fun _ _=>rC (zbX hvr24)) ?_
  refine iA ?_
  refine xS 560 [1,5,8,11,13,79] ?_
  refine xI h0 rfl (fun h0 hb25=>?_) (fun h0 hb25=>?_)
  ·
   obtain ⟨e26,he26,h0⟩:=bA h0
   obtain ⟨he26a,he26b,he26c⟩:=vA he26
   refine aH 640 [1,11,13] (fun _=>none) rfl rfl rfl (fun _ _=>xD (rA he26a (rA he26b he26c))) ?_
   refine cA (iA ?_)
   obtain ⟨vr27,hvr27,h0⟩:=bA h0
   obtain ⟨b28,hb28,h0⟩:=bA h0
   refine jC (fr':=[(98,.bool b28)]) (hp':=[(0,⟨0,true,true,10,[[.psl 1 (List.map (tA 4 aA.enc) vs1.Merge.Runs),.psl 1 (List.map (gA .i64) vs1.Merge.At),.psl 2 (List.map eA.enc vs1.Merge.Tree.Keys),.psl 1 (List.map (gA .i64) vs1.Merge.Tree.Lose),.int .i64 vs1.Merge.Tree.Win,.bool vs1.Shadow.Some,.str vs1.Shadow.Last,.bool vs1.Shadow.Bottom,.psl 4 (List.map aA.enc vs1.Out),.int .i64 vs1.Steps]]⟩),(528,⟨0,true,true,3,[[.bool true,.str e26.Key,.bool vr24.Bottom]]⟩)]) [0,528] 728 [98] (fun | 3=>some (.bool vr27,[]) | _=>none) rfl (fun Kt hK=>by
     cases hg29 : (!vr27) with
     | false =>
      replace hb28:=sA hb28 hg29
      have hqb28:=oI hb28
      subst hqb28
      first | exact dI hg29 (rA he26a (rA he26b he26c)) (oZ hvr27) hK | exact sD hg29 (rA he26a (rA he26b he26c)) hK
     | true =>
      replace hb28:=zA hb28 hg29
      have hqb28:=oI hb28
      subst hqb28
      first | exact dI hg29 (rA he26a (rA he26b he26c)) (oZ hvr27) hK | exact sD hg29 (rA he26a (rA he26b he26c)) hK) ?_
   refine xI h0 rfl (fun h0 hb30=>?_) (fun h0 hb30=>?_)
   ·
    refine nA 736 [2] (fun _=>none) rfl (fun _ _=>rS (rA he26a (rA he26b he26c))) ?_
    refine jA (mA ?_)
    obtain rfl:=oI h0
    refine lA [] ?_
    exact rJ (rA he26a (rA he26b he26c))
   refine oA (cA ?_)
   refine nA 736 [2] (fun _=>none) rfl (fun _ _=>rS (rA he26a (rA he26b he26c))) ?_
   refine jA ?_
   obtain rfl:=oI h0
   refine lA [] ?_
   exact rJ (rA he26a (rA he26b he26c))
  refine oA (cA (iA ?_))
  obtain ⟨vr31,hvr31,h0⟩:=bA h0
  obtain ⟨b32,hb32,h0⟩:=bA h0
  refine jC (fr':=[(98,.bool b32)]) (hp':=[(0,⟨0,true,true,10,[[.psl 1 (List.map (tA 4 aA.enc) vs1.Merge.Runs),.psl 1 (List.map (gA .i64) vs1.Merge.At),.psl 2 (List.map eA.enc vs1.Merge.Tree.Keys),.psl 1 (List.map (gA .i64) vs1.Merge.Tree.Lose),.int .i64 vs1.Merge.Tree.Win,.bool vs1.Shadow.Some,.str vs1.Shadow.Last,.bool vs1.Shadow.Bottom,.psl 4 (List.map aA.enc vs1.Out),.int .i64 vs1.Steps]]⟩),(528,⟨0,true,true,3,[[.bool vr24.Some,.str vr24.Last,.bool vr24.Bottom]]⟩)]) [0,528] 648 [98] (fun | 3=>some (.bool vr31,[]) | _=>none) rfl (fun Kt hK=>by
    cases hg33 : (!vr31) with
    | false =>
     replace hb32:=sA hb32 hg33
     have hqb32:=oI hb32
     subst hqb32
     first | exact fJ hg33 (oZ hvr31) hK | exact rW hg33 hK
    | true =>
     replace hb32:=zA hb32 hg33
     have hqb32:=oI hb32
     subst hqb32
     first | exact fJ hg33 (oZ hvr31) hK | exact rW hg33 hK) ?_
  refine xI h0 rfl (fun h0 hb34=>?_) (fun h0 hb34=>?_)
  ·
   refine xS 656 [2] ?_
   refine jA (mA ?_)
   obtain rfl:=oI h0
   exact lA [] rG
  refine oA (cA ?_)
  refine xS 656 [2] ?_
  refine jA ?_
  obtain rfl:=oI h0
  exact lA [] rG
 refine lC (ι:={ p : Nat × Int × Int // uI vs1 p.1 p.2.1 p.2.2 = some x10 }) (fun p=>⟨[(1,.ref 0 0 0 0),(5,.int .i64 p.1.2.1),(25,.psl 1 (List.map (gA .i64) vs1.Merge.At)),(26,.int .i64 (vs1.Merge.At.length : Int)),(27,.int .i64 p.1.2.2)],[(0,⟨0,true,true,10,[[.psl 1 (List.map (tA 4 aA.enc) vs1.Merge.Runs),.psl 1 (List.map (gA .i64) vs1.Merge.At),.psl 2 (List.map eA.enc vs1.Merge.Tree.Keys),.psl 1 (List.map (gA .i64) vs1.Merge.Tree.Lose),.int .i64 vs1.Merge.Tree.Win,.bool vs1.Shadow.Some,.str vs1.Shadow.Last,.bool vs1.Shadow.Bottom,.psl 4 (List.map aA.enc vs1.Out),.int .i64 vs1.Steps]]⟩)],144,[]⟩) (fun p=>p.1.1) ⟨(fu,0,0),hxx10⟩ ⟨rF,rE,rfl,rfl,trivial,trivial⟩ (fun _=>Nat.le_refl _) ?_
 rintro ⟨⟨fu,n11,v12⟩,h1⟩
 cases fu with
 | zero =>
  replace h1 : uI vs1 0 n11 v12 = some x10:=h1
  rw [uI] at h1; cases h1
 | succ fu =>
  replace h1 : uI vs1 (fu + 1) n11 v12 = some x10:=h1
  rw [uI] at h1
  dsimp only
  refine xS 152 [1,5,25,26,27,28] ?_
  refine iA ?_
  refine xI h1 rfl (fun h1 hb13=>?_) (fun h1 hb13=>?_)
  ·
   refine oA (cA (iA (vB ?_)))
   obtain ⟨e14,he14,h1⟩:=bA h1
   obtain ⟨he14a,he14b,he14c⟩:=vA he14
   refine nA 176 [1,5,7,25,26,27] (fun _=>none) rfl (fun _ _=>rS (rA he14a (rA he14b he14c))) ?_
   refine nB 208 [1,5,25,26,27] (fun _=>none) rfl (fun _ _=>rS (rA he14a (rA he14b he14c))) ?_
   refine pB (cA ?_)
   refine nB 224 [1,5,25,26,27] (fun _=>none) rfl (fun _ _=>rS (rA he14a (rA he14b he14c))) ?_
   refine cA ?_
   exact ⟨⟨(fu,(IntKind.i64.wrap (n11 + e14)),(IntKind.i64.wrap (v12 + 1))),h1⟩,⟨rF,rE,rfl,rfl,trivial,trivial⟩,Nat.lt_succ_self _⟩
  refine dC (xA (xA (gC ?_)))
  obtain rfl:=oI h1
  exact ⟨rL,⟨rF,rE,rfl,rfl,trivial,trivial⟩⟩
end Go.T
end
