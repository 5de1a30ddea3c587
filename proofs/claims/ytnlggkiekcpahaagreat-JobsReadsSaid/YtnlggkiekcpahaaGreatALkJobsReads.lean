/- A text of the proof. -/
import Derived.Test.YtnlggkiekcpahaaGreatALk
set_option linter.unusedSimpArgs false
set_option linter.unusedVariables false
namespace Go.Proofs.YtnlggkiekcpahaaGreat
open Go.ChangeShapes Go.WideShapes Go.ChangeAt Go.RowKit Go.AM Go.T
set_option maxRecDepth 100000
theorem zi6 (key : ∀ (x0 : cB) (x1 : Int) (x2 : Int), W27 x0 → W3 x1 → W3 x2 → zcw 3 [.agg (cB.enc x0), .int .i64 x1, .int .i64 x2]) (os : Os) (started : os.Started) (H : Type) (enc : TypeId × Value → H) :
    ReturnsInHanded {} Tryz.checked os 3 .any (Rows.jobsReadsSpec.pre6 enc Tryz.prog Tryz.f3 Rows.jobsReadsRow.domain false) (Rows.jobsReadsSpec.post enc Tryz.prog Tryz.f3 false true false false):=by
  refine returnsInHanded_of_change (C:=Tryz.checked) Tryz.own started (by kernel_rfl) Tryz.func3
    (ChangeSpec.witness6 (enc:=enc) (C:=Tryz.checked) false ⟨#[],#[.agg #[.int .i64 0,.slice none 0 0,.slice none 0 0,.int .i64 0],.int .i64 0,.int .i64 0],[]⟩ 8 (by kernel_rfl) (by kernel_rfl) (by kernel_rfl) (by kernel_rfl)) ?_
  intro W base args ds gs before hval0 hW hcnd _
  have hval : ∀ (j : Nat) t v,Tryz.f3.params[j]? = some t → args[j]? = some v → Value.okWide Tryz.prog W .any base t v:=hval0
  have hW':=hW
  obtain ⟨p,q,hA0,hV,rfl,hfz,hnd⟩:=hW
  have hA : DataW.TrodAll enc Tryz.prog W 0 (fun _=>true) true Tryz.f3.params.toList args.toList ds p:=hA0
  rw [Tryz.params3] at hA hval
  obtain ⟨v0,vs0,d0,ds0,p0,q0,hargs,rfl,rfl,h0,r0⟩:=trodAll_cons hA
  obtain ⟨v1,vs1,d1,ds1,p1,q1,rfl,rfl,rfl,h1,r1⟩:=trodAll_cons r0
  obtain ⟨v2,vs2,d2,ds2,p2,q2,rfl,rfl,rfl,h2,r2⟩:=trodAll_cons r1
  obtain ⟨rfl,rfl,rfl⟩:=trodAll_nil r2
  obtain rfl : args = #[v0,v1,v2]:=by cases args; simp_all
  obtain ⟨rfl,rfl⟩:=trodVars_none hV
  obtain ⟨cs0,rfl,hcs0⟩:=okWide_struct Tryz.underlying27 (hval 0 27 v0 rfl rfl)
  obtain ⟨i1,rfl⟩:=okWide_int Tryz.underlying3 (hval 1 3 v1 rfl rfl)
  obtain ⟨i2,rfl⟩:=okWide_int Tryz.underlying3 (hval 2 3 v2 rfl rfl)
  have k0:=h0
  have lt0 : ∀ x ∈ p0,x.block < W.heap.size:=by obtain ⟨m,hm⟩:=k0; exact DataW.trod_lt m _ _ _ hm
  obtain ⟨m0,hm0⟩:=k0
  obtain ⟨as0,s0q,w0,oc0⟩:=fU 10 27 _ _ _ zoY hm0
  obtain ⟨x0,rfl,y0⟩:=shp27 (n:=1) s0q
  have k1:=h1
  have lt1 : ∀ x ∈ p1,x.block < W.heap.size:=by obtain ⟨m,hm⟩:=k1; exact DataW.trod_lt m _ _ _ hm
  obtain ⟨m1,hm1⟩:=k1
  obtain ⟨as1,s1q,w1,oc1⟩:=fU 2 3 _ _ _ zd7 hm1
  obtain ⟨x1,rfl,y1⟩:=dQ (n:=1) s1q
  have k2:=h2
  have lt2 : ∀ x ∈ p2,x.block < W.heap.size:=by obtain ⟨m,hm⟩:=k2; exact DataW.trod_lt m _ _ _ hm
  obtain ⟨m2,hm2⟩:=k2
  obtain ⟨as2,s2q,w2,oc2⟩:=fU 2 3 _ _ _ zd7 hm2
  obtain ⟨x2,rfl,y2⟩:=dQ (n:=1) s2q
  clear hA0 hval0
  obtain ⟨blks,-,hk⟩:=key x0 x1 x2 y0 y1 y2
  have u0 : uA W (cK W) kA.zero [.agg (cB.enc x0)] [.agg cs0]:=⟨_,[],rfl,⟨cs0.toList,rfl,w0,oc0⟩,rfl⟩
  have u1 : uA W (cK W) kA.zero [.int .i64 x1] [.int .i64 i1]:=w1
  have u2 : uA W (cK W) kA.zero [.int .i64 x2] [.int .i64 i2]:=w2
  have u : uA W (cK W) kA.zero [.agg (cB.enc x0),.int .i64 x1,.int .i64 x2] [.agg cs0,.int .i64 i1,.int .i64 i2]:=(uA.append u0 (uA.append u1 u2))
  refine (hk W (cK W) _ (ziA W) u).mono fun e W' he=>?_
  obtain ⟨v,φ',F',rfl,-,-,hr,hv⟩:=he
  simp only [fA] at hv
  subst hv
  have bel:=hr.below
  have z0:=Below.trod Tryz.laidOut (t:=27) (by kernel_rfl) (of_decide_eq_true (by kernel_rfl)) h0 bel lt0
  have z1:=Below.trod Tryz.laidOut (t:=3) (by kernel_rfl) (of_decide_eq_true (by kernel_rfl)) h1 bel lt1
  have z2:=Below.trod Tryz.laidOut (t:=3) (by kernel_rfl) (of_decide_eq_true (by kernel_rfl)) h2 bel lt2
  exact ⟨_,rfl,_,_,_,[],_,[],hW',trodAll_mk1 (shut_bool Tryz.underlying4 _),⟨_,_,z0,⟨_,_,z1,⟨_,_,z2,rfl,rfl⟩,rfl⟩,rfl⟩,rfl,bel.frame _,fun h=>by cases h⟩
theorem zoU (key : ∀ (x0 : cB) (x1 : Int) (x2 : Int),W27 x0 → W3 x1 → W3 x2 → zcw 3 [.agg (cB.enc x0),.int .i64 x1,.int .i64 x2]) : Rows.JobsReadsSaid :=
  OpenClaim.holds_of_wide 3 Tryz.f3 rfl rfl rfl rfl rfl rfl rfl ⟨rfl,rfl,rfl,rfl,rfl⟩ rfl rfl rfl rfl rfl (by kernel_rfl) Tryz.func3 (by kernel_rfl)
    (of_decide_eq_true (by kernel_rfl)) (by unfold Func.isWrapper; first | (rw [if_pos (by decide +kernel)]; kernel_rfl) | (rw [if_neg (by decide +kernel)]; exact ⟨rfl,rfl⟩))
    (fun os started H enc _=>zi6 key os started H enc)
end Go.Proofs.YtnlggkiekcpahaaGreat
