/- Texts of the proof, joined by program. -/
import Derived.Test.YtaeifdlkolfdjaaGreatDoorKAs
import Derived.Test.YtaeifdlkolfdjaaGreatDoorKTp0
set_option linter.unusedSimpArgs false
set_option linter.unusedVariables false
set_option maxRecDepth 100000
namespace Go.AM
open Go Go.Proofs Go.RowKit
theorem pokL:(Tryz.prog.funcs.toList.all λf=>!(f.name== "runtime.NumGoroutine"))=true:=by kernel_rfl
theorem pok:POk Tryz.prog:=by
 intro f fn hf e;have h:=pokL;rw[List.all_eq_true]at h;have hm:fn∈Tryz.prog.funcs.toList:=by rw[<-Array.getElem?_toList]at hf;exact List.mem_of_getElem? hf
 have :=h fn hm;rw[e]at this;simp at this
theorem body_as:∃c,Tryz.f40.body=some c:=⟨_,rfl⟩
theorem body_is:∃c,Tryz.f56.body=some c:=⟨_,rfl⟩
theorem asG_ok(ad off:Nat->Nat)(h1:ad 999=5)(h2:off 999=0){args:List AV}{s s':Cs}{v:AV}(h:asG Tryz.prog args s=some (v,s')): @EWP (adrOf ad off) Tryz.prog 40 args (λr s2=>r=v/\Sim s2 s'.st) s.st:=by
 letI :Adr:=adrOf ad off;unfold asG at h;split at h;rotate_left;.cases h
 rename_i s0 c b g0 i j;split at h;rotate_left;.cases h
 rename_i b' blk hst;cases h;obtain⟨bd,hbd⟩:=body_as;refine⟨ent_of pok Tryz.func40 hbd,λw0 w F φ vs hm hgl hvs=>?_⟩;simp only[VRels]at hvs;obtain⟨x1,r1,rfl,hx1,x2,r2,rfl,hx2,rfl⟩:=hvs;simp only[VRel,VRels]at hx1;obtain⟨y,rfl,cs,rfl,⟨cv,cs',rfl,hc,rfl⟩,hone⟩:=hx1;simp only[VRel]at hx2;obtain⟨z,rfl,cb,sz,hb1,rfl⟩:=hx2;obtain⟨t,ht⟩:∃t:Addr,t=⟨cb,i*sz+j,none⟩:=⟨_,rfl⟩;have hg:w.cell? ⟨1,0,none⟩=some (.iface 269 (.agg #[.pointer (some ⟨5,137,none⟩)])):=by have q:=hgl 1;change VRel w F Emb.zero (.gp 1 0 [.iface 269 (.agg [.gp 999 137 []])]) (.pointer (some ⟨1,0,none⟩))at q;simp only[VRel,VRels,CRel,ne_eq,not_true_eq_false,false_implies,and_true]at q;obtain⟨q1,q2⟩:=q;obtain⟨-,u,q3,q4,y,rfl,cs,rfl,⟨v1,v2,rfl,rfl,rfl⟩,-⟩:=q2 (by simp);simp only[Value.pointer.injEq,Option.some.injEq,Addr.mk.injEq,and_true]at q1;obtain⟨q5,q6⟩:=q1;rw[<-q5,<-q6]at q3;rw[q3];show some (Value.iface 269 (.agg #[.pointer (some ⟨ad 999,off 999+137,none⟩)]))=_;rw[h1,h2]
 obtain⟨m1,g1⟩:=hm.allocO (.cells #[.pointer (some t)] 146);obtain⟨m2,g2⟩:=m1.allocO (.cells #[.pointer (some ⟨5,146,none⟩),.pointer (some ⟨w.heap.size,0,none⟩),.int .u64 150] 212);obtain⟨m3,g3⟩:=m2.allocO (.cells #[.pointer (some ⟨5,146,none⟩),.pointer (some ⟨w.heap.size,0,none⟩),.int .u64 150] 212);obtain⟨m4,g4⟩:=m3.allocO (.cells #[cv] 144);have g:=((g1.trans g2).trans g3).trans g4;have hst':aStore Tryz.prog 144 (.ref b g0 i j) (.agg [c]) (alg s.st.hp)=some (b',blk):=by rw[show alg s.st.hp=vw s.hp from alg_hpL _];exact hst
 obtain⟨w',φ',hrun,hle,hext,hheap⟩:=store_ok (P:=Tryz.prog) m4.heap hst' (x:=.pointer (some t)) (y:=.agg #[cv]) (by simp only[VRel];exact⟨cb,sz,g.le.1 _ _ _ hb1,by rw[ht]⟩) (by simp only[VRel,VRels];exact⟨[cv],rfl,⟨cv,[],rfl,VRel.mono g.ext (λ_ h=>h) g.le _ _ hc,rfl⟩,hone⟩);rw[<-ht];refine(as_hit cv t w w' hg (by simpa[Instr.storeAt,Instr.sureAddr]using hrun)).mono ?_;rintro e w2 ⟨rfl,rfl⟩;have gs:Grow w0 _ F φ w2 F φ':=⟨hle,λ_ h=>h,λ_ h=>.inl h,hext⟩
 have hh:HRel w0 w2 F φ' (λb=>b<(Cs.st {s with hp:=s.hp.put b' (.u blk)}).nx) (alg (Cs.st {s with hp:=s.hp.put b' (.u blk)}).hp):=by
  have e1:alg (Cs.st {s with hp:=s.hp.put b' (.u blk)}).hp=fupd (alg s.st.hp) b' (some blk):=by show alg (hpL (s.hp.put b' (.u blk)))=fupd (alg (hpL s.hp)) b' (some blk);rw[alg_hpL,alg_hpL,vw_put];rfl
  rw[e1];exact hheap
 have mS:=m4.step gs hh rfl (Nat.le_refl _);exact⟨_,.bool true,_,φ',F,rfl,mS,g.trans gs.weak,by simp only[VRel],rfl,Sim.refl _⟩
theorem isG_ok(ad off:Nat->Nat){args:List AV}{s s':Cs}{v:AV}(h:isG args s=some (v,s')): @EWP (adrOf ad off) Tryz.prog 56 args (λr s2=>r=v/\Sim s2 s'.st) s.st:=by
 letI :Adr:=adrOf ad off;unfold isG at h;split at h;rotate_left;.cases h
 rename_i s0 k o cs k' o' cs';split at h;rotate_left;.cases h
 rename_i e1;split at h;rotate_left;.cases h
 rename_i e2;cases h;obtain rfl:=Nat.eq_of_beq_eq_true e1;obtain rfl:=Nat.eq_of_beq_eq_true e2;obtain⟨bd,hbd⟩:=body_is;refine⟨ent_of pok Tryz.func56 hbd,λw0 w F φ vs hm hgl hvs=>?_⟩;simp only[VRels,VRel]at hvs;obtain⟨x1,r1,rfl,⟨y1,rfl,rfl,-⟩,x2,r2,rfl,⟨y2,rfl,rfl,-⟩,rfl⟩:=hvs;refine(is_same ⟨_,_,none⟩ w).mono ?_;rintro e w2 ⟨rfl,rfl⟩;exact⟨_,.bool true,_,φ,F,rfl,hm,GrowW.refl _ _ _ _,by simp only[VRel],rfl,Sim.refl _⟩
theorem base0_ok(ad off:Nat->Nat)(h1:ad 999=5)(h2:off 999=0): @COk (adrOf ad off) Tryz.prog (evC base0).con:=by
 letI :Adr:=adrOf ad off;refine COk.of λfu f k hk=>?_;have hk:base0 f=some k:=hk;unfold base0 at hk;split at hk;.rename_i q;obtain rfl:=Nat.eq_of_beq_eq_true q;cases hk;exact λargs s s' v hg=>asG_ok ad off h1 h2 hg
 .split at hk;.rename_i q;obtain rfl:=Nat.eq_of_beq_eq_true q;cases hk;exact λargs s s' v hg=>isG_ok ad off hg
  .cases hk
end Go.AM
