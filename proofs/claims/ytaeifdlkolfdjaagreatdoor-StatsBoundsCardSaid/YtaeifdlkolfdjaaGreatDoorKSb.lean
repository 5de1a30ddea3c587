/- Texts of the proof, joined by program. -/
import Derived.Test.YtaeifdlkolfdjaaGreatDoorKAmZe
import Derived.Test.YtaeifdlkolfdjaaGreatDoorKTp0
import Derived.Test.YtaeifdlkolfdjaaGreatDoorProg
import Derived.Shelf.Sort.Plain
import Derived.Shelf.Slices.In.SortNone
import Derived.Shelf.SlLaysF0
import Derived.Shelf.Lays8
import Derived.Shelf.Spec.SlicesGrow
import Derived.Shelf.SlSortCmp.NoneTotal
section
set_option linter.unusedSimpArgs false
set_option linter.unusedVariables false
namespace Go.AM
open Go Go.RowKit Go.Proofs
theorem ewp_sort[Adr]{P:Program}{f:FuncId}{n:Nat}{v:AV}{rest:List AV}{s:Cs}{x y:List (U n)}{eq:List (Nat×Nat)}(hE:Ent P f)(ha:ownArg n v s=some (x,eq))(he:∀q∈eq,q.1=q.2)(hy:y.length=x.length)(hnone:∀(w:World)(F:Nat->Prop)(φ:Emb)(a:Option Addr)(rs:List Value),VRels w F φ rest rs->Calls P f ⟨.slice a 0 0::rs⟩ w λe w'=>e=.returned (.tuple #[])/\w'=w)(hrow:∀(w:World)(F:Nat->Prop)(φ:Emb)(cb cap:Nat)(vs rs:List Value),VRels w F φ rest rs->cb<w.heap.size->VRels w F Emb.zero (x.map (encU n)).flatten vs->(∀(k:Nat)(u:Value),vs[k]?=some u->w.cell? ⟨cb,k,none⟩=some u/\w.frozen? ⟨cb,k,none⟩=false)->Calls P f ⟨.slice (some ⟨cb,0,none⟩) x.length cap::rs⟩ w λe w'=>e=.returned (.tuple #[])/\ ∃us:List Value,Put w w' cb us/\VRels w' F Emb.zero (y.map (encU n)).flatten us/\ ∀u∈us,u.oneCell'=true):EWP P f (v::rest) (λr s2=>r=.tup []/\Sim s2 (ownPut n v s y).st) s.st:=by
 refine⟨hE,λw0 w F φ vs hm hgl hvs=>?_⟩;unfold ownArg at ha;split at ha;rotate_left;.cases ha
 rename_i g hg;simp only[Option.some.injEq,Prod.mk.injEq]at ha;obtain⟨rfl,rfl⟩:=ha;simp only[VRels]at hvs;obtain⟨x1,rs,rfl,hx1,hrs⟩:=hvs
 cases v with
  |nils=>simp only[VRel]at hx1;subst hx1;refine(hnone w F φ none rs hrs).mono ?_;rintro e w' ⟨rfl,rfl⟩;exact⟨_,.tup [],_,φ,F,rfl,hm,GrowW.refl _ _ _ _,by simp only[VRel,VRels];exact⟨[],rfl,rfl⟩,rfl,Sim.refl _⟩
  |sl b g' z off len=>
   obtain⟨rfl,rfl,hlen,yb,pl,hv,hg2,ho,hp,hl⟩:=own_at hm hg he;simp only[VRel]at hx1;rcases hx1 with⟨h1,-,h3,a,rfl⟩|⟨cb,cap,h1,rfl,h3,h4⟩;.rw[hp]at h1;cases h1;refine(hnone w F φ a rs hrs).mono ?_;rintro e w' ⟨rfl,rfl⟩;obtain⟨m1,m2⟩:=mem_put (ys:=y) (w':=w') (pl:=none) hm hv hg2 ho hp hl hy rfl;exact⟨_,.tup [],_,φ,F,rfl,m1,m2.weak,by simp only[VRel,VRels];exact⟨[],rfl,rfl⟩,rfl,Sim.refl _⟩
   .rw[hp]at h1;cases h1;have hl2:=hl;simp only[LRel]at hl2;obtain⟨f1,f2,⟨c,el,fz,q1,q2,q3⟩,f4⟩:=hl2;simp only[CB.a,ABlk.emb,if_true]at f4;rw[ERel_flat,CRel_iff]at f4;obtain⟨us,u1,u2,u3⟩:=f4;have hfz:fz=(0,0):=q2.1 rfl;rw[Nat.zero_mul,hlen];refine(hrow w F φ cb cap us rs hrs (Array.getElem?_eq_some_iff.1 q1).1 u1 λk u hu=>⟨by have :=u2 k u hu;rwa[Nat.zero_add]at this,by simp[World.frozen?,q1,hfz]⟩).mono ?_;rintro e w' ⟨rfl,us',p1,p2,p3⟩;obtain⟨m1,m2⟩:=mem_put (ys:=y) (w':=w') hm hv hg2 ho hp hl hy ⟨us',p1,p2,p3⟩;exact⟨_,.tup [],_,φ,F,rfl,m1,m2.weak,by simp only[VRel,VRels];exact⟨[],rfl,rfl⟩,rfl,Sim.refl _⟩
  |_=>simp only[ownSl]at hg;cases hg
end Go.AM
end
section
namespace Go.Proofs
open Go.Shelf
def lays189_ren:Go.Shelf.Ren:=⟨λ |189=>88|125=>145|257=>144|128=>197|129=>198|294=>188|295=>189|296=>190|297=>191|298=>192|299=>193|216=>194|300=>195|301=>196|328=>244|329=>245|330=>246|331=>247|332=>248|215=>249|343=>293|n=>n,λ |28=>93|3=>3|46=>308|0=>0|51=>381|53=>383|4=>4|183=>374|182=>373|131=>168|5=>5|9=>9|218=>435|222=>439|228=>506|229=>79|n=>n,λ |n=>n⟩
theorem lays189 : Go.Proofs.Lays.n189 Tryz.prog lays189_ren where
  mixed := by kernel_rfl
  f125 := Tryz.func145.trans (congrArg some (by kernel_rfl))
  f128 := Tryz.func197.trans (congrArg some (by kernel_rfl))
  f129 := Tryz.func198.trans (congrArg some (by kernel_rfl))
  f189 := Tryz.func88.trans (congrArg some (by kernel_rfl))
  f215 := Tryz.func249.trans (congrArg some (by kernel_rfl))
  f216 := Tryz.func194.trans (congrArg some (by kernel_rfl))
  f257 := Tryz.func144.trans (congrArg some (by kernel_rfl))
  f294 := Tryz.func188.trans (congrArg some (by kernel_rfl))
  f295 := Tryz.func189.trans (congrArg some (by kernel_rfl))
  f296 := Tryz.func190.trans (congrArg some (by kernel_rfl))
  f297 := Tryz.func191.trans (congrArg some (by kernel_rfl))
  f298 := Tryz.func192.trans (congrArg some (by kernel_rfl))
  f299 := Tryz.func193.trans (congrArg some (by kernel_rfl))
  f300 := Tryz.func195.trans (congrArg some (by kernel_rfl))
  f301 := Tryz.func196.trans (congrArg some (by kernel_rfl))
  f328 := Tryz.func244.trans (congrArg some (by kernel_rfl))
  f329 := Tryz.func245.trans (congrArg some (by kernel_rfl))
  f330 := Tryz.func246.trans (congrArg some (by kernel_rfl))
  f331 := Tryz.func247.trans (congrArg some (by kernel_rfl))
  f332 := Tryz.func248.trans (congrArg some (by kernel_rfl))
  f343 := Tryz.func293.trans (congrArg some (by kernel_rfl))
  t0 := Tryz.underlying0
  a0 := Tryz.isAgg0
  z0 := Tryz.sizeOf0
  v0 := Tryz.zeroValue0
  t3 := Tryz.underlying3
  a3 := Tryz.isAgg3
  z3 := Tryz.sizeOf3
  v3 := Tryz.zeroValue3
  t4 := Tryz.underlying4
  a4 := Tryz.isAgg4
  z4 := Tryz.sizeOf4
  v4 := Tryz.zeroValue4
  t5 := Tryz.underlying5
  a5 := Tryz.isAgg5
  z5 := Tryz.sizeOf5
  v5 := Tryz.zeroValue5
  t9 := Tryz.underlying9
  a9 := Tryz.isAgg9
  z9 := Tryz.sizeOf9
  v9 := Tryz.zeroValue9
  t28 := Tryz.underlying93
  a28 := Tryz.isAgg93
  z28 := Tryz.sizeOf93
  v28 := Tryz.zeroValue93
  t46 := Tryz.underlying308
  a46 := Tryz.isAgg308
  z46 := Tryz.sizeOf308
  v46 := Tryz.zeroValue308
  t51 := Tryz.underlying381
  a51 := Tryz.isAgg381
  z51 := Tryz.sizeOf381
  v51 := Tryz.zeroValue381
  t53 := Tryz.underlying383
  a53 := Tryz.isAgg383
  z53 := Tryz.sizeOf383
  v53 := Tryz.zeroValue383
  t131 := Tryz.underlying168
  a131 := Tryz.isAgg168
  z131 := Tryz.sizeOf168
  v131 := Tryz.zeroValue168
  t182 := Tryz.underlying373
  a182 := Tryz.isAgg373
  z182 := Tryz.sizeOf373
  v182 := Tryz.zeroValue373
  t183 := Tryz.underlying374
  a183 := Tryz.isAgg374
  z183 := Tryz.sizeOf374
  v183 := Tryz.zeroValue374
  t218 := Tryz.underlying435
  a218 := Tryz.isAgg435
  z218 := Tryz.sizeOf435
  v218 := Tryz.zeroValue435
  t222 := Tryz.underlying439
  a222 := Tryz.isAgg439
  z222 := Tryz.sizeOf439
  v222 := Tryz.zeroValue439
  t228 := Tryz.underlying506
  a228 := Tryz.isAgg506
  z228 := Tryz.sizeOf506
  v228 := Tryz.zeroValue506
  t229 := Tryz.underlying79
  a229 := Tryz.isAgg79
  z229 := Tryz.sizeOf79
  v229 := Tryz.zeroValue79
def laysSF_ren:Go.Shelf.Ren:=⟨λ |6=>133|15=>145|14=>178|28=>197|29=>198|20=>233|21=>234|22=>235|23=>236|24=>237|25=>238|26=>239|27=>240|46=>285|47=>245|48=>246|49=>286|50=>287|57=>319|n=>n,λ |22=>152|24=>225|25=>296|3=>3|39=>308|0=>0|53=>381|55=>383|4=>4|46=>374|45=>373|50=>168|5=>5|9=>9|66=>435|70=>439|76=>506|77=>79|n=>n,λ |n=>n⟩
theorem laysSF : Go.Proofs.SlLaysF0.n6 Tryz.prog laysSF_ren where
  mixed := by kernel_rfl
  f6 := ⟨"slices.SortFunc[[]bookend/api.Pair,bookend/api.Pair]", by decide, Tryz.func133.trans (congrArg some (by kernel_rfl))⟩
  f14 := ⟨"slices.pdqsortCmpFunc[bookend/api.Pair]", by decide, Tryz.func178.trans (congrArg some (by kernel_rfl))⟩
  f15 := Tryz.func145.trans (congrArg some (by kernel_rfl))
  f20 := ⟨"slices.insertionSortCmpFunc[bookend/api.Pair]", by decide, Tryz.func233.trans (congrArg some (by kernel_rfl))⟩
  f21 := ⟨"slices.heapSortCmpFunc[bookend/api.Pair]", by decide, Tryz.func234.trans (congrArg some (by kernel_rfl))⟩
  f22 := ⟨"slices.breakPatternsCmpFunc[bookend/api.Pair]", by decide, Tryz.func235.trans (congrArg some (by kernel_rfl))⟩
  f23 := ⟨"slices.choosePivotCmpFunc[bookend/api.Pair]", by decide, Tryz.func236.trans (congrArg some (by kernel_rfl))⟩
  f24 := ⟨"slices.reverseRangeCmpFunc[bookend/api.Pair]", by decide, Tryz.func237.trans (congrArg some (by kernel_rfl))⟩
  f25 := ⟨"slices.partialInsertionSortCmpFunc[bookend/api.Pair]", by decide, Tryz.func238.trans (congrArg some (by kernel_rfl))⟩
  f26 := ⟨"slices.partitionEqualCmpFunc[bookend/api.Pair]", by decide, Tryz.func239.trans (congrArg some (by kernel_rfl))⟩
  f27 := ⟨"slices.partitionCmpFunc[bookend/api.Pair]", by decide, Tryz.func240.trans (congrArg some (by kernel_rfl))⟩
  f28 := Tryz.func197.trans (congrArg some (by kernel_rfl))
  f29 := Tryz.func198.trans (congrArg some (by kernel_rfl))
  f46 := ⟨"slices.siftDownCmpFunc[bookend/api.Pair]", by decide, Tryz.func285.trans (congrArg some (by kernel_rfl))⟩
  f47 := Tryz.func245.trans (congrArg some (by kernel_rfl))
  f48 := Tryz.func246.trans (congrArg some (by kernel_rfl))
  f49 := ⟨"slices.medianAdjacentCmpFunc[bookend/api.Pair]", by decide, Tryz.func286.trans (congrArg some (by kernel_rfl))⟩
  f50 := ⟨"slices.medianCmpFunc[bookend/api.Pair]", by decide, Tryz.func287.trans (congrArg some (by kernel_rfl))⟩
  f57 := ⟨"slices.order2CmpFunc[bookend/api.Pair]", by decide, Tryz.func319.trans (congrArg some (by kernel_rfl))⟩
  t0 := Tryz.underlying0
  a0 := Tryz.isAgg0
  z0 := Tryz.sizeOf0
  v0 := Tryz.zeroValue0
  t3 := Tryz.underlying3
  a3 := Tryz.isAgg3
  z3 := Tryz.sizeOf3
  v3 := Tryz.zeroValue3
  t4 := Tryz.underlying4
  a4 := Tryz.isAgg4
  z4 := Tryz.sizeOf4
  v4 := Tryz.zeroValue4
  t5 := Tryz.underlying5
  a5 := Tryz.isAgg5
  z5 := Tryz.sizeOf5
  v5 := Tryz.zeroValue5
  t9 := Tryz.underlying9
  a9 := Tryz.isAgg9
  z9 := Tryz.sizeOf9
  v9 := Tryz.zeroValue9
  t22 := Tryz.underlying152
  a22 := Tryz.isAgg152
  z22 := Tryz.sizeOf152
  v22 := Tryz.zeroValue152
  t25 := Tryz.underlying296
  a25 := Tryz.isAgg296
  z25 := Tryz.sizeOf296
  v25 := Tryz.zeroValue296
  t39 := Tryz.underlying308
  a39 := Tryz.isAgg308
  z39 := Tryz.sizeOf308
  v39 := Tryz.zeroValue308
  t45 := Tryz.underlying373
  a45 := Tryz.isAgg373
  z45 := Tryz.sizeOf373
  v45 := Tryz.zeroValue373
  t46 := Tryz.underlying374
  a46 := Tryz.isAgg374
  z46 := Tryz.sizeOf374
  v46 := Tryz.zeroValue374
  t50 := Tryz.underlying168
  a50 := Tryz.isAgg168
  z50 := Tryz.sizeOf168
  v50 := Tryz.zeroValue168
  t53 := Tryz.underlying381
  a53 := Tryz.isAgg381
  z53 := Tryz.sizeOf381
  v53 := Tryz.zeroValue381
  t55 := Tryz.underlying383
  a55 := Tryz.isAgg383
  z55 := Tryz.sizeOf383
  v55 := Tryz.zeroValue383
  t66 := Tryz.underlying435
  a66 := Tryz.isAgg435
  z66 := Tryz.sizeOf435
  v66 := Tryz.zeroValue435
  t70 := Tryz.underlying439
  a70 := Tryz.isAgg439
  z70 := Tryz.sizeOf439
  v70 := Tryz.zeroValue439
  t76 := Tryz.underlying506
  a76 := Tryz.isAgg506
  z76 := Tryz.sizeOf506
  v76 := Tryz.zeroValue506
  t77 := Tryz.underlying79
  a77 := Tryz.isAgg79
  z77 := Tryz.sizeOf79
  v77 := Tryz.zeroValue79
def laysGr_ren:Go.Shelf.Ren:=⟨λ |4=>121|n=>n,λ |22=>36|25=>73|3=>3|4=>4|9=>9|20=>20|0=>0|n=>n,λ |n=>n⟩
theorem laysGr : Go.Proofs.Lays8.n4 Tryz.prog laysGr_ren where
  mixed := by kernel_rfl
  f4 := ⟨"slices.Grow[[]bookend/api.VsView,bookend/api.VsView]", by decide, Tryz.func121.trans (congrArg some (by kernel_rfl))⟩
  t0 := Tryz.underlying0
  a0 := Tryz.isAgg0
  z0 := Tryz.sizeOf0
  v0 := Tryz.zeroValue0
  t3 := Tryz.underlying3
  a3 := Tryz.isAgg3
  z3 := Tryz.sizeOf3
  v3 := Tryz.zeroValue3
  t4 := Tryz.underlying4
  a4 := Tryz.isAgg4
  z4 := Tryz.sizeOf4
  v4 := Tryz.zeroValue4
  t9 := Tryz.underlying9
  a9 := Tryz.isAgg9
  z9 := Tryz.sizeOf9
  v9 := Tryz.zeroValue9
  t20 := Tryz.underlying20
  a20 := Tryz.isAgg20
  z20 := Tryz.sizeOf20
  v20 := Tryz.zeroValue20
  t22 := Tryz.underlying36
  a22 := Tryz.isAgg36
  z22 := Tryz.sizeOf36
  v22 := Tryz.zeroValue36
end Go.Proofs
end
section
set_option linter.unusedSimpArgs false
set_option linter.unusedVariables false
set_option maxRecDepth 100000
namespace Go.AM
open Go Go.RowKit Go.Proofs
theorem inf25:((Tryz.prog.info? (laysGr_ren.t 25)).bind λi=>i.zero.map λz=>(i.size,i.bytes,z.cells.size))=some (szU 17,48,szU 17):=by kernel_rfl
theorem info25:∃i z,Tryz.prog.info? (laysGr_ren.t 25)=some i/\i.zero=some z/\i.size=szU 17/\i.bytes=48/\z.cells.size=szU 17:=by have h:=inf25;obtain⟨i,hi,h⟩:=Option.bind_eq_some_iff.1 h;obtain⟨z,hz,h⟩:=Option.map_eq_some_iff.1 h;simp only[Prod.mk.injEq]at h;exact⟨i,z,hi,hz,h.1,h.2.1,h.2.2⟩
theorem hrel0[Adr]{w:World}{F:Nat->Prop}(hF:FOk F w):HRel w w F Emb.zero (λ_=>False) (λ_=>none):=⟨Below.refl _ _,λb hb=>(hF b hb).1,λb g x hx=>by simp[Emb.zero]at hx,λb g cb sz hx=>by simp[Emb.zero]at hx,λb x hx=>(by cases hx),λb x hx=>(by cases hx),λb b' x y cb sz sz' hx=>(by cases hx),λb o hb ho=>(hF b hb).2 o ho⟩
def blk0:ABlk:=(CB.t 0 true 17 []).a
theorem one_blk:(λb=>[blk0][b]?)=fupd (λ_=>none) 0 (some blk0):=by funext b;cases b with|zero=>rfl|succ b=>simp[fupd]
theorem c_grow_ok[Adr](hP:POk Tryz.prog)(fu:Nat):CKOk Tryz.prog 121 (k121 fu):=by
 intro args k xs ha hg
 obtain rfl:args=[.nils,.int .i64 k]:=by
  simp only at ha;split at ha;.cases ha;rfl
  .cases ha
 have hg:(if 0<=k/\k<=1000000000 then some ([]:List (U 17))else none)=some xs:=hg;split at hg;rotate_left;.cases hg
 rename_i hk;cases hg;obtain⟨bd,hbd⟩:∃c,Tryz.f121.body=some c:=⟨_,rfl⟩;obtain⟨i0,z,hi,hz,hs,hb,hzs⟩:=info25;show PCall Tryz.prog 121 [.nils,.int .i64 k] (.sl 0 0 (szU 17) 0 0) [blk0];refine⟨ent_of hP Tryz.func121 hbd,λw F vs hF hgl hv=>?_⟩;simp only[VRels,VRel]at hv;obtain⟨v1,r1,rfl,rfl,v2,r2,rfl,rfl,rfl⟩:=hv;obtain⟨n,rfl⟩:∃n:Nat,k=n:=⟨k.toNat,by omega⟩;have h0:=hrel0 hF;rw[one_blk];by_cases hn:n=0
 .subst hn;refine(Any8.slices_Grow_room laysGr none 0 0 0 w (by omega) (by omega) (by omega) (by omega)).mono ?_;rintro e w' ⟨rfl,rfl⟩;refine⟨_,Emb.zero.add 0 0 (none,szU 17),F,rfl,λ_ h=>h,λ_ h=>.inl h,?_,?_⟩
  .refine h0.upd 0 blk0 none h0.below (Ext0.refl _ _) (Emb.le_add _ _ _ _ rfl) (λ_ _ _=>rfl) (λb x cb sz hne hx=>by cases hx) (λb g x hx=>?_) (λ_ h=>h.elim) (by simp) ⟨none,Emb.add_same _ _ _ _,λe he=>(by cases he),rfl⟩ (λg hg=>?_) (λb x cb sz sz' hne hx=>by cases hx)
   .rcases Emb.add_cases _ _ _ _ hx with h|⟨h1,h2,h3⟩;.exact .inl h
    .exact .inr ⟨h1,h2,λc hc=>by rw[h3]at hc;cases hc⟩
   .have hg:0<g:=hg;simp only[Emb.add,Emb.zero];rw[if_neg (by omega)]
  .simp only[VRel];exact .inl ⟨Emb.add_same _ _ _ _,by trivial,by trivial,none,rfl⟩
 .refine(Any8.slices_Grow_grow laysGr i0 z hi hz (by rw[hs];decide) none 0 0 n [] w (by omega) (by omega) (by rw[hb];omega) (by omega) (by simp) (λ_=>rfl) (λa h=>by cases h)).mono ?_;rintro e w' ⟨rfl,rfl⟩;have h1:HRel w w.drew F Emb.zero (λ_=>False) (λ_=>none):=h0.heap_same rfl ⟨rfl,rfl,rfl,Nat.le_refl _,λ_ _=>rfl⟩;generalize hc:(#[]++Builtin.zeroCells z.cells (0+n-0)++Builtin.zeroCells z.cells (grownCap w (0+n) 0 (laysGr_ren.t 25)-(0+n)):Array Value)=c;have hge:=grownCap_ge w (0+n) 0 (laysGr_ren.t 25);have hsz:c.size=grownCap w (0+n) 0 (laysGr_ren.t 25)*szU 17:=by rw[<-hc];simp only[Array.size_append,size_zeroCells,hzs,Array.size_empty];generalize grownCap w (0+n) 0 (laysGr_ren.t 25)=G at hge⊢;rw[Nat.zero_add,<-Nat.add_mul];congr 1;omega
  have h2:=h1.alloc (U':=λb=>b<1) 0 (λh=>h) blk0 c (laysGr_ren.t 25) [] rfl (λe he=>by cases he) rfl (λv hv=>by cases hv) (λk v hk=>by simp at hk) (λ_ h=>h.elim) (by omega);obtain⟨q1,q2,q3,-⟩:=h2;refine⟨_,_,F,rfl,λ_ h=>h,λ_ h=>.inl h,q1,?_⟩;simp only[VRel];refine .inr ⟨w.heap.size,_,Emb.add_same _ _ _ _,by rw[Nat.zero_mul],Nat.zero_le _,laysGr_ren.t 25,c.size,?_,?_⟩;.show(w.drew.alloc (.cells c (laysGr_ren.t 25))).shape? w.heap.size=_;have :=heap_alloc_new w.drew (.cells c (laysGr_ren.t 25));simp only[World.shape?];rw[show w.heap.size=w.drew.heap.size from rfl,this]
  .rw[hsz,Nat.zero_add];exact Nat.le_refl _
end Go.AM
end
section
set_option linter.unusedSimpArgs false
set_option linter.unusedVariables false
namespace Go.AM
open Go Go.RowKit Go.Proofs Go.Sort
def intsA(l:List Int):List AV:=(List.map (encU 0) l).flatten
theorem int_rel[Adr]{w:World}{F:Nat->Prop}(x:Int):VRel w F Emb.zero (.int .i64 x) (.int .i64 x):=by simp only[VRel]
theorem ints_rel[Adr]{w:World}{F:Nat->Prop}:∀(l:List Int),VRels w F Emb.zero (intsA l) (l.map (Value.int .i64))|[]=>rfl|x::l=>⟨.int .i64 x,l.map (Value.int .i64),rfl,int_rel x,ints_rel l⟩
theorem rels_ints[Adr]{w:World}{F:Nat->Prop}:∀(l:List Int)(vs:List Value),VRels w F Emb.zero (intsA l) vs->vs=l.map (Value.int .i64)|[],vs,h=>h|x::l,vs,h=>by obtain⟨v,vs',rfl,h1,h2⟩:=(show∃v vs',vs=v::vs'/\VRel w F Emb.zero (.int .i64 x) v/\VRels w F Emb.zero (intsA l) vs' from h);simp only[VRel]at h1;rw[h1,rels_ints l vs' h2];rfl
theorem sort_row(x:List Int)(w:World)(cb cap:Nat)(hlt:x.length<4611686018427387904)(hcb:cb<w.heap.size)(hc:∀(k:Nat)(u:Value),(x.map (Value.int .i64))[k]?=some u->w.cell? ⟨cb,k,none⟩=some u/\w.frozen? ⟨cb,k,none⟩=false):Calls Tryz.prog 88 #[.slice (some ⟨cb,0,none⟩) x.length cap] w λe w'=>e=.returned (.tuple #[])/\Put w w' cb ((x.mergeSort λa b=>decide (a<=b)).map (Value.int .i64)):=by
 refine(Any.slices_Sort_int lays189 cb 0 cap x w (λj hj=>?_) hcb hlt).mono ?_
 .have hj:j<x.length:=by simpa using hj
  have :=hc j (.int .i64 x[j]) (by simp[hj]);rw[Nat.zero_add];have e2:x.toArray[j]! =x[j]:=by simp[hj]
  rw[e2];exact this
 .rintro e w' ⟨rfl,m,os,rfl⟩;exact⟨rfl,put_of (Value.int .i64) w cb m (x.mergeSort λa b=>decide (a<=b)).toArray os hcb⟩
theorem c_sort_ok[Adr](hP:POk Tryz.prog)(fu:Nat):CKOk Tryz.prog 88 (k88 fu):=by
 intro args s x eq y ha he hg
 match args,ha with
  |[v],ha=>
   obtain⟨bd,hbd⟩:∃c,Tryz.f88.body=some c:=⟨_,rfl⟩;have hg:f_sortInts x=some y:=hg;unfold f_sortInts at hg;split at hg;rotate_left;.cases hg
   rename_i hlt;cases hg;refine ewp_sort (n:=0) (rest:=[]) (ent_of hP Tryz.func88 hbd) ha he (List.length_mergeSort _) (λw F φ a rs hr=>?_) λw F φ cb cap vs rs hr hcb hvs hc=>?_;.obtain rfl:rs=[]:=hr;exact Any.slices_Sort_int_none lays189 a 0 w
   .obtain rfl:rs=[]:=hr;obtain rfl:=rels_ints x vs hvs;refine(sort_row x w cb cap hlt hcb hc).mono ?_;rintro e w' ⟨rfl,hp⟩;refine⟨rfl,_,hp,ints_rel _,λu hu=>?_⟩;obtain⟨z,-,rfl⟩:=List.mem_map.1 hu;rfl
end Go.AM
end
section
set_option linter.unusedSimpArgs false
set_option linter.unusedVariables false
set_option maxRecDepth 100000
namespace Go.AM
open Go Go.RowKit Go.Proofs Go.Sort Go.Lib
abbrev strV(s:List UInt8):Value:=.string ⟨s.toArray⟩
instance inhP:Inhabited TApiPair:=⟨⟨[],[]⟩⟩
def encP(p:TApiPair):List Value:=[strV p.Key,strV p.Val]
def cmpP(x y:List UInt8):Int:=if Op.bytesLess x y then-1 else if !(Op.bytesLess x y||x==y)then 1 else 0
theorem nan_ok(x:List UInt8)(w:World):Calls Tryz.prog 179 #[strV x] w λe w'=>e=.returned (.bool false)/\w'=w:=by go_enter Tryz.func179,Tryz.ntmps179;go_wp2;go_ret;exact⟨by simp,rfl⟩
set_option maxHeartbeats 1000000 in theorem cmp_ok(x y:List UInt8)(w:World):Calls Tryz.prog 135 #[strV x,strV y] w λe w'=>e=.returned (.int .i64 (cmpP x y))/\w'=w:=by
 have e7:∀args w,(callFunc 179 args).run Tryz.prog w=.ok (.enter 179 args) w:=enters_of Tryz.func179 (by kernel_rfl) rfl;have hgt:∀w,Sem.run Tryz.prog (binOp BinOp.gtr 9 (strV x) (strV y)) w=.ok (.bool !(Op.bytesLess x y||x==y)) w:=λw=>by simp only[strV,binOp,Op.stringOp,toList_mk,Sem.run_pure]
 unfold cmpP;generalize(!(Op.bytesLess x y||x==y))=p at hgt⊢;go_enter Tryz.func135,Tryz.ntmps135;go_wp2_with(go_at_call 179;refine(nan_ok _ _).mono ?_;rintro e w' ⟨rfl,hw⟩;rw[hw]);all_goals(go_ret;refine⟨?_,rfl⟩;simp_all)
set_option maxHeartbeats 1000000 in theorem pairs1_ok(x y:TApiPair)(W:World):Calls Tryz.prog 134 #[.agg #[strV x.Key,strV x.Val],.agg #[strV y.Key,strV y.Val]] W λe w'=>e=.returned (.int .i64 (cmpP x.Key y.Key))/\ ∃q os',w'=grow (W.drewN q) os':=by have hcon:=λW'=>cmp_ok x.Key y.Key W';have eCmp:∀args w,(callFunc 135 args).run Tryz.prog w=.ok (.enter 135 args) w:=enters_of Tryz.func135 (by kernel_rfl) rfl;generalize cmpP x.Key y.Key=r at hcon⊢;go_enter Tryz.func134,Tryz.ntmps134;go_wp2_with(go_at_call 135;refine(hcon _).mono ?_;rintro e w' ⟨rfl,rfl⟩);go_ret;exact⟨rfl,0,_,by rw[alloc_eq_grow,alloc_eq_grow,grow_grow];rfl⟩
theorem cmpLaysP(blk off size:Nat)(w:World):CmpLays Tryz.prog 134 #[] encP 2 (λx y=>cmpP x.Key y.Key) blk off size w:=λ_ _ _ _ x y=>pairs1_ok x y _
def ltP(x y:TApiPair):Bool:=Op.bytesLess x.Key y.Key
theorem ltP_eq:(ltOf λx y:TApiPair=>cmpP x.Key y.Key)=ltP:=by
 funext x y;show decide ((if Op.bytesLess x.Key y.Key=true then(-1:Int)else if(!(Op.bytesLess x.Key y.Key||x.Key==y.Key))=true then 1 else 0)<0)=Op.bytesLess x.Key y.Key;cases h:Op.bytesLess x.Key y.Key;.rw[if_neg (by simp)];split<;>simp
 .rw[if_pos rfl];rfl
theorem swoP:SWO (ltOf λx y:TApiPair=>cmpP x.Key y.Key):=by rw[ltP_eq];have e:∀x y:List UInt8,Op.bytesLess x y=ltStr x y:=λx y=>bytesLess_eq x y;exact⟨λx=>by unfold ltP;rw[e];exact swo_ltStr.irrefl _,λx y z=>by unfold ltP;rw[e,e,e];exact swo_ltStr.trans _ _ _,λx y z=>by unfold ltP;rw[e,e,e];exact swo_ltStr.ntrans _ _ _⟩
theorem sorted_one{d d':Array TApiPair}(hn:(d.toList.map (·.Key)).Nodup)(hP:PermIn 0 d.size d d')(hSo:SortedIn ltP 0 d.size d'):d'.toList=d.toList.mergeSort λx y=>!ltP y x:=by
 have hS:SWO ltP:=by rw[<-ltP_eq];exact swoP
 obtain⟨hsz,_,hperm⟩:=hP;have e1:d'.extract 0 d.size=d':=by rw[<-hsz];exact Array.extract_size
 rw[e1,Array.extract_size]at hperm
 have nd:∀a∈d.toList,∀b∈d.toList,a.Key=b.Key->a=b:=by
  intro a ha b hb hab;obtain⟨i,hi,rfl⟩:=List.getElem_of_mem ha;obtain⟨j,hj,rfl⟩:=List.getElem_of_mem hb;have h1:(d.toList.map (·.Key))[i]?=(d.toList.map (·.Key))[j]?:=by rw[List.getElem?_map,List.getElem?_map,List.getElem?_eq_getElem hi,List.getElem?_eq_getElem hj];exact congrArg some hab
  have :=(List.getElem?_inj (by simpa using hi) hn).1 h1;subst this;rfl
 refine List.Perm.eq_of_pairwise (le:=λx y=>(!ltP y x)=true) ?_ ?_ ?_ (hperm.trans (List.mergeSort_perm _ _).symm);.intro a b ha hb h1 h2;simp only[Bool.not_eq_true']at h1 h2;refine nd a (hperm.mem_iff.1 ha) b ((List.mergeSort_perm _ _).mem_iff.1 hb) ?_;unfold ltP at h1 h2;rw[bytesLess_eq]at h1 h2;have h1:=of_decide_eq_false h1;have h2:=of_decide_eq_false h2;exact List.le_antisymm h1 h2
 .rw[List.pairwise_iff_getElem];intro i j hi hj hij;have hi':i<d'.size:=by simpa using hi
  have hj':j<d'.size:=by simpa using hj
  have :=hSo i j (Nat.zero_le _) hij (by omega);rw[getElem!_pos d' j hj',getElem!_pos d' i hi']at this;simpa using this
 .refine List.pairwise_mergeSort ?_ ?_ _;.intro a b c h1 h2;simp only[Bool.not_eq_true']at h1 h2⊢;exact hS.ntrans c b a h2 h1
  .intro a b;cases h:ltP b a with|false=>simp|true=>simp[hS.asymmA h]
theorem pair_get(l:List TApiPair):∀(k:Nat)(v:Value),(l.flatMap encP)[k]?=some v->k<l.length*2/\(flatK encP 2 l.toArray)[k]?=some v:=by
 have key:∀(l:List TApiPair)(k:Nat),(l.flatMap encP)[k]?=(l[k/2]?).bind λp=>(encP p)[k%2]?:=by intro l;induction l with|nil=>intro k;simp|cons p l ih=>intro k;match k with|0=>rfl|1=>rfl|k+2=>rw[show(k+2)/2=k/2+1 by omega,show(k+2)%2=k%2 by omega];simpa[List.flatMap_cons,encP]using ih k
 intro k v h;rw[key]at h;obtain⟨p,hp,hv⟩:=Option.bind_eq_some_iff.1 h;obtain⟨hl,e⟩:=List.getElem?_eq_some_iff.1 hp;have hk:k<l.length*2:=by omega
 refine⟨hk,?_⟩;have hk2:k<l.toArray.size*2:=by simpa using hk
 have g:=get_flatK encP 2 l.toArray k hk2;have hs:k<(flatK encP 2 l.toArray).size:=by rw[size_flatK];exact hk2
 rw[Array.getElem?_eq_getElem hs,<-getElem!_pos _ k hs,g];have e1:l.toArray[k/2]! =p:=by rw[getElem!_pos _ _ (by simpa using hl)];simpa using e
 rw[e1];obtain⟨h5,h6⟩:=List.getElem?_eq_some_iff.1 hv;rw[getElem!_pos (encP p) (k%2) h5,h6]
end Go.AM
end
section
set_option linter.unusedSimpArgs false
set_option linter.unusedVariables false
set_option maxRecDepth 100000
namespace Go.AM
open Go Go.RowKit Go.Proofs Go.Sort Go.Lib
def pairsA(l:List TApiPair):List AV:=(List.map (encU 38) l).flatten
theorem str_rel[Adr]{w:World}{F:Nat->Prop}(x:List UInt8):VRel w F Emb.zero (.str x) (strV x):=by simp only[VRel]
theorem pairs_rel[Adr]{w:World}{F:Nat->Prop}:∀(l:List TApiPair),VRels w F Emb.zero (pairsA l) (l.flatMap encP)|[]=>rfl|x::l=>⟨strV x.Key,_,rfl,str_rel x.Key,strV x.Val,_,rfl,str_rel x.Val,pairs_rel l⟩
theorem rels_pairs[Adr]{w:World}{F:Nat->Prop}:∀(l:List TApiPair)(vs:List Value),VRels w F Emb.zero (pairsA l) vs->vs=l.flatMap encP|[],vs,h=>h|x::l,vs,h=>by obtain⟨v,vs',rfl,h1,u,us,rfl,h2,h3⟩:=(show∃v vs',vs=v::vs'/\VRel w F Emb.zero (.str x.Key) v/\ ∃u us,vs'=u::us/\VRel w F Emb.zero (.str x.Val) u/\VRels w F Emb.zero (pairsA l) us from h);simp only[VRel]at h1 h2;rw[h1,h2,rels_pairs l us h3];rfl
theorem putK_of(w:World)(cb m:Nat)(l:List TApiPair)(os:Array Obj)(hcb:cb<w.heap.size):Put w (sortWorldK encP 2 w cb 0 m l.toArray os) cb (l.flatMap encP):=by have h:=put_of id w cb m (flatK encP 2 l.toArray) os hcb;refine⟨h.os,h.tape,h.output,h.size,h.other,λc el fz hc=>?_⟩;obtain⟨c',h1,h2,h3⟩:=h.row c el fz hc;refine⟨c',h1,h2,λk v hv hk=>h3 k v ?_ hk⟩;have :=(pair_get l k v hv).2;simpa using this
theorem sortF_row(x:List TApiPair)(w:World)(cb cap:Nat)(hlt:x.length<4611686018427387904)(hn:(x.map (·.Key)).Nodup)(hcb:cb<w.heap.size)(hc:∀(k:Nat)(u:Value),(x.flatMap encP)[k]?=some u->w.cell? ⟨cb,k,none⟩=some u/\w.frozen? ⟨cb,k,none⟩=false):Calls Tryz.prog 133 #[.slice (some ⟨cb,0,none⟩) x.length cap,.func (.func 134) #[] #[]] w λe w'=>e=.returned (.tuple #[])/\Put w w' cb ((x.mergeSort λa b=>!Op.bytesLess b.Key a.Key).flatMap encP):=by
 have eg:∀args w,(callFunc 134 args).run Tryz.prog w=.ok (.enter 134 args) w:=enters_of Tryz.func134 (by kernel_rfl) rfl
 have hH:HoldsK encP 2 w cb 0 x.toArray:=by
  intro j hj;have hj2:j<x.length*2:=by simpa using hj
  have hl:(x.flatMap encP).length=x.length*2:=by clear hc hn hlt hj hj2;induction x with|nil=>rfl|cons p x ih=>rw[List.flatMap_cons,List.length_append,ih,List.length_cons];simp only[encP,List.length_cons,List.length_nil];omega
  have hs:j<(flatK encP 2 x.toArray).size:=hj;have hx:(x.flatMap encP)[j]?=some (x.flatMap encP)[j]:=List.getElem?_eq_getElem (by rw[hl];exact hj2);have g:=(pair_get x j _ hx).2;rw[Array.getElem?_eq_getElem hs]at g;have g:=Option.some.inj g;rw[Nat.zero_add,getElem!_pos _ j hs,g];exact hc j _ hx
 refine(AnyQ.slices_SortFunc laysSF 2 Tryz.isAgg225 Tryz.sizeOf225 encP (λ_=>rfl) (λx v hv=>by simp[encP]at hv;rcases hv with rfl|rfl<;>rfl) (λx y=>cmpP x.Key y.Key) swoP 134 #[] cb 0 cap x.toArray w eg (cmpLaysP cb 0 _ w) hH hcb (by simpa using hlt)).mono ?_;rintro e w' ⟨rfl,d',m,os,hp,hs,rfl⟩;rw[ltP_eq]at hs;have e:=sorted_one (d:=x.toArray) hn hp hs;refine⟨rfl,?_⟩;have e2:d'=(x.mergeSort λa b=>!Op.bytesLess b.Key a.Key).toArray:=by rw[<-Array.toArray_toList (xs:=d'),e];rfl
 rw[e2];exact putK_of w cb m _ os hcb
theorem c_sortf_ok[Adr](hP:POk Tryz.prog)(fu:Nat):CKOk Tryz.prog 133 (k133 fu):=by
 intro args s x eq y ha he hg;obtain⟨bd,hbd⟩:∃c,Tryz.f133.body=some c:=⟨_,rfl⟩;have hg:f_sortPairs x=some y:=hg;unfold f_sortPairs at hg;split at hg;rotate_left;.cases hg
 rename_i hlt;cases hg;simp only at ha;split at ha;rotate_left;.cases ha
 rename_i v;refine ewp_sort (n:=38) (rest:=[.fn 134 [] []]) (ent_of hP Tryz.func133 hbd) ha he (List.length_mergeSort _) (λw F φ a rs hr=>?_) λw F φ cb cap vs rs hr hcb hvs hc=>?_;.obtain⟨u,us,rfl,-,rfl⟩:=(show∃u us,rs=u::us/\VRel w F φ (.fn 134 [] []) u/\us=[]from hr);exact AnyF.slices_SortFunc_none laysSF a 0 u w
 .obtain⟨u,us,rfl,hu,rfl⟩:=(show∃u us,rs=u::us/\VRel w F φ (.fn 134 [] []) u/\us=[]from hr);simp only[VRel,VRels]at hu;obtain⟨fs,cs,rfl,rfl,rfl⟩:=hu;obtain rfl:=rels_pairs x vs hvs;refine(sortF_row x w cb cap hlt.2 hlt.1 hcb hc).mono ?_;rintro e w' ⟨rfl,hp⟩;refine⟨rfl,_,hp,pairs_rel _,λu hu=>?_⟩;obtain⟨z,-,hz⟩:=List.mem_flatMap.1 hu;simp only[encP,List.mem_cons,List.not_mem_nil,or_false]at hz;rcases hz with rfl|rfl<;>rfl
end Go.AM
end
