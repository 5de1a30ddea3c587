/- Texts of the proof, joined by program. -/
import Derived.Test.YtaeifdlkolfdjaaGreatDoorKAmH
import Derived.Laws.StructEq
set_option linter.unusedSimpArgs false
set_option linter.unusedVariables false
namespace Go.AM
open Go Go.RowKit
section
variable{P:Program}{w0 w:World}{F:Nat->Prop}{φ:Emb}{U U':Nat->Prop}{η:Heap}
theorem toList_mk(s:List UInt8):(⟨s.toArray⟩:ByteArray).toList=s:=by rw[ByteArray.toList_eq]
theorem size_mk(s:List UInt8):(⟨s.toArray⟩:ByteArray).size=s.length:=by simp[ByteArray.size]
theorem len_ok[Adr]{t ty:TypeId}{x v:AV}{y:Value}(h:aLen P t x=some v)(hx:VRel w F φ x y):∃z,(Builtin.len_ #[t] ty #[y]).run P w=.ok z w/\VRel w F φ v z:=by
 unfold aLen at h;split at h;.rename_i s hu;cases h;simp only[VRel]at hx;subst hx;exact⟨_,by simp[Builtin.len_,run_underlying hu];rfl,by simp only[VRel,size_mk,goInt]⟩
 .rename_i e hu;cases h;simp only[VRel]at hx;subst hx;exact⟨_,by simp[Builtin.len_,run_underlying hu];rfl,by simp[VRel,goInt]⟩
 .rename_i e b g z off n hu;cases h;simp only[VRel]at hx;rcases hx with⟨-,-,rfl,a,rfl⟩|⟨cb,cap,-,rfl,-⟩;.exact⟨_,by simp[Builtin.len_,run_underlying hu];rfl,by simp[VRel,goInt]⟩
  .exact⟨_,by simp[Builtin.len_,run_underlying hu];rfl,by simp[VRel,goInt]⟩
 .rename_i e sz es hu;cases h;simp only[VRel]at hx;obtain⟨a,cap,rfl,-⟩:=hx;exact⟨_,by simp[Builtin.len_,run_underlying hu];rfl,by simp[VRel,goInt]⟩
 .rename_i e hu;cases h;simp only[VRel]at hx;obtain⟨a,rfl⟩:=hx;exact⟨_,by simp[Builtin.len_,run_underlying hu];rfl,by simp[VRel,goInt]⟩
 .cases h
theorem eqFields_ok[Adr](d:Nat){cs ds:List AV}{vs us:List Value}(hc:VRels w F φ cs vs)(h1:∀x∈vs,x.oneCell'=true)(hd:VRels w F φ ds us)(h2:∀x∈us,x.oneCell'=true)(ih:∀(t:TypeId)(x y:AV)(b:Bool)(vx vy:Value),aEq P d t x y=some b->VRel w F φ x vx->VRel w F φ y vy->(Op.equalIn d t vx vy).run P w=.ok b w):∀(fs:List Field)(b:Bool),fs.foldr (λf acc=>if f.name≠ "_"then match aPart P f.type cs f.offset,aPart P f.type ds f.offset with
 |some u,some v=>match aEq P d f.type u v,acc with|some p,some q=>some (p&&q)|_,_=>none
 |_,_=>none else acc) (some true)=some b->(Op.eqFields d ⟨vs⟩ ⟨us⟩ fs).run P w=.ok b w
 |[],b,h=>by simp at h;subst h;simp[Op.eqFields]
 |f::fs,b,h=>by
  simp only[List.foldr_cons]at h;simp only[Op.eqFields];by_cases hn:f.name≠ "_"
  .rw[if_pos hn]at h;rw[if_pos hn];split at h
   .rename_i u v hu hv;split at h;.rename_i p q hp hq;simp only[Option.some.injEq]at h;subst h;obtain⟨y1,r1,s1⟩:=run_part_of (P:=P) hu hc h1;obtain⟨y2,r2,s2⟩:=run_part_of (P:=P) hv hd h2;have he:=ih _ _ _ _ _ _ hp s1 s2;have hrest:=eqFields_ok d hc h1 hd h2 ih fs q hq;cases p<;>simp[r1,r2,he,hrest]
    .cases h
   .cases h
  .rw[if_neg hn]at h;rw[if_neg hn];exact eqFields_ok d hc h1 hd h2 ih fs b h
theorem eq_ok[Adr]:∀(d:Nat)(t:TypeId)(x y:AV)(b:Bool)(vx vy:Value),aEq P d t x y=some b->VRel w F φ x vx->VRel w F φ y vy->(Op.equalIn d t vx vy).run P w=.ok b w
 |0,t,x,y,b,vx,vy,h,_,_=>by simp[aEq]at h
 |d+1,t,x,y,b,vx,vy,h,hx,hy=>by
  simp only[aEq]at h;split at h;.rename_i p q hu;cases h;simp only[VRel]at hx hy;subst hx;subst hy;exact run_equalIn_bool' w d t p q hu
  .rename_i k1 k p k' q hu;split at h;.rename_i e;subst e;cases h;simp only[VRel]at hx hy;subst hx;subst hy;exact run_equalIn_int w d t k k1 p q hu
   .cases h
  .rename_i p q hu;cases h;simp only[VRel]at hx hy;subst hx;subst hy;rw[run_equalIn_string w d t _ _ hu,toList_mk,toList_mk]
  .rename_i fs cs ds hu;split at h;.cases h
   .rename_i hst;simp only[VRel]at hx hy;obtain⟨vs,rfl,c1,c2⟩:=hx;obtain⟨us,rfl,d1,d2⟩:=hy;have hf:P.fieldsOf t=fs:=by simp[Program.fieldsOf,hu]
    rw[run_equalIn_struct w d t _ _ (by rw[hf];exact hu) (by simpa using hst),hf];exact eqFields_ok d c1 c2 d1 d2 (eq_ok d) fs.toList b h
  .cases h
theorem run_equalIn_nil(d:Nat)(t e:TypeId)(a:Option Addr)(n c:Nat)(h:P.underlying t=some (.slice e)):(Op.equalIn (d+1) t (.slice a n c) (.slice none 0 0)).run P w=.ok a.isNone w:=by cases a<;>simp[Op.equalIn,run_underlying h]
theorem nilcmp_ok[Adr]{op:BinOp}{t:TypeId}{b:Option Bool}{v:AV}{a:Option Addr}{n c:Nat}{ox oy:Operand}(h:aNilCmp P op t b=some v)(hb:∀q,b=some q->a.isNone=q):∃z,(do
 eqGuard op t ox oy (.slice a n c) (.slice none 0 0)
 binOp op t (.slice a n c) (.slice none 0 0):Sem Value).run P w=.ok z w/\VRel w F φ v z:=by
 have hg:(eqGuard op t ox oy (.slice a n c) (.slice none 0 0)).run P w=.ok () w:=by cases op<;>simp[eqGuard]
 simp only[Sem.run_bind,hg,Result.andThen_ok];unfold aNilCmp at h;split at h
 .rename_i e hu;cases h;refine⟨.bool a.isNone,?_,?_⟩;.simp only[binOp,Sem.run_bind,Op.equal,Op.maxDepth];rw[run_equalIn_nil 9999 t e a n c hu];rfl
  .cases b with|none=>simp only[ubool,VRel];exact⟨_,rfl⟩|some q=>simp only[ubool,VRel];rw[hb q rfl]
 .rename_i e hu;cases h;refine⟨.bool !a.isNone,?_,?_⟩;.simp only[binOp,Sem.run_bind,Op.equal,Op.maxDepth];rw[run_equalIn_nil 9999 t e a n c hu];rfl
  .cases b with|none=>simp only[ubool,Option.map,VRel];exact⟨_,rfl⟩|some q=>simp only[ubool,Option.map,VRel];rw[hb q rfl]
 .cases h
theorem strAdd_ok[Adr]{t:TypeId}{n m:Nat}{a b:List UInt8}{ox oy:Operand}(h1:a.length<=n)(h2:b.length<=m)(hb:((n+m:Nat):Int)<=IntKind.i64.max):∃z,(do
 eqGuard .add t ox oy (.string ⟨a.toArray⟩) (.string ⟨b.toArray⟩)
 binOp .add t (.string ⟨a.toArray⟩) (.string ⟨b.toArray⟩):Sem Value).run P w=.ok z w/\VRel w F φ (.strb (n+m) (a++b)) z:=by
 have hg:(eqGuard .add t ox oy (.string ⟨a.toArray⟩) (.string ⟨b.toArray⟩)).run P w=.ok () w:=by simp[eqGuard]
 simp only[Sem.run_bind,hg,Result.andThen_ok];refine⟨.string (⟨a.toArray⟩++⟨b.toArray⟩),?_,?_⟩;.simp only[binOp,Op.stringOp];rw[if_neg (by rw[size_mk,size_mk];omega)];rfl
 .simp only[VRel];refine⟨?_,by simp;omega⟩;rw[Value.string.injEq];apply ByteArray.ext;simp
theorem bin_ok[Adr]{op:BinOp}{t:TypeId}{x y v:AV}{vx vy:Value}{ox oy:Operand}(h:aBin P op t x y=some v)(hx:VRel w F φ x vx)(hy:VRel w F φ y vy):∃z,(do
 eqGuard op t ox oy vx vy
 binOp op t vx vy:Sem Value).run P w=.ok z w/\VRel w F φ v z:=by
 unfold aBin at h;split at h
 .rename_i k a k' b;split at h
  .rename_i e;subst e;simp only[VRel]at hx hy;subst hx;subst hy;have hg:(eqGuard op t ox oy (.int k a) (.int k b)).run P w=.ok () w:=by cases op<;>simp[eqGuard]
   simp only[Sem.run_bind,hg,Result.andThen_ok];cases op<;>simp only[Option.some.injEq,reduceCtorEq]at h
   all_goals
    first|(subst h;exact⟨_,by simp[binOp,Op.intArith,Op.intCmp];rfl,by simp[VRel]⟩)|
     (
      split at h;.cases h
      .rename_i hb;cases h;exact⟨_,by simp[binOp,Op.intDiv,hb];rfl,by simp[VRel]⟩)|
     (
      split at h;.cases h
      .rename_i hb;cases h;exact⟨_,by simp only[binOp,Op.shift];rw[if_neg hb];rfl,by simp[VRel]⟩)
  .cases h
 .rename_i a b;simp only[VRel]at hx hy;subst hx;subst hy;have hg:(eqGuard op t ox oy (.string ⟨a.toArray⟩) (.string ⟨b.toArray⟩)).run P w=.ok () w:=by cases op<;>simp[eqGuard]
  simp only[Sem.run_bind,hg,Result.andThen_ok];cases op<;>simp only[Option.some.injEq,reduceCtorEq]at h
  case add=>
   split at h
   .rename_i hb;cases h;refine⟨.string (⟨a.toArray⟩++⟨b.toArray⟩),?_,?_⟩;.simp only[binOp,Op.stringOp];rw[if_neg (by rw[size_mk,size_mk];omega)];rfl
    .simp only[VRel,Value.string.injEq];apply ByteArray.ext;simp
   .cases h
  all_goals(subst h;exact⟨_,by simp only[binOp,Op.stringOp,toList_mk,Sem.run_pure];rfl,by simp only[VRel]⟩)
 .rename_i k k' b;split at h;rotate_left;.cases h
  rename_i e;subst e;simp only[VRel]at hx hy;obtain⟨a,rfl⟩:=hx;subst hy;have hg:(eqGuard op t ox oy (.int k a) (.int k b)).run P w=.ok () w:=by cases op<;>simp[eqGuard]
  simp only[Sem.run_bind,hg,Result.andThen_ok];cases op<;>simp only[Option.some.injEq,reduceCtorEq]at h;all_goals(subst h;exact⟨_,by simp[binOp,Op.intArith,Op.intCmp];rfl,by simp[VRel]⟩)
 .rename_i n a m b;simp only[VRel]at hx hy;obtain⟨rfl,h1⟩:=hx;obtain⟨rfl,h2⟩:=hy;cases op<;>simp only[reduceCtorEq]at h;split at h;.rename_i hb;cases h;exact strAdd_ok h1 h2 hb
  .cases h
 .rename_i a m b;simp only[VRel]at hx hy;obtain rfl:=hx;obtain⟨rfl,h2⟩:=hy;cases op<;>simp only[reduceCtorEq]at h;split at h;.rename_i hb;cases h;exact strAdd_ok (Nat.le_refl _) h2 hb
  .cases h
 .rename_i n a b;simp only[VRel]at hx hy;obtain⟨rfl,h1⟩:=hx;obtain rfl:=hy;have hg:(eqGuard op t ox oy (.string ⟨a.toArray⟩) (.string ⟨b.toArray⟩)).run P w=.ok () w:=by cases op<;>simp[eqGuard]
  cases op<;>simp only[Option.some.injEq,reduceCtorEq]at h
  case add=>
   split at h;.rename_i hb;cases h;exact strAdd_ok h1 (Nat.le_refl _) hb
   .cases h
  all_goals(simp only[Sem.run_bind,hg,Result.andThen_ok];subst h;exact⟨_,by simp only[binOp,Op.stringOp,toList_mk,Sem.run_pure];rfl,by simp only[VRel]⟩)
 .rename_i a b;simp only[VRel]at hx hy;subst hx;subst hy;have hg:(eqGuard op t ox oy (.bool a) (.bool b)).run P w=.ok () w:=by cases op<;>simp[eqGuard]
  simp only[Sem.run_bind,hg,Result.andThen_ok];split at h;.rename_i hu;cases h;exact⟨.bool (a==b),by simp[binOp,Op.equal,Op.maxDepth,run_equalIn_bool' w 9999 t a b hu],by simp[VRel]⟩
  .rename_i hu;cases h;exact⟨.bool !(a==b),by simp[binOp,Op.equal,Op.maxDepth,run_equalIn_bool' w 9999 t a b hu],by simp[VRel]⟩
  .cases h
 .rename_i cs ds;split at h;.cases h
  .rename_i hgu;obtain⟨vs,rfl,c1,c2⟩:=(by simpa only[VRel]using hx:∃vs,vx=.agg ⟨vs⟩/\VRels w F φ cs vs/\ ∀c∈vs,c.oneCell'=true);obtain⟨us,rfl,d1,d2⟩:=(by simpa only[VRel]using hy:∃vs,vy=.agg ⟨vs⟩/\VRels w F φ ds vs/\ ∀c∈vs,c.oneCell'=true);simp only[Sem.run_bind,run_eqGuard_agg w op t ox oy _ _ (by simpa using hgu),Result.andThen_ok];cases op<;>simp only[Option.map_eq_some_iff,reduceCtorEq]at h;.obtain⟨b,hb,rfl⟩:=h;exact⟨.bool b,by rw[run_eql_struct,eq_ok 10000 t _ _ b _ _ hb hx hy];rfl,by simp[VRel]⟩
   .obtain⟨b,hb,rfl⟩:=h;exact⟨.bool !b,by rw[run_neq_struct,eq_ok 10000 t _ _ b _ _ hb hx hy];rfl,by simp[VRel]⟩
 .simp only[VRel]at hx hy;subst hx;subst hy;exact nilcmp_ok (a:=none) h (by simp)
 .simp only[VRel]at hx hy;subst hy;obtain⟨a,cap,rfl,-,-,h4⟩:=hx;refine nilcmp_ok h λq hq=>?_;split at hq;.cases hq
  .rename_i he;cases hq;obtain⟨b,o,rfl,-⟩:=h4 (by intro e;rw[e]at he;simp at he);rfl
 .simp only[VRel]at hx hy;subst hy;obtain⟨a,rfl⟩:=hx;exact nilcmp_ok (a:=a) h (by simp)
 .simp only[VRel]at hx hy;subst hy;rcases hx with⟨-,-,rfl,a,rfl⟩|⟨cb,cap,-,rfl,-⟩;.exact nilcmp_ok (a:=a) h (by simp)
  .refine nilcmp_ok h λq hq=>?_;split at hq;.cases hq
   .cases hq;rfl
 .cases h
theorem conv_ok[Adr]{s d:TypeId}{x v:AV}{y:Value}(h:aConv P s d x=some v)(hx:VRel w F φ x y):∃z,(Go.convert s d y).run P w=.ok z w/\VRel w F φ v z:=by
 unfold aConv at h;split at h;.rename_i u k k' n hs hd;cases h;simp only[VRel]at hx;subst hx;exact⟨.int k (k.wrap n),by simp[Go.convert,run_underlying hs,run_underlying hd,Conv.intToInt],by simp[VRel]⟩
 .rename_i b hs hd;cases h;simp only[VRel]at hx;subst hx;exact⟨_,by simp[Go.convert,run_underlying hs,run_underlying hd];rfl,by simp[VRel]⟩
 .cases h
theorem un_ok[Adr]{op:UnOp}{x v:AV}{y:Value}(h:aUn op x=some v)(hx:VRel w F φ x y):∃z,(Op.unary op y).run P w=.ok z w/\VRel w F φ v z:=by
 unfold aUn at h;split at h;.cases h;simp only[VRel]at hx;subst hx;exact⟨_,by simp[Op.unary,Op.intArith];rfl,by simp[VRel]⟩
 .cases h;simp only[VRel]at hx;subst hx;exact⟨_,by simp[Op.unary];rfl,by simp[VRel]⟩
 .cases h
end
end Go.AM
