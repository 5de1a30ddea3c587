/- Texts of the proof, joined by program. -/
import Derived.Test.YtaeifdlkolfdjaaGreatDoorProg
import Derived.Test.YtaeifdlkolfdjaaGreatDoorKBx
import Derived.WalkKit
import Derived.LaidEql
import Derived.Stop.Asserts
import Derived.RowKitTokens
set_option linter.unusedSimpArgs false
set_option linter.unusedVariables false
namespace Go.AM
open Go Go.Proofs Go.RowKit Go.Extern.Stop Go.Stop Go.Extern
theorem rl_valueOfT(t:Addr)(w:World):(ReflectliteValue.unpack (.iface 146 (.pointer (some t)))).run Tryz.prog w=.ok (.agg #[.pointer (some ⟨5,146,none⟩),.pointer (some ⟨w.heap.size,0,none⟩),.int .u64 150]) (w.alloc (.cells #[.pointer (some t)] 146)):=by kernel_rfl
theorem rl_typeT (a : Addr) (w : World) : (ReflectliteValue.methodAny (ReflectliteValue.valueError "reflectlite.Value.Type" 0) (fun t _ _ _ => ReflectliteType.toType t) #[.agg #[.pointer (some ⟨5, 146, none⟩), .pointer (some a), .int .u64 150]]).run Tryz.prog w
    = .ok (.iface 269 (.agg #[.pointer (some ⟨5, 146, none⟩)])) w := by kernel_rfl
theorem rl_mKind(h:Value)(w:World):(Go.method 718 269 (.agg #[h]) "Kind").run Tryz.prog w=.ok (380,h) w:=by kernel_rfl
theorem rl_kindT(w:World):((ReflectliteType.abiMethod λt=>(λa:Nat=>Value.int IntKind.u8 (a:Int))<$>Rtype.kind t) #[.pointer (some ⟨5,146,none⟩)]).run Tryz.prog w=.ok (.int .u8 22) w:=by kernel_rfl
theorem rl_kindW(w:World):((ReflectliteType.abiMethod λt=>(λa:Nat=>Value.int IntKind.u8 (a:Int))<$>Rtype.kind t) #[.pointer (some ⟨5,144,none⟩)]).run Tryz.prog w=.ok (.int .u8 25) w:=by kernel_rfl
theorem rlm(z:Sem Value)(f:TypeId->Addr->Nat->Nat->Sem Value)(v:Value):ReflectliteValue.method z f #[v]=(do
 match<-ReflectliteValue.parts v with
  |none=>
   z
  |some (t,a,fl)=>
   f t a fl (fl%32)):=rfl
theorem rl_partsT(a:Addr)(w:World):(ReflectliteValue.parts (.agg #[.pointer (some ⟨5,146,none⟩),.pointer (some a),.int .u64 150])).run Tryz.prog w=.ok (some (146,a,150)) w:=by kernel_rfl
theorem rl_isNilT (a p : Addr) (W : World) (ha : W.cell? a = some (.pointer (some p))) :
    (ReflectliteValue.method (ReflectliteValue.valueError "reflectlite.Value.IsNil" 0) ReflectliteValue.isNil #[.agg #[.pointer (some ⟨5, 146, none⟩), .pointer (some a), .int .u64 150]]).run Tryz.prog W = .ok (.bool false) W := by
  rw [rlm]
  simp only [Sem.run_bind, rl_partsT, Result.andThen]
  simp [ReflectliteValue.isNil, loadVar, isAgg, underlying, Tryz.underlying146, ha, Result.andThen]
theorem rl_mElem(h:Value)(w:World):(Go.method 718 269 (.agg #[h]) "Elem").run Tryz.prog w=.ok (390,.agg #[h]) w:=by kernel_rfl
theorem rl_mImplements(h:Value)(w:World):(Go.method 718 269 (.agg #[h]) "Implements").run Tryz.prog w=.ok (391,.agg #[h]) w:=by kernel_rfl
theorem rl_mAssignableTo(h:Value)(w:World):(Go.method 718 269 (.agg #[h]) "AssignableTo").run Tryz.prog w=.ok (388,.agg #[h]) w:=by kernel_rfl
theorem rl_elemT(w:World):(ReflectliteType.method ReflectliteType.elem #[.agg #[.pointer (some ⟨5,146,none⟩)]]).run Tryz.prog w=.ok (.iface 269 (.agg #[.pointer (some ⟨5,144,none⟩)])) w:=by kernel_rfl
theorem rl_implementsW (w : World) : (ReflectliteType.relation "Implements" ReflectliteType.implements_ #[.agg #[.pointer (some ⟨5, 144, none⟩)], .iface 269 (.agg #[.pointer (some ⟨5, 137, none⟩)])]).run Tryz.prog w = .ok (.bool true) w := by kernel_rfl
theorem rl_typeOfW(v:Value)(w:World):(ReflectliteType.typeOf #[.iface 144 v]).run Tryz.prog w=.ok (.iface 269 (.agg #[.pointer (some ⟨5,144,none⟩)])) w:=by kernel_rfl
theorem rl_assignableW (w : World) : (ReflectliteType.relation "AssignableTo" ReflectliteType.assignableTo #[.agg #[.pointer (some ⟨5, 144, none⟩)], .iface 269 (.agg #[.pointer (some ⟨5, 144, none⟩)])]).run Tryz.prog w = .ok (.bool true) w := by kernel_rfl
theorem rl_valueOfW(c:Value)(w:World):(ReflectliteValue.unpack (.iface 144 (.agg #[c]))).run Tryz.prog w=.ok (.agg #[.pointer (some ⟨5,144,none⟩),.pointer (some ⟨w.heap.size,0,none⟩),.int .u64 153]) (w.alloc (.cells #[c] 144)):=by kernel_rfl
theorem rl_elemOfT(w:World):(Rtype.elem? 146).run Tryz.prog w=.ok (some 144) w:=by kernel_rfl
theorem rl_mkW(p:Addr)(w:World):(ReflectliteValue.mk 144 p ReflectliteValue.flagAddr).run Tryz.prog w=.ok (.agg #[.pointer (some ⟨5,144,none⟩),.pointer (some p),.int .u64 409]) w:=by kernel_rfl
theorem rl_elemVT (a p : Addr) (W : World) (ha : W.cell? a = some (.pointer (some p))) :
    (ReflectliteValue.method (ReflectliteValue.valueError "reflectlite.Value.Elem" 0) ReflectliteValue.elem #[.agg #[.pointer (some ⟨5, 146, none⟩), .pointer (some a), .int .u64 150]]).run Tryz.prog W
      = .ok (.agg #[.pointer (some ⟨5, 144, none⟩), .pointer (some p), .int .u64 409]) W := by
  rw [rlm]
  simp only [Sem.run_bind, rl_partsT, Result.andThen]
  simp [ReflectliteValue.elem, loadVar, isAgg, underlying, Tryz.underlying146, ha, Result.andThen, rl_elemOfT, rl_mkW]
theorem rls (v x : Value) : ReflectliteValue.set #[v, x] = (do
    let (some (dst, a, fl), some (src, b, _)) := (← ReflectliteValue.parts v, ← ReflectliteValue.parts x)
      | unsupported (.noEntry "extern/(internal/reflectlite.Value).Set.zeroValue")
    if fl / ReflectliteValue.flagAddr % 2 == 0 then unsupported (.noEntry "extern/(internal/reflectlite.Value).Set.unaddressable")
    let val ← loadVar src b
    if ← Rtype.directlyAssignable dst src then storeVar dst a val
    else if ← Rtype.implements dst src then
      if (← Rtype.kind src) == 20 then
        match val with
        | .nilIface => unsupported (.noEntry "extern/reflectlite: a nil value of one interface type handed on as a value of another")
        | _ => storeVar dst a val
      else storeVar dst a (.iface src val)
    else panicString ("reflectlite.Set: value of type " ++ (← Rtype.spelt src) ++ " is not assignable to type " ++ (← Rtype.spelt dst))
    pure (.tuple #[])) := rfl
theorem rl_partsWa(a:Addr)(w:World):(ReflectliteValue.parts (.agg #[.pointer (some ⟨5,144,none⟩),.pointer (some a),.int .u64 409])).run Tryz.prog w=.ok (some (144,a,409)) w:=by kernel_rfl
theorem rl_partsW(a:Addr)(w:World):(ReflectliteValue.parts (.agg #[.pointer (some ⟨5,144,none⟩),.pointer (some a),.int .u64 153])).run Tryz.prog w=.ok (some (144,a,153)) w:=by kernel_rfl
theorem rl_directW(w:World):(Rtype.directlyAssignable 144 144).run Tryz.prog w=.ok true w:=by kernel_rfl
theorem rl_aggW(w:World):(isAgg 144).run Tryz.prog w=.ok true w:=by kernel_rfl
theorem rl_sizeW(w:World):(sizeOf 144).run Tryz.prog w=.ok 1 w:=by kernel_rfl
theorem rl_loadW(b:Addr)(c:Value)(W:World)(hb:W.cell? b=some c):(loadVar 144 b).run Tryz.prog W=.ok (.agg #[c]) W:=by unfold loadVar;simp[rl_aggW,rl_sizeW,Result.andThen,loadCells,loadCellsFrom,Addr.add,hb]
theorem rl_setW(ta b:Addr)(c:Value)(W W':World)(hb:W.cell? b=some c)(hs:(storeVar 144 ta (.agg #[c])).run Tryz.prog W=.ok () W'):(ReflectliteValue.set #[.agg #[.pointer (some ⟨5,144,none⟩),.pointer (some ta),.int .u64 409],.agg #[.pointer (some ⟨5,144,none⟩),.pointer (some b),.int .u64 153]]).run Tryz.prog W=.ok (.tuple #[]) W':=by rw[rls];simp only[Sem.run_bind,rl_partsWa,rl_partsW,Result.andThen];simp[ReflectliteValue.flagAddr,rl_loadW _ _ _ hb,Result.andThen,rl_directW,hs]
set_option maxRecDepth 100000 in
set_option maxHeartbeats 4000000 in
theorem as_hit (c : Value) (t : Addr) (w w' : World) (hg : w.cell? ⟨1, 0, none⟩ = some (.iface 269 (.agg #[.pointer (some ⟨5, 137, none⟩)])))
    (hs : (storeVar 144 t (.agg #[c])).run Tryz.prog ((((w.alloc (.cells #[.pointer (some t)] 146)).alloc (.cells #[.pointer (some ⟨5, 146, none⟩), .pointer (some ⟨w.heap.size, 0, none⟩), .int .u64 150] 212)).alloc (.cells #[.pointer (some ⟨5, 146, none⟩), .pointer (some ⟨w.heap.size, 0, none⟩), .int .u64 150] 212)).alloc (.cells #[c] 144)) = .ok () w') :
    Calls Tryz.prog 40 #[.iface 144 (.agg #[c]), .iface 146 (.pointer (some t))] w fun ev w2 => ev = .returned (.bool true) ∧ w2 = w' := by
  have h6 := @run_callFunc_extern Tryz.prog 73 _ (fun args => ReflectliteValue.unpack (args.getD 0 (.tuple #[]))) Tryz.func73 (by kernel_rfl) (by kernel_rfl) (by kernel_rfl) (by kernel_rfl)
  have h7 := @run_callFunc_extern Tryz.prog 74 _ (ReflectliteValue.methodAny (ReflectliteValue.valueError "reflectlite.Value.Type" 0) (fun t _ _ _ => ReflectliteType.toType t)) Tryz.func74 (by kernel_rfl) (by kernel_rfl) (by kernel_rfl) (by kernel_rfl)
  have h8 := @run_callFunc_extern Tryz.prog 75 _ (ReflectliteValue.method (ReflectliteValue.valueError "reflectlite.Value.IsNil" 0) ReflectliteValue.isNil) Tryz.func75 (by kernel_rfl) (by kernel_rfl) (by kernel_rfl) (by kernel_rfl)
  have h27 := @run_callFunc_extern Tryz.prog 380 _ (ReflectliteType.abiMethod fun t => do pure (.int .u8 (← Rtype.kind t))) Tryz.func380 (by kernel_rfl) (by kernel_rfl) (by kernel_rfl) (by kernel_rfl)
  have h37 := @run_callFunc_extern Tryz.prog 390 _ (ReflectliteType.method ReflectliteType.elem) Tryz.func390 (by kernel_rfl) (by kernel_rfl) (by kernel_rfl) (by kernel_rfl)
  have h38 := @run_callFunc_extern Tryz.prog 391 _ (ReflectliteType.relation "Implements" ReflectliteType.implements_) Tryz.func391 (by kernel_rfl) (by kernel_rfl) (by kernel_rfl) (by kernel_rfl)
  have h10 := @run_callFunc_extern Tryz.prog 113 _ ReflectliteType.typeOf Tryz.func113 (by kernel_rfl) (by kernel_rfl) (by kernel_rfl) (by kernel_rfl)
  have h35 := @run_callFunc_extern Tryz.prog 388 _ (ReflectliteType.relation "AssignableTo" ReflectliteType.assignableTo) Tryz.func388 (by kernel_rfl) (by kernel_rfl) (by kernel_rfl) (by kernel_rfl)
  have h11 := @run_callFunc_extern Tryz.prog 124 _ (ReflectliteValue.method (ReflectliteValue.valueError "reflectlite.Value.Elem" 0) ReflectliteValue.elem) Tryz.func124 (by kernel_rfl) (by kernel_rfl) (by kernel_rfl) (by kernel_rfl)
  have h12 := @run_callFunc_extern Tryz.prog 125 _ ReflectliteValue.set Tryz.func125 (by kernel_rfl) (by kernel_rfl) (by kernel_rfl) (by kernel_rfl)
  have tO := rl_typeOfW
  have mA := rl_mAssignableTo
  have a25 := rl_assignableW
  have v25 := rl_valueOfW
  have f6 := rl_valueOfT
  have f7 := rl_typeT
  have mK := rl_mKind
  have mE := rl_mElem
  have mI := rl_mImplements
  have k27 := rl_kindT
  have k25 := rl_kindW
  have e27 := rl_elemT
  have i25 := rl_implementsW
  have n8 := rl_isNilT ⟨w.heap.size, 0, none⟩ t ((w.alloc (.cells #[.pointer (some t)] 146)).alloc (.cells #[.pointer (some ⟨5, 146, none⟩), .pointer (some ⟨w.heap.size, 0, none⟩), .int .u64 150] 212)) (by simp)
  have hlt : 1 < w.heap.size := by
    rcases Nat.lt_or_ge 1 w.heap.size with h | h
    · exact h
    · simp [World.cell?, Array.getElem?_eq_none h] at hg
  have hg2 : ((w.alloc (.cells #[.pointer (some t)] 146)).alloc (.cells #[.pointer (some ⟨5, 146, none⟩), .pointer (some ⟨w.heap.size, 0, none⟩), .int .u64 150] 212)).cell? ⟨1, 0, none⟩ = some (.iface 269 (.agg #[.pointer (some ⟨5, 137, none⟩)])) := by
    rw [World.cell?_alloc_lt _ _ ⟨1, 0, none⟩ (by simp; omega), World.cell?_alloc_lt _ _ ⟨1, 0, none⟩ hlt]; exact hg
  have el := rl_elemVT ⟨w.heap.size, 0, none⟩ t (((w.alloc (.cells #[.pointer (some t)] 146)).alloc (.cells #[.pointer (some ⟨5, 146, none⟩), .pointer (some ⟨w.heap.size, 0, none⟩), .int .u64 150] 212)).alloc (.cells #[.pointer (some ⟨5, 146, none⟩), .pointer (some ⟨w.heap.size, 0, none⟩), .int .u64 150] 212)) (by rw [World.cell?_alloc_lt _ _ ⟨w.heap.size, 0, none⟩ (by simp; omega)]; simp)
  have st := rl_setW t ⟨w.heap.size + 1 + 1 + 1, 0, none⟩ c ((((w.alloc (.cells #[.pointer (some t)] 146)).alloc (.cells #[.pointer (some ⟨5, 146, none⟩), .pointer (some ⟨w.heap.size, 0, none⟩), .int .u64 150] 212)).alloc (.cells #[.pointer (some ⟨5, 146, none⟩), .pointer (some ⟨w.heap.size, 0, none⟩), .int .u64 150] 212)).alloc (.cells #[c] 144)) w'
    (by rw [World.cell?_alloc_at _ _ _ _ (by simp)]; rfl) hs
  go_enter Tryz.func40, Tryz.ntmps40
  go_wp2
  refine wp_loop_rounds 1 ?_
  rw [rounds_succ]
  go_wp2
  go_ret
  exact ⟨rfl, rfl⟩
theorem rl_typeOfS(v:Value)(w:World):(ReflectliteType.typeOf #[.iface 586 v]).run Tryz.prog w=.ok (.iface 269 (.agg #[.pointer (some ⟨5,586,none⟩)])) w:=by kernel_rfl
theorem rl_comparableS (w : World) : ((ReflectliteType.method fun t => do Rtype.noPackHeld "Comparable" t; (fun a => Value.bool a.comparable) <$> typeInfo t) #[.agg #[.pointer (some ⟨5, 586, none⟩)]]).run Tryz.prog w = .ok (.bool true) w := by kernel_rfl
theorem rl_mComparable(v:Value)(w:World):(Go.method 718 269 v "Comparable").run Tryz.prog w=.ok (389,v) w:=by kernel_rfl
theorem rl_sizeS:(Tryz.prog.info? 606).map (·.size)=some 1:=by kernel_rfl
theorem rl_compS:(Tryz.prog.info? 586).map (·.comparable)=some true:=by kernel_rfl
set_option maxRecDepth 100000 in
set_option maxHeartbeats 4000000 in
theorem is_same (a : Addr) (w : World) :
    Calls Tryz.prog 56 #[.iface 586 (.pointer (some a)), .iface 586 (.pointer (some a))] w fun ev w2 => ev = .returned (.bool true) ∧ w2 = w := by
  have h10 := @run_callFunc_extern Tryz.prog 113 _ ReflectliteType.typeOf Tryz.func113 (by kernel_rfl) (by kernel_rfl) (by kernel_rfl) (by kernel_rfl)
  have h30 := @run_callFunc_extern Tryz.prog 389 _ (ReflectliteType.method fun t => do Rtype.noPackHeld "Comparable" t; pure (.bool (← typeInfo t).comparable)) Tryz.func389 (by kernel_rfl) (by kernel_rfl) (by kernel_rfl) (by kernel_rfl)
  have tO := rl_typeOfS
  have mC := rl_mComparable
  have cS := rl_comparableS
  obtain ⟨i, hi, hcmp⟩ := Option.map_eq_some_iff.1 rl_compS
  obtain ⟨j, hj, hjs⟩ := Option.map_eq_some_iff.1 rl_sizeS
  have heq := run_eql_iface_ptr_same (P := Tryz.prog) w a Tryz.underlying137 Tryz.underlying586 hi hcmp hj
  go_enter Tryz.func56, Tryz.ntmps56
  go_wp2
  refine wp_loop_rounds 1 ?_
  rw [rounds_succ]
  go_wp2
  go_ret
  exact ⟨rfl, rfl⟩
end Go.AM
