/- A text of the proof. -/
import Derived.Test.YtnlggkiekcpahaaGreatAAmZb
set_option linter.unusedSimpArgs false
set_option linter.unusedVariables false
namespace Go.AM
open Go
theorem zjt {α : Type} {k n : Nat} {v : α} {l : List (Nat × α)} : wA ((k,v)::l) n = if n = k then some v else wA l n:=rfl
theorem zfR {α : Type} {n : Nat} : wA ([] : List (Nat × α)) n = none:=rfl
attribute [push_cast] zjt zfR cR xV
attribute [push_cast] B_max I_shl Sl_str
attribute [push_cast] Sl_hi takeM S_mkif zpL zfZ ziZ znk zlx zgn H_mkif zgH
attribute [push_cast] zg4 WL_nil zkJ ziS ziC zmt WB_tf WB_ft WB_tup zh4 zba znd
attribute [push_cast] zgB zkv zlw Bd_IfO zjS znw zno H_call zfA S_move zoS S_pick
attribute [push_cast] zjA S_box zii zjY zhI zko zkL zjz S_load zjC zk5 zg1
attribute [push_cast] zlP zpy zlJ zg7 zn4 S_bin S_un zl7 zlr zlA zot zlt
attribute [push_cast] zim zpG zfD zkd zjr znQ zlR zjv zhl ziB zob S_bi B_len zky
attribute [push_cast] B_min zll zfK znq zix zf8 H_move zlS H_pick zjx H_box zkI
attribute [push_cast] zid H_load zkD zg9 zjn H_unOp zou zg8 znv ziw zmm zhX
attribute [push_cast] zgo zk0 H_bi eval_t eval_c eval_f zgL zjH zjF zmr znV ziX
attribute [push_cast] zni zi0 zpg zlh zgF zkw zgZ zgU zoz zkX zha zpa
attribute [push_cast] zlX zjk zke zmN znj ziF I_add I_sub I_mul I_quo I_rem I_eql
attribute [push_cast] I_neq I_lss I_leq I_gtr I_geq C_eql C_neq C_lss C_leq C_gtr C_geq zhs
attribute [push_cast] zfQ zn6 pur_pp zig zhZ zi4 zf2 zih pur_fn pur_sl zk4 zg2
attribute [push_cast] kP sE gK jH vR bG AV.isP AV.isP.isPs AV.flatR AV.flatR.flatRs
attribute [push_cast] pA.flat pA.shift AV.shift AV.shift.shifts pP bH zO List.map List.map_nil List.map_cons List.length_map List.length_cons
attribute [push_cast] List.length_nil List.all_nil List.all_cons List.take_succ_cons List.take_zero List.take_nil List.drop_succ_cons List.drop_zero List.drop_nil List.getElem?_cons_zero List.getElem?_cons_succ List.getElem?_nil
attribute [push_cast] List.getElem?_toArray List.toList_toArray Option.bind_some Option.bind_none List.set_cons_zero List.set_cons_succ List.append_nil List.cons_append List.nil_append List.replicate_succ List.replicate_zero List.isEmpty_nil
attribute [push_cast] List.isEmpty_cons decide_true decide_false if_true if_false true_and and_true false_and and_false Bool.and_true Bool.true_and Bool.and_false
attribute [push_cast] Bool.false_and Bool.or_true Bool.true_or Bool.or_false Bool.false_or Bool.not_true Bool.not_false Nat.le_refl Nat.zero_le Nat.add_zero Nat.zero_add Int.toNat_natCast
attribute [push_cast] Int.toNat_zero Int.natCast_nonneg forall_const forall_eq imp_false not_true_eq_false not_false_eq_true Bool.true_eq_false Bool.false_eq_true Bool.not_eq_true false_implies true_implies
attribute [push_cast] AV.regen AV.regen.regens pA.regen znK zoy zhR resV_0 resV_1 resV_2 zki zhj zlc
attribute [push_cast] exp_pp zhn ziU zkS zgC zi7 zpp exp_fn exp_sl zhO zkT zgI
attribute [push_cast] zik zkk zgb zho zk6 vP gA xM pL tA zdD List.take_length
attribute [push_cast] List.nodup_nil List.filter_nil fE List.not_mem_nil List.nodup_cons List.mem_cons forall_eq_or_imp
attribute [push_cast] S_conv H_conv
attribute [push_cast] N_eql N_neq N_eqlN Sl_emp zkM zpI zmf zlO zmw AV.frz AV.frz.frzs pA.frz vT sP St.frz List.contains_cons List.contains_nil List.isEmpty_map Option.map_none List.map_nil beq_iff_eq
attribute [push_cast] true_or or_true or_self Option.bind_some zdB Xa_eq
end Go.AM
