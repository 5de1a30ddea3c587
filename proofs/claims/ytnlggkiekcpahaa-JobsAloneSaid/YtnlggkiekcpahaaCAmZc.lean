/- A text of the proof. -/
import Derived.Test.YtnlggkiekcpahaaCAmZb
set_option linter.unusedSimpArgs false
set_option linter.unusedVariables false
namespace Go.AM
open Go
theorem zor {α : Type} {k n : Nat} {v : α} {l : List (Nat × α)} : uA ((k, v) :: l) n = if n = k then some v else uA l n := rfl
theorem zfG {α : Type} {n : Nat} : uA ([] : List (Nat × α)) n = none := rfl
attribute [push_cast] zor zfG sP aW
attribute [push_cast] B_max I_shl Sl_str
attribute [push_cast] Sl_hi takeM S_mkif zoe zl6 zir zgc zku zmV H_mkif zof
attribute [push_cast] zi1 WL_nil zng zjl zjn zoK WB_tf WB_ft WB_tup znB wZ znn
attribute [push_cast] zgB zjE zlG Bd_IfO zi9 zkk zhz H_call zn6 S_move ziA S_pick
attribute [push_cast] zi0 S_box zm3 znu zfT zj5 zgJ zjj S_load zhM zfW zma
attribute [push_cast] zfb zjw zmE ziw zhv S_bin S_un zkl zkq zjd zf5 zm9
attribute [push_cast] zjL zjM zhm zmY zfp zlx ziX zni zgD zjW zk3 S_bi B_len zkH
attribute [push_cast] B_min zit zmx zhV zld zlO H_move zgl H_pick zmL H_box zkP
attribute [push_cast] zfh H_load znO zn9 zn3 H_unOp znq zg4 zk6 zig zfY znE
attribute [push_cast] zjh znd H_bi eval_t eval_c eval_f zky zon zgh zln zkI zjI
attribute [push_cast] zkX ziS ziT zlD zlW zg9 zl1 zkT znM zjR zji zgg
attribute [push_cast] zh9 zfu zhJ znk zli zlq I_add I_sub I_mul I_quo I_rem I_eql
attribute [push_cast] I_neq I_lss I_leq I_gtr I_geq C_eql C_neq C_lss C_leq C_gtr C_geq zks
attribute [push_cast] zmC zl9 pur_pp znr zns zfM zla zoC pur_fn pur_sl zfO zic
attribute [push_cast] vN sE kB gH fQ zF AV.isP AV.isP.isPs AV.flatR AV.flatR.flatRs
attribute [push_cast] lA.flat lA.shift AV.shift AV.shift.shifts hO oG xO List.map List.map_nil List.map_cons List.length_map List.length_cons
attribute [push_cast] List.length_nil List.all_nil List.all_cons List.take_succ_cons List.take_zero List.take_nil List.drop_succ_cons List.drop_zero List.drop_nil List.getElem?_cons_zero List.getElem?_cons_succ List.getElem?_nil
attribute [push_cast] List.getElem?_toArray List.toList_toArray Option.bind_some Option.bind_none List.set_cons_zero List.set_cons_succ List.append_nil List.cons_append List.nil_append List.replicate_succ List.replicate_zero List.isEmpty_nil
attribute [push_cast] List.isEmpty_cons decide_true decide_false if_true if_false true_and and_true false_and and_false Bool.and_true Bool.true_and Bool.and_false
attribute [push_cast] Bool.false_and Bool.or_true Bool.true_or Bool.or_false Bool.false_or Bool.not_true Bool.not_false Nat.le_refl Nat.zero_le Nat.add_zero Nat.zero_add Int.toNat_natCast
attribute [push_cast] Int.toNat_zero Int.natCast_nonneg forall_const forall_eq imp_false not_true_eq_false not_false_eq_true Bool.true_eq_false Bool.false_eq_true Bool.not_eq_true false_implies true_implies
attribute [push_cast] AV.regen AV.regen.regens lA.regen zf4 zlF zoW resV_0 resV_1 resV_2 zgo zmf zfr
attribute [push_cast] exp_pp zm0 zkC zna znz znR zgp exp_fn exp_sl zn0 zgU zhc
attribute [push_cast] zho zkt zfL zkK zkp pO iA jM qK wA zcJ List.take_length
attribute [push_cast] List.nodup_nil List.filter_nil kE List.not_mem_nil List.nodup_cons List.mem_cons forall_eq_or_imp
attribute [push_cast] S_conv H_conv
attribute [push_cast] N_eql N_neq N_eqlN Sl_emp zoj zm7 zhB zfQ zjm AV.frz AV.frz.frzs lA.frz qT bP St.frz List.contains_cons List.contains_nil List.isEmpty_map Option.map_none List.map_nil beq_iff_eq
attribute [push_cast] true_or or_true or_self Option.bind_some zdW Xa_eq
end Go.AM
