/- A text of the proof. -/
import Derived.Test.YtnlggkiekcpahaaBAmZb
set_option linter.unusedSimpArgs false
set_option linter.unusedVariables false
namespace Go.AM
open Go
theorem ze6 {α : Type} {k n : Nat} {v : α} {l : List (Nat × α)} : wA ((k, v) :: l) n = if n = k then some v else wA l n := rfl
theorem ze3 {α : Type} {n : Nat} : wA ([] : List (Nat × α)) n = none := rfl
attribute [push_cast] ze6 ze3 qQ rV
attribute [push_cast] B_max I_shl Sl_str
attribute [push_cast] Sl_hi takeM S_mkif zgI zjI zn1 zm3 zmw zk1 H_mkif zh9
attribute [push_cast] zgE WL_nil zf5 zhM zkE zf4 WB_tf WB_ft WB_tup zjZ nZ zlh
attribute [push_cast] zls zhz zoe Bd_IfO zgC zlQ zjc H_call zlo S_move zgA S_pick
attribute [push_cast] znp S_box zlV zna zgD zkn zmm ziI S_load zjn zlR ziv
attribute [push_cast] zkC zov zma zjB zmA S_bin S_un znt zlN zft zja znX
attribute [push_cast] zmF znh zjk zlv zgW zhm zgU zgh zfa zjv zld S_bi B_len ziX
attribute [push_cast] B_min zh4 zfZ zlm znK zge H_move zlY H_pick znJ H_box ziE
attribute [push_cast] zm6 H_load zkH zg6 zhS H_unOp zkl zfP zmH zmf zgQ zjr
attribute [push_cast] zn5 ziB H_bi eval_t eval_c eval_f zgZ zh3 zkd zkk zhU zgG
attribute [push_cast] zh6 zmp znY zjg zfY zko zlW znE zfO zk6 zhR ziK
attribute [push_cast] zlL zmc zlB znj zoc zgo I_add I_sub I_mul I_quo I_rem I_eql
attribute [push_cast] I_neq I_lss I_leq I_gtr I_geq C_eql C_neq C_lss C_leq C_gtr C_geq zfE
attribute [push_cast] zob zgR pur_pp zhE zkW zg8 zkr zm8 pur_fn pur_sl zkO zod
attribute [push_cast] aP uE iB nH oP lG AV.isP AV.isP.isPs AV.flatR AV.flatR.flatRs
attribute [push_cast] lA.flat lA.shift AV.shift AV.shift.shifts jO yG oN List.map List.map_nil List.map_cons List.length_map List.length_cons
attribute [push_cast] List.length_nil List.all_nil List.all_cons List.take_succ_cons List.take_zero List.take_nil List.drop_succ_cons List.drop_zero List.drop_nil List.getElem?_cons_zero List.getElem?_cons_succ List.getElem?_nil
attribute [push_cast] List.getElem?_toArray List.toList_toArray Option.bind_some Option.bind_none List.set_cons_zero List.set_cons_succ List.append_nil List.cons_append List.nil_append List.replicate_succ List.replicate_zero List.isEmpty_nil
attribute [push_cast] List.isEmpty_cons decide_true decide_false if_true if_false true_and and_true false_and and_false Bool.and_true Bool.true_and Bool.and_false
attribute [push_cast] Bool.false_and Bool.or_true Bool.true_or Bool.or_false Bool.false_or Bool.not_true Bool.not_false Nat.le_refl Nat.zero_le Nat.add_zero Nat.zero_add Int.toNat_natCast
attribute [push_cast] Int.toNat_zero Int.natCast_nonneg forall_const forall_eq imp_false not_true_eq_false not_false_eq_true Bool.true_eq_false Bool.false_eq_true Bool.not_eq_true false_implies true_implies
attribute [push_cast] AV.regen AV.regen.regens lA.regen znv zla zhH resV_0 resV_1 resV_2 znk zmu znL
attribute [push_cast] exp_pp zjm zgP zlx zjH zgd znG exp_fn exp_sl zm2 zfp zhl
attribute [push_cast] zjQ zni zkt zop zke lO dA mM nL sA zb0 List.take_length
attribute [push_cast] List.nodup_nil List.filter_nil jE List.not_mem_nil List.nodup_cons List.mem_cons forall_eq_or_imp
attribute [push_cast] S_conv H_conv
attribute [push_cast] N_eql N_neq N_eqlN Sl_emp zmT zgz zjW zjl zjG AV.frz AV.frz.frzs lA.frz jT aO St.frz List.contains_cons List.contains_nil List.isEmpty_map Option.map_none List.map_nil beq_iff_eq
attribute [push_cast] true_or or_true or_self Option.bind_some zeA Xa_eq
end Go.AM
