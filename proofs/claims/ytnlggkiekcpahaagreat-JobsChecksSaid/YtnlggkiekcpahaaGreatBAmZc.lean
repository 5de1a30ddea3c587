/- A text of the proof. -/
import Derived.Test.YtnlggkiekcpahaaGreatBAmZb
set_option linter.unusedSimpArgs false
set_option linter.unusedVariables false
namespace Go.AM
open Go
theorem zhA {α : Type} {k n : Nat} {v : α} {l : List (Nat × α)} : vA ((k, v) :: l) n = if n = k then some v else vA l n := rfl
theorem ziN {α : Type} {n : Nat} : vA ([] : List (Nat × α)) n = none := rfl
attribute [push_cast] zhA ziN dQ eW
attribute [push_cast] B_max I_shl Sl_str
attribute [push_cast] Sl_hi takeM S_mkif zj1 ziW znd zoQ zo5 zo1 H_mkif zmf
attribute [push_cast] zgb WL_nil zkS zoP ziG zgf WB_tf WB_ft WB_tup zma zb3 zjT
attribute [push_cast] zm8 zmq zng Bd_IfO zhn zna zgS H_call zjS S_move ziP S_pick
attribute [push_cast] zns S_box zgR zi2 zl4 zjU zf6 zg3 S_load zgH zfB zjC
attribute [push_cast] zij zhE zmp zj3 zhc S_bin S_un zi9 zln zhg zja zhm
attribute [push_cast] ziM zkK zhv zjt zi7 zjE znD zmh zgc zf3 zkU S_bi B_len zoV
attribute [push_cast] B_min zgg zhF zf5 zkD zoK H_move zgF H_pick zmC H_box zhs
attribute [push_cast] zgo H_load zj0 zov zkI H_unOp zlJ zl6 zlG zi8 zmM zoO
attribute [push_cast] zmV zh4 H_bi eval_t eval_c eval_f zle zli zjG zjv zjx zia
attribute [push_cast] ziy zhZ zfo znV zlc zj9 zix zgX zmg zmP ziY zjD
attribute [push_cast] zn1 zkj zm0 znt zjq zkm I_add I_sub I_mul I_quo I_rem I_eql
attribute [push_cast] I_neq I_lss I_leq I_gtr I_geq C_eql C_neq C_lss C_leq C_gtr C_geq zgv
attribute [push_cast] zkX zne pur_pp zn3 zk6 zjh zfj zh8 pur_fn pur_sl zkk zka
attribute [push_cast] jP tE lJ fH pQ eG AV.isP AV.isP.isPs AV.flatR AV.flatR.flatRs
attribute [push_cast] pA.flat pA.shift AV.shift AV.shift.shifts iP pG yO List.map List.map_nil List.map_cons List.length_map List.length_cons
attribute [push_cast] List.length_nil List.all_nil List.all_cons List.take_succ_cons List.take_zero List.take_nil List.drop_succ_cons List.drop_zero List.drop_nil List.getElem?_cons_zero List.getElem?_cons_succ List.getElem?_nil
attribute [push_cast] List.getElem?_toArray List.toList_toArray Option.bind_some Option.bind_none List.set_cons_zero List.set_cons_succ List.append_nil List.cons_append List.nil_append List.replicate_succ List.replicate_zero List.isEmpty_nil
attribute [push_cast] List.isEmpty_cons decide_true decide_false if_true if_false true_and and_true false_and and_false Bool.and_true Bool.true_and Bool.and_false
attribute [push_cast] Bool.false_and Bool.or_true Bool.true_or Bool.or_false Bool.false_or Bool.not_true Bool.not_false Nat.le_refl Nat.zero_le Nat.add_zero Nat.zero_add Int.toNat_natCast
attribute [push_cast] Int.toNat_zero Int.natCast_nonneg forall_const forall_eq imp_false not_true_eq_false not_false_eq_true Bool.true_eq_false Bool.false_eq_true Bool.not_eq_true false_implies true_implies
attribute [push_cast] AV.regen AV.regen.regens pA.regen znJ zha zm3 resV_0 resV_1 resV_2 zhW zko zgK
attribute [push_cast] exp_pp zhd zg5 zlB zk7 zoL zoJ exp_fn exp_sl znm zfM zmo
attribute [push_cast] zmI zgh zgV zky zoo nO fA jO zL sA zdy List.take_length
attribute [push_cast] List.nodup_nil List.filter_nil gE List.not_mem_nil List.nodup_cons List.mem_cons forall_eq_or_imp
attribute [push_cast] S_conv H_conv
attribute [push_cast] N_eql N_neq N_eqlN Sl_emp ziC zh5 zoT zlx zjZ AV.frz AV.frz.frzs pA.frz gU zO St.frz List.contains_cons List.contains_nil List.isEmpty_map Option.map_none List.map_nil beq_iff_eq
attribute [push_cast] true_or or_true or_self Option.bind_some ze6 Xa_eq
end Go.AM
