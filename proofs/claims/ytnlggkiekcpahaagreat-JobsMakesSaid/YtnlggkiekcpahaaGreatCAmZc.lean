/- A text of the proof. -/
import Derived.Test.YtnlggkiekcpahaaGreatCAmZb
set_option linter.unusedSimpArgs false
set_option linter.unusedVariables false
namespace Go.AM
open Go
theorem zeu {α : Type} {k n : Nat} {v : α} {l : List (Nat × α)} : xA ((k, v) :: l) n = if n = k then some v else xA l n := rfl
theorem ze2 {α : Type} {n : Nat} : xA ([] : List (Nat × α)) n = none := rfl
attribute [push_cast] zeu ze2 sO mT
attribute [push_cast] B_max I_shl Sl_str
attribute [push_cast] Sl_hi takeM S_mkif ziy zgn zik zjt zeq zd1 H_mkif zju
attribute [push_cast] zki WL_nil zjG zeE zeK zgh WB_tf WB_ft WB_tup zf2 zam zla
attribute [push_cast] zi3 zkB zfN Bd_IfO zih zkz zme H_call zmq S_move zhS S_pick
attribute [push_cast] zko S_box zkq zho zkZ zfD zjR zjk S_load zdJ zew zeZ
attribute [push_cast] zes zhc zel zhF zje S_bin S_un zmV zhi zdY zmc ze4
attribute [push_cast] zdC zl1 zkx zeW zlQ zjV zex ziX zhP zeS zjM S_bi B_len zfO
attribute [push_cast] B_min zmF zge zfS zj6 zjW H_move zgB H_pick zkD H_box zmk
attribute [push_cast] zfZ H_load zfT zmr zlg H_unOp zkn zfn zli zgj zfR zjr
attribute [push_cast] zd5 zjq H_bi eval_t eval_c eval_f zke ziT zgG zmt zk3 zfE
attribute [push_cast] zhI zhv zkO zmd zeo ze7 zgX zmB ze6 zgl zhq zf3
attribute [push_cast] zgy zgT zeN zjo zmM zkI I_add I_sub I_mul I_quo I_rem I_eql
attribute [push_cast] I_neq I_lss I_leq I_gtr I_geq C_eql C_neq C_lss C_leq C_gtr C_geq zd8
attribute [push_cast] zhm zj1 pur_pp zkW zhH zm5 zkQ zee pur_fn pur_sl zjB zmx
attribute [push_cast] mM iE aB pG rO nF AV.isP AV.isP.isPs AV.flatR AV.flatR.flatRs
attribute [push_cast] oA.flat oA.shift AV.shift AV.shift.shifts sM bG fN List.map List.map_nil List.map_cons List.length_map List.length_cons
attribute [push_cast] List.length_nil List.all_nil List.all_cons List.take_succ_cons List.take_zero List.take_nil List.drop_succ_cons List.drop_zero List.drop_nil List.getElem?_cons_zero List.getElem?_cons_succ List.getElem?_nil
attribute [push_cast] List.getElem?_toArray List.toList_toArray Option.bind_some Option.bind_none List.set_cons_zero List.set_cons_succ List.append_nil List.cons_append List.nil_append List.replicate_succ List.replicate_zero List.isEmpty_nil
attribute [push_cast] List.isEmpty_cons decide_true decide_false if_true if_false true_and and_true false_and and_false Bool.and_true Bool.true_and Bool.and_false
attribute [push_cast] Bool.false_and Bool.or_true Bool.true_or Bool.or_false Bool.false_or Bool.not_true Bool.not_false Nat.le_refl Nat.zero_le Nat.add_zero Nat.zero_add Int.toNat_natCast
attribute [push_cast] Int.toNat_zero Int.natCast_nonneg forall_const forall_eq imp_false not_true_eq_false not_false_eq_true Bool.true_eq_false Bool.false_eq_true Bool.not_eq_true false_implies true_implies
attribute [push_cast] AV.regen AV.regen.regens oA.regen zmf zmC zgH resV_0 resV_1 resV_2 zeQ zhg zjZ
attribute [push_cast] exp_pp zhM zdG zjl ziZ zij zkU exp_fn exp_sl zgM zhk zjH
attribute [push_cast] zkr zkP zl4 zl3 zfX oN gA cL zJ vA zdl List.take_length
attribute [push_cast] List.nodup_nil List.filter_nil tD List.not_mem_nil List.nodup_cons List.mem_cons forall_eq_or_imp
attribute [push_cast] S_conv H_conv
attribute [push_cast] N_eql N_neq N_eqlN Sl_emp zib zk9 zmy zhT zkc AV.frz AV.frz.frzs oA.frz lR bN St.frz List.contains_cons List.contains_nil List.isEmpty_map Option.map_none List.map_nil beq_iff_eq
attribute [push_cast] true_or or_true or_self Option.bind_some zck Xa_eq
end Go.AM
