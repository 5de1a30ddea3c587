/- A text of the proof. -/
import Derived.Test.YtdompcjalogoaaaGreatDoorKAmZb
section
set_option linter.unusedSimpArgs false
set_option linter.unusedVariables false
namespace Go.AM
open Go
theorem alg_cons' {α : Type} {k n : Nat} {v : α} {l : List (Nat × α)} : alg ((k, v) :: l) n = if n = k then some v else alg l n := rfl
theorem alg_nil' {α : Type} {n : Nat} : alg ([] : List (Nat × α)) n = none := rfl
attribute [push_cast] alg_cons' alg_nil' frGet_cons frGet_nil
attribute [push_cast] B_max I_shl Sl_str
attribute [push_cast] Sl_hi takeM S_mkif S_assert assertO_yes assertO_no assertO_nil recvO_iface H_invoke H_mkif H_assert
attribute [push_cast] WL_cons WL_nil WG_none WG_some WB_true WB_false WB_tf WB_ft WB_tup WJ_some dstAt Holds_some
attribute [push_cast] Holds_none Bd_some Bd_none Bd_IfO Holds_IfO Holds_Bd boolO_b H_call semCall_fn S_move S_assign S_pick
attribute [push_cast] S_alloc S_box S_build aFill_nil aFill_cons S_buildSlice setAll_nil setAll_cons S_load loadV_ref loadV_pp ofCells_t
attribute [push_cast] ofCells_f rdElem_eq S_store aStore_ref S_nilCheck S_bin S_un aUn_not aUn_neg S_makeFunc S_makeSlice aMakeSlice_int
attribute [push_cast] S_slice S_fieldAddr S_field aPart_eq S_indexAddr aIndexAddr_sl aIndexAddr_psl aIndexAddr_aref aIndexAddr_app S_index S_extract S_bi B_len B_append
attribute [push_cast] B_min aAppend_nils aAppend_sl aElems_nils aElems_psl aElems_sl H_move H_assign H_pick H_alloc H_box H_build
attribute [push_cast] H_buildSlice H_load H_store H_nilCheck H_binOp H_unOp H_makeFunc H_makeSlice H_slice H_fieldAddr H_field H_indexAddr
attribute [push_cast] H_index H_extract H_bi eval_t eval_c eval_f avC_int avC_bool avC_str avC_nils avC_nilp avC_nilf
attribute [push_cast] cells_int cells_bool cells_str cells_agg cells_nils cells_nilp cells_nilf cells_psl cells_sl cells_ref cells_pp cells_fn
attribute [push_cast] frPut_some frPut_none dstOk_none dstOk_some obOk_none obOk_some I_add I_sub I_mul I_quo I_rem I_eql
attribute [push_cast] I_neq I_lss I_leq I_gtr I_geq C_eql C_neq C_lss C_leq C_gtr C_geq pur_int
attribute [push_cast] pur_str pur_bool pur_pp pur_psl pur_nils pur_nilp pur_nilf pur_agg pur_fn pur_sl purs_nil purs_cons
attribute [push_cast] skipO keepFr enumFr frPut hsets hset AV.isP AV.isP.isPs AV.flatR AV.flatR.flatRs
attribute [push_cast] ABlk.flat ABlk.shift AV.shift AV.shift.shifts imports freezeAll ubool List.map List.map_nil List.map_cons List.length_map List.length_cons
attribute [push_cast] List.length_nil List.all_nil List.all_cons List.take_succ_cons List.take_zero List.take_nil List.drop_succ_cons List.drop_zero List.drop_nil List.getElem?_cons_zero List.getElem?_cons_succ List.getElem?_nil
attribute [push_cast] List.getElem?_toArray List.toList_toArray Option.bind_some Option.bind_none List.set_cons_zero List.set_cons_succ List.append_nil List.cons_append List.nil_append List.replicate_succ List.replicate_zero List.isEmpty_nil
attribute [push_cast] List.isEmpty_cons decide_true decide_false if_true if_false true_and and_true false_and and_false Bool.and_true Bool.true_and Bool.and_false
attribute [push_cast] Bool.false_and Bool.or_true Bool.true_or Bool.or_false Bool.false_or Bool.not_true Bool.not_false Nat.le_refl Nat.zero_le Nat.add_zero Nat.zero_add Int.toNat_natCast
attribute [push_cast] Int.toNat_zero Int.natCast_nonneg forall_const forall_eq imp_false not_true_eq_false not_false_eq_true Bool.true_eq_false Bool.false_eq_true Bool.not_eq_true false_implies true_implies
attribute [push_cast] AV.regen AV.regen.regens ABlk.regen resS_nil resS_tmp resS_cell resV_0 resV_1 resV_2 exp_int exp_str exp_bool
attribute [push_cast] exp_pp exp_psl exp_nils exp_nilp exp_nilf exp_agg exp_tup exp_fn exp_sl exp_ref exps_nil exps_cons
attribute [push_cast] pur_ref expB_nil expB_cons expEs_nil expEs_cons idx encInt encBool encStr encSl take_allM List.take_length
attribute [push_cast] List.nodup_nil List.filter_nil keepHp List.not_mem_nil List.nodup_cons List.mem_cons forall_eq_or_imp
attribute [push_cast] S_conv H_conv
attribute [push_cast] N_eql N_neq N_eqlN Sl_emp cells_emp pur_emp exp_emp aAppend_emp aElems_emp AV.frz AV.frz.frzs ABlk.frz frzFr frzHp St.frz List.contains_cons List.contains_nil List.isEmpty_map Option.map_none List.map_nil beq_iff_eq
attribute [push_cast] true_or or_true or_self Option.bind_some i64max Xa_eq
end Go.AM
end
section
set_option linter.unusedSimpArgs false
set_option linter.unusedVariables false
namespace Go.AM
open Go Go.RowKit
section
variable {P : Program} {nt : Nat} {K : Exit → St → Prop} {ops : Array Oper}
variable {s : St}
end
theorem replI {k : IntKind} {n : Nat} {z : Int} : List.replicate n [AV.int k z] = List.map (encInt k) (List.replicate n z) := by simp [encInt]
theorem replB {n : Nat} {z : Bool} : List.replicate n [AV.bool z] = List.map encBool (List.replicate n z) := by simp [encBool]
theorem replS {n : Nat} {z : List UInt8} : List.replicate n [AV.str z] = List.map encStr (List.replicate n z) := by simp [encStr]
theorem takeRepl [Adr] {α : Type} {f : α → List AV} {n : Nat} {a : α} : (List.map f (List.replicate n a)).take n = List.map f (List.replicate n a) := by
  have := take_allM (f := f) (l := List.replicate n a)
  rwa [List.length_replicate] at this
theorem takeRepl2 {α : Type} {n : Nat} {a : α} : (List.replicate n a).take n = List.replicate n a := by
  rw [List.take_replicate, Nat.min_self]
attribute [push_cast] takeRepl takeRepl2 replI replB replS List.filter_cons
section
variable {P : Program} {nt : Nat} {K : Exit → St → Prop} {fr fr' : List (Nat × AV)} {hp hp' : List (Nat × ABlk)} {nx : Nat} {lp : List (Nat × LBlk)}
end
end Go.AM
end
