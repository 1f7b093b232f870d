/- CONTRACTS of the functions that the laws of this seat reach, first part. -/
import Derived.Test.YtfaecknkhbkiaaaTab
set_option linter.unusedVariables false
set_option linter.unusedSimpArgs false
set_option linter.unusedSectionVars false
namespace Go.Eng.T
open Go.Proofs
set_option maxRecDepth 100000
set_option maxHeartbeats 4000000

def c32 : Contract := ⟨32, fun args _ => match args with
  | [.c (.int .i64 n), .c (.int .i64 lo), .c (.int .i64 hi)] => .pure True (B (decide (lo ≤ n ∧ n ≤ hi)))
  | _ => .bad⟩
theorem ok32 : SpecOK Try.prog c32 := by
  refine ⟨fp_32, fun args M => ?_⟩
  unfold c32
  dsimp only
  split
  · rename_i n lo hi
    intro _
    refine goIn hf_32 rfl (nt := 15) rfl (rs := [.tmp 6]) rfl (C := []) trivial (q := fun _ => false) okQ_none mixed (O := fun _ => .nil) (by kernel_rfl) ?_
    simp only [↓vc_loopH, ↓vc_skip, ↓vc_text, ↓vc_draw, ↓vc_seq, ↓vc_cond, ↓vc_block, ↓vc_exit, ↓vc_ret, ↓steps_nil, ↓steps_plain, ↓steps_guard, ↓grd_some, ↓grdD, ↓grdT, ↓op_move, ↓op_assign, ↓op_pick, ↓op_box, ↓op_alloc, ↓op_build, ↓op_buildSlice, ↓op_load, ↓load_eq, ↓op_store, ↓store_eq, ↓op_nilCheck, ↓op_bin, ↓op_un, ↓op_convert, ↓op_makeSlice, ↓op_slice, ↓sl2_sl, ↓sl2_str, ↓optI_none, ↓optI_some, ↓op_fieldAddr, ↓op_field, ↓op_indexAddr, ↓op_index, ↓op_extract, ↓exK_agg, ↓exK_c, ↓exK_next, ↓op_call, ↓op_bi, ↓spec_pure, ↓spec_eff, ↓bi_len_sl, ↓bi_len_str, ↓bi_cap, ↓bi_min, ↓bi_max, ↓bi_append, ↓app_eq, ↓cv_int, ↓cv_str, ↓cv_s2b, ↓cv_b2s, ↓eff_true, ↓eff_false, ↓asB_b, ↓asI_i, ↓asPtr_p, ↓asSl_s, ↓asStr_str, ↓asAgg_agg, ↓asClo_clo, ↓rds_nil, ↓rds_cons, ↓un_not, ↓un_neg, ↓exit_eq, ↓res_nil, ↓res_tmp, ↓res_cell, ↓rd_tmp, ↓rd_int, ↓rd_bool, ↓rd_str, ↓rd_nilsl, ↓rd_func, ↓rdT_nil, ↓rdT_hit, ↓rdT_un, ↓rdT_next, ↓optK_some, ↓optK_none, ↓rgK_box, ↓rgK_arr, ↓rgK_none, ↓binVC, ↓end_pure, ↓dr_nil, ↓dr_go, ↓dr_alt, ↓buildVC, ↓sliceVC, getO, otl_nil, otl_cons, ots_nil, ots_hit, ots_next, imp_self, findC_hit, findC_nil, findC_next, setT, St.put, St.enter, AV.up, AC.up, List.map_cons, List.map_nil, List.cons_append, List.nil_append, List.append_nil, List.length_cons, List.length_nil, List.replicate_succ, List.replicate_zero, Nat.reduceAdd, Nat.reduceSub, Nat.reduceBEq, true_and, and_true, forall_const, implies_true, Bool.true_and, Bool.and_true, Bool.false_and, Bool.and_false, cond_true, cond_false, AV.ren, AC.ren, AV.cl, AC.cl, AV.dn, AC.dn, St.look, St.nx, St.alloc, St.setRg, setG, setO, findO, AV.cells, AV.noTup, AV.isAgg, sz_25, sz_32, zr_35, sz_35, bt_4, zr_27, sz_27, fl_27_2, sz_3, fl_35_0, fl_27_0, st_9, fs_35, fl_25_0, fl_25_1, fl_27_1, fl_25_2, el_46, zr_5, sd_30, el_30, cv_46_46, sd_46, sz_5, cv_46_9, fl_32_1, sz_30, fl_35_1, fl_32_0, fs_27, zr_3, cv_5_3, zr_72, fs_72, fl_72_2, fl_72_1, fl_72_0, sz_46]
    by_cases h : lo ≤ n <;> simp [h]
  · trivial
theorem q32 : Quiet c32 := by
  intro args M
  unfold c32
  dsimp only
  split <;> trivial

def c47 : Contract := ⟨47, fun args _ => match args with
  | [.c (.int .i64 n), .c (.int .i64 lo), .c (.int .i64 hi)] => .pure True (B (decide (lo ≤ n ∧ n ≤ hi)))
  | _ => .bad⟩
theorem ok47 : SpecOK Try.prog c47 := by
  refine ⟨fp_47, fun args M => ?_⟩
  unfold c47
  dsimp only
  split
  · rename_i n lo hi
    intro _
    refine goIn hf_47 rfl (nt := 15) rfl (rs := [.tmp 6]) rfl (C := []) trivial (q := fun _ => false) okQ_none mixed (O := fun _ => .nil) (by kernel_rfl) ?_
    simp only [↓vc_loopH, ↓vc_skip, ↓vc_text, ↓vc_draw, ↓vc_seq, ↓vc_cond, ↓vc_block, ↓vc_exit, ↓vc_ret, ↓steps_nil, ↓steps_plain, ↓steps_guard, ↓grd_some, ↓grdD, ↓grdT, ↓op_move, ↓op_assign, ↓op_pick, ↓op_box, ↓op_alloc, ↓op_build, ↓op_buildSlice, ↓op_load, ↓load_eq, ↓op_store, ↓store_eq, ↓op_nilCheck, ↓op_bin, ↓op_un, ↓op_convert, ↓op_makeSlice, ↓op_slice, ↓sl2_sl, ↓sl2_str, ↓optI_none, ↓optI_some, ↓op_fieldAddr, ↓op_field, ↓op_indexAddr, ↓op_index, ↓op_extract, ↓exK_agg, ↓exK_c, ↓exK_next, ↓op_call, ↓op_bi, ↓spec_pure, ↓spec_eff, ↓bi_len_sl, ↓bi_len_str, ↓bi_cap, ↓bi_min, ↓bi_max, ↓bi_append, ↓app_eq, ↓cv_int, ↓cv_str, ↓cv_s2b, ↓cv_b2s, ↓eff_true, ↓eff_false, ↓asB_b, ↓asI_i, ↓asPtr_p, ↓asSl_s, ↓asStr_str, ↓asAgg_agg, ↓asClo_clo, ↓rds_nil, ↓rds_cons, ↓un_not, ↓un_neg, ↓exit_eq, ↓res_nil, ↓res_tmp, ↓res_cell, ↓rd_tmp, ↓rd_int, ↓rd_bool, ↓rd_str, ↓rd_nilsl, ↓rd_func, ↓rdT_nil, ↓rdT_hit, ↓rdT_un, ↓rdT_next, ↓optK_some, ↓optK_none, ↓rgK_box, ↓rgK_arr, ↓rgK_none, ↓binVC, ↓end_pure, ↓dr_nil, ↓dr_go, ↓dr_alt, ↓buildVC, ↓sliceVC, getO, otl_nil, otl_cons, ots_nil, ots_hit, ots_next, imp_self, findC_hit, findC_nil, findC_next, setT, St.put, St.enter, AV.up, AC.up, List.map_cons, List.map_nil, List.cons_append, List.nil_append, List.append_nil, List.length_cons, List.length_nil, List.replicate_succ, List.replicate_zero, Nat.reduceAdd, Nat.reduceSub, Nat.reduceBEq, true_and, and_true, forall_const, implies_true, Bool.true_and, Bool.and_true, Bool.false_and, Bool.and_false, cond_true, cond_false, AV.ren, AC.ren, AV.cl, AC.cl, AV.dn, AC.dn, St.look, St.nx, St.alloc, St.setRg, setG, setO, findO, AV.cells, AV.noTup, AV.isAgg, sz_25, sz_32, zr_35, sz_35, bt_4, zr_27, sz_27, fl_27_2, sz_3, fl_35_0, fl_27_0, st_9, fs_35, fl_25_0, fl_25_1, fl_27_1, fl_25_2, el_46, zr_5, sd_30, el_30, cv_46_46, sd_46, sz_5, cv_46_9, fl_32_1, sz_30, fl_35_1, fl_32_0, fs_27, zr_3, cv_5_3, zr_72, fs_72, fl_72_2, fl_72_1, fl_72_0, sz_46]
    by_cases h : lo ≤ n <;> simp [h]
  · trivial

def c33 : Contract := ⟨33, fun args _ => match args with
  | [.c (.int .i64 n)] => .pure True (B (decide (0 ≤ n ∧ n ≤ 511)))
  | _ => .bad⟩
theorem ok33 : SpecOK Try.prog c33 := by
  refine ⟨fp_33, fun args M => ?_⟩
  unfold c33
  dsimp only
  split
  · rename_i n
    intro _
    refine goIn hf_33 rfl (nt := 5) rfl (rs := [.tmp 2]) rfl (C := [c47]) ⟨ok47, trivial⟩ (q := fun _ => false) okQ_none mixed (O := fun _ => .nil) (by kernel_rfl) ?_
    simp only [↓vc_loopH, ↓vc_skip, ↓vc_text, ↓vc_draw, ↓vc_seq, ↓vc_cond, ↓vc_block, ↓vc_exit, ↓vc_ret, ↓steps_nil, ↓steps_plain, ↓steps_guard, ↓grd_some, ↓grdD, ↓grdT, ↓op_move, ↓op_assign, ↓op_pick, ↓op_box, ↓op_alloc, ↓op_build, ↓op_buildSlice, ↓op_load, ↓load_eq, ↓op_store, ↓store_eq, ↓op_nilCheck, ↓op_bin, ↓op_un, ↓op_convert, ↓op_makeSlice, ↓op_slice, ↓sl2_sl, ↓sl2_str, ↓optI_none, ↓optI_some, ↓op_fieldAddr, ↓op_field, ↓op_indexAddr, ↓op_index, ↓op_extract, ↓exK_agg, ↓exK_c, ↓exK_next, ↓op_call, ↓op_bi, ↓spec_pure, ↓spec_eff, ↓bi_len_sl, ↓bi_len_str, ↓bi_cap, ↓bi_min, ↓bi_max, ↓bi_append, ↓app_eq, ↓cv_int, ↓cv_str, ↓cv_s2b, ↓cv_b2s, ↓eff_true, ↓eff_false, ↓asB_b, ↓asI_i, ↓asPtr_p, ↓asSl_s, ↓asStr_str, ↓asAgg_agg, ↓asClo_clo, ↓rds_nil, ↓rds_cons, ↓un_not, ↓un_neg, ↓exit_eq, ↓res_nil, ↓res_tmp, ↓res_cell, ↓rd_tmp, ↓rd_int, ↓rd_bool, ↓rd_str, ↓rd_nilsl, ↓rd_func, ↓rdT_nil, ↓rdT_hit, ↓rdT_un, ↓rdT_next, ↓optK_some, ↓optK_none, ↓rgK_box, ↓rgK_arr, ↓rgK_none, ↓binVC, ↓end_pure, ↓dr_nil, ↓dr_go, ↓dr_alt, ↓buildVC, ↓sliceVC, getO, otl_nil, otl_cons, ots_nil, ots_hit, ots_next, imp_self, findC_hit, findC_nil, findC_next, setT, St.put, St.enter, AV.up, AC.up, List.map_cons, List.map_nil, List.cons_append, List.nil_append, List.append_nil, List.length_cons, List.length_nil, List.replicate_succ, List.replicate_zero, Nat.reduceAdd, Nat.reduceSub, Nat.reduceBEq, true_and, and_true, forall_const, implies_true, Bool.true_and, Bool.and_true, Bool.false_and, Bool.and_false, cond_true, cond_false, AV.ren, AC.ren, AV.cl, AC.cl, AV.dn, AC.dn, St.look, St.nx, St.alloc, St.setRg, setG, setO, findO, AV.cells, AV.noTup, AV.isAgg, sz_25, sz_32, zr_35, sz_35, bt_4, zr_27, sz_27, fl_27_2, sz_3, fl_35_0, fl_27_0, st_9, fs_35, fl_25_0, fl_25_1, fl_27_1, fl_25_2, el_46, zr_5, sd_30, el_30, cv_46_46, sd_46, sz_5, cv_46_9, fl_32_1, sz_30, fl_35_1, fl_32_0, fs_27, zr_3, cv_5_3, zr_72, fs_72, fl_72_2, fl_72_1, fl_72_0, sz_46, c47]
  · trivial

def c42 : Contract := ⟨42, fun args _ => match args with
  | [.c (.int .i64 n)] => .pure True (B (decide (0 ≤ n ∧ n ≤ 999)))
  | _ => .bad⟩
theorem ok42 : SpecOK Try.prog c42 := by
  refine ⟨fp_42, fun args M => ?_⟩
  unfold c42
  dsimp only
  split
  · rename_i n
    intro _
    refine goIn hf_42 rfl (nt := 5) rfl (rs := [.tmp 2]) rfl (C := [c47]) ⟨ok47, trivial⟩ (q := fun _ => false) okQ_none mixed (O := fun _ => .nil) (by kernel_rfl) ?_
    simp only [↓vc_loopH, ↓vc_skip, ↓vc_text, ↓vc_draw, ↓vc_seq, ↓vc_cond, ↓vc_block, ↓vc_exit, ↓vc_ret, ↓steps_nil, ↓steps_plain, ↓steps_guard, ↓grd_some, ↓grdD, ↓grdT, ↓op_move, ↓op_assign, ↓op_pick, ↓op_box, ↓op_alloc, ↓op_build, ↓op_buildSlice, ↓op_load, ↓load_eq, ↓op_store, ↓store_eq, ↓op_nilCheck, ↓op_bin, ↓op_un, ↓op_convert, ↓op_makeSlice, ↓op_slice, ↓sl2_sl, ↓sl2_str, ↓optI_none, ↓optI_some, ↓op_fieldAddr, ↓op_field, ↓op_indexAddr, ↓op_index, ↓op_extract, ↓exK_agg, ↓exK_c, ↓exK_next, ↓op_call, ↓op_bi, ↓spec_pure, ↓spec_eff, ↓bi_len_sl, ↓bi_len_str, ↓bi_cap, ↓bi_min, ↓bi_max, ↓bi_append, ↓app_eq, ↓cv_int, ↓cv_str, ↓cv_s2b, ↓cv_b2s, ↓eff_true, ↓eff_false, ↓asB_b, ↓asI_i, ↓asPtr_p, ↓asSl_s, ↓asStr_str, ↓asAgg_agg, ↓asClo_clo, ↓rds_nil, ↓rds_cons, ↓un_not, ↓un_neg, ↓exit_eq, ↓res_nil, ↓res_tmp, ↓res_cell, ↓rd_tmp, ↓rd_int, ↓rd_bool, ↓rd_str, ↓rd_nilsl, ↓rd_func, ↓rdT_nil, ↓rdT_hit, ↓rdT_un, ↓rdT_next, ↓optK_some, ↓optK_none, ↓rgK_box, ↓rgK_arr, ↓rgK_none, ↓binVC, ↓end_pure, ↓dr_nil, ↓dr_go, ↓dr_alt, ↓buildVC, ↓sliceVC, getO, otl_nil, otl_cons, ots_nil, ots_hit, ots_next, imp_self, findC_hit, findC_nil, findC_next, setT, St.put, St.enter, AV.up, AC.up, List.map_cons, List.map_nil, List.cons_append, List.nil_append, List.append_nil, List.length_cons, List.length_nil, List.replicate_succ, List.replicate_zero, Nat.reduceAdd, Nat.reduceSub, Nat.reduceBEq, true_and, and_true, forall_const, implies_true, Bool.true_and, Bool.and_true, Bool.false_and, Bool.and_false, cond_true, cond_false, AV.ren, AC.ren, AV.cl, AC.cl, AV.dn, AC.dn, St.look, St.nx, St.alloc, St.setRg, setG, setO, findO, AV.cells, AV.noTup, AV.isAgg, sz_25, sz_32, zr_35, sz_35, bt_4, zr_27, sz_27, fl_27_2, sz_3, fl_35_0, fl_27_0, st_9, fs_35, fl_25_0, fl_25_1, fl_27_1, fl_25_2, el_46, zr_5, sd_30, el_30, cv_46_46, sd_46, sz_5, cv_46_9, fl_32_1, sz_30, fl_35_1, fl_32_0, fs_27, zr_3, cv_5_3, zr_72, fs_72, fl_72_2, fl_72_1, fl_72_0, sz_46, c47]
  · trivial

def masked (n m : Int) : Int := if (0 ≤ n ∧ n ≤ 511) ∧ (0 ≤ m ∧ m ≤ 511) then bits .andNot .i64 n m else 0

def c11 : Contract := ⟨11, fun args _ => match args with
  | [.c (.int .i64 n), .c (.int .i64 m)] => .pure True (.c (.int .i64 (masked n m)))
  | _ => .bad⟩
theorem ok11 : SpecOK Try.prog c11 := by
  refine ⟨fp_11, fun args M => ?_⟩
  unfold c11
  dsimp only
  split
  · rename_i n m
    intro _
    refine goIn hf_11 rfl (nt := 16) rfl (rs := [.tmp 4]) rfl (C := [c33]) ⟨ok33, trivial⟩ (q := fun _ => false) okQ_none mixed (O := fun _ => .nil) (by kernel_rfl) ?_
    simp only [↓vc_loopH, ↓vc_skip, ↓vc_text, ↓vc_draw, ↓vc_seq, ↓vc_cond, ↓vc_block, ↓vc_exit, ↓vc_ret, ↓steps_nil, ↓steps_plain, ↓steps_guard, ↓grd_some, ↓grdD, ↓grdT, ↓op_move, ↓op_assign, ↓op_pick, ↓op_box, ↓op_alloc, ↓op_build, ↓op_buildSlice, ↓op_load, ↓load_eq, ↓op_store, ↓store_eq, ↓op_nilCheck, ↓op_bin, ↓op_un, ↓op_convert, ↓op_makeSlice, ↓op_slice, ↓sl2_sl, ↓sl2_str, ↓optI_none, ↓optI_some, ↓op_fieldAddr, ↓op_field, ↓op_indexAddr, ↓op_index, ↓op_extract, ↓exK_agg, ↓exK_c, ↓exK_next, ↓op_call, ↓op_bi, ↓spec_pure, ↓spec_eff, ↓bi_len_sl, ↓bi_len_str, ↓bi_cap, ↓bi_min, ↓bi_max, ↓bi_append, ↓app_eq, ↓cv_int, ↓cv_str, ↓cv_s2b, ↓cv_b2s, ↓eff_true, ↓eff_false, ↓asB_b, ↓asI_i, ↓asPtr_p, ↓asSl_s, ↓asStr_str, ↓asAgg_agg, ↓asClo_clo, ↓rds_nil, ↓rds_cons, ↓un_not, ↓un_neg, ↓exit_eq, ↓res_nil, ↓res_tmp, ↓res_cell, ↓rd_tmp, ↓rd_int, ↓rd_bool, ↓rd_str, ↓rd_nilsl, ↓rd_func, ↓rdT_nil, ↓rdT_hit, ↓rdT_un, ↓rdT_next, ↓optK_some, ↓optK_none, ↓rgK_box, ↓rgK_arr, ↓rgK_none, ↓binVC, ↓end_pure, ↓dr_nil, ↓dr_go, ↓dr_alt, ↓buildVC, ↓sliceVC, getO, otl_nil, otl_cons, ots_nil, ots_hit, ots_next, imp_self, findC_hit, findC_nil, findC_next, setT, St.put, St.enter, AV.up, AC.up, List.map_cons, List.map_nil, List.cons_append, List.nil_append, List.append_nil, List.length_cons, List.length_nil, List.replicate_succ, List.replicate_zero, Nat.reduceAdd, Nat.reduceSub, Nat.reduceBEq, true_and, and_true, forall_const, implies_true, Bool.true_and, Bool.and_true, Bool.false_and, Bool.and_false, cond_true, cond_false, AV.ren, AC.ren, AV.cl, AC.cl, AV.dn, AC.dn, St.look, St.nx, St.alloc, St.setRg, setG, setO, findO, AV.cells, AV.noTup, AV.isAgg, sz_25, sz_32, zr_35, sz_35, bt_4, zr_27, sz_27, fl_27_2, sz_3, fl_35_0, fl_27_0, st_9, fs_35, fl_25_0, fl_25_1, fl_27_1, fl_25_2, el_46, zr_5, sd_30, el_30, cv_46_46, sd_46, sz_5, cv_46_9, fl_32_1, sz_30, fl_35_1, fl_32_0, fs_27, zr_3, cv_5_3, zr_72, fs_72, fl_72_2, fl_72_1, fl_72_0, sz_46, c33]
    unfold masked
    by_cases h : (0 ≤ n ∧ n ≤ 511) <;> by_cases k : (0 ≤ m ∧ m ≤ 511) <;> simp [h, k]
  · trivial
end Go.Eng.T
