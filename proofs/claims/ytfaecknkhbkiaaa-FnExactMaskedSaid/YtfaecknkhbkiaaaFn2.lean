/- CONTRACTS, second part. -/
import Derived.Test.YtfaecknkhbkiaaaFn1
import Derived.Test.YtfaecknkhbkiaaaEngC
set_option linter.unusedVariables false
set_option linter.unusedSimpArgs false
set_option linter.unusedSectionVars false
namespace Go.Eng.T
open Go.Proofs
set_option maxRecDepth 100000
set_option maxHeartbeats 4000000

def maskUp (n m : Int) : Nat → Int
  | 0 => 0
  | i + 1 => maskUp n m i + if (n.tdiv (2 ^ i)).tmod 2 = 1 ∧ (m.tdiv (2 ^ i)).tmod 2 = 0 then 2 ^ i else 0
def maskedS (n m : Int) : Int := if (0 ≤ n ∧ n ≤ 511) ∧ (0 ≤ m ∧ m ≤ 511) then maskUp n m 9 else 0
theorem maskUp_bound (n m : Int) : ∀ i : Nat, 0 ≤ maskUp n m i ∧ maskUp n m i < 2 ^ i
  | 0 => by simp [maskUp]
  | i + 1 => by
    have := maskUp_bound n m i
    have hp : (2 : Int) ^ (i + 1) = 2 ^ i * 2 := Int.pow_succ _ _
    simp only [maskUp]
    split <;> omega
theorem maskUp_eq (n m : Int) (hn : 0 ≤ n ∧ n ≤ 511) (hm : 0 ≤ m ∧ m ≤ 511) : maskUp n m 9 = bits .andNot .i64 n m := by
  obtain ⟨a, rfl⟩ : ∃ a : Nat, n = a := ⟨n.toNat, by omega⟩
  obtain ⟨b, rfl⟩ : ∃ b : Nat, m = b := ⟨m.toNat, by omega⟩
  obtain ⟨r, hr, hlt, hbit⟩ := andNot_nat a b (by omega) (by omega)
  have key : ∀ k : Nat, maskUp (a : Int) (b : Int) k = ((r % 2 ^ k : Nat) : Int) := by
    intro k
    induction k with
    | zero => simp [maskUp, Nat.mod_one]
    | succ k ih =>
      rw [maskUp, ih, mod_up]
      have hp : ((2 : Int) ^ k) = ((2 ^ k : Nat) : Int) := by simp
      have hc : ((((a : Int).tdiv (2 ^ k)).tmod 2 = 1 ∧ ((b : Int).tdiv (2 ^ k)).tmod 2 = 0)) ↔ r.testBit k = true := by
        rw [hp, tdiv_nat, tdiv_nat, show (2 : Int) = ((2 : Nat) : Int) from rfl, tmod_nat, tmod_nat, hbit, Bool.and_eq_true, Bool.not_eq_true', bit_iff]
        have hb : b.testBit k = false ↔ b / 2 ^ k % 2 = 0 := by
          have h1 := bit_iff b k
          constructor
          · intro h
            have : ¬ b / 2 ^ k % 2 = 1 := fun h2 => by rw [h1.2 h2] at h; cases h
            omega
          · intro h
            cases hh : b.testBit k with
            | false => rfl
            | true => have := h1.1 hh; omega
        rw [hb]
        omega
      by_cases hbk : r.testBit k = true
      · rw [if_pos (hc.2 hbk), if_pos hbk, hp]; omega
      · rw [if_neg (fun h => hbk (hc.1 h)), if_neg hbk]; omega
  rw [hr, key 9, Nat.mod_eq_of_lt hlt]

def c10 : Contract := ⟨10, fun args _ => match args with
  | [.c (.int .i64 n), .c (.int .i64 m)] => .pure True (.c (.int .i64 (maskedS n m)))
  | _ => .bad⟩
theorem ok10 : SpecOK Try.prog c10 := by
  refine ⟨fp_10, fun args M => ?_⟩
  unfold c10
  dsimp only
  split
  · rename_i n m
    intro _
    refine goIn hf_10 rfl (nt := 38) rfl (rs := [.tmp 4]) rfl (C := [c32]) ⟨ok32, trivial⟩ (q := fun _ => false) okQ_none mixed (O := fun _ => .nil) (by kernel_rfl) ?_
    simp only [↓vc_loopH, ↓vc_skip, ↓vc_text, ↓vc_draw, ↓vc_seq, ↓vc_cond, ↓vc_block, ↓vc_exit, ↓vc_ret, ↓steps_nil, ↓steps_plain, ↓steps_guard, ↓grd_some, ↓grdD, ↓grdT, ↓op_move, ↓op_assign, ↓op_pick, ↓op_box, ↓op_alloc, ↓op_build, ↓op_buildSlice, ↓op_load, ↓load_eq, ↓op_store, ↓store_eq, ↓op_nilCheck, ↓op_bin, ↓op_un, ↓op_convert, ↓op_makeSlice, ↓op_slice, ↓sl2_sl, ↓sl2_str, ↓optI_none, ↓optI_some, ↓op_fieldAddr, ↓op_field, ↓op_indexAddr, ↓op_index, ↓op_extract, ↓exK_agg, ↓exK_c, ↓exK_next, ↓op_call, ↓op_bi, ↓spec_pure, ↓spec_eff, ↓bi_len_sl, ↓bi_len_str, ↓bi_cap, ↓bi_min, ↓bi_max, ↓bi_append, ↓app_eq, ↓cv_int, ↓cv_str, ↓cv_s2b, ↓cv_b2s, ↓eff_true, ↓eff_false, ↓asB_b, ↓asI_i, ↓asPtr_p, ↓asSl_s, ↓asStr_str, ↓asAgg_agg, ↓asClo_clo, ↓rds_nil, ↓rds_cons, ↓un_not, ↓un_neg, ↓exit_eq, ↓res_nil, ↓res_tmp, ↓res_cell, ↓rd_tmp, ↓rd_int, ↓rd_bool, ↓rd_str, ↓rd_nilsl, ↓rd_func, ↓rdT_nil, ↓rdT_hit, ↓rdT_un, ↓rdT_next, ↓optK_some, ↓optK_none, ↓rgK_box, ↓rgK_arr, ↓rgK_none, ↓binVC, ↓end_pure, ↓dr_nil, ↓dr_go, ↓dr_alt, ↓buildVC, ↓sliceVC, getO, otl_nil, otl_cons, ots_nil, ots_hit, ots_next, imp_self, findC_hit, findC_nil, findC_next, setT, St.put, St.enter, AV.up, AC.up, List.map_cons, List.map_nil, List.cons_append, List.nil_append, List.append_nil, List.length_cons, List.length_nil, List.replicate_succ, List.replicate_zero, Nat.reduceAdd, Nat.reduceSub, Nat.reduceBEq, true_and, and_true, forall_const, implies_true, Bool.true_and, Bool.and_true, Bool.false_and, Bool.and_false, cond_true, cond_false, AV.ren, AC.ren, AV.cl, AC.cl, AV.dn, AC.dn, St.look, St.nx, St.alloc, St.setRg, setG, setO, findO, AV.cells, AV.noTup, AV.isAgg, sz_25, sz_32, zr_35, sz_35, bt_4, zr_27, sz_27, fl_27_2, sz_3, fl_35_0, fl_27_0, st_9, fs_35, fl_25_0, fl_25_1, fl_27_1, fl_25_2, el_46, zr_5, sd_30, el_30, cv_46_46, sd_46, sz_5, cv_46_9, fl_32_1, sz_30, fl_35_1, fl_32_0, fs_27, zr_3, cv_5_3, zr_72, fs_72, fl_72_2, fl_72_1, fl_72_0, sz_46, c32]
    refine ⟨fun h => ?_, fun h => ?_⟩
    · unfold maskedS
      rw [if_neg]
      rintro ⟨k, k'⟩
      simp [k, k'] at h
    · have hn : (0 ≤ n ∧ n ≤ 511) ∧ (0 ≤ m ∧ m ≤ 511) := by
        by_cases k : (0 ≤ n ∧ n ≤ 511) <;> by_cases k' : (0 ≤ m ∧ m ≤ 511) <;> simp [k, k'] at h
        exact ⟨k, k'⟩
      refine loopI (J := {i : Nat // i ≤ 9}) (fun i => ⟨slots 38 [(0, I n), (1, I m), (5, I (maskUp n m i.1)), (6, I (2 ^ i.1)), (7, I i.1)], M, [], []⟩) (fun i => 9 - i.1) ⟨0, by omega⟩ (Le_intro [] (by simp [toT, toL, toO, keysO, RgLe, renl, rent, RId.cl, RId.ren, AA.ren, Rg.ren, Rg.cl, cll, clt, slots_nil, slots_cons, setT, AV.ren, AC.ren, AV.cl, AC.cl, List.replicate_succ, List.replicate_zero, List.nodup_nil, List.length_nil, List.length_cons, true_and, and_true, St.look, findO, maskUp])) ?_
      rintro ⟨i, hi⟩
      simp only [↓vc_loopH, ↓vc_skip, ↓vc_text, ↓vc_draw, ↓vc_seq, ↓vc_cond, ↓vc_block, ↓vc_exit, ↓vc_ret, ↓steps_nil, ↓steps_plain, ↓steps_guard, ↓grd_some, ↓grdD, ↓grdT, ↓op_move, ↓op_assign, ↓op_pick, ↓op_box, ↓op_alloc, ↓op_build, ↓op_buildSlice, ↓op_load, ↓load_eq, ↓op_store, ↓store_eq, ↓op_nilCheck, ↓op_bin, ↓op_un, ↓op_convert, ↓op_makeSlice, ↓op_slice, ↓sl2_sl, ↓sl2_str, ↓optI_none, ↓optI_some, ↓op_fieldAddr, ↓op_field, ↓op_indexAddr, ↓op_index, ↓op_extract, ↓exK_agg, ↓exK_c, ↓exK_next, ↓op_call, ↓op_bi, ↓spec_pure, ↓spec_eff, ↓bi_len_sl, ↓bi_len_str, ↓bi_cap, ↓bi_min, ↓bi_max, ↓bi_append, ↓app_eq, ↓cv_int, ↓cv_str, ↓cv_s2b, ↓cv_b2s, ↓eff_true, ↓eff_false, ↓asB_b, ↓asI_i, ↓asPtr_p, ↓asSl_s, ↓asStr_str, ↓asAgg_agg, ↓asClo_clo, ↓rds_nil, ↓rds_cons, ↓un_not, ↓un_neg, ↓exit_eq, ↓res_nil, ↓res_tmp, ↓res_cell, ↓rd_tmp, ↓rd_int, ↓rd_bool, ↓rd_str, ↓rd_nilsl, ↓rd_func, ↓rdT_nil, ↓rdT_hit, ↓rdT_un, ↓rdT_next, ↓optK_some, ↓optK_none, ↓rgK_box, ↓rgK_arr, ↓rgK_none, ↓binVC, ↓end_pure, ↓dr_nil, ↓dr_go, ↓dr_alt, ↓buildVC, ↓sliceVC, getO, otl_nil, otl_cons, ots_nil, ots_hit, ots_next, imp_self, findC_hit, findC_nil, findC_next, setT, St.put, St.enter, AV.up, AC.up, List.map_cons, List.map_nil, List.cons_append, List.nil_append, List.append_nil, List.length_cons, List.length_nil, List.replicate_succ, List.replicate_zero, Nat.reduceAdd, Nat.reduceSub, Nat.reduceBEq, true_and, and_true, forall_const, implies_true, Bool.true_and, Bool.and_true, Bool.false_and, Bool.and_false, cond_true, cond_false, AV.ren, AC.ren, AV.cl, AC.cl, AV.dn, AC.dn, St.look, St.nx, St.alloc, St.setRg, setG, setO, findO, AV.cells, AV.noTup, AV.isAgg, sz_25, sz_32, zr_35, sz_35, bt_4, zr_27, sz_27, fl_27_2, sz_3, fl_35_0, fl_27_0, st_9, fs_35, fl_25_0, fl_25_1, fl_27_1, fl_25_2, el_46, zr_5, sd_30, el_30, cv_46_46, sd_46, sz_5, cv_46_9, fl_32_1, sz_30, fl_35_1, fl_32_0, fs_27, zr_3, cv_5_3, zr_72, fs_72, fl_72_2, fl_72_1, fl_72_0, sz_46, slots_nil, slots_cons]
      have hb := maskUp_bound n m i
      have hp0 : (1 : Int) ≤ 2 ^ i := by
        have : (0 : Int) < 2 ^ i := Int.pow_pos (by omega)
        omega
      have hp1 : (2 : Int) ^ i ≤ 512 := by
        have : 2 ^ i ≤ 2 ^ 9 := Nat.pow_le_pow_right (by omega) hi
        have h2 : ((2 ^ i : Nat) : Int) = (2 : Int) ^ i := by simp
        omega
      have hn0 : 0 ≤ n.tdiv (2 ^ i) := Int.tdiv_nonneg hn.1.1 (by omega)
      have hn1 : n.tdiv (2 ^ i) ≤ n := Int.tdiv_le_self _ hn.1.1
      have hm0 : 0 ≤ m.tdiv (2 ^ i) := Int.tdiv_nonneg hn.2.1 (by omega)
      have hm1 : m.tdiv (2 ^ i) ≤ m := Int.tdiv_le_self _ hn.2.1
      rw [w64 (n := n.tdiv (2 ^ i)) (by omega) (by omega), w64 (n := m.tdiv (2 ^ i)) (by omega) (by omega), w64 (n := maskUp n m i + 2 ^ i) (by omega) (by omega), w64 (n := (2 : Int) ^ i * 2) (by omega) (by omega), w64 (n := (i : Int) + 1) (by omega) (by omega)]
      refine ⟨fun hlt => ?_, fun hge => ?_⟩
      · have hlt : i < 9 := by simp at hlt; omega
        refine ⟨by omega, by omega, fun _ => by omega, fun _ => by omega, fun hc => ?_, fun hc => ?_⟩
        · have hcc : (n.tdiv (2 ^ i)).tmod 2 = 1 ∧ (m.tdiv (2 ^ i)).tmod 2 = 0 := by
            by_cases h1 : (n.tdiv (2 ^ i)).tmod 2 = 1 <;> simp [h1] at hc
            exact ⟨h1, hc⟩
          refine ⟨⟨i + 1, by omega⟩, Le_intro [] ?_, by show 9 - (i + 1) < 9 - i; omega⟩
          simp only [toT, toL, toO, keysO, RgLe, renl, rent, RId.cl, RId.ren, AA.ren, Rg.ren, Rg.cl, cll, clt, slots_nil, slots_cons, setT, AV.ren, AC.ren, AV.cl, AC.cl, List.replicate_succ, List.replicate_zero, List.nodup_nil, List.length_nil, List.length_cons, true_and, and_true, St.look, findO, maskUp, if_pos hcc, Int.pow_succ]
          simp
        · have hcc : ¬ ((n.tdiv (2 ^ i)).tmod 2 = 1 ∧ (m.tdiv (2 ^ i)).tmod 2 = 0) := by
            rintro ⟨h1, h2⟩
            simp [h1, h2] at hc
          refine ⟨⟨i + 1, by omega⟩, Le_intro [] ?_, by show 9 - (i + 1) < 9 - i; omega⟩
          simp only [toT, toL, toO, keysO, RgLe, renl, rent, RId.cl, RId.ren, AA.ren, Rg.ren, Rg.cl, cll, clt, slots_nil, slots_cons, setT, AV.ren, AC.ren, AV.cl, AC.cl, List.replicate_succ, List.replicate_zero, List.nodup_nil, List.length_nil, List.length_cons, true_and, and_true, St.look, findO, maskUp, if_neg hcc, Int.pow_succ]
          simp
      · have : i = 9 := by simp at hge; omega
        subst this
        simp [maskedS, hn]
  · trivial

theorem masked_same (n m : Int) : masked n m = maskedS n m := by
  unfold masked maskedS
  split
  · rename_i h; exact (maskUp_eq n m h.1 h.2).symm
  · rfl

def c3 : Contract := ⟨3, fun args _ => match args with
  | [.c (.int .i64 _), .c (.int .i64 _)] => .pure True (B true)
  | _ => .bad⟩
theorem ok3 : SpecOK Try.prog c3 := by
  refine ⟨fp_3, fun args M => ?_⟩
  unfold c3
  dsimp only
  split
  · rename_i n m
    intro _
    refine goIn hf_3 rfl (nt := 16) rfl (rs := [.tmp 4]) rfl (C := [c10, c11]) ⟨ok10, ok11, trivial⟩ (q := fun _ => false) okQ_none mixed (O := fun _ => .nil) (by kernel_rfl) ?_
    simp only [↓vc_loopH, ↓vc_skip, ↓vc_text, ↓vc_draw, ↓vc_seq, ↓vc_cond, ↓vc_block, ↓vc_exit, ↓vc_ret, ↓steps_nil, ↓steps_plain, ↓steps_guard, ↓grd_some, ↓grdD, ↓grdT, ↓op_move, ↓op_assign, ↓op_pick, ↓op_box, ↓op_alloc, ↓op_build, ↓op_buildSlice, ↓op_load, ↓load_eq, ↓op_store, ↓store_eq, ↓op_nilCheck, ↓op_bin, ↓op_un, ↓op_convert, ↓op_makeSlice, ↓op_slice, ↓sl2_sl, ↓sl2_str, ↓optI_none, ↓optI_some, ↓op_fieldAddr, ↓op_field, ↓op_indexAddr, ↓op_index, ↓op_extract, ↓exK_agg, ↓exK_c, ↓exK_next, ↓op_call, ↓op_bi, ↓spec_pure, ↓spec_eff, ↓bi_len_sl, ↓bi_len_str, ↓bi_cap, ↓bi_min, ↓bi_max, ↓bi_append, ↓app_eq, ↓cv_int, ↓cv_str, ↓cv_s2b, ↓cv_b2s, ↓eff_true, ↓eff_false, ↓asB_b, ↓asI_i, ↓asPtr_p, ↓asSl_s, ↓asStr_str, ↓asAgg_agg, ↓asClo_clo, ↓rds_nil, ↓rds_cons, ↓un_not, ↓un_neg, ↓exit_eq, ↓res_nil, ↓res_tmp, ↓res_cell, ↓rd_tmp, ↓rd_int, ↓rd_bool, ↓rd_str, ↓rd_nilsl, ↓rd_func, ↓rdT_nil, ↓rdT_hit, ↓rdT_un, ↓rdT_next, ↓optK_some, ↓optK_none, ↓rgK_box, ↓rgK_arr, ↓rgK_none, ↓binVC, ↓end_pure, ↓dr_nil, ↓dr_go, ↓dr_alt, ↓buildVC, ↓sliceVC, getO, otl_nil, otl_cons, ots_nil, ots_hit, ots_next, imp_self, findC_hit, findC_nil, findC_next, setT, St.put, St.enter, AV.up, AC.up, List.map_cons, List.map_nil, List.cons_append, List.nil_append, List.append_nil, List.length_cons, List.length_nil, List.replicate_succ, List.replicate_zero, Nat.reduceAdd, Nat.reduceSub, Nat.reduceBEq, true_and, and_true, forall_const, implies_true, Bool.true_and, Bool.and_true, Bool.false_and, Bool.and_false, cond_true, cond_false, AV.ren, AC.ren, AV.cl, AC.cl, AV.dn, AC.dn, St.look, St.nx, St.alloc, St.setRg, setG, setO, findO, AV.cells, AV.noTup, AV.isAgg, sz_25, sz_32, zr_35, sz_35, bt_4, zr_27, sz_27, fl_27_2, sz_3, fl_35_0, fl_27_0, st_9, fs_35, fl_25_0, fl_25_1, fl_27_1, fl_25_2, el_46, zr_5, sd_30, el_30, cv_46_46, sd_46, sz_5, cv_46_9, fl_32_1, sz_30, fl_35_1, fl_32_0, fs_27, zr_3, cv_5_3, zr_72, fs_72, fl_72_2, fl_72_1, fl_72_0, sz_46, c10, c11]
    simp [masked_same]
  · trivial
end Go.Eng.T
