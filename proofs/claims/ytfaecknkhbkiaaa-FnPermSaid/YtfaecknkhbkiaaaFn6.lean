/- THE LAWS, walked. -/
import Derived.Test.YtfaecknkhbkiaaaFn5
set_option linter.unusedVariables false
set_option linter.unusedSimpArgs false
set_option linter.unusedSectionVars false
namespace Go.Eng.T
open Go.Proofs
open Cel (enc dec)
set_option maxRecDepth 100000
set_option maxHeartbeats 4000000

def c_laws_FnExactMasked : Contract := ⟨3, fun args M => match args with
  | [.c (.int .i64 _), .c (.int .i64 _)] => .pure True (Eng.B true)
  | _ => .bad⟩
theorem ok_laws_FnExactMasked : SpecOK Try.prog c_laws_FnExactMasked := by
  refine ⟨fp_3, fun args M => ?_⟩
  unfold c_laws_FnExactMasked
  dsimp only
  split
  case h_2 => trivial
  rename_i n m
  intro _
  refine goIn hf_3 rfl (nt := 16) rfl (rs := [.tmp 4]) rfl (C := [c_spec_Masked, c_impl_Masked]) ⟨ok_spec_Masked, ok_impl_Masked, trivial⟩ (q := fun _ => false) okQ_none mixed (O := fun _ => .nil) (by kernel_rfl) ?_
  simp only [↓WP, ↓grdD, ↓grdT, ↓binVC, ↓buildVC, ↓sliceVC, WQ, WN, Int.reduceToNat, renl, cll, rent, clt, ↓reduceIte, Nat.reduceLeDiff, Nat.reduceEqDiff, Nat.reduceLT, reduceCtorEq, List.append_nil, Nat.reduceAdd, Nat.reduceSub, Nat.reduceBEq, forall_const, implies_true, cond_true, cond_false, AV.ren, AC.ren, AV.cl, AC.cl, eq_self, List.all_cons, List.all_nil, AV.eqv, AC.eqv, eqvl, eqvt, Sl.eqv, List.map_append, List.length_map, List.length_append, List.length_replicate, List.length_set, List.map_replicate, nilVC, c_spec_Masked, c_impl_Masked, masked_same]
  simp

def c_laws_FnExactShowMode : Contract := ⟨4, fun args M => match args with
  | [.agg [.int .i64 _, .int .i64 _, .int .i64 _]] => .pure True (Eng.B true)
  | _ => .bad⟩
theorem ok_laws_FnExactShowMode : SpecOK Try.prog c_laws_FnExactShowMode := by
  refine ⟨fp_4, fun args M => ?_⟩
  unfold c_laws_FnExactShowMode
  dsimp only
  split
  case h_2 => trivial
  rename_i o g b
  intro _
  refine goIn hf_4 rfl (nt := 14) rfl (rs := [.tmp 2]) rfl (C := [c_laws_toMode, c_spec_ShowMode, c_impl_ShowMode]) ⟨ok_laws_toMode, ok_spec_ShowMode, ok_impl_ShowMode, trivial⟩ (q := fun _ => false) okQ_none mixed (O := fun _ => .nil) (by kernel_rfl) ?_
  simp only [↓WP, ↓grdD, ↓grdT, ↓binVC, ↓buildVC, ↓sliceVC, WQ, WN, Int.reduceToNat, renl, cll, rent, clt, ↓reduceIte, Nat.reduceLeDiff, Nat.reduceEqDiff, Nat.reduceLT, reduceCtorEq, List.append_nil, Nat.reduceAdd, Nat.reduceSub, Nat.reduceBEq, forall_const, implies_true, cond_true, cond_false, AV.ren, AC.ren, AV.cl, AC.cl, eq_self, List.all_cons, List.all_nil, AV.eqv, AC.eqv, eqvl, eqvt, Sl.eqv, List.map_append, List.length_map, List.length_append, List.length_replicate, List.length_set, List.map_replicate, nilVC, sz_25, c_laws_toMode, c_spec_ShowMode, c_impl_ShowMode]
  simp

def c_laws_FnExactPermOk : Contract := ⟨5, fun args M => match args with
  | [.agg [.int .i64 _, .sl a n _], .agg [.int .i64 _, .int .i64 _, .int .i64 _]] => .pure (n ≤ 9223372036854775807 ∧ (n ≤ 4294967296 → RowOk Int a n (M a.r))) (Eng.B true)
  | _ => .bad⟩
theorem ok_laws_FnExactPermOk : SpecOK Try.prog c_laws_FnExactPermOk := by
  refine ⟨fp_5, fun args M => ?_⟩
  unfold c_laws_FnExactPermOk
  dsimp only
  split
  case h_2 => trivial
  rename_i u a n c o g b
  rintro ⟨hn, hrow⟩
  refine goIn hf_5 rfl (nt := 33) rfl (rs := [.tmp 4]) rfl (C := [c_laws_szCred, c_laws_toCred, c_laws_toMode, c_spec_PermOk, c_impl_PermOk, c_laws_eqCred]) ⟨ok_laws_szCred, ok_laws_toCred, ok_laws_toMode, ok_spec_PermOk, ok_impl_PermOk, ok_laws_eqCred, trivial⟩ (q := fun f => [17, 13, 16, 18, 19].contains f) ⟨fun h => absurd h (by decide), fun _ => q_laws_toCred, fun _ => q_laws_toMode, fun _ => q_spec_PermOk, fun _ => q_impl_PermOk, fun _ => q_laws_eqCred, trivial⟩ mixed (O := ots [(5, otl [0, 2, 1, 3, 4, 5] .nil), (7, otl [0, 1, 2, 3, 4] .nil), (10, otl [0, 1, 2, 3, 4] .nil)]) (by kernel_rfl) ?_
  rcases Nat.lt_or_ge 1048576 n with hb | hb
  · simp only [↓WP, ↓grdD, ↓grdT, ↓binVC, ↓buildVC, ↓sliceVC, WQ, WN, Int.reduceToNat, renl, cll, rent, clt, ↓reduceIte, Nat.reduceLeDiff, Nat.reduceEqDiff, Nat.reduceLT, reduceCtorEq, List.append_nil, Nat.reduceAdd, Nat.reduceSub, Nat.reduceBEq, forall_const, implies_true, cond_true, cond_false, AV.ren, AC.ren, AV.cl, AC.cl, eq_self, List.all_cons, List.all_nil, AV.eqv, AC.eqv, eqvl, eqvt, Sl.eqv, List.map_append, List.length_map, List.length_append, List.length_replicate, List.length_set, List.map_replicate, nilVC, sz_32, sz_25, zr_35, sz_35, bt_4, c_laws_szCred, c_laws_toCred, c_laws_toMode, c_spec_PermOk, c_impl_PermOk, c_laws_eqCred, if_pos (show (1048576 : Int) < n by omega)]
    simp
    omega
  · have hrow := hrow (by omega)
    have hb2 : n ≤ 4294967296 := by omega
    simp only [↓WP, ↓grdD, ↓grdT, ↓binVC, ↓buildVC, ↓sliceVC, WQ, WN, Int.reduceToNat, renl, cll, rent, clt, ↓reduceIte, Nat.reduceLeDiff, Nat.reduceEqDiff, Nat.reduceLT, reduceCtorEq, List.append_nil, Nat.reduceAdd, Nat.reduceSub, Nat.reduceBEq, forall_const, implies_true, cond_true, cond_false, AV.ren, AC.ren, AV.cl, AC.cl, eq_self, List.all_cons, List.all_nil, AV.eqv, AC.eqv, eqvl, eqvt, Sl.eqv, List.map_append, List.length_map, List.length_append, List.length_replicate, List.length_set, List.map_replicate, nilVC, sz_32, sz_25, zr_35, sz_35, bt_4, c_laws_szCred, c_laws_toCred, c_laws_toMode, c_spec_PermOk, c_impl_PermOk, c_laws_eqCred, if_neg (show ¬ (1048576 : Int) < n by omega), hrow]
    simp [hb2]
    omega
def c_laws_FnExactMay : Contract := ⟨8, fun args M => match args with
  | [.agg [.int .i64 _, .sl a n _], .agg [.int .i64 _, .int .i64 _, .int .i64 _]] => .pure (n ≤ 9223372036854775807 ∧ (n ≤ 4294967296 → RowOk Int a n (M a.r))) (Eng.B true)
  | _ => .bad⟩
theorem ok_laws_FnExactMay : SpecOK Try.prog c_laws_FnExactMay := by
  refine ⟨fp_8, fun args M => ?_⟩
  unfold c_laws_FnExactMay
  dsimp only
  split
  case h_2 => trivial
  rename_i u a n c o g b
  rintro ⟨hn, hrow⟩
  refine goIn hf_8 rfl (nt := 33) rfl (rs := [.tmp 4]) rfl (C := [c_laws_szCred, c_laws_toCred, c_laws_toMode, c_spec_May, c_impl_May, c_laws_eqCred]) ⟨ok_laws_szCred, ok_laws_toCred, ok_laws_toMode, ok_spec_May, ok_impl_May, ok_laws_eqCred, trivial⟩ (q := fun f => [17, 13, 25, 26, 19].contains f) ⟨fun h => absurd h (by decide), fun _ => q_laws_toCred, fun _ => q_laws_toMode, fun _ => q_spec_May, fun _ => q_impl_May, fun _ => q_laws_eqCred, trivial⟩ mixed (O := ots [(5, otl [0, 2, 1, 3, 4, 5] .nil), (7, otl [0, 1, 2, 3, 4] .nil), (10, otl [0, 1, 2, 3, 4] .nil)]) (by kernel_rfl) ?_
  rcases Nat.lt_or_ge 1048576 n with hb | hb
  · simp only [↓WP, ↓grdD, ↓grdT, ↓binVC, ↓buildVC, ↓sliceVC, WQ, WN, Int.reduceToNat, renl, cll, rent, clt, ↓reduceIte, Nat.reduceLeDiff, Nat.reduceEqDiff, Nat.reduceLT, reduceCtorEq, List.append_nil, Nat.reduceAdd, Nat.reduceSub, Nat.reduceBEq, forall_const, implies_true, cond_true, cond_false, AV.ren, AC.ren, AV.cl, AC.cl, eq_self, List.all_cons, List.all_nil, AV.eqv, AC.eqv, eqvl, eqvt, Sl.eqv, List.map_append, List.length_map, List.length_append, List.length_replicate, List.length_set, List.map_replicate, nilVC, sz_32, sz_25, zr_35, sz_35, c_laws_szCred, c_laws_toCred, c_laws_toMode, c_spec_May, c_impl_May, c_laws_eqCred, if_pos (show (1048576 : Int) < n by omega)]
    simp
    omega
  · have hrow := hrow (by omega)
    have hb2 : n ≤ 4294967296 := by omega
    simp only [↓WP, ↓grdD, ↓grdT, ↓binVC, ↓buildVC, ↓sliceVC, WQ, WN, Int.reduceToNat, renl, cll, rent, clt, ↓reduceIte, Nat.reduceLeDiff, Nat.reduceEqDiff, Nat.reduceLT, reduceCtorEq, List.append_nil, Nat.reduceAdd, Nat.reduceSub, Nat.reduceBEq, forall_const, implies_true, cond_true, cond_false, AV.ren, AC.ren, AV.cl, AC.cl, eq_self, List.all_cons, List.all_nil, AV.eqv, AC.eqv, eqvl, eqvt, Sl.eqv, List.map_append, List.length_map, List.length_append, List.length_replicate, List.length_set, List.map_replicate, nilVC, sz_32, sz_25, zr_35, sz_35, c_laws_szCred, c_laws_toCred, c_laws_toMode, c_spec_May, c_impl_May, c_laws_eqCred, if_neg (show ¬ (1048576 : Int) < n by omega), hrow]
    simp [hb2]
    omega
def c_laws_FnExactChmod : Contract := ⟨6, fun args M => match args with
  | [.agg [.int .i64 _, .sl a n _], .agg [.int .i64 _, .int .i64 _, .int .i64 _], .c (.int .i64 _)] => .pure (n ≤ 9223372036854775807 ∧ (n ≤ 4294967296 → RowOk Int a n (M a.r))) (Eng.B true)
  | _ => .bad⟩
theorem ok_laws_FnExactChmod : SpecOK Try.prog c_laws_FnExactChmod := by
  refine ⟨fp_6, fun args M => ?_⟩
  unfold c_laws_FnExactChmod
  dsimp only
  split
  case h_2 => trivial
  rename_i u a n c o g b m
  rintro ⟨hn, hrow⟩
  refine goIn hf_6 rfl (nt := 51) rfl (rs := [.tmp 6]) rfl (C := [c_laws_szCred, c_laws_toCred, c_laws_toMode, c_spec_Chmod, c_impl_Chmod, c_laws_eqMode, c_laws_eqCred]) ⟨ok_laws_szCred, ok_laws_toCred, ok_laws_toMode, ok_spec_Chmod, ok_impl_Chmod, ok_laws_eqMode, ok_laws_eqCred, trivial⟩ (q := fun f => [17, 13, 20, 21, 19].contains f) ⟨fun h => absurd h (by decide), fun _ => q_laws_toCred, fun _ => q_laws_toMode, fun _ => q_spec_Chmod, fun _ => q_impl_Chmod, fun h => absurd h (by decide), fun _ => q_laws_eqCred, trivial⟩ mixed (O := ots [(5, otl [0, 2, 4] (.alt 1 (otl [] (.alt 3 (otl [] (.alt 5 (otl [6, 7, 8, 9, 10, 11] .nil) (otl [9, 5, 6, 7, 8, 10, 11] .nil))) (otl [9, 3, 5, 6, 7, 8, 10, 11] .nil))) (otl [9, 1, 3, 5, 6, 7, 8, 10, 11] .nil))), (7, otl [0, 1, 3] (.alt 2 (otl [] (.alt 4 (otl [5, 6, 7, 8, 9, 10] .nil) (otl [8, 4, 5, 6, 7, 9, 10] .nil))) (otl [8, 2, 4, 5, 6, 7, 9, 10] .nil))), (10, otl [0, 1, 2, 3, 4] .nil)]) (by kernel_rfl) ?_
  rcases Nat.lt_or_ge 1048576 n with hb | hb
  · simp only [↓WP, ↓grdD, ↓grdT, ↓binVC, ↓buildVC, ↓sliceVC, WQ, WN, Int.reduceToNat, renl, cll, rent, clt, ↓reduceIte, Nat.reduceLeDiff, Nat.reduceEqDiff, Nat.reduceLT, reduceCtorEq, List.append_nil, Nat.reduceAdd, Nat.reduceSub, Nat.reduceBEq, forall_const, implies_true, cond_true, cond_false, AV.ren, AC.ren, AV.cl, AC.cl, eq_self, List.all_cons, List.all_nil, AV.eqv, AC.eqv, eqvl, eqvt, Sl.eqv, List.map_append, List.length_map, List.length_append, List.length_replicate, List.length_set, List.map_replicate, nilVC, sz_32, sz_25, zr_27, sz_27, zr_35, sz_35, bt_4, c_laws_szCred, c_laws_toCred, c_laws_toMode, c_spec_Chmod, c_impl_Chmod, c_laws_eqMode, c_laws_eqCred, if_pos (show (1048576 : Int) < n by omega)]
    simp
    omega
  · have hrow := hrow (by omega)
    have hb2 : n ≤ 4294967296 := by omega
    simp only [↓WP, ↓grdD, ↓grdT, ↓binVC, ↓buildVC, ↓sliceVC, WQ, WN, Int.reduceToNat, renl, cll, rent, clt, ↓reduceIte, Nat.reduceLeDiff, Nat.reduceEqDiff, Nat.reduceLT, reduceCtorEq, List.append_nil, Nat.reduceAdd, Nat.reduceSub, Nat.reduceBEq, forall_const, implies_true, cond_true, cond_false, AV.ren, AC.ren, AV.cl, AC.cl, eq_self, List.all_cons, List.all_nil, AV.eqv, AC.eqv, eqvl, eqvt, Sl.eqv, List.map_append, List.length_map, List.length_append, List.length_replicate, List.length_set, List.map_replicate, nilVC, sz_32, sz_25, zr_27, sz_27, zr_35, sz_35, bt_4, c_laws_szCred, c_laws_toCred, c_laws_toMode, c_spec_Chmod, c_impl_Chmod, c_laws_eqMode, c_laws_eqCred, if_neg (show ¬ (1048576 : Int) < n by omega), hrow]
    simp [hb2]
    omega
def c_laws_FnExactChown : Contract := ⟨7, fun args M => match args with
  | [.agg [.int .i64 _, .sl a n _], .agg [.int .i64 _, .int .i64 _, .int .i64 _], .c (.int .i64 _), .c (.int .i64 _)] => .pure (n ≤ 9223372036854775807 ∧ (n ≤ 4294967296 → RowOk Int a n (M a.r))) (Eng.B true)
  | _ => .bad⟩
theorem ok_laws_FnExactChown : SpecOK Try.prog c_laws_FnExactChown := by
  refine ⟨fp_7, fun args M => ?_⟩
  unfold c_laws_FnExactChown
  dsimp only
  split
  case h_2 => trivial
  rename_i u a n c o g b m m'
  rintro ⟨hn, hrow⟩
  refine goIn hf_7 rfl (nt := 55) rfl (rs := [.tmp 8]) rfl (C := [c_laws_szCred, c_laws_toCred, c_laws_toMode, c_spec_Chown, c_impl_Chown, c_laws_eqMode, c_laws_eqCred]) ⟨ok_laws_szCred, ok_laws_toCred, ok_laws_toMode, ok_spec_Chown, ok_impl_Chown, ok_laws_eqMode, ok_laws_eqCred, trivial⟩ (q := fun f => [17, 13, 23, 24, 19].contains f) ⟨fun h => absurd h (by decide), fun _ => q_laws_toCred, fun _ => q_laws_toMode, fun _ => q_spec_Chown, fun _ => q_impl_Chown, fun h => absurd h (by decide), fun _ => q_laws_eqCred, trivial⟩ mixed (O := ots [(5, otl [0, 2, 4, 5] (.alt 1 (otl [] (.alt 3 (otl [] (.alt 6 (otl [7, 8, 9, 10, 11, 12] .nil) (otl [10, 6, 7, 8, 9, 11, 12] .nil))) (otl [10, 3, 6, 7, 8, 9, 11, 12] .nil))) (otl [10, 1, 3, 6, 7, 8, 9, 11, 12] .nil))), (7, otl [0, 1, 3, 4] (.alt 2 (otl [] (.alt 5 (otl [6, 7, 8, 9, 10, 11] .nil) (otl [9, 5, 6, 7, 8, 10, 11] .nil))) (otl [9, 2, 5, 6, 7, 8, 10, 11] .nil))), (10, otl [0, 1, 2, 3, 4] .nil)]) (by kernel_rfl) ?_
  rcases Nat.lt_or_ge 1048576 n with hb | hb
  · simp only [↓WP, ↓grdD, ↓grdT, ↓binVC, ↓buildVC, ↓sliceVC, WQ, WN, Int.reduceToNat, renl, cll, rent, clt, ↓reduceIte, Nat.reduceLeDiff, Nat.reduceEqDiff, Nat.reduceLT, reduceCtorEq, List.append_nil, Nat.reduceAdd, Nat.reduceSub, Nat.reduceBEq, forall_const, implies_true, cond_true, cond_false, AV.ren, AC.ren, AV.cl, AC.cl, eq_self, List.all_cons, List.all_nil, AV.eqv, AC.eqv, eqvl, eqvt, Sl.eqv, List.map_append, List.length_map, List.length_append, List.length_replicate, List.length_set, List.map_replicate, nilVC, sz_32, sz_25, zr_27, sz_27, zr_35, sz_35, bt_4, c_laws_szCred, c_laws_toCred, c_laws_toMode, c_spec_Chown, c_impl_Chown, c_laws_eqMode, c_laws_eqCred, if_pos (show (1048576 : Int) < n by omega)]
    simp
    omega
  · have hrow := hrow (by omega)
    have hb2 : n ≤ 4294967296 := by omega
    simp only [↓WP, ↓grdD, ↓grdT, ↓binVC, ↓buildVC, ↓sliceVC, WQ, WN, Int.reduceToNat, renl, cll, rent, clt, ↓reduceIte, Nat.reduceLeDiff, Nat.reduceEqDiff, Nat.reduceLT, reduceCtorEq, List.append_nil, Nat.reduceAdd, Nat.reduceSub, Nat.reduceBEq, forall_const, implies_true, cond_true, cond_false, AV.ren, AC.ren, AV.cl, AC.cl, eq_self, List.all_cons, List.all_nil, AV.eqv, AC.eqv, eqvl, eqvt, Sl.eqv, List.map_append, List.length_map, List.length_append, List.length_replicate, List.length_set, List.map_replicate, nilVC, sz_32, sz_25, zr_27, sz_27, zr_35, sz_35, bt_4, c_laws_szCred, c_laws_toCred, c_laws_toMode, c_spec_Chown, c_impl_Chown, c_laws_eqMode, c_laws_eqCred, if_neg (show ¬ (1048576 : Int) < n by omega), hrow]
    simp [hb2]
    omega
end Go.Eng.T
