/- CONTRACTS: May, Chmod, Chown. -/
import Derived.Test.YtfaecknkhbkiaaaFn4
set_option linter.unusedVariables false
set_option linter.unusedSimpArgs false
set_option linter.unusedSectionVars false
namespace Go.Eng.T
open Go.Proofs
open Cel (enc dec)
set_option maxRecDepth 100000
set_option maxHeartbeats 4000000

def hasG (X : List Int) (g : Int) : Bool := X.any fun x => decide (x = g)
def may (u : Int) (X : List Int) (o g b : Int) : Int :=
  if permOk u X o g b then
    if u = 0 then 6 + (if b % 2 = 1 ∨ b / 8 % 2 = 1 ∨ b / 64 % 2 = 1 then 1 else 0)
    else if u = o then b / 64 else if hasG X g then b / 8 % 8 else b % 8
  else 0
theorem or3_fin : ∀ x y z : Fin 8, bits .and .i64 (bits .or .i64 (bits .or .i64 (x.1 : Int) (y.1 : Int)) (z.1 : Int)) 1 = if z.1 % 2 = 1 ∨ y.1 % 2 = 1 ∨ x.1 % 2 = 1 then 1 else 0 := by decide +kernel
theorem or3 {x y z : Int} (hx : 0 ≤ x ∧ x ≤ 7) (hy : 0 ≤ y ∧ y ≤ 7) (hz : 0 ≤ z ∧ z ≤ 7) : bits .and .i64 (bits .or .i64 (bits .or .i64 x y) z) 1 = if z % 2 = 1 ∨ y % 2 = 1 ∨ x % 2 = 1 then 1 else 0 := by
  have := or3_fin ⟨x.toNat, by omega⟩ ⟨y.toNat, by omega⟩ ⟨z.toNat, by omega⟩
  simp only [Int.toNat_of_nonneg hx.1, Int.toNat_of_nonneg hy.1, Int.toNat_of_nonneg hz.1] at this
  rw [this]
  congr 1
  apply propext
  omega

def c_impl_May : Contract := ⟨26, fun args M => match args with
  | [.agg [.int .i64 u, .sl a n _], .agg [.int .i64 o, .int .i64 g, .int .i64 b]] => .pure (RowOk Int a n (M a.r)) (I (may u (row Int a n (M a.r)) o g b))
  | _ => .bad⟩
theorem ok_impl_May : SpecOK Try.prog c_impl_May := by
  refine ⟨fp_26, fun args M => ?_⟩
  unfold c_impl_May
  dsimp only
  split
  case h_2 => trivial
  rename_i u a n c o g b
  intro hrow
  refine goIn hf_26 rfl (nt := 51) rfl (rs := [.tmp 4]) rfl (C := [c_impl_PermOk, c_impl_digits, c_slices_Contains_int]) ⟨ok_impl_PermOk, ok_impl_digits, ok_slices_Contains_int, trivial⟩ (q := fun f => [].contains f) ⟨fun h => absurd h (by decide), fun h => absurd h (by decide), fun h => absurd h (by decide), trivial⟩ mixed (O := ots [(5, otl [0, 1, 2, 3, 4, 5, 6, 7, 8, 9, 10, 11, 12, 13] .nil)]) (by kernel_rfl) ?_
  obtain ⟨X, hX⟩ : ∃ X, row Int a n (M a.r) = X := ⟨_, rfl⟩
  rw [hX]
  by_cases hp : permOk u X o g b
  · have hb := hp.2.2.2
    simp only [↓WP, ↓grdD, ↓grdT, ↓binVC, ↓buildVC, ↓sliceVC, WQ, WN, Int.reduceToNat, renl, cll, rent, clt, ↓reduceIte, Nat.reduceLeDiff, Nat.reduceEqDiff, Nat.reduceLT, reduceCtorEq, List.append_nil, Nat.reduceAdd, Nat.reduceSub, Nat.reduceBEq, forall_const, implies_true, cond_true, cond_false, AV.ren, AC.ren, AV.cl, AC.cl, eq_self, List.all_cons, List.all_nil, AV.eqv, AC.eqv, eqvl, eqvt, Sl.eqv, List.map_append, List.length_map, List.length_append, List.length_replicate, List.length_set, List.map_replicate, nilVC, sz_35, sz_27, fl_27_2, sz_3, fl_35_0, el_30, fl_27_0, fl_35_1, sz_30, fl_27_1, c_impl_PermOk, c_impl_digits, c_slices_Contains_int, hX, decide_eq_true hp, hrow]
    repeat refine ⟨by omega, ?_⟩
    rw [or3 (by omega) (by omega) (by omega)]
    simp only [WB, eq_self]
    unfold may
    rw [if_pos hp]
    have e8 : b / 8 % 8 % 2 = b / 8 % 2 := by omega
    have e1 : b % 8 % 2 = b % 2 := by omega
    rw [e8, e1]
    refine ⟨fun hu => ?_, fun hu => ⟨fun ho => ?_, fun ho => ⟨fun hh => ?_, fun hh => ?_⟩⟩⟩
    · rw [if_pos hu]
      by_cases h : b % 2 = 1 ∨ b / 8 % 2 = 1 ∨ b / 64 % 2 = 1
      · rw [if_pos h]; exact ⟨by omega, by omega, by omega, rfl⟩
      · rw [if_neg h]; exact ⟨by omega, by omega, by omega, rfl⟩
    · rw [if_neg hu, if_pos ho]; exact ⟨by omega, rfl⟩
    · rw [if_neg hu, if_neg ho, if_pos (show hasG X g = true from hh)]; exact ⟨by omega, rfl⟩
    · rw [if_neg hu, if_neg ho, if_neg (by rw [show hasG X g = false from hh]; simp)]; exact ⟨by omega, rfl⟩
  · simp only [↓WP, ↓grdD, ↓grdT, ↓binVC, ↓buildVC, ↓sliceVC, WQ, WN, Int.reduceToNat, renl, cll, rent, clt, ↓reduceIte, Nat.reduceLeDiff, Nat.reduceEqDiff, Nat.reduceLT, reduceCtorEq, List.append_nil, Nat.reduceAdd, Nat.reduceSub, Nat.reduceBEq, forall_const, implies_true, cond_true, cond_false, AV.ren, AC.ren, AV.cl, AC.cl, eq_self, List.all_cons, List.all_nil, AV.eqv, AC.eqv, eqvl, eqvt, Sl.eqv, List.map_append, List.length_map, List.length_append, List.length_replicate, List.length_set, List.map_replicate, nilVC, sz_35, sz_27, fl_27_2, sz_3, fl_35_0, el_30, fl_27_0, fl_35_1, sz_30, fl_27_1, c_impl_PermOk, c_impl_digits, c_slices_Contains_int, hX, decide_eq_false hp, hrow]
    unfold may
    rw [if_neg hp]
theorem q_impl_May : Quiet c_impl_May := by
  intro args M
  unfold c_impl_May
  dsimp only
  split <;> first | trivial | (intro _; rfl)

def c_spec_May : Contract := ⟨25, fun args M => match args with
  | [.agg [.int .i64 u, .sl a n _], .agg [.int .i64 o, .int .i64 g, .int .i64 b]] => .pure (RowOk Int a n (M a.r)) (I (may u (row Int a n (M a.r)) o g b))
  | _ => .bad⟩
theorem ok_spec_May : SpecOK Try.prog c_spec_May := by
  refine ⟨fp_25, fun args M => ?_⟩
  unfold c_spec_May
  dsimp only
  split
  case h_2 => trivial
  rename_i u a n c o g b
  intro hrow
  refine goIn hf_25 rfl (nt := 54) rfl (rs := [.tmp 4]) rfl (C := [c_spec_PermOk, c_spec_l31Has]) ⟨ok_spec_PermOk, ok_spec_l31Has, trivial⟩ (q := fun _ => false) okQ_none mixed (O := fun _ => .nil) (by kernel_rfl) ?_
  obtain ⟨X, hX⟩ : ∃ X, row Int a n (M a.r) = X := ⟨_, rfl⟩
  rw [hX]
  by_cases hp : permOk u X o g b
  · have hb := hp.2.2.2
    have t2 : b.tmod 2 = b % 2 := Int.tmod_eq_emod_of_nonneg hb.1
    have t8 : b.tdiv 8 = b / 8 := Int.tdiv_eq_ediv_of_nonneg hb.1
    have t64 : b.tdiv 64 = b / 64 := Int.tdiv_eq_ediv_of_nonneg hb.1
    have m8 : b.tmod 8 = b % 8 := Int.tmod_eq_emod_of_nonneg hb.1
    have q1 : (b / 8).tmod 2 = b / 8 % 2 := Int.tmod_eq_emod_of_nonneg (by omega)
    have q2 : (b / 64).tmod 2 = b / 64 % 2 := Int.tmod_eq_emod_of_nonneg (by omega)
    have q3 : (b / 8).tmod 8 = b / 8 % 8 := Int.tmod_eq_emod_of_nonneg (by omega)
    simp only [↓WP, ↓grdD, ↓grdT, ↓binVC, ↓buildVC, ↓sliceVC, WQ, WN, Int.reduceToNat, renl, cll, rent, clt, ↓reduceIte, Nat.reduceLeDiff, Nat.reduceEqDiff, Nat.reduceLT, reduceCtorEq, List.append_nil, Nat.reduceAdd, Nat.reduceSub, Nat.reduceBEq, forall_const, implies_true, cond_true, cond_false, AV.ren, AC.ren, AV.cl, AC.cl, eq_self, List.all_cons, List.all_nil, AV.eqv, AC.eqv, eqvl, eqvt, Sl.eqv, List.map_append, List.length_map, List.length_append, List.length_replicate, List.length_set, List.map_replicate, nilVC, sz_35, sz_27, fl_35_0, sz_3, fl_27_2, fl_27_0, fl_35_1, sz_30, fl_27_1, c_spec_PermOk, c_spec_l31Has, hX, decide_eq_true hp, hrow, t2, t8, t64, m8, w64 (n := b / 8) (by omega) (by omega), w64 (n := b / 64) (by omega) (by omega), q1, q2, q3]
    simp only [WB, eq_self]
    unfold may
    rw [if_pos hp]
    refine ⟨fun hu => ?_, fun hu => ⟨fun ho => ?_, fun ho => ⟨fun hh => ?_, fun hh => ?_⟩⟩⟩
    · rw [if_pos hu]
      repeat refine ⟨by omega, ?_⟩
      refine ⟨fun h => ?_, fun h => ?_⟩
      · rw [if_pos (by omega)]; rfl
      · rw [if_neg (by omega)]; rfl
    · rw [if_neg hu, if_pos ho]
      exact ⟨by omega, rfl⟩
    · rw [if_neg hu, if_neg ho, if_pos (show hasG X g = true from hh)]
      exact ⟨by omega, by omega, rfl⟩
    · rw [if_neg hu, if_neg ho, if_neg (by rw [show hasG X g = false from hh]; simp)]
      exact ⟨by omega, rfl⟩
  · simp only [↓WP, ↓grdD, ↓grdT, ↓binVC, ↓buildVC, ↓sliceVC, WQ, WN, Int.reduceToNat, renl, cll, rent, clt, ↓reduceIte, Nat.reduceLeDiff, Nat.reduceEqDiff, Nat.reduceLT, reduceCtorEq, List.append_nil, Nat.reduceAdd, Nat.reduceSub, Nat.reduceBEq, forall_const, implies_true, cond_true, cond_false, AV.ren, AC.ren, AV.cl, AC.cl, eq_self, List.all_cons, List.all_nil, AV.eqv, AC.eqv, eqvl, eqvt, Sl.eqv, List.map_append, List.length_map, List.length_append, List.length_replicate, List.length_set, List.map_replicate, nilVC, sz_35, sz_27, fl_35_0, sz_3, fl_27_2, fl_27_0, fl_35_1, sz_30, fl_27_1, c_spec_PermOk, c_spec_l31Has, hX, decide_eq_false hp, hrow]
    unfold may
    rw [if_neg hp]
theorem q_spec_May : Quiet c_spec_May := by
  intro args M
  unfold c_spec_May
  dsimp only
  split <;> first | trivial | (intro _; rfl)

/-- what Chmod yields: the mode, and whether -/
def chmodV (u : Int) (X : List Int) (o g b n : Int) : Int × Int × Int × Bool :=
  if permOk u X o g b then (if (u ≠ 0 ∧ u ≠ o) ∨ ¬ (0 ≤ n ∧ n ≤ 511) then (o, g, b, false) else (o, g, n, true)) else (0, 0, 0, false)
def c_impl_Chmod : Contract := ⟨21, fun args M => match args with
  | [.agg [.int .i64 u, .sl a n _], .agg [.int .i64 o, .int .i64 g, .int .i64 b], .c (.int .i64 m)] => .pure (RowOk Int a n (M a.r)) (.tup [(true, [.int .i64 (chmodV u (row Int a n (M a.r)) o g b m).1, .int .i64 (chmodV u (row Int a n (M a.r)) o g b m).2.1, .int .i64 (chmodV u (row Int a n (M a.r)) o g b m).2.2.1]), (false, [.bool (chmodV u (row Int a n (M a.r)) o g b m).2.2.2])])
  | _ => .bad⟩
theorem ok_impl_Chmod : SpecOK Try.prog c_impl_Chmod := by
  refine ⟨fp_21, fun args M => ?_⟩
  unfold c_impl_Chmod
  dsimp only
  split
  case h_2 => trivial
  rename_i u a n c o g b m
  intro hrow
  refine goIn hf_21 rfl (nt := 34) rfl (rs := [.cell 6 27, .tmp 7]) rfl (C := [c_impl_PermOk, c_impl_isBits]) ⟨ok_impl_PermOk, ok_impl_isBits, trivial⟩ (q := fun _ => false) okQ_none mixed (O := fun _ => .nil) (by kernel_rfl) ?_
  obtain ⟨X, hX⟩ : ∃ X, row Int a n (M a.r) = X := ⟨_, rfl⟩
  rw [hX]
  by_cases hp : permOk u X o g b
  · simp only [↓WP, ↓grdD, ↓grdT, ↓binVC, ↓buildVC, ↓sliceVC, WQ, WN, Int.reduceToNat, renl, cll, rent, clt, ↓reduceIte, Nat.reduceLeDiff, Nat.reduceEqDiff, Nat.reduceLT, reduceCtorEq, List.append_nil, Nat.reduceAdd, Nat.reduceSub, Nat.reduceBEq, forall_const, implies_true, cond_true, cond_false, AV.ren, AC.ren, AV.cl, AC.cl, eq_self, List.all_cons, List.all_nil, AV.eqv, AC.eqv, eqvl, eqvt, Sl.eqv, List.map_append, List.length_map, List.length_append, List.length_replicate, List.length_set, List.map_replicate, nilVC, zr_27, sz_35, sz_27, fs_27, fl_35_0, sz_3, fl_27_0, fl_27_2, c_impl_PermOk, c_impl_isBits, hX, decide_eq_true hp, hrow]
    simp only [WB, eq_self]
    unfold chmodV
    rw [if_pos hp]
    refine ⟨fun h => ?_, fun h => ?_⟩
    · rw [if_pos (by omega)]; simp
    · rw [if_neg (by omega)]; simp
  · simp only [↓WP, ↓grdD, ↓grdT, ↓binVC, ↓buildVC, ↓sliceVC, WQ, WN, Int.reduceToNat, renl, cll, rent, clt, ↓reduceIte, Nat.reduceLeDiff, Nat.reduceEqDiff, Nat.reduceLT, reduceCtorEq, List.append_nil, Nat.reduceAdd, Nat.reduceSub, Nat.reduceBEq, forall_const, implies_true, cond_true, cond_false, AV.ren, AC.ren, AV.cl, AC.cl, eq_self, List.all_cons, List.all_nil, AV.eqv, AC.eqv, eqvl, eqvt, Sl.eqv, List.map_append, List.length_map, List.length_append, List.length_replicate, List.length_set, List.map_replicate, nilVC, zr_27, sz_35, sz_27, fs_27, fl_35_0, sz_3, fl_27_0, fl_27_2, c_impl_PermOk, c_impl_isBits, hX, decide_eq_false hp, hrow]
    unfold chmodV
    rw [if_neg hp]
    simp
theorem q_impl_Chmod : Quiet c_impl_Chmod := by
  intro args M
  unfold c_impl_Chmod
  dsimp only
  split <;> first | trivial | (intro _; rfl)
def c_spec_Chmod : Contract := ⟨20, fun args M => match args with
  | [.agg [.int .i64 u, .sl a n _], .agg [.int .i64 o, .int .i64 g, .int .i64 b], .c (.int .i64 m)] => .pure (RowOk Int a n (M a.r)) (.tup [(true, [.int .i64 (chmodV u (row Int a n (M a.r)) o g b m).1, .int .i64 (chmodV u (row Int a n (M a.r)) o g b m).2.1, .int .i64 (chmodV u (row Int a n (M a.r)) o g b m).2.2.1]), (false, [.bool (chmodV u (row Int a n (M a.r)) o g b m).2.2.2])])
  | _ => .bad⟩
theorem ok_spec_Chmod : SpecOK Try.prog c_spec_Chmod := by
  refine ⟨fp_20, fun args M => ?_⟩
  unfold c_spec_Chmod
  dsimp only
  split
  case h_2 => trivial
  rename_i u a n c o g b m
  intro hrow
  refine goIn hf_20 rfl (nt := 32) rfl (rs := [.cell 6 27, .tmp 7]) rfl (C := [c_spec_PermOk, c_spec_l1In]) ⟨ok_spec_PermOk, ok_spec_l1In, trivial⟩ (q := fun _ => false) okQ_none mixed (O := fun _ => .nil) (by kernel_rfl) ?_
  obtain ⟨X, hX⟩ : ∃ X, row Int a n (M a.r) = X := ⟨_, rfl⟩
  rw [hX]
  by_cases hp : permOk u X o g b
  · simp only [↓WP, ↓grdD, ↓grdT, ↓binVC, ↓buildVC, ↓sliceVC, WQ, WN, Int.reduceToNat, renl, cll, rent, clt, ↓reduceIte, Nat.reduceLeDiff, Nat.reduceEqDiff, Nat.reduceLT, reduceCtorEq, List.append_nil, Nat.reduceAdd, Nat.reduceSub, Nat.reduceBEq, forall_const, implies_true, cond_true, cond_false, AV.ren, AC.ren, AV.cl, AC.cl, eq_self, List.all_cons, List.all_nil, AV.eqv, AC.eqv, eqvl, eqvt, Sl.eqv, List.map_append, List.length_map, List.length_append, List.length_replicate, List.length_set, List.map_replicate, nilVC, zr_27, sz_35, sz_27, fs_27, fl_35_0, sz_3, fl_27_0, fl_27_2, c_spec_PermOk, c_spec_l1In, hX, decide_eq_true hp, hrow]
    simp only [WB, eq_self]
    unfold chmodV
    rw [if_pos hp]
    refine ⟨fun h => ?_, fun h => ?_⟩
    · rw [if_pos (by omega)]; simp
    · rw [if_neg (by omega)]; simp
  · simp only [↓WP, ↓grdD, ↓grdT, ↓binVC, ↓buildVC, ↓sliceVC, WQ, WN, Int.reduceToNat, renl, cll, rent, clt, ↓reduceIte, Nat.reduceLeDiff, Nat.reduceEqDiff, Nat.reduceLT, reduceCtorEq, List.append_nil, Nat.reduceAdd, Nat.reduceSub, Nat.reduceBEq, forall_const, implies_true, cond_true, cond_false, AV.ren, AC.ren, AV.cl, AC.cl, eq_self, List.all_cons, List.all_nil, AV.eqv, AC.eqv, eqvl, eqvt, Sl.eqv, List.map_append, List.length_map, List.length_append, List.length_replicate, List.length_set, List.map_replicate, nilVC, zr_27, sz_35, sz_27, fs_27, fl_35_0, sz_3, fl_27_0, fl_27_2, c_spec_PermOk, c_spec_l1In, hX, decide_eq_false hp, hrow]
    unfold chmodV
    rw [if_neg hp]
    simp
theorem q_spec_Chmod : Quiet c_spec_Chmod := by
  intro args M
  unfold c_spec_Chmod
  dsimp only
  split <;> first | trivial | (intro _; rfl)
/-- what Chown yields -/
def chownV (u : Int) (X : List Int) (o g b n m : Int) : Int × Int × Int × Bool :=
  if permOk u X o g b then (if ¬ (0 ≤ n ∧ n ≤ 999) ∨ ¬ (0 ≤ m ∧ m ≤ 999) ∨ (u ≠ 0 ∧ ¬ (u = o ∧ n = o ∧ hasG X m = true)) then (o, g, b, false) else (n, m, b, true)) else (0, 0, 0, false)
def c_impl_Chown : Contract := ⟨24, fun args M => match args with
  | [.agg [.int .i64 u, .sl a n _], .agg [.int .i64 o, .int .i64 g, .int .i64 b], .c (.int .i64 m), .c (.int .i64 m')] => .pure (RowOk Int a n (M a.r)) (.tup [(true, [.int .i64 (chownV u (row Int a n (M a.r)) o g b m m').1, .int .i64 (chownV u (row Int a n (M a.r)) o g b m m').2.1, .int .i64 (chownV u (row Int a n (M a.r)) o g b m m').2.2.1]), (false, [.bool (chownV u (row Int a n (M a.r)) o g b m m').2.2.2])])
  | _ => .bad⟩
theorem ok_impl_Chown : SpecOK Try.prog c_impl_Chown := by
  refine ⟨fp_24, fun args M => ?_⟩
  unfold c_impl_Chown
  dsimp only
  split
  case h_2 => trivial
  rename_i u a n c o g b m m'
  intro hrow
  refine goIn hf_24 rfl (nt := 58) rfl (rs := [.cell 8 27, .tmp 9]) rfl (C := [c_slices_Contains_int, c_impl_PermOk, c_impl_isName]) ⟨ok_slices_Contains_int, ok_impl_PermOk, ok_impl_isName, trivial⟩ (q := fun _ => false) okQ_none mixed (O := fun _ => .nil) (by kernel_rfl) ?_
  obtain ⟨X, hX⟩ : ∃ X, row Int a n (M a.r) = X := ⟨_, rfl⟩
  rw [hX]
  by_cases hp : permOk u X o g b
  · simp only [↓WP, ↓grdD, ↓grdT, ↓binVC, ↓buildVC, ↓sliceVC, WQ, WN, Int.reduceToNat, renl, cll, rent, clt, ↓reduceIte, Nat.reduceLeDiff, Nat.reduceEqDiff, Nat.reduceLT, reduceCtorEq, List.append_nil, Nat.reduceAdd, Nat.reduceSub, Nat.reduceBEq, forall_const, implies_true, cond_true, cond_false, AV.ren, AC.ren, AV.cl, AC.cl, eq_self, List.all_cons, List.all_nil, AV.eqv, AC.eqv, eqvl, eqvt, Sl.eqv, List.map_append, List.length_map, List.length_append, List.length_replicate, List.length_set, List.map_replicate, nilVC, zr_27, fl_35_0, sz_3, fl_27_0, fl_35_1, sz_30, sz_35, sz_27, fs_27, fl_27_1, c_slices_Contains_int, c_impl_PermOk, c_impl_isName, hX, decide_eq_true hp, hrow]
    simp only [WB, eq_self]
    unfold chownV
    rw [if_pos hp, show (X.any fun x => decide (x = m')) = hasG X m' from rfl]
    cases hasG X m' with
    | true =>
      simp only [WB, eq_self]
      refine ⟨fun h => ?_, fun h => ?_⟩
      · rw [if_pos (by omega)]; simp
      · rw [if_neg (by omega)]; simp
    | false =>
      simp only [WB, eq_self]
      refine ⟨fun h => ?_, fun h => ?_⟩
      · rw [if_pos (by omega)]; simp
      · rw [if_neg (by omega)]; simp
  · simp only [↓WP, ↓grdD, ↓grdT, ↓binVC, ↓buildVC, ↓sliceVC, WQ, WN, Int.reduceToNat, renl, cll, rent, clt, ↓reduceIte, Nat.reduceLeDiff, Nat.reduceEqDiff, Nat.reduceLT, reduceCtorEq, List.append_nil, Nat.reduceAdd, Nat.reduceSub, Nat.reduceBEq, forall_const, implies_true, cond_true, cond_false, AV.ren, AC.ren, AV.cl, AC.cl, eq_self, List.all_cons, List.all_nil, AV.eqv, AC.eqv, eqvl, eqvt, Sl.eqv, List.map_append, List.length_map, List.length_append, List.length_replicate, List.length_set, List.map_replicate, nilVC, zr_27, fl_35_0, sz_3, fl_27_0, fl_35_1, sz_30, sz_35, sz_27, fs_27, fl_27_1, c_slices_Contains_int, c_impl_PermOk, c_impl_isName, hX, decide_eq_false hp, hrow]
    unfold chownV
    rw [if_neg hp]
    simp
theorem q_impl_Chown : Quiet c_impl_Chown := by
  intro args M
  unfold c_impl_Chown
  dsimp only
  split <;> first | trivial | (intro _; rfl)
def c_spec_Chown : Contract := ⟨23, fun args M => match args with
  | [.agg [.int .i64 u, .sl a n _], .agg [.int .i64 o, .int .i64 g, .int .i64 b], .c (.int .i64 m), .c (.int .i64 m')] => .pure (RowOk Int a n (M a.r)) (.tup [(true, [.int .i64 (chownV u (row Int a n (M a.r)) o g b m m').1, .int .i64 (chownV u (row Int a n (M a.r)) o g b m m').2.1, .int .i64 (chownV u (row Int a n (M a.r)) o g b m m').2.2.1]), (false, [.bool (chownV u (row Int a n (M a.r)) o g b m m').2.2.2])])
  | _ => .bad⟩
theorem ok_spec_Chown : SpecOK Try.prog c_spec_Chown := by
  refine ⟨fp_23, fun args M => ?_⟩
  unfold c_spec_Chown
  dsimp only
  split
  case h_2 => trivial
  rename_i u a n c o g b m m'
  intro hrow
  refine goIn hf_23 rfl (nt := 56) rfl (rs := [.cell 8 27, .tmp 9]) rfl (C := [c_spec_PermOk, c_spec_l31Has, c_spec_l1In]) ⟨ok_spec_PermOk, ok_spec_l31Has, ok_spec_l1In, trivial⟩ (q := fun _ => false) okQ_none mixed (O := fun _ => .nil) (by kernel_rfl) ?_
  obtain ⟨X, hX⟩ : ∃ X, row Int a n (M a.r) = X := ⟨_, rfl⟩
  rw [hX]
  by_cases hp : permOk u X o g b
  · simp only [↓WP, ↓grdD, ↓grdT, ↓binVC, ↓buildVC, ↓sliceVC, WQ, WN, Int.reduceToNat, renl, cll, rent, clt, ↓reduceIte, Nat.reduceLeDiff, Nat.reduceEqDiff, Nat.reduceLT, reduceCtorEq, List.append_nil, Nat.reduceAdd, Nat.reduceSub, Nat.reduceBEq, forall_const, implies_true, cond_true, cond_false, AV.ren, AC.ren, AV.cl, AC.cl, eq_self, List.all_cons, List.all_nil, AV.eqv, AC.eqv, eqvl, eqvt, Sl.eqv, List.map_append, List.length_map, List.length_append, List.length_replicate, List.length_set, List.map_replicate, nilVC, zr_27, sz_35, sz_27, fs_27, fl_35_0, sz_3, fl_27_0, fl_35_1, sz_30, fl_27_1, c_spec_PermOk, c_spec_l31Has, c_spec_l1In, hX, decide_eq_true hp, hrow]
    simp only [WB, eq_self]
    unfold chownV
    rw [if_pos hp, show (X.any fun x => decide (x = m')) = hasG X m' from rfl]
    cases hasG X m' with
    | true =>
      simp only [WB, eq_self]
      refine ⟨fun h => ?_, fun h => ?_⟩
      · rw [if_pos (by omega)]; simp
      · rw [if_neg (by omega)]; simp
    | false =>
      simp only [WB, eq_self]
      refine ⟨fun h => ?_, fun h => ?_⟩
      · rw [if_pos (by omega)]; simp
      · rw [if_neg (by omega)]; simp
  · simp only [↓WP, ↓grdD, ↓grdT, ↓binVC, ↓buildVC, ↓sliceVC, WQ, WN, Int.reduceToNat, renl, cll, rent, clt, ↓reduceIte, Nat.reduceLeDiff, Nat.reduceEqDiff, Nat.reduceLT, reduceCtorEq, List.append_nil, Nat.reduceAdd, Nat.reduceSub, Nat.reduceBEq, forall_const, implies_true, cond_true, cond_false, AV.ren, AC.ren, AV.cl, AC.cl, eq_self, List.all_cons, List.all_nil, AV.eqv, AC.eqv, eqvl, eqvt, Sl.eqv, List.map_append, List.length_map, List.length_append, List.length_replicate, List.length_set, List.map_replicate, nilVC, zr_27, sz_35, sz_27, fs_27, fl_35_0, sz_3, fl_27_0, fl_35_1, sz_30, fl_27_1, c_spec_PermOk, c_spec_l31Has, c_spec_l1In, hX, decide_eq_false hp, hrow]
    unfold chownV
    rw [if_neg hp]
    simp
theorem q_spec_Chown : Quiet c_spec_Chown := by
  intro args M
  unfold c_spec_Chown
  dsimp only
  split <;> first | trivial | (intro _; rfl)
end Go.Eng.T
