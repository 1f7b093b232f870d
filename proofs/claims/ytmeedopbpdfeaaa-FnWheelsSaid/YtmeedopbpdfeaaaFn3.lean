/- wheel: WheelLeft. -/
import Derived.Test.YtmeedopbpdfeaaaFn2
set_option linter.unusedVariables false
set_option linter.unusedSimpArgs false
set_option linter.unusedSectionVars false
namespace Go.Eng.T
open Go.Proofs
open Cel (enc dec)
set_option maxRecDepth 100000
set_option maxHeartbeats 4000000
def leftOf (u v : Int) (X : List T3) (d : Int) : Int :=
  if wheelOk u v X ∧ 0 ≤ idx (fun x : T3 => decide (x.1 = d)) X then IntKind.i64.wrap ((X.getD (idx (fun x : T3 => decide (x.1 = d)) X).toNat default).2.1 - u) else 0
def c_impl_WheelLeft : Contract := ⟨16, fun args M => match args with
  | [.agg [.int .i64 u, .int .i64 v, .sl a n _], .c (.int .i64 d)] => .pure (RowOk T3 a n (M a.r)) (I (leftOf u v (row T3 a n (M a.r)) d))
  | _ => .bad⟩
theorem ok_impl_WheelLeft : fnP Try.prog c_impl_WheelLeft.f = true ∧ ∀ args M, (c_impl_WheelLeft.sp args M).OK Try.prog c_impl_WheelLeft.f args M := by
  refine ⟨fp_16, fun args M => ?_⟩
  unfold c_impl_WheelLeft
  dsimp only
  split
  case h_2 => trivial
  rename_i u v a n c d
  intro hrow
  obtain ⟨hs, X, hX, rfl, hat⟩ := hrow.x
  rw [hX]
  refine goIn hf_16 rfl (nt := 25) rfl (rs := [.tmp 4]) rfl (C := [c_impl_timerAt, c_impl_WheelOk]) ⟨(by first | exact .inl ok_impl_timerAt | exact ok_impl_timerAt), (by first | exact .inl ok_impl_WheelOk | exact ok_impl_WheelOk), trivial⟩ (q := fun f => [].contains f) ⟨fun h => absurd h (by decide), fun h => absurd h (by decide), trivial⟩ mixed (O := ots [(4, otl [0, 1, 2, 3, 4, 5, 6, 7, 8, 9] .nil)]) (by kernel_rfl) ?_
  obtain ⟨j, hj⟩ : ∃ j, j = idx (fun x : T3 => decide (x.1 = d)) X := ⟨_, rfl⟩
  have hjr := idx_range (fun x : T3 => decide (x.1 = d)) X
  rw [← hj] at hjr
  by_cases h2 : wheelOk u v X ∧ 0 ≤ j
  · obtain ⟨m, rfl⟩ : ∃ m : Nat, j = m := ⟨j.toNat, by omega⟩
    have hl : leftOf u v X d = IntKind.i64.wrap ((X.getD m default).2.1 - u) := by rw [leftOf, ← hj, if_pos h2, Int.toNat_natCast]
    have hlt : decide ((m : Int) < 0) = false := by simp
    obtain ⟨own, ty, cnt, cap, len, get, hM, hf, hic, hkn, hget⟩ := hat (by omega)
    have hrow' := hrow
    rw [hM] at hrow' hX
    have hXu : row T3 a.up X.length (some (Rg.arr own ty 3 cnt cap len fun i k => List.map AC.up (get i k))) = X := (row_up (α := T3) (a := a) (n := X.length) (o := some (.arr own ty (Cel.sz T3) cnt cap len get))).trans hX
    have hRu : RowOk T3 a.up X.length (some (Rg.arr own ty 3 cnt cap len fun i k => List.map AC.up (get i k))) := (RowOk_up (α := T3) (a := a) (n := X.length) (o := some (.arr own ty (Cel.sz T3) cnt cap len get))).mpr hrow'
    simp only [↓WP, ↓grdD, ↓grdT, ↓un_dead, ↓binVC, ↓buildVC, ↓sliceVC, WQ, WN, Int.reduceToNat, renl, cll, rent, clt, ↓reduceIte, Nat.reduceLeDiff, Nat.reduceEqDiff, Nat.reduceLT, reduceCtorEq, List.append_nil, Nat.reduceAdd, Nat.reduceSub, Nat.reduceBEq, forall_const, implies_true, cond_true, cond_false, AV.ren, AC.ren, AV.cl, AC.cl, eq_self, List.all_cons, List.all_nil, AV.eqv, AC.eqv, eqvl, eqvt, Sl.eqv, List.map_append, List.length_map, List.length_append, List.length_replicate, List.length_set, List.map_replicate, nilVC, sz_29, fl_29_2, sz_27, el_27, fl_51_1, sz_3, fl_29_0, c_impl_timerAt, c_impl_WheelOk, hM, hf, hXu, hRu, ← hj, hlt, decide_eq_true h2.1, hget m (by omega)]
    rw [hl]
    exact ⟨by omega, ⟨hic, by omega⟩, rfl⟩
  · have hl : leftOf u v X d = 0 := by rw [leftOf, ← hj, if_neg h2]
    simp only [↓WP, ↓grdD, ↓grdT, ↓un_dead, ↓binVC, ↓buildVC, ↓sliceVC, WQ, WN, Int.reduceToNat, renl, cll, rent, clt, ↓reduceIte, Nat.reduceLeDiff, Nat.reduceEqDiff, Nat.reduceLT, reduceCtorEq, List.append_nil, Nat.reduceAdd, Nat.reduceSub, Nat.reduceBEq, forall_const, implies_true, cond_true, cond_false, AV.ren, AC.ren, AV.cl, AC.cl, eq_self, List.all_cons, List.all_nil, AV.eqv, AC.eqv, eqvl, eqvt, Sl.eqv, List.map_append, List.length_map, List.length_append, List.length_replicate, List.length_set, List.map_replicate, nilVC, sz_29, fl_29_2, sz_27, el_27, fl_51_1, sz_3, fl_29_0, c_impl_timerAt, c_impl_WheelOk, hX, ← hj]
    simp only [WB, eq_self]
    rw [hl]
    exact ⟨hrow, fun _ => hrow, fun _ => rfl, fun h => absurd ⟨h.2, by omega⟩ h2⟩
theorem q_impl_WheelLeft : Quiet c_impl_WheelLeft := by
  intro args M
  unfold c_impl_WheelLeft
  dsimp only
  split <;> first | trivial | (intro _; rfl)
def c_spec_WheelLeft : Contract := ⟨15, fun args M => match args with
  | [.agg [.int .i64 u, .int .i64 v, .sl a n _], .c (.int .i64 d)] => .pure (RowOk T3 a n (M a.r)) (I (leftOf u v (row T3 a n (M a.r)) d))
  | _ => .bad⟩
theorem ok_spec_WheelLeft : fnP Try.prog c_spec_WheelLeft.f = true ∧ ∀ args M, (c_spec_WheelLeft.sp args M).OK Try.prog c_spec_WheelLeft.f args M := by
  refine ⟨fp_15, fun args M => ?_⟩
  unfold c_spec_WheelLeft
  dsimp only
  split
  case h_2 => trivial
  rename_i u v a n c d
  intro hrow
  obtain ⟨hs, X, hX, rfl, hat⟩ := hrow.x
  rw [hX]
  refine goIn hf_15 rfl (nt := 34) rfl (rs := [.tmp 4]) rfl (C := [c_spec_WheelOk]) ⟨(by first | exact .inl ok_spec_WheelOk | exact ok_spec_WheelOk), trivial⟩ (q := fun f => [].contains f) ⟨fun h => absurd h (by decide), trivial⟩ mixed (O := ots [(5, otl [0, 1, 2, 3, 4, 5, 6, 7, 8, 9] .nil)]) (by kernel_rfl) ?_
  simp only [↓WP, ↓grdD, ↓grdT, ↓un_dead, ↓binVC, ↓buildVC, ↓sliceVC, WQ, WN, Int.reduceToNat, renl, cll, rent, clt, ↓reduceIte, Nat.reduceLeDiff, Nat.reduceEqDiff, Nat.reduceLT, reduceCtorEq, List.append_nil, Nat.reduceAdd, Nat.reduceSub, Nat.reduceBEq, forall_const, implies_true, cond_true, cond_false, AV.ren, AC.ren, AV.cl, AC.cl, eq_self, List.all_cons, List.all_nil, AV.eqv, AC.eqv, eqvl, eqvt, Sl.eqv, List.map_append, List.length_map, List.length_append, List.length_replicate, List.length_set, List.map_replicate, nilVC, fl_29_2, sz_27, sd_27, sz_29, el_27, fl_51_0, sz_3, fl_51_1, fl_29_0, c_spec_WheelOk]
  refine loopI (J := {i : Nat // i ≤ X.length ∧ clear (fun x : T3 => decide (x.1 = d)) X i}) (fun i => ⟨slots 34 [(1, I d), (2, .c (.ptr ⟨.loc 0, 0, 0, 0⟩)), (5, I i.1)], M, [], [.box 29 [.int .i64 u, .int .i64 v, .sl a.up X.length c]]⟩) (fun i => X.length - i.1) ⟨0, by omega, clear_zero _ _⟩ (Le_intro [0] (by simp [WL, WNL, swA_new, swA_ne, nest_sw_ne, mapLL, List.mem_cons, Nat.reduceAdd, Nat.reduceLT, Nat.reduceLeDiff, Nat.reduceEqDiff, okU, List.nodup_cons, List.not_mem_nil, toT, toL, toO, keysO, renl, rent, cll, clt, eq_self, AV.eqv, AC.eqv, eqvl, eqvt, Sl.eqv, rowsLe, mapLL, rowsCl, List.map_append, List.length_map, List.length_append, List.length_set, List.map_replicate, rowG, List.getElem?_cons_zero, List.getElem?_cons_succ, List.getElem?_nil, List.append_nil, List.nil_append, List.cons_append, ghosts, St.gh, Option.some.injEq, implies_true, setT, AV.ren, AC.ren, AV.cl, AC.cl, List.replicate_succ, List.replicate_zero, List.nodup_nil, List.length_nil, List.length_cons, List.getD_cons_zero, List.getD_cons_succ, ↓reduceIte])) ?_
  rintro ⟨i, hi, he⟩
  have hw := wS (i := i) (by omega)
  by_cases hok : wheelOk u v X
  · rcases Nat.lt_or_ge i X.length with hlt | hge
    · obtain ⟨own, ty, cnt, cap, len, get, hM, hf, hic, hkn, hget⟩ := hat (by omega)
      have hrow' := hrow
      rw [hM] at hrow' hX
      have hXu : row T3 a.up X.length (some (Rg.arr own ty 3 cnt cap len fun i k => List.map AC.up (get i k))) = X := (row_up (α := T3) (a := a) (n := X.length) (o := some (.arr own ty (Cel.sz T3) cnt cap len get))).trans hX
      have hRu : RowOk T3 a.up X.length (some (Rg.arr own ty 3 cnt cap len fun i k => List.map AC.up (get i k))) := (RowOk_up (α := T3) (a := a) (n := X.length) (o := some (.arr own ty (Cel.sz T3) cnt cap len get))).mpr hrow'
      simp only [↓WP, ↓grdD, ↓grdT, ↓un_dead, ↓binVC, ↓buildVC, ↓sliceVC, WQ, WN, Int.reduceToNat, renl, cll, rent, clt, ↓reduceIte, Nat.reduceLeDiff, Nat.reduceEqDiff, Nat.reduceLT, reduceCtorEq, List.append_nil, Nat.reduceAdd, Nat.reduceSub, Nat.reduceBEq, forall_const, implies_true, cond_true, cond_false, AV.ren, AC.ren, AV.cl, AC.cl, eq_self, List.all_cons, List.all_nil, AV.eqv, AC.eqv, eqvl, eqvt, Sl.eqv, List.map_append, List.length_map, List.length_append, List.length_replicate, List.length_set, List.map_replicate, nilVC, fl_29_2, sz_27, sd_27, sz_29, el_27, fl_51_0, sz_3, fl_51_1, fl_29_0, c_spec_WheelOk, dlt hlt, hw, hM, hf, hXu, hRu, hget i hlt, decide_eq_true hok]
      simp only [WB, eq_self]
      refine ⟨by omega, ⟨hic, by omega⟩, fun h1 => ?_, fun h1 => ?_⟩
      · have hid := idx_hit (p := fun x : T3 => decide (x.1 = d)) he hlt (decide_eq_true h1)
        have hl : leftOf u v X d = IntKind.i64.wrap ((X.getD i default).2.1 - u) := by rw [leftOf, hid, if_pos ⟨hok, by omega⟩, Int.toNat_natCast]
        rw [hl]
        exact ⟨by omega, ⟨hic, by omega⟩, rfl⟩
      · exact ⟨⟨i + 1, hlt, clear_succ he (decide_eq_false h1)⟩, Le_intro [0] (by simp [WL, WNL, swA_new, swA_ne, nest_sw_ne, mapLL, List.mem_cons, Nat.reduceAdd, Nat.reduceLT, Nat.reduceLeDiff, Nat.reduceEqDiff, okU, List.nodup_cons, List.not_mem_nil, toT, toL, toO, keysO, renl, rent, cll, clt, eq_self, AV.eqv, AC.eqv, eqvl, eqvt, Sl.eqv, rowsLe, mapLL, rowsCl, List.map_append, List.length_map, List.length_append, List.length_set, List.map_replicate, rowG, List.getElem?_cons_zero, List.getElem?_cons_succ, List.getElem?_nil, List.append_nil, List.nil_append, List.cons_append, ghosts, St.gh, Option.some.injEq, implies_true, setT, AV.ren, AC.ren, AV.cl, AC.cl, List.replicate_succ, List.replicate_zero, List.nodup_nil, List.length_nil, List.length_cons, List.getD_cons_zero, List.getD_cons_succ, ↓reduceIte]), by show X.length - (i + 1) < X.length - i; omega⟩
    · obtain rfl : i = X.length := by omega
      simp only [↓WP, ↓grdD, ↓grdT, ↓un_dead, ↓binVC, ↓buildVC, ↓sliceVC, WQ, WN, Int.reduceToNat, renl, cll, rent, clt, ↓reduceIte, Nat.reduceLeDiff, Nat.reduceEqDiff, Nat.reduceLT, reduceCtorEq, List.append_nil, Nat.reduceAdd, Nat.reduceSub, Nat.reduceBEq, forall_const, implies_true, cond_true, cond_false, AV.ren, AC.ren, AV.cl, AC.cl, eq_self, List.all_cons, List.all_nil, AV.eqv, AC.eqv, eqvl, eqvt, Sl.eqv, List.map_append, List.length_map, List.length_append, List.length_replicate, List.length_set, List.map_replicate, nilVC, fl_29_2, sz_27, sd_27, sz_29, el_27, fl_51_0, sz_3, fl_51_1, fl_29_0, c_spec_WheelOk, dge hge, hw]
      have hid := idx_miss he
      have hl : leftOf u v X d = 0 := by rw [leftOf, hid, if_neg (by omega)]
      simp [hl]
  · have hl : leftOf u v X d = 0 := by rw [leftOf, if_neg (fun h => hok h.1)]
    simp only [↓WP, ↓grdD, ↓grdT, ↓un_dead, ↓binVC, ↓buildVC, ↓sliceVC, WQ, WN, Int.reduceToNat, renl, cll, rent, clt, ↓reduceIte, Nat.reduceLeDiff, Nat.reduceEqDiff, Nat.reduceLT, reduceCtorEq, List.append_nil, Nat.reduceAdd, Nat.reduceSub, Nat.reduceBEq, forall_const, implies_true, cond_true, cond_false, AV.ren, AC.ren, AV.cl, AC.cl, eq_self, List.all_cons, List.all_nil, AV.eqv, AC.eqv, eqvl, eqvt, Sl.eqv, List.map_append, List.length_map, List.length_append, List.length_replicate, List.length_set, List.map_replicate, nilVC, fl_29_2, sz_27, sd_27, sz_29, el_27, fl_51_0, sz_3, fl_51_1, fl_29_0, c_spec_WheelOk, hX, decide_eq_false hok, hl]
    simp only [WB, eq_self]
    exact fun _ => hrow
theorem q_spec_WheelLeft : Quiet c_spec_WheelLeft := by
  intro args M
  unfold c_spec_WheelLeft
  dsimp only
  split <;> first | trivial | (intro _; rfl)
def c_laws_FnExactWheelLeft : Contract := ⟨4, fun args M => match args with
  | [.agg [.int .i64 _, .int .i64 _, .sl a n _], .c (.int .i64 _)] => .pure (n ≤ 9223372036854775807 ∧ (n ≤ 4294967296 → RowOk T3 a n (M a.r))) (Eng.B true)
  | _ => .bad⟩
theorem ok_laws_FnExactWheelLeft : fnP Try.prog c_laws_FnExactWheelLeft.f = true ∧ ∀ args M, (c_laws_FnExactWheelLeft.sp args M).OK Try.prog c_laws_FnExactWheelLeft.f args M := by
  refine ⟨fp_4, fun args M => ?_⟩
  unfold c_laws_FnExactWheelLeft
  dsimp only
  split
  case h_2 => trivial
  rename_i u v a n c d
  rintro ⟨hn, hrow⟩
  refine goIn hf_4 rfl (nt := 31) rfl (rs := [.tmp 4]) rfl (C := [c_laws_szWheel, c_laws_toWheel, c_spec_WheelLeft, c_impl_WheelLeft, c_laws_eqWheel]) ⟨(by first | exact .inl ok_laws_szWheel | exact ok_laws_szWheel), (by first | exact .inl ok_laws_toWheel | exact ok_laws_toWheel), (by first | exact .inl ok_spec_WheelLeft | exact ok_spec_WheelLeft), (by first | exact .inl ok_impl_WheelLeft | exact ok_impl_WheelLeft), (by first | exact .inl ok_laws_eqWheel | exact ok_laws_eqWheel), trivial⟩ (q := fun f => [12, 14].contains f) ⟨fun h => absurd h (by decide), fun _ => q_laws_toWheel, fun h => absurd h (by decide), fun h => absurd h (by decide), fun _ => q_laws_eqWheel, trivial⟩ mixed (O := ots [(10, otl [0, 1, 2, 3, 4] .nil)]) (by kernel_rfl) ?_
  rcases Nat.lt_or_ge 1048576 n with hb | hb
  · simp only [↓WP, ↓grdD, ↓grdT, ↓un_dead, ↓binVC, ↓buildVC, ↓sliceVC, WQ, WN, Int.reduceToNat, renl, cll, rent, clt, ↓reduceIte, Nat.reduceLeDiff, Nat.reduceEqDiff, Nat.reduceLT, reduceCtorEq, List.append_nil, Nat.reduceAdd, Nat.reduceSub, Nat.reduceBEq, forall_const, implies_true, cond_true, cond_false, AV.ren, AC.ren, AV.cl, AC.cl, eq_self, List.all_cons, List.all_nil, AV.eqv, AC.eqv, eqvl, eqvt, Sl.eqv, List.map_append, List.length_map, List.length_append, List.length_replicate, List.length_set, List.map_replicate, nilVC, sz_24, zr_29, sz_29, c_laws_szWheel, c_laws_toWheel, c_spec_WheelLeft, c_impl_WheelLeft, c_laws_eqWheel, if_pos (show (1048576 : Int) < n by omega)]
    simp
    omega
  · have hrow := hrow (by omega)
    have hb2 : n ≤ 4294967296 := by omega
    simp only [↓WP, ↓grdD, ↓grdT, ↓un_dead, ↓binVC, ↓buildVC, ↓sliceVC, WQ, WN, Int.reduceToNat, renl, cll, rent, clt, ↓reduceIte, Nat.reduceLeDiff, Nat.reduceEqDiff, Nat.reduceLT, reduceCtorEq, List.append_nil, Nat.reduceAdd, Nat.reduceSub, Nat.reduceBEq, forall_const, implies_true, cond_true, cond_false, AV.ren, AC.ren, AV.cl, AC.cl, eq_self, List.all_cons, List.all_nil, AV.eqv, AC.eqv, eqvl, eqvt, Sl.eqv, List.map_append, List.length_map, List.length_append, List.length_replicate, List.length_set, List.map_replicate, nilVC, sz_24, zr_29, sz_29, c_laws_szWheel, c_laws_toWheel, c_spec_WheelLeft, c_impl_WheelLeft, c_laws_eqWheel, if_neg (show ¬ (1048576 : Int) < n by omega), hrow]
    simp [hb2]
    omega
end Go.Eng.T
