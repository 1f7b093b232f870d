/- wheel: WheelOk. -/
import Derived.Test.YtmeedopbpdfeaaaFn1
set_option linter.unusedVariables false
set_option linter.unusedSimpArgs false
set_option linter.unusedSectionVars false
namespace Go.Eng.T
open Go.Proofs
open Cel (enc dec)
set_option maxRecDepth 100000
set_option maxHeartbeats 4000000
/-- timer i is right -/
def wOk (X : List T3) (u v : Int) (i : Nat) : Prop := (u + 1 ≤ (X.getD i default).2.1 ∧ (X.getD i default).2.1 ≤ 2000000) ∧ (1 ≤ (X.getD i default).1 ∧ (X.getD i default).1 ≤ v - 1) ∧ (0 ≤ (X.getD i default).2.2 ∧ (X.getD i default).2.2 ≤ 1000) ∧ (0 < i → ¬ ((X.getD i default).2.1 < (X.getD (i - 1) default).2.1 ∨ ((X.getD (i - 1) default).2.1 = (X.getD i default).2.1 ∧ (X.getD i default).1 ≤ (X.getD (i - 1) default).1))) ∧ ∀ j, j < i → (X.getD j default).1 ≠ (X.getD i default).1
def wheelOk (u v : Int) (X : List T3) : Prop := (0 ≤ u ∧ u ≤ 1000000) ∧ (1 ≤ v ∧ v ≤ 10000) ∧ X.length ≤ 12 ∧ ∀ i, i < X.length → wOk X u v i
instance (X : List T3) (u v : Int) (i : Nat) : Decidable (wOk X u v i) := by unfold wOk; infer_instance
instance (u v : Int) (X : List T3) : Decidable (wheelOk u v X) := by unfold wheelOk; infer_instance
theorem wOk_all {X : List T3} {u v : Int} {i : Nat} (h : ∀ j, j < i → wOk X u v j) (k : wOk X u v i) : ∀ j, j < i + 1 → wOk X u v j := fun j hj => by
  rcases Nat.lt_or_eq_of_le (Nat.le_of_lt_succ hj) with h1 | h1
  · exact h j h1
  · subst h1; exact k
theorem idx_first {X : List T3} {i : Nat} (hi : i < X.length) : idx (fun x : T3 => decide (x.1 = (X.getD i default).1)) X = i ↔ ∀ j, j < i → (X.getD j default).1 ≠ (X.getD i default).1 := by
  constructor
  · intro h j hj e
    obtain ⟨m, hm, h1, h2, h3⟩ := idx_nonneg (p := fun x : T3 => decide (x.1 = (X.getD i default).1)) (X := X) (by omega)
    have := h3 j (by omega)
    simp only [decide_eq_false_iff_not] at this
    exact this e
  · intro h
    exact idx_hit (p := fun x : T3 => decide (x.1 = (X.getD i default).1)) (fun j hj => decide_eq_false (h j hj)) hi (by simp)
def c_impl_WheelOk : Contract := ⟨13, fun args M => match args with
  | [.agg [.int .i64 u, .int .i64 v, .sl a n _]] => .pure (RowOk T3 a n (M a.r)) (Eng.B (decide (wheelOk u v (row T3 a n (M a.r)))))
  | _ => .bad⟩
theorem ok_impl_WheelOk : fnP Try.prog c_impl_WheelOk.f = true ∧ ∀ args M, (c_impl_WheelOk.sp args M).OK Try.prog c_impl_WheelOk.f args M := by
  refine ⟨fp_13, fun args M => ?_⟩
  unfold c_impl_WheelOk
  dsimp only
  split
  case h_2 => trivial
  rename_i u v a n c
  intro hrow
  obtain ⟨hs, X, hX, rfl, hat⟩ := hrow.x
  rw [hX]
  refine goIn hf_13 rfl (nt := 75) rfl (rs := [.tmp 2]) rfl (C := [c_impl_in, c_impl_before, c_impl_timerAt]) ⟨(by first | exact .inl ok_impl_in | exact ok_impl_in), (by first | exact .inl ok_impl_before | exact ok_impl_before), (by first | exact .inl ok_impl_timerAt | exact ok_impl_timerAt), trivial⟩ (q := fun f => [38, 39, 40].contains f) ⟨fun _ => q_impl_in, fun _ => q_impl_before, fun _ => q_impl_timerAt, trivial⟩ mixed (O := ots [(6, otl [0, 1, 2, 3, 4, 5, 6, 7, 8, 9, 10, 11, 12, 13, 14, 15, 16, 17, 18, 19, 20, 21, 22, 23, 24, 25, 26, 27, 28, 29, 30, 31, 32, 33, 34, 35, 36, 37, 38, 39, 40, 42, 41, 43, 44] .nil)]) (by kernel_rfl) ?_
  simp only [↓WP, ↓grdD, ↓grdT, ↓un_dead, ↓binVC, ↓buildVC, ↓sliceVC, WQ, WN, Int.reduceToNat, renl, cll, rent, clt, ↓reduceIte, Nat.reduceLeDiff, Nat.reduceEqDiff, Nat.reduceLT, reduceCtorEq, List.append_nil, Nat.reduceAdd, Nat.reduceSub, Nat.reduceBEq, forall_const, implies_true, cond_true, cond_false, AV.ren, AC.ren, AV.cl, AC.cl, eq_self, List.all_cons, List.all_nil, AV.eqv, AC.eqv, eqvl, eqvt, Sl.eqv, List.map_append, List.length_map, List.length_append, List.length_replicate, List.length_set, List.map_replicate, nilVC, fl_29_0, sz_3, fl_29_1, fl_29_2, sz_27, sd_27, el_27, sz_51, zr_51, fl_51_1, fl_51_0, fl_51_2, sz_29, c_impl_in, c_impl_before, c_impl_timerAt]
  simp only [WB, eq_self]
  refine ⟨fun h hc => ?_, fun h => ?_⟩
  · unfold wheelOk at hc
    omega
  · refine loopI (J := {i : Nat // i ≤ X.length ∧ ∀ j, j < i → wOk X u v j}) (fun i => ⟨slots 75 [(1, .c (.ptr ⟨.loc 0, 0, 0, 0⟩)), (22, .c (.sl a.up X.length c)), (23, I X.length), (24, I i.1)], M, [], [.box 29 [.int .i64 u, .int .i64 v, .sl a.up X.length c]]⟩) (fun i => X.length - i.1) ⟨0, by omega, fun j hj => absurd hj (by omega)⟩ (Le_intro [0] (by simp [WL, WNL, swA_new, swA_ne, nest_sw_ne, mapLL, List.mem_cons, Nat.reduceAdd, Nat.reduceLT, Nat.reduceLeDiff, Nat.reduceEqDiff, okU, List.nodup_cons, List.not_mem_nil, toT, toL, toO, keysO, renl, rent, cll, clt, eq_self, AV.eqv, AC.eqv, eqvl, eqvt, Sl.eqv, rowsLe, mapLL, rowsCl, List.map_append, List.length_map, List.length_append, List.length_set, List.map_replicate, rowG, List.getElem?_cons_zero, List.getElem?_cons_succ, List.getElem?_nil, List.append_nil, List.nil_append, List.cons_append, ghosts, St.gh, Option.some.injEq, implies_true, setT, AV.ren, AC.ren, AV.cl, AC.cl, List.replicate_succ, List.replicate_zero, List.nodup_nil, List.length_nil, List.length_cons, List.getD_cons_zero, List.getD_cons_succ, ↓reduceIte])) ?_
    rintro ⟨i, hi, he⟩
    have hw := wS (i := i) (by omega)
    have hwu : IntKind.i64.wrap (u + 1) = u + 1 := w64 (by omega) (by omega)
    have hwv : IntKind.i64.wrap (v - 1) = v - 1 := w64 (by omega) (by omega)
    rcases Nat.lt_or_ge i X.length with hlt | hge
    · obtain ⟨own, ty, cnt, cap, len, get, hM, hf, hic, hkn, hget⟩ := hat (by omega)
      have hw1 : IntKind.i64.wrap ((i : Int) - 1) = (i : Int) - 1 := w64 (by omega) (by omega)
      have hg1 : get a.i (a.k + ((i : Int) - 1).toNat) = enc (X.getD (i - 1) default) := by
        rw [show ((i : Int) - 1).toNat = i - 1 by omega]; exact hget _ (by omega)
      have hid := idx_first hlt
      have hrow' := hrow
      rw [hM] at hrow' hX
      simp only [↓WP, ↓grdD, ↓grdT, ↓un_dead, ↓binVC, ↓buildVC, ↓sliceVC, WQ, WN, Int.reduceToNat, renl, cll, rent, clt, ↓reduceIte, Nat.reduceLeDiff, Nat.reduceEqDiff, Nat.reduceLT, reduceCtorEq, List.append_nil, Nat.reduceAdd, Nat.reduceSub, Nat.reduceBEq, forall_const, implies_true, cond_true, cond_false, AV.ren, AC.ren, AV.cl, AC.cl, eq_self, List.all_cons, List.all_nil, AV.eqv, AC.eqv, eqvl, eqvt, Sl.eqv, List.map_append, List.length_map, List.length_append, List.length_replicate, List.length_set, List.map_replicate, nilVC, fl_29_0, sz_3, fl_29_1, fl_29_2, sz_27, sd_27, el_27, sz_51, zr_51, fl_51_1, fl_51_0, fl_51_2, sz_29, c_impl_in, c_impl_before, c_impl_timerAt, dlt hlt, hw, hM, hf, hget i hlt, hw1, hg1, hwu, hwv, hX, hrow']
      have hXu : row T3 a.up X.length (some (Rg.arr own ty 3 cnt cap len fun i k => List.map AC.up (get i k))) = X := (row_up (α := T3) (a := a) (n := X.length) (o := some (.arr own ty (Cel.sz T3) cnt cap len get))).trans hX
      have hRu : RowOk T3 a.up X.length (some (Rg.arr own ty 3 cnt cap len fun i k => List.map AC.up (get i k))) := (RowOk_up (α := T3) (a := a) (n := X.length) (o := some (.arr own ty (Cel.sz T3) cnt cap len get))).mpr hrow'
      simp only [WB, eq_self, hXu, hid]
      refine ⟨by omega, ⟨hic, by omega⟩, fun _ => by omega, fun _ => ⟨hic, by omega⟩, fun _ => hRu, fun h1 hc => ?_, fun h1 => ?_⟩
      · obtain ⟨w1, w2, w3, w4, w5⟩ := hc.2.2.2 i hlt
        rcases h1 with (((h1 | h1) | h1) | ⟨h0, h1⟩) | h1
        · exact h1 w1
        · exact h1 w2
        · exact h1 w3
        · have := w4 (by omega)
          (repeat' split at h1) <;> omega
        · exact h1 w5
      · obtain ⟨⟨⟨⟨w1, w2⟩, w3⟩, hb⟩, hu⟩ := h1
        refine ⟨⟨i + 1, hlt, wOk_all he ⟨w1, w2, w3, fun h0 hbad => ?_, hu⟩⟩, Le_intro [0] (by simp [WL, WNL, swA_new, swA_ne, nest_sw_ne, mapLL, List.mem_cons, Nat.reduceAdd, Nat.reduceLT, Nat.reduceLeDiff, Nat.reduceEqDiff, okU, List.nodup_cons, List.not_mem_nil, toT, toL, toO, keysO, renl, rent, cll, clt, eq_self, AV.eqv, AC.eqv, eqvl, eqvt, Sl.eqv, rowsLe, mapLL, rowsCl, List.map_append, List.length_map, List.length_append, List.length_set, List.map_replicate, rowG, List.getElem?_cons_zero, List.getElem?_cons_succ, List.getElem?_nil, List.append_nil, List.nil_append, List.cons_append, ghosts, St.gh, Option.some.injEq, implies_true, setT, AV.ren, AC.ren, AV.cl, AC.cl, List.replicate_succ, List.replicate_zero, List.nodup_nil, List.length_nil, List.length_cons, List.getD_cons_zero, List.getD_cons_succ, ↓reduceIte]), by show X.length - (i + 1) < X.length - i; omega⟩
        rcases hb with hb | hb
        · omega
        · apply hb
          (repeat' split) <;> omega
    · obtain rfl : i = X.length := by omega
      simp only [↓WP, ↓grdD, ↓grdT, ↓un_dead, ↓binVC, ↓buildVC, ↓sliceVC, WQ, WN, Int.reduceToNat, renl, cll, rent, clt, ↓reduceIte, Nat.reduceLeDiff, Nat.reduceEqDiff, Nat.reduceLT, reduceCtorEq, List.append_nil, Nat.reduceAdd, Nat.reduceSub, Nat.reduceBEq, forall_const, implies_true, cond_true, cond_false, AV.ren, AC.ren, AV.cl, AC.cl, eq_self, List.all_cons, List.all_nil, AV.eqv, AC.eqv, eqvl, eqvt, Sl.eqv, List.map_append, List.length_map, List.length_append, List.length_replicate, List.length_set, List.map_replicate, nilVC, fl_29_0, sz_3, fl_29_1, fl_29_2, sz_27, sd_27, el_27, sz_51, zr_51, fl_51_1, fl_51_0, fl_51_2, sz_29, c_impl_in, c_impl_before, c_impl_timerAt, dge hge, hw]
      simp only [WB, eq_self]
      unfold wheelOk
      refine ⟨?_, ?_, ?_, he⟩ <;> omega
theorem q_impl_WheelOk : Quiet c_impl_WheelOk := by
  intro args M
  unfold c_impl_WheelOk
  dsimp only
  split <;> first | trivial | (intro _; rfl)
def c_spec_WheelOk : Contract := ⟨11, fun args M => match args with
  | [.agg [.int .i64 u, .int .i64 v, .sl a n _]] => .pure (RowOk T3 a n (M a.r)) (Eng.B (decide (wheelOk u v (row T3 a n (M a.r)))))
  | _ => .bad⟩
theorem ok_spec_WheelOk : fnP Try.prog c_spec_WheelOk.f = true ∧ ∀ args M, (c_spec_WheelOk.sp args M).OK Try.prog c_spec_WheelOk.f args M := by
  refine ⟨fp_11, fun args M => ?_⟩
  unfold c_spec_WheelOk
  dsimp only
  split
  case h_2 => trivial
  rename_i u v a n c
  intro hrow
  obtain ⟨hs, X, hX, rfl, hat⟩ := hrow.x
  rw [hX]
  refine goIn hf_11 rfl (nt := 110) rfl (rs := [.tmp 2]) rfl (C := [c_spec_l1In]) ⟨(by first | exact .inl ok_spec_l1In | exact ok_spec_l1In), trivial⟩ (q := fun f => [36].contains f) ⟨fun _ => q_spec_l1In, trivial⟩ mixed (O := ots [(7, otl [0, 1, 2, 3, 4, 5, 6, 7, 8, 9, 10, 11, 12, 13, 14, 15, 16, 17, 18, 19, 20, 21, 22, 23, 24, 25, 26, 27, 28, 29, 30, 31, 32, 33, 34, 35, 36, 37, 38, 39, 40, 41, 42, 43, 44, 45, 46, 47, 48, 49, 50, 51, 52, 53, 54, 55, 56, 57, 58, 59, 60, 61] .nil), (12, otl [0, 1, 2, 3, 4, 5, 6, 7, 8] .nil)]) (by kernel_rfl) ?_
  simp only [↓WP, ↓grdD, ↓grdT, ↓un_dead, ↓binVC, ↓buildVC, ↓sliceVC, WQ, WN, Int.reduceToNat, renl, cll, rent, clt, ↓reduceIte, Nat.reduceLeDiff, Nat.reduceEqDiff, Nat.reduceLT, reduceCtorEq, List.append_nil, Nat.reduceAdd, Nat.reduceSub, Nat.reduceBEq, forall_const, implies_true, cond_true, cond_false, AV.ren, AC.ren, AV.cl, AC.cl, eq_self, List.all_cons, List.all_nil, AV.eqv, AC.eqv, eqvl, eqvt, Sl.eqv, List.map_append, List.length_map, List.length_append, List.length_replicate, List.length_set, List.map_replicate, nilVC, fl_29_0, sz_3, fl_29_1, fl_29_2, sz_27, sd_27, el_27, sz_51, zr_51, fl_51_1, fl_51_0, fl_51_2, c_spec_l1In]
  simp only [WB, eq_self]
  refine ⟨fun h hc => ?_, fun h => ?_⟩
  · unfold wheelOk at hc
    omega
  · refine loopI (J := {i : Nat // i ≤ X.length ∧ ∀ j, j < i → wOk X u v j}) (fun i => ⟨slots 110 [(1, .c (.ptr ⟨.loc 0, 0, 0, 0⟩)), (3, I i.1)], M, [], [.box 29 [.int .i64 u, .int .i64 v, .sl a.up X.length c]]⟩) (fun i => X.length - i.1) ⟨0, by omega, fun j hj => absurd hj (by omega)⟩ (Le_intro [0] (by simp [WL, WNL, swA_new, swA_ne, nest_sw_ne, mapLL, List.mem_cons, Nat.reduceAdd, Nat.reduceLT, Nat.reduceLeDiff, Nat.reduceEqDiff, okU, List.nodup_cons, List.not_mem_nil, toT, toL, toO, keysO, renl, rent, cll, clt, eq_self, AV.eqv, AC.eqv, eqvl, eqvt, Sl.eqv, rowsLe, mapLL, rowsCl, List.map_append, List.length_map, List.length_append, List.length_set, List.map_replicate, rowG, List.getElem?_cons_zero, List.getElem?_cons_succ, List.getElem?_nil, List.append_nil, List.nil_append, List.cons_append, ghosts, St.gh, Option.some.injEq, implies_true, setT, AV.ren, AC.ren, AV.cl, AC.cl, List.replicate_succ, List.replicate_zero, List.nodup_nil, List.length_nil, List.length_cons, List.getD_cons_zero, List.getD_cons_succ, ↓reduceIte])) ?_
    rintro ⟨i, hi, he⟩
    have hw := wS (i := i) (by omega)
    have hwu : IntKind.i64.wrap (u + 1) = u + 1 := w64 (by omega) (by omega)
    have hwv : IntKind.i64.wrap (v - 1) = v - 1 := w64 (by omega) (by omega)
    rcases Nat.lt_or_ge i X.length with hlt | hge
    · obtain ⟨own, ty, cnt, cap, len, get, hM, hf, hic, hkn, hget⟩ := hat (by omega)
      have hw1 : IntKind.i64.wrap ((i : Int) - 1) = (i : Int) - 1 := w64 (by omega) (by omega)
      have hg1 : get a.i (a.k + ((i : Int) - 1).toNat) = enc (X.getD (i - 1) default) := by
        rw [show ((i : Int) - 1).toNat = i - 1 by omega]; exact hget _ (by omega)
      simp only [↓WP, ↓grdD, ↓grdT, ↓un_dead, ↓binVC, ↓buildVC, ↓sliceVC, WQ, WN, Int.reduceToNat, renl, cll, rent, clt, ↓reduceIte, Nat.reduceLeDiff, Nat.reduceEqDiff, Nat.reduceLT, reduceCtorEq, List.append_nil, Nat.reduceAdd, Nat.reduceSub, Nat.reduceBEq, forall_const, implies_true, cond_true, cond_false, AV.ren, AC.ren, AV.cl, AC.cl, eq_self, List.all_cons, List.all_nil, AV.eqv, AC.eqv, eqvl, eqvt, Sl.eqv, List.map_append, List.length_map, List.length_append, List.length_replicate, List.length_set, List.map_replicate, nilVC, fl_29_0, sz_3, fl_29_1, fl_29_2, sz_27, sd_27, el_27, sz_51, zr_51, fl_51_1, fl_51_0, fl_51_2, c_spec_l1In, dlt hlt, hw, hM, hf, hget i hlt, hw1, hg1, hwu, hwv]
      simp only [WB, eq_self]
      refine ⟨by omega, ⟨hic, by omega⟩, fun _ => by omega, fun _ => ⟨hic, by omega⟩, fun _ => by omega, fun _ => ⟨hic, by omega⟩, fun _ => by omega, fun _ => ⟨hic, by omega⟩, fun h1 hc => ?_, fun h1 => ?_⟩
      · obtain ⟨w1, w2, w3, w4, w5⟩ := hc.2.2.2 i hlt
        rcases h1 with ((h1 | h1) | h1) | ⟨h0, h1⟩
        · exact h1 w1
        · exact h1 w2
        · exact h1 w3
        · exact w4 (by omega) h1
      · obtain ⟨⟨⟨w1, w2⟩, w3⟩, hb⟩ := h1
        have w4 : 0 < i → ¬ ((X.getD i default).2.1 < (X.getD (i - 1) default).2.1 ∨ ((X.getD (i - 1) default).2.1 = (X.getD i default).2.1 ∧ (X.getD i default).1 ≤ (X.getD (i - 1) default).1)) := fun h0 => by omega
        refine loopI (J := {j : Nat // j ≤ i ∧ ∀ m, m < j → (X.getD m default).1 ≠ (X.getD i default).1}) (fun j => ⟨slots 110 [(1, .c (.ptr ⟨.loc 0, 0, 0, 0⟩)), (3, I i), (4, .c (.ptr ⟨.loc 1, 0, 0, 0⟩)), (5, I j.1)], M, [], [.box 29 [.int .i64 u, .int .i64 v, .sl a.up X.length c], .box 51 [.int .i64 (X.getD i default).1, .int .i64 (X.getD i default).2.1, .int .i64 (X.getD i default).2.2]]⟩) (fun j => i - j.1) ⟨0, by omega, fun m hm => absurd hm (by omega)⟩ (Le_intro [0, 1] (by simp [WL, WNL, swA_new, swA_ne, nest_sw_ne, mapLL, List.mem_cons, Nat.reduceAdd, Nat.reduceLT, Nat.reduceLeDiff, Nat.reduceEqDiff, okU, List.nodup_cons, List.not_mem_nil, toT, toL, toO, keysO, renl, rent, cll, clt, eq_self, AV.eqv, AC.eqv, eqvl, eqvt, Sl.eqv, rowsLe, mapLL, rowsCl, List.map_append, List.length_map, List.length_append, List.length_set, List.map_replicate, rowG, List.getElem?_cons_zero, List.getElem?_cons_succ, List.getElem?_nil, List.append_nil, List.nil_append, List.cons_append, ghosts, St.gh, Option.some.injEq, implies_true, setT, AV.ren, AC.ren, AV.cl, AC.cl, List.replicate_succ, List.replicate_zero, List.nodup_nil, List.length_nil, List.length_cons, List.getD_cons_zero, List.getD_cons_succ, ↓reduceIte])) ?_
        rintro ⟨j, hj, hje⟩
        have hwj := wS (i := j) (by omega)
        rcases Nat.lt_or_ge j i with hjlt | hjge
        · simp only [↓WP, ↓grdD, ↓grdT, ↓un_dead, ↓binVC, ↓buildVC, ↓sliceVC, WQ, WN, Int.reduceToNat, renl, cll, rent, clt, ↓reduceIte, Nat.reduceLeDiff, Nat.reduceEqDiff, Nat.reduceLT, reduceCtorEq, List.append_nil, Nat.reduceAdd, Nat.reduceSub, Nat.reduceBEq, forall_const, implies_true, cond_true, cond_false, AV.ren, AC.ren, AV.cl, AC.cl, eq_self, List.all_cons, List.all_nil, AV.eqv, AC.eqv, eqvl, eqvt, Sl.eqv, List.map_append, List.length_map, List.length_append, List.length_replicate, List.length_set, List.map_replicate, nilVC, fl_29_0, sz_3, fl_29_1, fl_29_2, sz_27, sd_27, el_27, sz_51, zr_51, fl_51_1, fl_51_0, fl_51_2, c_spec_l1In, dlt hjlt, hwj, hM, hf, hget j (by omega)]
          simp only [WB, eq_self]
          refine ⟨by omega, ⟨hic, by omega⟩, fun h1 hc => ?_, fun h1 => ?_⟩
          · exact (hc.2.2.2 i hlt).2.2.2.2 j hjlt h1
          · refine ⟨⟨j + 1, hjlt, fun m hm => ?_⟩, Le_intro [0, 1] (by simp [WL, WNL, swA_new, swA_ne, nest_sw_ne, mapLL, List.mem_cons, Nat.reduceAdd, Nat.reduceLT, Nat.reduceLeDiff, Nat.reduceEqDiff, okU, List.nodup_cons, List.not_mem_nil, toT, toL, toO, keysO, renl, rent, cll, clt, eq_self, AV.eqv, AC.eqv, eqvl, eqvt, Sl.eqv, rowsLe, mapLL, rowsCl, List.map_append, List.length_map, List.length_append, List.length_set, List.map_replicate, rowG, List.getElem?_cons_zero, List.getElem?_cons_succ, List.getElem?_nil, List.append_nil, List.nil_append, List.cons_append, ghosts, St.gh, Option.some.injEq, implies_true, setT, AV.ren, AC.ren, AV.cl, AC.cl, List.replicate_succ, List.replicate_zero, List.nodup_nil, List.length_nil, List.length_cons, List.getD_cons_zero, List.getD_cons_succ, ↓reduceIte]), by show i - (j + 1) < i - j; omega⟩
            rcases Nat.lt_or_eq_of_le (Nat.le_of_lt_succ hm) with h2 | h2
            · exact hje m h2
            · subst h2; exact h1
        · obtain rfl : j = i := by omega
          simp only [↓WP, ↓grdD, ↓grdT, ↓un_dead, ↓binVC, ↓buildVC, ↓sliceVC, WQ, WN, Int.reduceToNat, renl, cll, rent, clt, ↓reduceIte, Nat.reduceLeDiff, Nat.reduceEqDiff, Nat.reduceLT, reduceCtorEq, List.append_nil, Nat.reduceAdd, Nat.reduceSub, Nat.reduceBEq, forall_const, implies_true, cond_true, cond_false, AV.ren, AC.ren, AV.cl, AC.cl, eq_self, List.all_cons, List.all_nil, AV.eqv, AC.eqv, eqvl, eqvt, Sl.eqv, List.map_append, List.length_map, List.length_append, List.length_replicate, List.length_set, List.map_replicate, nilVC, fl_29_0, sz_3, fl_29_1, fl_29_2, sz_27, sd_27, el_27, sz_51, zr_51, fl_51_1, fl_51_0, fl_51_2, c_spec_l1In, dge hjge, hwj]
          refine ⟨⟨j + 1, hlt, wOk_all he ⟨w1, w2, w3, w4, hje⟩⟩, Le_intro [0] (by simp [WL, WNL, swA_new, swA_ne, nest_sw_ne, mapLL, List.mem_cons, Nat.reduceAdd, Nat.reduceLT, Nat.reduceLeDiff, Nat.reduceEqDiff, okU, List.nodup_cons, List.not_mem_nil, toT, toL, toO, keysO, renl, rent, cll, clt, eq_self, AV.eqv, AC.eqv, eqvl, eqvt, Sl.eqv, rowsLe, mapLL, rowsCl, List.map_append, List.length_map, List.length_append, List.length_set, List.map_replicate, rowG, List.getElem?_cons_zero, List.getElem?_cons_succ, List.getElem?_nil, List.append_nil, List.nil_append, List.cons_append, ghosts, St.gh, Option.some.injEq, implies_true, setT, AV.ren, AC.ren, AV.cl, AC.cl, List.replicate_succ, List.replicate_zero, List.nodup_nil, List.length_nil, List.length_cons, List.getD_cons_zero, List.getD_cons_succ, ↓reduceIte]), by show X.length - (j + 1) < X.length - j; omega⟩
    · obtain rfl : i = X.length := by omega
      simp only [↓WP, ↓grdD, ↓grdT, ↓un_dead, ↓binVC, ↓buildVC, ↓sliceVC, WQ, WN, Int.reduceToNat, renl, cll, rent, clt, ↓reduceIte, Nat.reduceLeDiff, Nat.reduceEqDiff, Nat.reduceLT, reduceCtorEq, List.append_nil, Nat.reduceAdd, Nat.reduceSub, Nat.reduceBEq, forall_const, implies_true, cond_true, cond_false, AV.ren, AC.ren, AV.cl, AC.cl, eq_self, List.all_cons, List.all_nil, AV.eqv, AC.eqv, eqvl, eqvt, Sl.eqv, List.map_append, List.length_map, List.length_append, List.length_replicate, List.length_set, List.map_replicate, nilVC, fl_29_0, sz_3, fl_29_1, fl_29_2, sz_27, sd_27, el_27, sz_51, zr_51, fl_51_1, fl_51_0, fl_51_2, c_spec_l1In, dge hge, hw]
      simp only [WB, eq_self]
      unfold wheelOk
      refine ⟨?_, ?_, ?_, he⟩ <;> omega
theorem q_spec_WheelOk : Quiet c_spec_WheelOk := by
  intro args M
  unfold c_spec_WheelOk
  dsimp only
  split <;> first | trivial | (intro _; rfl)
def c_laws_FnExactWheelOk : Contract := ⟨3, fun args M => match args with
  | [.agg [.int .i64 _, .int .i64 _, .sl a n _]] => .pure (n ≤ 9223372036854775807 ∧ (n ≤ 4294967296 → RowOk T3 a n (M a.r))) (Eng.B true)
  | _ => .bad⟩
theorem ok_laws_FnExactWheelOk : fnP Try.prog c_laws_FnExactWheelOk.f = true ∧ ∀ args M, (c_laws_FnExactWheelOk.sp args M).OK Try.prog c_laws_FnExactWheelOk.f args M := by
  refine ⟨fp_3, fun args M => ?_⟩
  unfold c_laws_FnExactWheelOk
  dsimp only
  split
  case h_2 => trivial
  rename_i u v a n c
  rintro ⟨hn, hrow⟩
  refine goIn hf_3 rfl (nt := 27) rfl (rs := [.tmp 2]) rfl (C := [c_laws_szWheel, c_laws_toWheel, c_spec_WheelOk, c_impl_WheelOk, c_laws_eqWheel]) ⟨(by first | exact .inl ok_laws_szWheel | exact ok_laws_szWheel), (by first | exact .inl ok_laws_toWheel | exact ok_laws_toWheel), (by first | exact .inl ok_spec_WheelOk | exact ok_spec_WheelOk), (by first | exact .inl ok_impl_WheelOk | exact ok_impl_WheelOk), (by first | exact .inl ok_laws_eqWheel | exact ok_laws_eqWheel), trivial⟩ (q := fun f => [12, 14].contains f) ⟨fun h => absurd h (by decide), fun _ => q_laws_toWheel, fun h => absurd h (by decide), fun h => absurd h (by decide), fun _ => q_laws_eqWheel, trivial⟩ mixed (O := ots [(10, otl [0, 1, 2, 3, 4] .nil)]) (by kernel_rfl) ?_
  rcases Nat.lt_or_ge 1048576 n with hb | hb
  · simp only [↓WP, ↓grdD, ↓grdT, ↓un_dead, ↓binVC, ↓buildVC, ↓sliceVC, WQ, WN, Int.reduceToNat, renl, cll, rent, clt, ↓reduceIte, Nat.reduceLeDiff, Nat.reduceEqDiff, Nat.reduceLT, reduceCtorEq, List.append_nil, Nat.reduceAdd, Nat.reduceSub, Nat.reduceBEq, forall_const, implies_true, cond_true, cond_false, AV.ren, AC.ren, AV.cl, AC.cl, eq_self, List.all_cons, List.all_nil, AV.eqv, AC.eqv, eqvl, eqvt, Sl.eqv, List.map_append, List.length_map, List.length_append, List.length_replicate, List.length_set, List.map_replicate, nilVC, sz_24, zr_29, sz_29, bt_4, c_laws_szWheel, c_laws_toWheel, c_spec_WheelOk, c_impl_WheelOk, c_laws_eqWheel, if_pos (show (1048576 : Int) < n by omega)]
    simp
    omega
  · have hrow := hrow (by omega)
    have hb2 : n ≤ 4294967296 := by omega
    simp only [↓WP, ↓grdD, ↓grdT, ↓un_dead, ↓binVC, ↓buildVC, ↓sliceVC, WQ, WN, Int.reduceToNat, renl, cll, rent, clt, ↓reduceIte, Nat.reduceLeDiff, Nat.reduceEqDiff, Nat.reduceLT, reduceCtorEq, List.append_nil, Nat.reduceAdd, Nat.reduceSub, Nat.reduceBEq, forall_const, implies_true, cond_true, cond_false, AV.ren, AC.ren, AV.cl, AC.cl, eq_self, List.all_cons, List.all_nil, AV.eqv, AC.eqv, eqvl, eqvt, Sl.eqv, List.map_append, List.length_map, List.length_append, List.length_replicate, List.length_set, List.map_replicate, nilVC, sz_24, zr_29, sz_29, bt_4, c_laws_szWheel, c_laws_toWheel, c_spec_WheelOk, c_impl_WheelOk, c_laws_eqWheel, if_neg (show ¬ (1048576 : Int) < n by omega), hrow]
    simp [hb2]
    omega
end Go.Eng.T
