/- cache: room for a block, as it is specified. -/
import Derived.Test.YtnpgddgbkaojmaaFn12
set_option linter.unusedVariables false
set_option linter.unusedSimpArgs false
set_option linter.unusedSectionVars false
namespace Go.Eng.T
open Go.Proofs
open Cel (enc dec)
set_option maxRecDepth 100000
set_option maxHeartbeats 4000000
theorem spec_and_ite {p c : Prop} [Decidable c] {A B : Spec} : Spec.and p (if c then A else B) = if c then Spec.and p A else Spec.and p B := by split <;> rfl
def roomSpec (M : RId → Option Rg) (cap : Int) (a : AA) (n ca : Nat) (b : AA) (m cb : Nat) (rd pt v : Int) : Spec :=
  specR ByteArray a n (M a.r) fun ty c D => if 0 ≤ atR (row TR b m (M b.r)) v ∨ cap ≤ m then
    .eff (RowOk TR b m (M b.r) ∧ m ≤ cb ∧ a.r ≠ b.r ∧ cacheOk cap D (row TR b m (M b.r)) rd pt ∧ (0 ≤ v ∧ v ≤ 19) ∧ pt < 1000000) Nat (fun k => (room cap D (row TR b m (M b.r)) pt v).2.1.length ≤ k)
      (fun k => .tup [(true, [.int .i64 cap, .sl a.up n ca, .sl ⟨.loc 0, 0, 0, 0⟩ (room cap D (row TR b m (M b.r)) pt v).2.1.length k, .int .i64 rd, .int .i64 (room cap D (row TR b m (M b.r)) pt v).2.2.1]), (true, [.int .i64 (room cap D (row TR b m (M b.r)) pt v).2.2.2.1.1, .str (room cap D (row TR b m (M b.r)) pt v).2.2.2.1.2.1, .bool (room cap D (row TR b m (M b.r)) pt v).2.2.2.1.2.2]), (false, [.bool (room cap D (row TR b m (M b.r)) pt v).2.2.2.2])])
      (fun k => [rowG true 60 k (room cap D (row TR b m (M b.r)) pt v).2.1]) (fun _ => [(a.r, rowG true ty c (room cap D (row TR b m (M b.r)) pt v).1)])
  else
    .eff (RowOk TR b m (M b.r) ∧ m ≤ cb ∧ a.r ≠ b.r ∧ cacheOk cap D (row TR b m (M b.r)) rd pt ∧ (0 ≤ v ∧ v ≤ 19) ∧ pt < 1000000) Unit (fun _ => True)
      (fun _ => .tup [(true, [.int .i64 cap, .sl a.up n ca, .sl b.up m cb, .int .i64 rd, .int .i64 pt]), (true, [.int .i64 v, .str (D.getD v.toNat default), .bool false]), (false, [.bool false])])
      (fun _ => []) (fun _ => [])
def c_spec_l30Room : Contract := ⟨51, fun args M => match args with
  | [.agg [.int .i64 cap, .sl a n ca, .sl b m cb, .int .i64 rd, .int .i64 pt], .c (.int .i64 v)] => roomSpec M cap a n ca b m cb rd pt v
  | _ => .bad⟩
theorem ok_spec_l30Room : fnP Try.prog c_spec_l30Room.f = true ∧ ∀ args M, (c_spec_l30Room.sp args M).OK Try.prog c_spec_l30Room.f args M := by
  refine ⟨fp_51, fun args M => ?_⟩
  unfold c_spec_l30Room
  dsimp only
  split
  case h_2 => trivial
  rename_i cap a n ca b m cb rd pt v
  refine specR_cases fun ty c D hM1 hX1 hl1 hs1 hi1 hk1 hf1 => ?_
  subst hl1
  by_cases hcase : 0 ≤ atR (row TR b m (M b.r)) v ∨ cap ≤ m
  · rw [if_pos hcase]
    rintro ⟨hb, hd, hab, hok, hv, hpt⟩
    obtain ⟨hs', R, hR, rfl, hbt⟩ := hb.x
    rw [hR] at hok hcase ⊢
    refine goIn hf_51 rfl (nt := 74) rfl (rs := [.cell 4 25, .cell 5 60, .tmp 6]) rfl (C := [c_spec_l30At]) ⟨(by first | exact .inl ok_spec_l30At | exact ok_spec_l30At), trivial⟩ (q := fun f => [].contains f) ⟨fun h => absurd h (by decide), trivial⟩ mixed (O := ots [(6, otl [0] (.alt 1 (otl [2, 3, 4] .nil) (otl [2, 1, 3, 4] .nil))), (13, otl [0, 1, 2, 4] (.alt 3 (otl [] (.alt 5 (otl [] (.alt 6 (otl [] (.alt 7 (otl [8, 9, 10] .nil) (otl [8, 7, 9, 10] .nil))) (otl [8, 6, 7, 9, 10] .nil))) (otl [8, 5, 6, 7, 9, 10] .nil))) (otl [8, 3, 5, 6, 7, 9, 10] .nil)))]) (by kernel_rfl) ?_
    have hD20 : D.length = 20 := hok.1.2.1
    have hcap := hok.1.1
    have hwpt : IntKind.i64.wrap (pt + 1) = pt + 1 := w64 (by have := hok.1.2.2.2.2; omega) (by omega)
    have hgDv : ∀ X : List ByteArray, X.length = 20 → (List.map enc X).getD v.toNat [] = enc (X.getD v.toNat default) := fun X h => getD_enc _ _ (by omega)
    obtain ⟨j, hj⟩ : ∃ j, j = atR R v := ⟨_, rfl⟩
    have hjr := atR_range R v
    rw [← hj] at hjr hcase
    have hRp : 0 < R.length := by omega
    obtain ⟨own, ty1, cnt, cap1, len, get, hM, hf, hic, hkn, hget⟩ := hbt hRp
    have hb' := hb
    have hR' := hR
    rw [hM] at hb' hR'
    have hXu : row TR b.up R.length (some (Rg.arr own ty1 3 cnt cap1 len fun i k => List.map AC.up (get i k))) = R := (row_up (α := TR) (a := b) (n := R.length) (o := some (.arr own ty1 (Cel.sz TR) cnt cap1 len get))).trans hR'
    have hRu : RowOk TR b.up R.length (some (Rg.arr own ty1 3 cnt cap1 len fun i k => List.map AC.up (get i k))) := (RowOk_up (α := TR) (a := b) (n := R.length) (o := some (.arr own ty1 (Cel.sz TR) cnt cap1 len get))).mpr hb'
    by_cases h0 : 0 ≤ j
    · obtain ⟨m, rfl⟩ : ∃ m : Nat, j = m := ⟨j.toNat, by omega⟩
      have hRm : room cap D R pt v = (D, woR R m, pt, R.getD m default, true) := by rw [room, ← hj, if_pos h0, Int.toNat_natCast]
      have hm : m < R.length := by omega
      have hwm := wS (i := m) (by omega)
      rw [hRm]
      have hwd : woR R m = R.take m ++ R.drop (m + 1) := rfl
      have htl : (R.take m).length = m := by simp; omega
      have hwin1 : win (fun k => List.map AC.up (get b.i (b.k + k))) m = (R.take m).map enc := by
        have := win_enc (X := R.take m) (g := fun k => get b.i (b.k + k)) (fun j hj => by
          rw [hget j (by omega)]; congr 1; rw [getD_of_lt (by omega), getD_of_lt hj, List.getElem_take])
        rwa [htl] at this
      have hwin2 : win (fun k => List.map AC.up (get b.i (b.k + (m + 1) + k))) (R.length - (m + 1)) = (R.drop (m + 1)).map enc := by
        have hl : (R.drop (m + 1)).length = R.length - (m + 1) := by simp
        have := win_enc (X := R.drop (m + 1)) (g := fun k => get b.i (b.k + (m + 1) + k)) (fun j hj => by
          rw [show b.k + (m + 1) + j = b.k + (m + 1 + j) by omega, hget (m + 1 + j) (by omega)]; congr 1; rw [getD_of_lt (by omega), getD_of_lt hj, List.getElem_drop])
        rwa [hl] at this
      have hput : putAt (List.map enc (R.take m)) m (List.map enc (R.drop (m + 1))) = List.map enc (R.take m) ++ List.map enc (R.drop (m + 1)) := putAt_end (by rw [List.length_map, htl])
      have hwi : win (fun k => (List.map enc (R.take m)).getD k []) m = List.map enc (R.take m) := win_whole (by rw [List.length_map, htl])
      have hlm : m + (R.length - (m + 1)) = R.length - 1 := by omega
      have hd1 : R.length - (m + 1) = 0 → R.drop (m + 1) = [] := fun h => List.drop_eq_nil_of_le (by omega)
      have ht1 : m = 0 → R.take m = [] := fun h => by rw [h]; rfl
      have hrem : (woR R m).length = R.length - 1 := woR_len hm
      have hw2 : List.map enc (woR R m) = List.map enc (R.take m) ++ List.map enc (R.drop (m + 1)) := by rw [hwd, List.map_append]
      simp only [↓WP, ↓grdD, ↓grdT, ↓un_dead, ↓binVC, ↓buildVC, ↓sliceVC, WQ, WN, Int.reduceToNat, renl, cll, rent, clt, ↓reduceIte, Nat.reduceLeDiff, Nat.reduceEqDiff, Nat.reduceLT, reduceCtorEq, List.append_nil, Nat.reduceAdd, Nat.reduceSub, Nat.reduceBEq, forall_const, implies_true, cond_true, cond_false, AV.ren, AC.ren, AV.cl, AC.cl, eq_self, List.all_cons, List.all_nil, AV.eqv, AC.eqv, eqvl, eqvt, Sl.eqv, List.map_append, List.length_map, List.length_append, List.length_replicate, List.length_set, List.map_replicate, nilVC, zr_25, zr_60, sz_25, fl_25_2, sz_23, el_23, sz_60, sd_23, fl_25_0, sz_3, fl_60_2, sz_4, fl_25_1, sz_22, fl_60_0, fl_60_1, sz_9, el_22, fl_25_4, fs_60, c_spec_l30At, hM1, hi1, hk1, hf1, hM, hf, hXu, hRu, ← hj, decide_eq_true h0, hwm, hget m hm, hwin1, hwin2, Nat.sub_zero, hput, hwi, hlm, htl]
      repeat' (first | with_reducible refine And.intro ?_ ?_ | intro _)
      all_goals try omega
      all_goals try rfl
      all_goals try exact .inl trivial
      all_goals try exact .inr trivial
      all_goals first
        | (have e : woR R m = [] := by rw [hwd, hd1 (by omega), ht1 (by omega)]; rfl
           refine end_ret ?_
           simp only [↓WP, ↓grdD, ↓grdT, ↓un_dead, ↓binVC, ↓buildVC, ↓sliceVC, WQ, WN, Int.reduceToNat, renl, cll, rent, clt, ↓reduceIte, Nat.reduceLeDiff, Nat.reduceEqDiff, Nat.reduceLT, reduceCtorEq, List.append_nil, Nat.reduceAdd, Nat.reduceSub, Nat.reduceBEq, forall_const, implies_true, cond_true, cond_false, AV.ren, AC.ren, AV.cl, AC.cl, eq_self, List.all_cons, List.all_nil, AV.eqv, AC.eqv, eqvl, eqvt, Sl.eqv, List.map_append, List.length_map, List.length_append, List.length_replicate, List.length_set, List.map_replicate, nilVC, zr_25, zr_60, sz_25, fl_25_2, sz_23, el_23, sz_60, sd_23, fl_25_0, sz_3, fl_60_2, sz_4, fl_25_1, sz_22, fl_60_0, fl_60_1, sz_9, el_22, fl_25_4, fs_60, c_spec_l30At]
           refine ⟨0, [(60, 3)], [4], ?_⟩
           simp only [WL, WNL, swA_new, swA_ne, nest_sw_ne, mapLL, List.mem_cons, Nat.reduceAdd, Nat.reduceLT, Nat.reduceLeDiff, Nat.reduceEqDiff, okU, List.nodup_cons, List.not_mem_nil, toT, toL, toO, keysO, renl, rent, cll, clt, eq_self, AV.eqv, AC.eqv, eqvl, eqvt, Sl.eqv, rowsLe, mapLL, rowsCl, List.map_append, List.length_map, List.length_append, List.length_set, List.map_replicate, rowG, List.getElem?_cons_zero, List.getElem?_cons_succ, List.getElem?_nil, List.append_nil, List.nil_append, List.cons_append, ghosts, St.gh, Option.some.injEq, implies_true, setT, AV.ren, AC.ren, AV.cl, AC.cl, List.replicate_succ, List.replicate_zero, List.nodup_nil, List.length_nil, List.length_cons, List.getD_cons_zero, List.getD_cons_succ, ↓reduceIte, retP, e, hM1]
           simp [okU, hM1]
           done)
        | (have e : woR R m = R.drop (m + 1) := by rw [hwd, ht1 (by omega), List.nil_append]
           rename_i k hk _
           refine end_ret ?_
           simp only [↓WP, ↓grdD, ↓grdT, ↓un_dead, ↓binVC, ↓buildVC, ↓sliceVC, WQ, WN, Int.reduceToNat, renl, cll, rent, clt, ↓reduceIte, Nat.reduceLeDiff, Nat.reduceEqDiff, Nat.reduceLT, reduceCtorEq, List.append_nil, Nat.reduceAdd, Nat.reduceSub, Nat.reduceBEq, forall_const, implies_true, cond_true, cond_false, AV.ren, AC.ren, AV.cl, AC.cl, eq_self, List.all_cons, List.all_nil, AV.eqv, AC.eqv, eqvl, eqvt, Sl.eqv, List.map_append, List.length_map, List.length_append, List.length_replicate, List.length_set, List.map_replicate, nilVC, zr_25, zr_60, sz_25, fl_25_2, sz_23, el_23, sz_60, sd_23, fl_25_0, sz_3, fl_60_2, sz_4, fl_25_1, sz_22, fl_60_0, fl_60_1, sz_9, el_22, fl_25_4, fs_60, c_spec_l30At]
           refine ⟨k, [], [4], ?_⟩
           simp only [WL, WNL, swA_new, swA_ne, nest_sw_ne, mapLL, List.mem_cons, Nat.reduceAdd, Nat.reduceLT, Nat.reduceLeDiff, Nat.reduceEqDiff, okU, List.nodup_cons, List.not_mem_nil, toT, toL, toO, keysO, renl, rent, cll, clt, eq_self, AV.eqv, AC.eqv, eqvl, eqvt, Sl.eqv, rowsLe, mapLL, rowsCl, List.map_append, List.length_map, List.length_append, List.length_set, List.map_replicate, rowG, List.getElem?_cons_zero, List.getElem?_cons_succ, List.getElem?_nil, List.append_nil, List.nil_append, List.cons_append, ghosts, St.gh, Option.some.injEq, implies_true, setT, AV.ren, AC.ren, AV.cl, AC.cl, List.replicate_succ, List.replicate_zero, List.nodup_nil, List.length_nil, List.length_cons, List.getD_cons_zero, List.getD_cons_succ, ↓reduceIte, retP, e, hM1]
           simp [okU, hM1, hk]
           done)
        | (have e : woR R m = R.take m := by rw [hwd, hd1 (by omega), List.append_nil]
           rename_i k hk _ _
           refine end_ret ?_
           simp only [↓WP, ↓grdD, ↓grdT, ↓un_dead, ↓binVC, ↓buildVC, ↓sliceVC, WQ, WN, Int.reduceToNat, renl, cll, rent, clt, ↓reduceIte, Nat.reduceLeDiff, Nat.reduceEqDiff, Nat.reduceLT, reduceCtorEq, List.append_nil, Nat.reduceAdd, Nat.reduceSub, Nat.reduceBEq, forall_const, implies_true, cond_true, cond_false, AV.ren, AC.ren, AV.cl, AC.cl, eq_self, List.all_cons, List.all_nil, AV.eqv, AC.eqv, eqvl, eqvt, Sl.eqv, List.map_append, List.length_map, List.length_append, List.length_replicate, List.length_set, List.map_replicate, nilVC, zr_25, zr_60, sz_25, fl_25_2, sz_23, el_23, sz_60, sd_23, fl_25_0, sz_3, fl_60_2, sz_4, fl_25_1, sz_22, fl_60_0, fl_60_1, sz_9, el_22, fl_25_4, fs_60, c_spec_l30At]
           refine ⟨k, [], [4], ?_⟩
           simp only [WL, WNL, swA_new, swA_ne, nest_sw_ne, mapLL, List.mem_cons, Nat.reduceAdd, Nat.reduceLT, Nat.reduceLeDiff, Nat.reduceEqDiff, okU, List.nodup_cons, List.not_mem_nil, toT, toL, toO, keysO, renl, rent, cll, clt, eq_self, AV.eqv, AC.eqv, eqvl, eqvt, Sl.eqv, rowsLe, mapLL, rowsCl, List.map_append, List.length_map, List.length_append, List.length_set, List.map_replicate, rowG, List.getElem?_cons_zero, List.getElem?_cons_succ, List.getElem?_nil, List.append_nil, List.nil_append, List.cons_append, ghosts, St.gh, Option.some.injEq, implies_true, setT, AV.ren, AC.ren, AV.cl, AC.cl, List.replicate_succ, List.replicate_zero, List.nodup_nil, List.length_nil, List.length_cons, List.getD_cons_zero, List.getD_cons_succ, ↓reduceIte, retP, e, htl, hM1]
           simp [okU, hM1, hk]
           done)
        | (rename_i k hk _ _ hk2
           refine end_ret ?_
           simp only [↓WP, ↓grdD, ↓grdT, ↓un_dead, ↓binVC, ↓buildVC, ↓sliceVC, WQ, WN, Int.reduceToNat, renl, cll, rent, clt, ↓reduceIte, Nat.reduceLeDiff, Nat.reduceEqDiff, Nat.reduceLT, reduceCtorEq, List.append_nil, Nat.reduceAdd, Nat.reduceSub, Nat.reduceBEq, forall_const, implies_true, cond_true, cond_false, AV.ren, AC.ren, AV.cl, AC.cl, eq_self, List.all_cons, List.all_nil, AV.eqv, AC.eqv, eqvl, eqvt, Sl.eqv, List.map_append, List.length_map, List.length_append, List.length_replicate, List.length_set, List.map_replicate, nilVC, zr_25, zr_60, sz_25, fl_25_2, sz_23, el_23, sz_60, sd_23, fl_25_0, sz_3, fl_60_2, sz_4, fl_25_1, sz_22, fl_60_0, fl_60_1, sz_9, el_22, fl_25_4, fs_60, c_spec_l30At]
           refine ⟨k, [], [4], ?_⟩
           simp only [WL, WNL, swA_new, swA_ne, nest_sw_ne, mapLL, List.mem_cons, Nat.reduceAdd, Nat.reduceLT, Nat.reduceLeDiff, Nat.reduceEqDiff, okU, List.nodup_cons, List.not_mem_nil, toT, toL, toO, keysO, renl, rent, cll, clt, eq_self, AV.eqv, AC.eqv, eqvl, eqvt, Sl.eqv, rowsLe, mapLL, rowsCl, List.map_append, List.length_map, List.length_append, List.length_set, List.map_replicate, rowG, List.getElem?_cons_zero, List.getElem?_cons_succ, List.getElem?_nil, List.append_nil, List.nil_append, List.cons_append, ghosts, St.gh, Option.some.injEq, implies_true, setT, AV.ren, AC.ren, AV.cl, AC.cl, List.replicate_succ, List.replicate_zero, List.nodup_nil, List.length_nil, List.length_cons, List.getD_cons_zero, List.getD_cons_succ, ↓reduceIte, retP, hw2, hrem, hM1]
           simp [okU, hM1, hk2]
           done)
        | (rename_i k hk _
           refine end_ret ?_
           simp only [↓WP, ↓grdD, ↓grdT, ↓un_dead, ↓binVC, ↓buildVC, ↓sliceVC, WQ, WN, Int.reduceToNat, renl, cll, rent, clt, ↓reduceIte, Nat.reduceLeDiff, Nat.reduceEqDiff, Nat.reduceLT, reduceCtorEq, List.append_nil, Nat.reduceAdd, Nat.reduceSub, Nat.reduceBEq, forall_const, implies_true, cond_true, cond_false, AV.ren, AC.ren, AV.cl, AC.cl, eq_self, List.all_cons, List.all_nil, AV.eqv, AC.eqv, eqvl, eqvt, Sl.eqv, List.map_append, List.length_map, List.length_append, List.length_replicate, List.length_set, List.map_replicate, nilVC, zr_25, zr_60, sz_25, fl_25_2, sz_23, el_23, sz_60, sd_23, fl_25_0, sz_3, fl_60_2, sz_4, fl_25_1, sz_22, fl_60_0, fl_60_1, sz_9, el_22, fl_25_4, fs_60, c_spec_l30At]
           refine ⟨k, [], [5], ?_⟩
           simp only [WL, WNL, swA_new, swA_ne, nest_sw_ne, mapLL, List.mem_cons, Nat.reduceAdd, Nat.reduceLT, Nat.reduceLeDiff, Nat.reduceEqDiff, okU, List.nodup_cons, List.not_mem_nil, toT, toL, toO, keysO, renl, rent, cll, clt, eq_self, AV.eqv, AC.eqv, eqvl, eqvt, Sl.eqv, rowsLe, mapLL, rowsCl, List.map_append, List.length_map, List.length_append, List.length_set, List.map_replicate, rowG, List.getElem?_cons_zero, List.getElem?_cons_succ, List.getElem?_nil, List.append_nil, List.nil_append, List.cons_append, ghosts, St.gh, Option.some.injEq, implies_true, setT, AV.ren, AC.ren, AV.cl, AC.cl, List.replicate_succ, List.replicate_zero, List.nodup_nil, List.length_nil, List.length_cons, List.getD_cons_zero, List.getD_cons_succ, ↓reduceIte, retP, hw2, hrem, hM1]
           simp [okU, hM1, hk]
           done)
    · have h0f : decide (0 ≤ j) = false := decide_eq_false h0
      have hfull : cap ≤ R.length := by omega
      have hb0 := (hok.2.2 0 hRp).1
      have hg0 : get b.i b.k = enc (R.getD 0 default) := by have := hget 0 hRp; rwa [Nat.add_zero] at this
      have hwin2 : win (fun k => List.map AC.up (get b.i (b.k + 1 + k))) (R.length - 1) = (R.drop 1).map enc := by
        have hl : (R.drop 1).length = R.length - 1 := by simp
        have := win_enc (X := R.drop 1) (g := fun k => get b.i (b.k + 1 + k)) (fun j hj => by
          rw [show b.k + 1 + j = b.k + (1 + j) by omega, hget (1 + j) (by omega)]; congr 1; rw [getD_of_lt (by omega), getD_of_lt hj, List.getElem_drop])
        rwa [hl] at this
      have hwd : woR R 0 = R.drop 1 := rfl
      have hwo := woR_len hRp
      rw [hwd] at hwo
      by_cases hdy : (R.getD 0 default).2.2 = true
      · have hoD : outD D R = D.set (R.getD 0 default).1.toNat (R.getD 0 default).2.1 := if_pos hdy
        have hRm : room cap D R pt v = (outD D R, R.drop 1, pt + 1, (v, (outD D R).getD v.toNat default, false), false) := by rw [room, ← hj, if_neg h0, if_pos hfull, if_pos hdy, hwd]
        obtain ⟨E, hE⟩ : ∃ E, E = D.set (R.getD 0 default).1.toNat (R.getD 0 default).2.1 := ⟨_, rfl⟩
        have hEl : E.length = 20 := by rw [hE, List.length_set, hD20]
        have hEm : (List.map enc D).set (R.getD 0 default).1.toNat [AC.str (R.getD 0 default).2.1] = List.map enc E := by rw [hE, List.map_set, enc_str]
        rw [hRm, hoD, ← hE]
        simp only [↓WP, ↓grdD, ↓grdT, ↓un_dead, ↓binVC, ↓buildVC, ↓sliceVC, WQ, WN, Int.reduceToNat, renl, cll, rent, clt, ↓reduceIte, Nat.reduceLeDiff, Nat.reduceEqDiff, Nat.reduceLT, reduceCtorEq, List.append_nil, Nat.reduceAdd, Nat.reduceSub, Nat.reduceBEq, forall_const, implies_true, cond_true, cond_false, AV.ren, AC.ren, AV.cl, AC.cl, eq_self, List.all_cons, List.all_nil, AV.eqv, AC.eqv, eqvl, eqvt, Sl.eqv, List.map_append, List.length_map, List.length_append, List.length_replicate, List.length_set, List.map_replicate, nilVC, zr_25, zr_60, sz_25, fl_25_2, sz_23, el_23, sz_60, sd_23, fl_25_0, sz_3, fl_60_2, sz_4, fl_25_1, sz_22, fl_60_0, fl_60_1, sz_9, el_22, fl_25_4, fs_60, c_spec_l30At, hM1, hi1, hk1, hf1, hM, hf, hXu, hRu, ← hj, h0f, decide_eq_true hfull, hg0, hdy, hwpt, hEm, hgDv E hEl, hwin2, if_neg hab]
        repeat' (first | with_reducible refine And.intro ?_ ?_ | intro _)
        all_goals try omega
        all_goals try rfl
        all_goals try exact .inl trivial
        all_goals try exact .inr trivial
        all_goals first
          | (have e : R.drop 1 = [] := List.drop_eq_nil_of_le (by omega)
             refine end_ret ?_
             simp only [↓WP, ↓grdD, ↓grdT, ↓un_dead, ↓binVC, ↓buildVC, ↓sliceVC, WQ, WN, Int.reduceToNat, renl, cll, rent, clt, ↓reduceIte, Nat.reduceLeDiff, Nat.reduceEqDiff, Nat.reduceLT, reduceCtorEq, List.append_nil, Nat.reduceAdd, Nat.reduceSub, Nat.reduceBEq, forall_const, implies_true, cond_true, cond_false, AV.ren, AC.ren, AV.cl, AC.cl, eq_self, List.all_cons, List.all_nil, AV.eqv, AC.eqv, eqvl, eqvt, Sl.eqv, List.map_append, List.length_map, List.length_append, List.length_replicate, List.length_set, List.map_replicate, nilVC, zr_25, zr_60, sz_25, fl_25_2, sz_23, el_23, sz_60, sd_23, fl_25_0, sz_3, fl_60_2, sz_4, fl_25_1, sz_22, fl_60_0, fl_60_1, sz_9, el_22, fl_25_4, fs_60, c_spec_l30At]
             refine ⟨0, [(60, 3)], [4], ?_⟩
             simp only [WL, WNL, swA_new, swA_ne, nest_sw_ne, mapLL, List.mem_cons, Nat.reduceAdd, Nat.reduceLT, Nat.reduceLeDiff, Nat.reduceEqDiff, okU, List.nodup_cons, List.not_mem_nil, toT, toL, toO, keysO, renl, rent, cll, clt, eq_self, AV.eqv, AC.eqv, eqvl, eqvt, Sl.eqv, rowsLe, mapLL, rowsCl, List.map_append, List.length_map, List.length_append, List.length_set, List.map_replicate, rowG, List.getElem?_cons_zero, List.getElem?_cons_succ, List.getElem?_nil, List.append_nil, List.nil_append, List.cons_append, ghosts, St.gh, Option.some.injEq, implies_true, setT, AV.ren, AC.ren, AV.cl, AC.cl, List.replicate_succ, List.replicate_zero, List.nodup_nil, List.length_nil, List.length_cons, List.getD_cons_zero, List.getD_cons_succ, ↓reduceIte, retP, e, hM1, if_neg hab]
             simp [okU, hM1]
             done)
          | (rename_i k hk _
             refine end_ret ?_
             simp only [↓WP, ↓grdD, ↓grdT, ↓un_dead, ↓binVC, ↓buildVC, ↓sliceVC, WQ, WN, Int.reduceToNat, renl, cll, rent, clt, ↓reduceIte, Nat.reduceLeDiff, Nat.reduceEqDiff, Nat.reduceLT, reduceCtorEq, List.append_nil, Nat.reduceAdd, Nat.reduceSub, Nat.reduceBEq, forall_const, implies_true, cond_true, cond_false, AV.ren, AC.ren, AV.cl, AC.cl, eq_self, List.all_cons, List.all_nil, AV.eqv, AC.eqv, eqvl, eqvt, Sl.eqv, List.map_append, List.length_map, List.length_append, List.length_replicate, List.length_set, List.map_replicate, nilVC, zr_25, zr_60, sz_25, fl_25_2, sz_23, el_23, sz_60, sd_23, fl_25_0, sz_3, fl_60_2, sz_4, fl_25_1, sz_22, fl_60_0, fl_60_1, sz_9, el_22, fl_25_4, fs_60, c_spec_l30At]
             refine ⟨k, [], [4], ?_⟩
             simp only [WL, WNL, swA_new, swA_ne, nest_sw_ne, mapLL, List.mem_cons, Nat.reduceAdd, Nat.reduceLT, Nat.reduceLeDiff, Nat.reduceEqDiff, okU, List.nodup_cons, List.not_mem_nil, toT, toL, toO, keysO, renl, rent, cll, clt, eq_self, AV.eqv, AC.eqv, eqvl, eqvt, Sl.eqv, rowsLe, mapLL, rowsCl, List.map_append, List.length_map, List.length_append, List.length_set, List.map_replicate, rowG, List.getElem?_cons_zero, List.getElem?_cons_succ, List.getElem?_nil, List.append_nil, List.nil_append, List.cons_append, ghosts, St.gh, Option.some.injEq, implies_true, setT, AV.ren, AC.ren, AV.cl, AC.cl, List.replicate_succ, List.replicate_zero, List.nodup_nil, List.length_nil, List.length_cons, List.getD_cons_zero, List.getD_cons_succ, ↓reduceIte, retP, hwo, hM1, if_neg hab]
             simp [okU, hM1, hk]
             done)
      · have hdy : (R.getD 0 default).2.2 = false := by simpa using hdy
        have hoD : outD D R = D := if_neg (by rw [hdy]; simp)
        have hRm : room cap D R pt v = (outD D R, R.drop 1, pt, (v, (outD D R).getD v.toNat default, false), false) := by rw [room, ← hj, if_neg h0, if_pos hfull, if_neg (by rw [hdy]; simp), hwd]
        rw [hRm, hoD]
        simp only [↓WP, ↓grdD, ↓grdT, ↓un_dead, ↓binVC, ↓buildVC, ↓sliceVC, WQ, WN, Int.reduceToNat, renl, cll, rent, clt, ↓reduceIte, Nat.reduceLeDiff, Nat.reduceEqDiff, Nat.reduceLT, reduceCtorEq, List.append_nil, Nat.reduceAdd, Nat.reduceSub, Nat.reduceBEq, forall_const, implies_true, cond_true, cond_false, AV.ren, AC.ren, AV.cl, AC.cl, eq_self, List.all_cons, List.all_nil, AV.eqv, AC.eqv, eqvl, eqvt, Sl.eqv, List.map_append, List.length_map, List.length_append, List.length_replicate, List.length_set, List.map_replicate, nilVC, zr_25, zr_60, sz_25, fl_25_2, sz_23, el_23, sz_60, sd_23, fl_25_0, sz_3, fl_60_2, sz_4, fl_25_1, sz_22, fl_60_0, fl_60_1, sz_9, el_22, fl_25_4, fs_60, c_spec_l30At, hM1, hi1, hk1, hf1, hM, hf, hXu, hRu, ← hj, h0f, decide_eq_true hfull, hg0, hdy, hwpt, hgDv D hD20, hwin2]
        repeat' (first | with_reducible refine And.intro ?_ ?_ | intro _)
        all_goals try omega
        all_goals try rfl
        all_goals try exact .inl trivial
        all_goals try exact .inr trivial
        all_goals first
          | (have e : R.drop 1 = [] := List.drop_eq_nil_of_le (by omega)
             refine end_ret ?_
             simp only [↓WP, ↓grdD, ↓grdT, ↓un_dead, ↓binVC, ↓buildVC, ↓sliceVC, WQ, WN, Int.reduceToNat, renl, cll, rent, clt, ↓reduceIte, Nat.reduceLeDiff, Nat.reduceEqDiff, Nat.reduceLT, reduceCtorEq, List.append_nil, Nat.reduceAdd, Nat.reduceSub, Nat.reduceBEq, forall_const, implies_true, cond_true, cond_false, AV.ren, AC.ren, AV.cl, AC.cl, eq_self, List.all_cons, List.all_nil, AV.eqv, AC.eqv, eqvl, eqvt, Sl.eqv, List.map_append, List.length_map, List.length_append, List.length_replicate, List.length_set, List.map_replicate, nilVC, zr_25, zr_60, sz_25, fl_25_2, sz_23, el_23, sz_60, sd_23, fl_25_0, sz_3, fl_60_2, sz_4, fl_25_1, sz_22, fl_60_0, fl_60_1, sz_9, el_22, fl_25_4, fs_60, c_spec_l30At]
             refine ⟨0, [(60, 3)], [4], ?_⟩
             simp only [WL, WNL, swA_new, swA_ne, nest_sw_ne, mapLL, List.mem_cons, Nat.reduceAdd, Nat.reduceLT, Nat.reduceLeDiff, Nat.reduceEqDiff, okU, List.nodup_cons, List.not_mem_nil, toT, toL, toO, keysO, renl, rent, cll, clt, eq_self, AV.eqv, AC.eqv, eqvl, eqvt, Sl.eqv, rowsLe, mapLL, rowsCl, List.map_append, List.length_map, List.length_append, List.length_set, List.map_replicate, rowG, List.getElem?_cons_zero, List.getElem?_cons_succ, List.getElem?_nil, List.append_nil, List.nil_append, List.cons_append, ghosts, St.gh, Option.some.injEq, implies_true, setT, AV.ren, AC.ren, AV.cl, AC.cl, List.replicate_succ, List.replicate_zero, List.nodup_nil, List.length_nil, List.length_cons, List.getD_cons_zero, List.getD_cons_succ, ↓reduceIte, retP, e, hM1, if_neg hab]
             simp [okU, hM1]
             done)
          | (rename_i k hk _
             refine end_ret ?_
             simp only [↓WP, ↓grdD, ↓grdT, ↓un_dead, ↓binVC, ↓buildVC, ↓sliceVC, WQ, WN, Int.reduceToNat, renl, cll, rent, clt, ↓reduceIte, Nat.reduceLeDiff, Nat.reduceEqDiff, Nat.reduceLT, reduceCtorEq, List.append_nil, Nat.reduceAdd, Nat.reduceSub, Nat.reduceBEq, forall_const, implies_true, cond_true, cond_false, AV.ren, AC.ren, AV.cl, AC.cl, eq_self, List.all_cons, List.all_nil, AV.eqv, AC.eqv, eqvl, eqvt, Sl.eqv, List.map_append, List.length_map, List.length_append, List.length_replicate, List.length_set, List.map_replicate, nilVC, zr_25, zr_60, sz_25, fl_25_2, sz_23, el_23, sz_60, sd_23, fl_25_0, sz_3, fl_60_2, sz_4, fl_25_1, sz_22, fl_60_0, fl_60_1, sz_9, el_22, fl_25_4, fs_60, c_spec_l30At]
             refine ⟨k, [], [4], ?_⟩
             simp only [WL, WNL, swA_new, swA_ne, nest_sw_ne, mapLL, List.mem_cons, Nat.reduceAdd, Nat.reduceLT, Nat.reduceLeDiff, Nat.reduceEqDiff, okU, List.nodup_cons, List.not_mem_nil, toT, toL, toO, keysO, renl, rent, cll, clt, eq_self, AV.eqv, AC.eqv, eqvl, eqvt, Sl.eqv, rowsLe, mapLL, rowsCl, List.map_append, List.length_map, List.length_append, List.length_set, List.map_replicate, rowG, List.getElem?_cons_zero, List.getElem?_cons_succ, List.getElem?_nil, List.append_nil, List.nil_append, List.cons_append, ghosts, St.gh, Option.some.injEq, implies_true, setT, AV.ren, AC.ren, AV.cl, AC.cl, List.replicate_succ, List.replicate_zero, List.nodup_nil, List.length_nil, List.length_cons, List.getD_cons_zero, List.getD_cons_succ, ↓reduceIte, retP, hwo, hM1, if_neg hab]
             simp [okU, hM1, hk]
             done)
  · rw [if_neg hcase]
    rintro ⟨hb, hd, hab, hok, hv, hpt⟩
    obtain ⟨hs', R, hR, rfl, hbt⟩ := hb.x
    rw [hR] at hok hcase
    refine goIn hf_51 rfl (nt := 74) rfl (rs := [.cell 4 25, .cell 5 60, .tmp 6]) rfl (C := [c_spec_l30At]) ⟨(by first | exact .inl ok_spec_l30At | exact ok_spec_l30At), trivial⟩ (q := fun f => [].contains f) ⟨fun h => absurd h (by decide), trivial⟩ mixed (O := ots [(6, otl [0] (.alt 1 (otl [2, 3, 4] .nil) (otl [2, 1, 3, 4] .nil))), (13, otl [0, 1, 2, 4] (.alt 3 (otl [] (.alt 5 (otl [] (.alt 6 (otl [] (.alt 7 (otl [8, 9, 10] .nil) (otl [8, 7, 9, 10] .nil))) (otl [8, 6, 7, 9, 10] .nil))) (otl [8, 5, 6, 7, 9, 10] .nil))) (otl [8, 3, 5, 6, 7, 9, 10] .nil)))]) (by kernel_rfl) ?_
    have hD20 : D.length = 20 := hok.1.2.1
    have hgDv : (List.map enc D).getD v.toNat [] = enc (D.getD v.toNat default) := getD_enc _ _ (by omega)
    obtain ⟨j, hj⟩ : ∃ j, j = atR R v := ⟨_, rfl⟩
    rw [← hj] at hcase
    have h0f : decide (0 ≤ j) = false := decide_eq_false fun h => hcase (.inl h)
    have hff : decide (cap ≤ (R.length : Int)) = false := decide_eq_false fun h => hcase (.inr h)
    simp only [↓WP, ↓grdD, ↓grdT, ↓un_dead, ↓binVC, ↓buildVC, ↓sliceVC, WQ, WN, Int.reduceToNat, renl, cll, rent, clt, ↓reduceIte, Nat.reduceLeDiff, Nat.reduceEqDiff, Nat.reduceLT, reduceCtorEq, List.append_nil, Nat.reduceAdd, Nat.reduceSub, Nat.reduceBEq, forall_const, implies_true, cond_true, cond_false, AV.ren, AC.ren, AV.cl, AC.cl, eq_self, List.all_cons, List.all_nil, AV.eqv, AC.eqv, eqvl, eqvt, Sl.eqv, List.map_append, List.length_map, List.length_append, List.length_replicate, List.length_set, List.map_replicate, nilVC, zr_25, zr_60, sz_25, fl_25_2, sz_23, el_23, sz_60, sd_23, fl_25_0, sz_3, fl_60_2, sz_4, fl_25_1, sz_22, fl_60_0, fl_60_1, sz_9, el_22, fl_25_4, fs_60, c_spec_l30At, hM1, hi1, hk1, hf1, hR, ← hj, h0f, hff, hgDv]
    repeat' (first | with_reducible refine And.intro ?_ ?_ | intro _)
    all_goals try omega
    all_goals try assumption
    all_goals simp only [WL, WNL, swA_new, swA_ne, nest_sw_ne, mapLL, List.mem_cons, Nat.reduceAdd, Nat.reduceLT, Nat.reduceLeDiff, Nat.reduceEqDiff, okU, List.nodup_cons, List.not_mem_nil, toT, toL, toO, keysO, renl, rent, cll, clt, eq_self, AV.eqv, AC.eqv, eqvl, eqvt, Sl.eqv, rowsLe, mapLL, rowsCl, List.map_append, List.length_map, List.length_append, List.length_set, List.map_replicate, rowG, List.getElem?_cons_zero, List.getElem?_cons_succ, List.getElem?_nil, List.append_nil, List.nil_append, List.cons_append, ghosts, St.gh, Option.some.injEq, implies_true, setT, AV.ren, AC.ren, AV.cl, AC.cl, List.replicate_succ, List.replicate_zero, List.nodup_nil, List.length_nil, List.length_cons, List.getD_cons_zero, List.getD_cons_succ, ↓reduceIte]
    all_goals simp
end Go.Eng.T
