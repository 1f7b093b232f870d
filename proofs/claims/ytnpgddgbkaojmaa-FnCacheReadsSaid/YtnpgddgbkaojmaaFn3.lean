/- cache: copies and marks of a cache. -/
import Derived.Test.YtnpgddgbkaojmaaFn2
set_option linter.unusedVariables false
set_option linter.unusedSimpArgs false
set_option linter.unusedSectionVars false
namespace Go.Eng.T
open Go.Proofs
open Cel (enc dec)
set_option maxRecDepth 100000
set_option maxHeartbeats 4000000
def c_laws_toCache : Contract := ⟨18, fun args M => match args with
  | [.agg [.int .i64 cap, .sl a n _, .sl b m _, .int .i64 rd, .int .i64 pt]] => .eff (RowOk ByteArray a n (M a.r) ∧ RowOk TR b m (M b.r)) Unit (fun _ => True) (fun _ => .agg [.int .i64 cap, .sl ⟨.loc 0, 0, 0, 0⟩ n n, .sl ⟨.loc 1, 0, 0, 0⟩ m m, .int .i64 rd, .int .i64 pt]) (fun _ => [rowG true 9 n (row ByteArray a n (M a.r)), rowG true 60 m (row TR b m (M b.r))]) (fun _ => [])
  | _ => .bad⟩
theorem ok_laws_toCache : fnP Try.prog c_laws_toCache.f = true ∧ ∀ args M, (c_laws_toCache.sp args M).OK Try.prog c_laws_toCache.f args M := by
  refine ⟨fp_18, fun args M => ?_⟩
  unfold c_laws_toCache
  dsimp only
  split
  case h_2 => trivial
  rename_i cap a n ca b m cb rd pt
  rintro ⟨ha, hb⟩
  refine goIn hf_18 rfl (nt := 22) rfl (rs := [.cell 2 25]) rfl (C := [c_laws_toStringS, c_laws_toRowS]) ⟨(by first | exact .inl ok_laws_toStringS | exact ok_laws_toStringS), (by first | exact .inl ok_laws_toRowS | exact ok_laws_toRowS), trivial⟩ (q := fun _ => false) okQ_none mixed (O := fun _ => .nil) (by kernel_rfl) ?_
  simp only [↓WP, ↓grdD, ↓grdT, ↓un_dead, ↓binVC, ↓buildVC, ↓sliceVC, WQ, WN, Int.reduceToNat, renl, cll, rent, clt, ↓reduceIte, Nat.reduceLeDiff, Nat.reduceEqDiff, Nat.reduceLT, reduceCtorEq, List.append_nil, Nat.reduceAdd, Nat.reduceSub, Nat.reduceBEq, forall_const, implies_true, cond_true, cond_false, AV.ren, AC.ren, AV.cl, AC.cl, eq_self, List.all_cons, List.all_nil, AV.eqv, AC.eqv, eqvl, eqvt, Sl.eqv, List.map_append, List.length_map, List.length_append, List.length_replicate, List.length_set, List.map_replicate, nilVC, zr_25, fl_33_0, sz_3, fl_25_0, fl_33_1, sz_22, fl_25_1, fl_33_2, sz_31, fl_25_2, sz_23, fl_33_3, fl_25_3, fl_33_4, fl_25_4, sz_25, c_laws_toStringS, c_laws_toRowS]
  refine ⟨ha, hb, end_ret ?_⟩
  simp only [↓WP, ↓grdD, ↓grdT, ↓un_dead, ↓binVC, ↓buildVC, ↓sliceVC, WQ, WN, Int.reduceToNat, renl, cll, rent, clt, ↓reduceIte, Nat.reduceLeDiff, Nat.reduceEqDiff, Nat.reduceLT, reduceCtorEq, List.append_nil, Nat.reduceAdd, Nat.reduceSub, Nat.reduceBEq, forall_const, implies_true, cond_true, cond_false, AV.ren, AC.ren, AV.cl, AC.cl, eq_self, List.all_cons, List.all_nil, AV.eqv, AC.eqv, eqvl, eqvt, Sl.eqv, List.map_append, List.length_map, List.length_append, List.length_replicate, List.length_set, List.map_replicate, nilVC, zr_25, fl_33_0, sz_3, fl_25_0, fl_33_1, sz_22, fl_25_1, fl_33_2, sz_31, fl_25_2, sz_23, fl_33_3, fl_25_3, fl_33_4, fl_25_4, sz_25, c_laws_toStringS, c_laws_toRowS]
  refine ⟨(), [], [3, 4], ?_⟩
  simp only [WL, WNL, swA_new, swA_ne, nest_sw_ne, mapLL, List.mem_cons, Nat.reduceAdd, Nat.reduceLT, Nat.reduceLeDiff, Nat.reduceEqDiff, okU, List.nodup_cons, List.not_mem_nil, toT, toL, toO, keysO, renl, rent, cll, clt, eq_self, AV.eqv, AC.eqv, eqvl, eqvt, Sl.eqv, rowsLe, mapLL, rowsCl, List.map_append, List.length_map, List.length_append, List.length_set, List.map_replicate, rowG, List.getElem?_cons_zero, List.getElem?_cons_succ, List.getElem?_nil, List.append_nil, List.nil_append, List.cons_append, ghosts, St.gh, Option.some.injEq, implies_true, setT, AV.ren, AC.ren, AV.cl, AC.cl, List.replicate_succ, List.replicate_zero, List.nodup_nil, List.length_nil, List.length_cons, List.getD_cons_zero, List.getD_cons_succ, ↓reduceIte, retP]
theorem q_laws_toCache : Quiet c_laws_toCache := by
  intro args M
  unfold c_laws_toCache
  dsimp only
  split <;> first | trivial | (intro _; rfl)
def c_laws_eqCache : Contract := ⟨13, fun args M => match args with
  | [.agg [.int .i64 cap, .sl a n _, .sl b m _, .int .i64 rd, .int .i64 pt], .agg [.int .i64 cap', .sl a' n' _, .sl b' m' _, .int .i64 rd', .int .i64 pt']] => .pure (RowOk ByteArray a n (M a.r) ∧ RowOk TR b m (M b.r) ∧ RowOk ByteArray a' n' (M a'.r) ∧ RowOk TR b' m' (M b'.r)) (Eng.B (decide (cap = cap' ∧ row ByteArray a n (M a.r) = row ByteArray a' n' (M a'.r) ∧ row TR b m (M b.r) = row TR b' m' (M b'.r) ∧ rd = rd' ∧ pt = pt')))
  | _ => .bad⟩
theorem ok_laws_eqCache : fnP Try.prog c_laws_eqCache.f = true ∧ ∀ args M, (c_laws_eqCache.sp args M).OK Try.prog c_laws_eqCache.f args M := by
  refine ⟨fp_13, fun args M => ?_⟩
  unfold c_laws_eqCache
  dsimp only
  split
  case h_2 => trivial
  rename_i cap a n ca b m cb rd pt cap' a' n' ca' b' m' cb' rd' pt'
  rintro ⟨h1, h2, h3, h4⟩
  refine goIn hf_13 rfl (nt := 32) rfl (rs := [.tmp 4]) rfl (C := [c_laws_eqStringS, c_laws_eqRowS]) ⟨(by first | exact .inl ok_laws_eqStringS | exact ok_laws_eqStringS), (by first | exact .inl ok_laws_eqRowS | exact ok_laws_eqRowS), trivial⟩ (q := fun _ => false) okQ_none mixed (O := fun _ => .nil) (by kernel_rfl) ?_
  simp only [↓WP, ↓grdD, ↓grdT, ↓un_dead, ↓binVC, ↓buildVC, ↓sliceVC, WQ, WN, Int.reduceToNat, renl, cll, rent, clt, ↓reduceIte, Nat.reduceLeDiff, Nat.reduceEqDiff, Nat.reduceLT, reduceCtorEq, List.append_nil, Nat.reduceAdd, Nat.reduceSub, Nat.reduceBEq, forall_const, implies_true, cond_true, cond_false, AV.ren, AC.ren, AV.cl, AC.cl, eq_self, List.all_cons, List.all_nil, AV.eqv, AC.eqv, eqvl, eqvt, Sl.eqv, List.map_append, List.length_map, List.length_append, List.length_replicate, List.length_set, List.map_replicate, nilVC, fl_25_0, sz_3, fl_25_1, sz_22, fl_25_2, sz_23, fl_25_3, fl_25_4, c_laws_eqStringS, c_laws_eqRowS]
  by_cases e1 : cap = cap' <;> by_cases e2 : row ByteArray a n (M a.r) = row ByteArray a' n' (M a'.r) <;> by_cases e3 : row TR b m (M b.r) = row TR b' m' (M b'.r) <;> by_cases e4 : rd = rd' <;> by_cases e5 : pt = pt' <;> simp [e1, e2, e3, e4, e5, h1, h2, h3, h4]
theorem q_laws_eqCache : Quiet c_laws_eqCache := by
  intro args M
  unfold c_laws_eqCache
  dsimp only
  split <;> first | trivial | (intro _; rfl)
def c_laws_szCache : Contract := ⟨16, fun args M => match args with
  | [.agg [.int .i64 _, .sl a n _, .sl b m _, .int .i64 _, .int .i64 _], .c (.int .i64 left)] => .pure (0 ≤ left ∧ left ≤ 1048576 ∧ (n ≤ 9223372036854775807 ∧ (n ≤ 1048576 → RowOk ByteArray a n (M a.r) ∧ strsOk (row ByteArray a n (M a.r)))) ∧ (m ≤ 9223372036854775807 ∧ (m ≤ 1048576 → RowOk TR b m (M b.r) ∧ strsOk ((row TR b m (M b.r)).map fun x => x.2.1)))) (I (if szS (row ByteArray a n (M a.r)) n left < 0 then -1 else szS ((row TR b m (M b.r)).map fun x => x.2.1) m (szS (row ByteArray a n (M a.r)) n left)))
  | _ => .bad⟩
theorem ok_laws_szCache : fnP Try.prog c_laws_szCache.f = true ∧ ∀ args M, (c_laws_szCache.sp args M).OK Try.prog c_laws_szCache.f args M := by
  refine ⟨fp_16, fun args M => ?_⟩
  unfold c_laws_szCache
  dsimp only
  split
  case h_2 => trivial
  rename_i cap a n ca b m cb rd pt left
  rintro ⟨h1, h2, ⟨h3, h4⟩, h5, h6⟩
  refine goIn hf_16 rfl (nt := 18) rfl (rs := [.tmp 4]) rfl (C := [c_laws_szStringS, c_laws_szRowS]) ⟨(by first | exact .inl ok_laws_szStringS | exact ok_laws_szStringS), (by first | exact .inl ok_laws_szRowS | exact ok_laws_szRowS), trivial⟩ (q := fun _ => false) okQ_none mixed (O := fun _ => .nil) (by kernel_rfl) ?_
  obtain ⟨r, hr⟩ : ∃ r, r = szS (row ByteArray a n (M a.r)) n left := ⟨_, rfl⟩
  have hb := szS_range (X := row ByteArray a n (M a.r)) (n := n) h1
  rw [← hr] at hb
  by_cases hn : r < 0
  · simp only [↓WP, ↓grdD, ↓grdT, ↓un_dead, ↓binVC, ↓buildVC, ↓sliceVC, WQ, WN, Int.reduceToNat, renl, cll, rent, clt, ↓reduceIte, Nat.reduceLeDiff, Nat.reduceEqDiff, Nat.reduceLT, reduceCtorEq, List.append_nil, Nat.reduceAdd, Nat.reduceSub, Nat.reduceBEq, forall_const, implies_true, cond_true, cond_false, AV.ren, AC.ren, AV.cl, AC.cl, eq_self, List.all_cons, List.all_nil, AV.eqv, AC.eqv, eqvl, eqvt, Sl.eqv, List.map_append, List.length_map, List.length_append, List.length_replicate, List.length_set, List.map_replicate, nilVC, fl_33_1, sz_22, fl_33_2, sz_31, c_laws_szStringS, c_laws_szRowS, ← hr, decide_eq_true hn, if_pos hn]
    exact ⟨h1, h2, h3, h4⟩
  · obtain ⟨r2, hr2⟩ : ∃ r2, r2 = szS ((row TR b m (M b.r)).map fun x => x.2.1) m r := ⟨_, rfl⟩
    have hb2 := szS_range (X := (row TR b m (M b.r)).map fun x => x.2.1) (n := m) (l := r) (by omega)
    rw [← hr2] at hb2
    simp only [↓WP, ↓grdD, ↓grdT, ↓un_dead, ↓binVC, ↓buildVC, ↓sliceVC, WQ, WN, Int.reduceToNat, renl, cll, rent, clt, ↓reduceIte, Nat.reduceLeDiff, Nat.reduceEqDiff, Nat.reduceLT, reduceCtorEq, List.append_nil, Nat.reduceAdd, Nat.reduceSub, Nat.reduceBEq, forall_const, implies_true, cond_true, cond_false, AV.ren, AC.ren, AV.cl, AC.cl, eq_self, List.all_cons, List.all_nil, AV.eqv, AC.eqv, eqvl, eqvt, Sl.eqv, List.map_append, List.length_map, List.length_append, List.length_replicate, List.length_set, List.map_replicate, nilVC, fl_33_1, sz_22, fl_33_2, sz_31, c_laws_szStringS, c_laws_szRowS, ← hr, decide_eq_false hn, if_neg hn, ← hr2]
    refine ⟨⟨h1, h2, h3, h4⟩, ⟨by omega, by omega, h5, h6⟩, ?_⟩
    simp only [WB, eq_self]
    omega
def c_laws_markCache : Contract := ⟨14, fun args M => match args with
  | [.agg [.int .i64 _, .sl a n _, .sl b m _, .int .i64 _, .int .i64 _], .c (.int .i64 k)] => specR ByteArray a n (M a.r) fun ty c _ => specR TR b m (M b.r) fun ty2 c2 _ => .eff (a.r ≠ b.r ∧ 0 ≤ k ∧ k ≤ 2305843009213693952) Unit (fun _ => True) (fun _ => I (k + n + 3 * m)) (fun _ => []) (fun _ => [(a.r, rowG true ty c (markS k n)), (b.r, rowG true ty2 c2 (markR (k + n) m))])
  | _ => .bad⟩
theorem ok_laws_markCache : fnP Try.prog c_laws_markCache.f = true ∧ ∀ args M, (c_laws_markCache.sp args M).OK Try.prog c_laws_markCache.f args M := by
  refine ⟨fp_14, fun args M => ?_⟩
  unfold c_laws_markCache
  dsimp only
  split
  case h_2 => trivial
  rename_i cap a n ca b m cb rd pt k
  refine specR_cases fun t1 c1 X1 hM1 hX1 hl1 hs1 hi1 hk1 hf1 => ?_
  refine specR_cases fun t2 c2 X2 hM2 hX2 hl2 hs2 hi2 hk2 hf2 => ?_
  subst hl1 hl2
  rintro ⟨d12, h1, h2⟩
  refine goIn hf_14 rfl (nt := 14) rfl (rs := [.tmp 4]) rfl (C := [c_laws_markStringS, c_laws_markRowS]) ⟨(by first | exact .inl ok_laws_markStringS | exact ok_laws_markStringS), (by first | exact .inl ok_laws_markRowS | exact ok_laws_markRowS), trivial⟩ (q := fun _ => false) okQ_none mixed (O := fun _ => .nil) (by kernel_rfl) ?_
  simp only [↓WP, ↓grdD, ↓grdT, ↓un_dead, ↓binVC, ↓buildVC, ↓sliceVC, WQ, WN, Int.reduceToNat, renl, cll, rent, clt, ↓reduceIte, Nat.reduceLeDiff, Nat.reduceEqDiff, Nat.reduceLT, reduceCtorEq, List.append_nil, Nat.reduceAdd, Nat.reduceSub, Nat.reduceBEq, forall_const, implies_true, cond_true, cond_false, AV.ren, AC.ren, AV.cl, AC.cl, eq_self, List.all_cons, List.all_nil, AV.eqv, AC.eqv, eqvl, eqvt, Sl.eqv, List.map_append, List.length_map, List.length_append, List.length_replicate, List.length_set, List.map_replicate, nilVC, fl_25_1, sz_22, fl_25_2, sz_23, c_laws_markStringS, c_laws_markRowS, hM1, hi1, hk1, hf1, hM2, hi2, hk2, hf2, if_neg d12]
  refine ⟨⟨by omega, by omega, by omega⟩, ⟨by omega, by omega, by omega⟩, end_ret ?_⟩
  simp only [↓WP, ↓grdD, ↓grdT, ↓un_dead, ↓binVC, ↓buildVC, ↓sliceVC, WQ, WN, Int.reduceToNat, renl, cll, rent, clt, ↓reduceIte, Nat.reduceLeDiff, Nat.reduceEqDiff, Nat.reduceLT, reduceCtorEq, List.append_nil, Nat.reduceAdd, Nat.reduceSub, Nat.reduceBEq, forall_const, implies_true, cond_true, cond_false, AV.ren, AC.ren, AV.cl, AC.cl, eq_self, List.all_cons, List.all_nil, AV.eqv, AC.eqv, eqvl, eqvt, Sl.eqv, List.map_append, List.length_map, List.length_append, List.length_replicate, List.length_set, List.map_replicate, nilVC, fl_25_1, sz_22, fl_25_2, sz_23, c_laws_markStringS, c_laws_markRowS]
  refine ⟨(), [], [], ?_⟩
  simp only [WL, WNL, swA_new, swA_ne, nest_sw_ne, mapLL, List.mem_cons, Nat.reduceAdd, Nat.reduceLT, Nat.reduceLeDiff, Nat.reduceEqDiff, okU, List.nodup_cons, List.not_mem_nil, toT, toL, toO, keysO, renl, rent, cll, clt, eq_self, AV.eqv, AC.eqv, eqvl, eqvt, Sl.eqv, rowsLe, mapLL, rowsCl, List.map_append, List.length_map, List.length_append, List.length_set, List.map_replicate, rowG, List.getElem?_cons_zero, List.getElem?_cons_succ, List.getElem?_nil, List.append_nil, List.nil_append, List.cons_append, ghosts, St.gh, Option.some.injEq, implies_true, setT, AV.ren, AC.ren, AV.cl, AC.cl, List.replicate_succ, List.replicate_zero, List.nodup_nil, List.length_nil, List.length_cons, List.getD_cons_zero, List.getD_cons_succ, ↓reduceIte, retP, if_neg d12]
  simp [okU, hM1, hM2, d12]
def c_laws_heldCache : Contract := ⟨15, fun args M => match args with
  | [.agg [.int .i64 _, .sl a n _, .sl b m _, .int .i64 _, .int .i64 _], .c (.int .i64 k)] => .pure ((RowOk ByteArray a n (M a.r) ∧ RowOk TR b m (M b.r)) ∧ 0 ≤ k ∧ k ≤ 2305843009213693952) (I (if row ByteArray a n (M a.r) = markS k n ∧ row TR b m (M b.r) = markR (k + n) m then k + n + 3 * m else -1))
  | _ => .bad⟩
theorem ok_laws_heldCache : fnP Try.prog c_laws_heldCache.f = true ∧ ∀ args M, (c_laws_heldCache.sp args M).OK Try.prog c_laws_heldCache.f args M := by
  refine ⟨fp_15, fun args M => ?_⟩
  unfold c_laws_heldCache
  dsimp only
  split
  case h_2 => trivial
  rename_i cap a n ca b m cb rd pt k
  rintro ⟨⟨ha, hb⟩, h1, h2⟩
  have s1 := ha.small
  have s2 := hb.small
  refine goIn hf_15 rfl (nt := 18) rfl (rs := [.tmp 4]) rfl (C := [c_laws_heldStringS, c_laws_heldRowS]) ⟨(by first | exact .inl ok_laws_heldStringS | exact ok_laws_heldStringS), (by first | exact .inl ok_laws_heldRowS | exact ok_laws_heldRowS), trivial⟩ (q := fun _ => false) okQ_none mixed (O := fun _ => .nil) (by kernel_rfl) ?_
  by_cases e1 : row ByteArray a n (M a.r) = markS k n
  · by_cases e2 : row TR b m (M b.r) = markR (k + n) m
    · simp only [↓WP, ↓grdD, ↓grdT, ↓un_dead, ↓binVC, ↓buildVC, ↓sliceVC, WQ, WN, Int.reduceToNat, renl, cll, rent, clt, ↓reduceIte, Nat.reduceLeDiff, Nat.reduceEqDiff, Nat.reduceLT, reduceCtorEq, List.append_nil, Nat.reduceAdd, Nat.reduceSub, Nat.reduceBEq, forall_const, implies_true, cond_true, cond_false, AV.ren, AC.ren, AV.cl, AC.cl, eq_self, List.all_cons, List.all_nil, AV.eqv, AC.eqv, eqvl, eqvt, Sl.eqv, List.map_append, List.length_map, List.length_append, List.length_replicate, List.length_set, List.map_replicate, nilVC, fl_25_1, sz_22, fl_25_2, sz_23, c_laws_heldStringS, c_laws_heldRowS, if_pos e1, if_pos e2]
      simp only [WB, eq_self]
      rw [if_pos ⟨e1, e2⟩]
      repeat' (first | with_reducible refine And.intro ?_ ?_ | intro _)
      all_goals first | assumption | omega
    · simp only [↓WP, ↓grdD, ↓grdT, ↓un_dead, ↓binVC, ↓buildVC, ↓sliceVC, WQ, WN, Int.reduceToNat, renl, cll, rent, clt, ↓reduceIte, Nat.reduceLeDiff, Nat.reduceEqDiff, Nat.reduceLT, reduceCtorEq, List.append_nil, Nat.reduceAdd, Nat.reduceSub, Nat.reduceBEq, forall_const, implies_true, cond_true, cond_false, AV.ren, AC.ren, AV.cl, AC.cl, eq_self, List.all_cons, List.all_nil, AV.eqv, AC.eqv, eqvl, eqvt, Sl.eqv, List.map_append, List.length_map, List.length_append, List.length_replicate, List.length_set, List.map_replicate, nilVC, fl_25_1, sz_22, fl_25_2, sz_23, c_laws_heldStringS, c_laws_heldRowS, if_pos e1, if_neg e2]
      simp only [WB, eq_self]
      rw [if_neg (fun h => e2 h.2)]
      repeat' (first | with_reducible refine And.intro ?_ ?_ | intro _)
      all_goals first | assumption | omega
  · simp only [↓WP, ↓grdD, ↓grdT, ↓un_dead, ↓binVC, ↓buildVC, ↓sliceVC, WQ, WN, Int.reduceToNat, renl, cll, rent, clt, ↓reduceIte, Nat.reduceLeDiff, Nat.reduceEqDiff, Nat.reduceLT, reduceCtorEq, List.append_nil, Nat.reduceAdd, Nat.reduceSub, Nat.reduceBEq, forall_const, implies_true, cond_true, cond_false, AV.ren, AC.ren, AV.cl, AC.cl, eq_self, List.all_cons, List.all_nil, AV.eqv, AC.eqv, eqvl, eqvt, Sl.eqv, List.map_append, List.length_map, List.length_append, List.length_replicate, List.length_set, List.map_replicate, nilVC, fl_25_1, sz_22, fl_25_2, sz_23, c_laws_heldStringS, c_laws_heldRowS, if_neg e1]
    simp only [WB, eq_self]
    rw [if_neg (fun h => e1 h.1)]
    repeat' (first | with_reducible refine And.intro ?_ ?_ | intro _)
    all_goals first | assumption | omega
theorem q_laws_heldCache : Quiet c_laws_heldCache := by
  intro args M
  unfold c_laws_heldCache
  dsimp only
  split <;> first | trivial | (intro _; rfl)
end Go.Eng.T
