/- cache: CacheOk. -/
import Derived.Test.YtnpgddgbkaojmaaFn4
set_option linter.unusedVariables false
set_option linter.unusedSimpArgs false
set_option linter.unusedSectionVars false
namespace Go.Eng.T
open Go.Proofs
open Cel (enc dec)
set_option maxRecDepth 100000
set_option maxHeartbeats 4000000
def c_impl_CacheOk_1 : Contract := ⟨45, fun args M => match args with
  | [.c (.str s)] => .pure True (Eng.B (decide ((20 : Int) < s.size)))
  | _ => .bad⟩
theorem ok_impl_CacheOk_1 : fnP Try.prog c_impl_CacheOk_1.f = true ∧ ∀ args M, (c_impl_CacheOk_1.sp args M).OK Try.prog c_impl_CacheOk_1.f args M := by
  refine ⟨fp_45, fun args M => ?_⟩
  unfold c_impl_CacheOk_1
  dsimp only
  split
  case h_2 => trivial
  rename_i s
  intro _
  refine goIn hf_45 rfl (nt := 6) rfl (rs := [.tmp 2]) rfl (C := []) trivial (q := fun _ => false) okQ_none mixed (O := fun _ => .nil) (by kernel_rfl) ?_
  simp only [↓WP, ↓grdD, ↓grdT, ↓un_dead, ↓binVC, ↓buildVC, ↓sliceVC, WQ, WN, Int.reduceToNat, renl, cll, rent, clt, ↓reduceIte, Nat.reduceLeDiff, Nat.reduceEqDiff, Nat.reduceLT, reduceCtorEq, List.append_nil, Nat.reduceAdd, Nat.reduceSub, Nat.reduceBEq, forall_const, implies_true, cond_true, cond_false, AV.ren, AC.ren, AV.cl, AC.cl, eq_self, List.all_cons, List.all_nil, AV.eqv, AC.eqv, eqvl, eqvt, Sl.eqv, List.map_append, List.length_map, List.length_append, List.length_replicate, List.length_set, List.map_replicate, nilVC, st_9]
def c_slices_IndexFunc_string : Contract := ⟨65, fun args M => match args with
  | [.c (.sl a n _), .c (.clo f [])] => .pure (f = 45 ∧ RowOk ByteArray a n (M a.r)) (I (idx (fun p => decide ((20 : Int) < p.size)) (row ByteArray a n (M a.r))))
  | _ => .bad⟩
theorem ok_slices_IndexFunc_string : fnP Try.prog c_slices_IndexFunc_string.f = true ∧ ∀ args M, (c_slices_IndexFunc_string.sp args M).OK Try.prog c_slices_IndexFunc_string.f args M := by
  refine ⟨fp_65, fun args M => ?_⟩
  unfold c_slices_IndexFunc_string
  dsimp only
  split
  case h_2 => trivial
  rename_i a n ca f
  rintro ⟨rfl, ha⟩
  obtain ⟨hs, X, hX, rfl, hat⟩ := ha.x
  rw [hX]
  refine goIn hf_65 rfl (nt := 19) rfl (rs := [.tmp 4]) rfl (C := [c_impl_CacheOk_1]) ⟨(by first | exact .inl ok_impl_CacheOk_1 | exact ok_impl_CacheOk_1), trivial⟩ (q := fun _ => false) okQ_none mixed (O := fun _ => .nil) (by kernel_rfl) ?_
  simp only [↓WP, ↓grdD, ↓grdT, ↓un_dead, ↓binVC, ↓buildVC, ↓sliceVC, WQ, WN, Int.reduceToNat, renl, cll, rent, clt, ↓reduceIte, Nat.reduceLeDiff, Nat.reduceEqDiff, Nat.reduceLT, reduceCtorEq, List.append_nil, Nat.reduceAdd, Nat.reduceSub, Nat.reduceBEq, forall_const, implies_true, cond_true, cond_false, AV.ren, AC.ren, AV.cl, AC.cl, eq_self, List.all_cons, List.all_nil, AV.eqv, AC.eqv, eqvl, eqvt, Sl.eqv, List.map_append, List.length_map, List.length_append, List.length_replicate, List.length_set, List.map_replicate, nilVC, sd_22, el_22, sz_9, c_impl_CacheOk_1]
  refine loopI (J := {i : Nat // i ≤ X.length ∧ clear (fun p : ByteArray => decide ((20 : Int) < p.size)) X i}) (fun i => ⟨slots 19 [(0, .c (.sl a.up X.length ca)), (1, .c (.clo 45 [])), (7, I X.length), (8, I i.1)], M, [], []⟩) (fun i => X.length - i.1) ⟨0, by omega, clear_zero _ _⟩ (Le_intro [] (by simp [WL, WNL, swA_new, swA_ne, nest_sw_ne, mapLL, List.mem_cons, Nat.reduceAdd, Nat.reduceLT, Nat.reduceLeDiff, Nat.reduceEqDiff, okU, List.nodup_cons, List.not_mem_nil, toT, toL, toO, keysO, renl, rent, cll, clt, eq_self, AV.eqv, AC.eqv, eqvl, eqvt, Sl.eqv, rowsLe, mapLL, rowsCl, List.map_append, List.length_map, List.length_append, List.length_set, List.map_replicate, rowG, List.getElem?_cons_zero, List.getElem?_cons_succ, List.getElem?_nil, List.append_nil, List.nil_append, List.cons_append, ghosts, St.gh, Option.some.injEq, implies_true, setT, AV.ren, AC.ren, AV.cl, AC.cl, List.replicate_succ, List.replicate_zero, List.nodup_nil, List.length_nil, List.length_cons, List.getD_cons_zero, List.getD_cons_succ, ↓reduceIte])) ?_
  rintro ⟨i, hi, he⟩
  have hw := wS (i := i) (by omega)
  rcases Nat.lt_or_ge i X.length with hlt | hge
  · obtain ⟨own, ty, cnt, cap, len, get, hM, hf, hic, hkn, hget⟩ := hat (by omega)
    simp only [↓WP, ↓grdD, ↓grdT, ↓un_dead, ↓binVC, ↓buildVC, ↓sliceVC, WQ, WN, Int.reduceToNat, renl, cll, rent, clt, ↓reduceIte, Nat.reduceLeDiff, Nat.reduceEqDiff, Nat.reduceLT, reduceCtorEq, List.append_nil, Nat.reduceAdd, Nat.reduceSub, Nat.reduceBEq, forall_const, implies_true, cond_true, cond_false, AV.ren, AC.ren, AV.cl, AC.cl, eq_self, List.all_cons, List.all_nil, AV.eqv, AC.eqv, eqvl, eqvt, Sl.eqv, List.map_append, List.length_map, List.length_append, List.length_replicate, List.length_set, List.map_replicate, nilVC, sd_22, el_22, sz_9, c_impl_CacheOk_1, dlt hlt, hw, hM, hf, hget i hlt]
    repeat refine ⟨by omega, ?_⟩
    refine ⟨fun h1 => ?_, fun h1 => ?_⟩
    · have := idx_hit (p := fun p : ByteArray => decide ((20 : Int) < p.size)) he hlt h1
      rw [this]
    · exact ⟨⟨i + 1, hlt, clear_succ he h1⟩, Le_intro [] (by simp [WL, WNL, swA_new, swA_ne, nest_sw_ne, mapLL, List.mem_cons, Nat.reduceAdd, Nat.reduceLT, Nat.reduceLeDiff, Nat.reduceEqDiff, okU, List.nodup_cons, List.not_mem_nil, toT, toL, toO, keysO, renl, rent, cll, clt, eq_self, AV.eqv, AC.eqv, eqvl, eqvt, Sl.eqv, rowsLe, mapLL, rowsCl, List.map_append, List.length_map, List.length_append, List.length_set, List.map_replicate, rowG, List.getElem?_cons_zero, List.getElem?_cons_succ, List.getElem?_nil, List.append_nil, List.nil_append, List.cons_append, ghosts, St.gh, Option.some.injEq, implies_true, setT, AV.ren, AC.ren, AV.cl, AC.cl, List.replicate_succ, List.replicate_zero, List.nodup_nil, List.length_nil, List.length_cons, List.getD_cons_zero, List.getD_cons_succ, ↓reduceIte]), by show X.length - (i + 1) < X.length - i; omega⟩
  · obtain rfl : i = X.length := by omega
    simp only [↓WP, ↓grdD, ↓grdT, ↓un_dead, ↓binVC, ↓buildVC, ↓sliceVC, WQ, WN, Int.reduceToNat, renl, cll, rent, clt, ↓reduceIte, Nat.reduceLeDiff, Nat.reduceEqDiff, Nat.reduceLT, reduceCtorEq, List.append_nil, Nat.reduceAdd, Nat.reduceSub, Nat.reduceBEq, forall_const, implies_true, cond_true, cond_false, AV.ren, AC.ren, AV.cl, AC.cl, eq_self, List.all_cons, List.all_nil, AV.eqv, AC.eqv, eqvl, eqvt, Sl.eqv, List.map_append, List.length_map, List.length_append, List.length_replicate, List.length_set, List.map_replicate, nilVC, sd_22, el_22, sz_9, c_impl_CacheOk_1, dge hge, hw]
    have := idx_miss he
    rw [this]
def c_slices_ContainsFunc_string : Contract := ⟨44, fun args M => match args with
  | [.c (.sl a n _), .c (.clo f [])] => .pure (f = 45 ∧ RowOk ByteArray a n (M a.r)) (Eng.B ((row ByteArray a n (M a.r)).any fun p => decide ((20 : Int) < p.size)))
  | _ => .bad⟩
theorem ok_slices_ContainsFunc_string : fnP Try.prog c_slices_ContainsFunc_string.f = true ∧ ∀ args M, (c_slices_ContainsFunc_string.sp args M).OK Try.prog c_slices_ContainsFunc_string.f args M := by
  refine ⟨fp_44, fun args M => ?_⟩
  unfold c_slices_ContainsFunc_string
  dsimp only
  split
  case h_2 => trivial
  rename_i a n ca f
  rintro ⟨rfl, ha⟩
  refine goIn hf_44 rfl (nt := 9) rfl (rs := [.tmp 4]) rfl (C := [c_slices_IndexFunc_string]) ⟨(by first | exact .inl ok_slices_IndexFunc_string | exact ok_slices_IndexFunc_string), trivial⟩ (q := fun _ => false) okQ_none mixed (O := fun _ => .nil) (by kernel_rfl) ?_
  simp only [↓WP, ↓grdD, ↓grdT, ↓un_dead, ↓binVC, ↓buildVC, ↓sliceVC, WQ, WN, Int.reduceToNat, renl, cll, rent, clt, ↓reduceIte, Nat.reduceLeDiff, Nat.reduceEqDiff, Nat.reduceLT, reduceCtorEq, List.append_nil, Nat.reduceAdd, Nat.reduceSub, Nat.reduceBEq, forall_const, implies_true, cond_true, cond_false, AV.ren, AC.ren, AV.cl, AC.cl, eq_self, List.all_cons, List.all_nil, AV.eqv, AC.eqv, eqvl, eqvt, Sl.eqv, List.map_append, List.length_map, List.length_append, List.length_replicate, List.length_set, List.map_replicate, nilVC, c_slices_IndexFunc_string, ← idx_any]
  exact ha
theorem any_long {X : List ByteArray} : (X.any fun p => decide ((20 : Int) < p.size)) = decide (¬ ∀ i, i < X.length → (X.getD i default).size ≤ 20) := by
  rw [Bool.eq_iff_iff, List.any_eq_true, decide_eq_true_iff]
  constructor
  · rintro ⟨x, hx, h⟩ hc
    obtain ⟨j, hj, rfl⟩ := List.getElem_of_mem hx
    have := hc j hj
    rw [getD_of_lt hj] at this
    have := of_decide_eq_true h
    omega
  · intro h
    refine Classical.byContradiction fun hn => h fun i hi => ?_
    refine Classical.byContradiction fun hi2 => hn ⟨_, getD_mem hi, decide_eq_true (by omega)⟩
def c_impl_rowAt_1 : Contract := ⟨67, fun args M => match args with
  | [.agg [.int .i64 x, .str _, .bool _], .c (.ptr p)] => box1 p (M p.r) fun v => .pure True (Eng.B (decide (x = v)))
  | _ => .bad⟩
theorem ok_impl_rowAt_1 : fnP Try.prog c_impl_rowAt_1.f = true ∧ ∀ args M, (c_impl_rowAt_1.sp args M).OK Try.prog c_impl_rowAt_1.f args M := by
  refine ⟨fp_67, fun args M => ?_⟩
  unfold c_impl_rowAt_1
  dsimp only
  split
  case h_2 => trivial
  rename_i x y z p
  refine box1_cases fun t v hM h1 h2 h3 => ?_
  intro _
  refine goIn hf_67 rfl (nt := 8) rfl (rs := [.tmp 3]) rfl (C := []) trivial (q := fun _ => false) okQ_none mixed (O := fun _ => .nil) (by kernel_rfl) ?_
  simp only [↓WP, ↓grdD, ↓grdT, ↓un_dead, ↓binVC, ↓buildVC, ↓sliceVC, WQ, WN, Int.reduceToNat, renl, cll, rent, clt, ↓reduceIte, Nat.reduceLeDiff, Nat.reduceEqDiff, Nat.reduceLT, reduceCtorEq, List.append_nil, Nat.reduceAdd, Nat.reduceSub, Nat.reduceBEq, forall_const, implies_true, cond_true, cond_false, AV.ren, AC.ren, AV.cl, AC.cl, eq_self, List.all_cons, List.all_nil, AV.eqv, AC.eqv, eqvl, eqvt, Sl.eqv, List.map_append, List.length_map, List.length_append, List.length_replicate, List.length_set, List.map_replicate, nilVC, fl_60_0, sz_3, hM, h1, h2, h3]
def c_slices_IndexFunc_Row : Contract := ⟨66, fun args M => match args with
  | [.c (.sl a n _), .c (.clo f [p])] => box1 p (M p.r) fun v => .pure (f = 67 ∧ RowOk TR a n (M a.r)) (I (idx (fun x => decide (x.1 = v)) (row TR a n (M a.r))))
  | _ => .bad⟩
theorem ok_slices_IndexFunc_Row : fnP Try.prog c_slices_IndexFunc_Row.f = true ∧ ∀ args M, (c_slices_IndexFunc_Row.sp args M).OK Try.prog c_slices_IndexFunc_Row.f args M := by
  refine ⟨fp_66, fun args M => ?_⟩
  unfold c_slices_IndexFunc_Row
  dsimp only
  split
  case h_2 => trivial
  rename_i a n ca f p
  refine box1_cases fun t v hMp h1 h2 h3 => ?_
  rintro ⟨rfl, ha⟩
  obtain ⟨hs, X, hX, rfl, hat⟩ := ha.x
  rw [hX]
  refine goIn hf_66 rfl (nt := 19) rfl (rs := [.tmp 4]) rfl (C := [c_impl_rowAt_1]) ⟨(by first | exact .inl ok_impl_rowAt_1 | exact ok_impl_rowAt_1), trivial⟩ (q := fun _ => false) okQ_none mixed (O := fun _ => .nil) (by kernel_rfl) ?_
  simp only [↓WP, ↓grdD, ↓grdT, ↓un_dead, ↓binVC, ↓buildVC, ↓sliceVC, WQ, WN, Int.reduceToNat, renl, cll, rent, clt, ↓reduceIte, Nat.reduceLeDiff, Nat.reduceEqDiff, Nat.reduceLT, reduceCtorEq, List.append_nil, Nat.reduceAdd, Nat.reduceSub, Nat.reduceBEq, forall_const, implies_true, cond_true, cond_false, AV.ren, AC.ren, AV.cl, AC.cl, eq_self, List.all_cons, List.all_nil, AV.eqv, AC.eqv, eqvl, eqvt, Sl.eqv, List.map_append, List.length_map, List.length_append, List.length_replicate, List.length_set, List.map_replicate, nilVC, sd_23, el_23, sz_60, c_impl_rowAt_1]
  refine loopI (J := {i : Nat // i ≤ X.length ∧ clear (fun x : TR => decide (x.1 = v)) X i}) (fun i => ⟨slots 19 [(0, .c (.sl a.up X.length ca)), (1, .c (.clo 67 [p.up])), (7, I X.length), (8, I i.1)], M, [], []⟩) (fun i => X.length - i.1) ⟨0, by omega, clear_zero _ _⟩ (Le_intro [] (by simp [WL, WNL, swA_new, swA_ne, nest_sw_ne, mapLL, List.mem_cons, Nat.reduceAdd, Nat.reduceLT, Nat.reduceLeDiff, Nat.reduceEqDiff, okU, List.nodup_cons, List.not_mem_nil, toT, toL, toO, keysO, renl, rent, cll, clt, eq_self, AV.eqv, AC.eqv, eqvl, eqvt, Sl.eqv, rowsLe, mapLL, rowsCl, List.map_append, List.length_map, List.length_append, List.length_set, List.map_replicate, rowG, List.getElem?_cons_zero, List.getElem?_cons_succ, List.getElem?_nil, List.append_nil, List.nil_append, List.cons_append, ghosts, St.gh, Option.some.injEq, implies_true, setT, AV.ren, AC.ren, AV.cl, AC.cl, List.replicate_succ, List.replicate_zero, List.nodup_nil, List.length_nil, List.length_cons, List.getD_cons_zero, List.getD_cons_succ, ↓reduceIte])) ?_
  rintro ⟨i, hi, he⟩
  have hw := wS (i := i) (by omega)
  rcases Nat.lt_or_ge i X.length with hlt | hge
  · obtain ⟨own, ty, cnt, cap, len, get, hM, hf, hic, hkn, hget⟩ := hat (by omega)
    simp only [↓WP, ↓grdD, ↓grdT, ↓un_dead, ↓binVC, ↓buildVC, ↓sliceVC, WQ, WN, Int.reduceToNat, renl, cll, rent, clt, ↓reduceIte, Nat.reduceLeDiff, Nat.reduceEqDiff, Nat.reduceLT, reduceCtorEq, List.append_nil, Nat.reduceAdd, Nat.reduceSub, Nat.reduceBEq, forall_const, implies_true, cond_true, cond_false, AV.ren, AC.ren, AV.cl, AC.cl, eq_self, List.all_cons, List.all_nil, AV.eqv, AC.eqv, eqvl, eqvt, Sl.eqv, List.map_append, List.length_map, List.length_append, List.length_replicate, List.length_set, List.map_replicate, nilVC, sd_23, el_23, sz_60, c_impl_rowAt_1, dlt hlt, hw, hM, hf, hget i hlt, hMp, h1, h2, h3]
    repeat refine ⟨by omega, ?_⟩
    refine ⟨fun h1 => ?_, fun h1 => ?_⟩
    · have := idx_hit (p := fun x : TR => decide (x.1 = v)) he hlt h1
      simp [this]
    · exact ⟨⟨i + 1, hlt, clear_succ he h1⟩, Le_intro [] (by simp [WL, WNL, swA_new, swA_ne, nest_sw_ne, mapLL, List.mem_cons, Nat.reduceAdd, Nat.reduceLT, Nat.reduceLeDiff, Nat.reduceEqDiff, okU, List.nodup_cons, List.not_mem_nil, toT, toL, toO, keysO, renl, rent, cll, clt, eq_self, AV.eqv, AC.eqv, eqvl, eqvt, Sl.eqv, rowsLe, mapLL, rowsCl, List.map_append, List.length_map, List.length_append, List.length_set, List.map_replicate, rowG, List.getElem?_cons_zero, List.getElem?_cons_succ, List.getElem?_nil, List.append_nil, List.nil_append, List.cons_append, ghosts, St.gh, Option.some.injEq, implies_true, setT, AV.ren, AC.ren, AV.cl, AC.cl, List.replicate_succ, List.replicate_zero, List.nodup_nil, List.length_nil, List.length_cons, List.getD_cons_zero, List.getD_cons_succ, ↓reduceIte]), by show X.length - (i + 1) < X.length - i; omega⟩
  · obtain rfl : i = X.length := by omega
    simp only [↓WP, ↓grdD, ↓grdT, ↓un_dead, ↓binVC, ↓buildVC, ↓sliceVC, WQ, WN, Int.reduceToNat, renl, cll, rent, clt, ↓reduceIte, Nat.reduceLeDiff, Nat.reduceEqDiff, Nat.reduceLT, reduceCtorEq, List.append_nil, Nat.reduceAdd, Nat.reduceSub, Nat.reduceBEq, forall_const, implies_true, cond_true, cond_false, AV.ren, AC.ren, AV.cl, AC.cl, eq_self, List.all_cons, List.all_nil, AV.eqv, AC.eqv, eqvl, eqvt, Sl.eqv, List.map_append, List.length_map, List.length_append, List.length_replicate, List.length_set, List.map_replicate, nilVC, sd_23, el_23, sz_60, c_impl_rowAt_1, dge hge, hw]
    have := idx_miss he
    simp [this]
def c_impl_rowAt : Contract := ⟨46, fun args M => match args with
  | [.agg [.int .i64 _, .sl _ _ _, .sl a n _, .int .i64 _, .int .i64 _], .c (.int .i64 v)] => .pure (RowOk TR a n (M a.r)) (I (idx (fun x => decide (x.1 = v)) (row TR a n (M a.r))))
  | _ => .bad⟩
theorem ok_impl_rowAt : fnP Try.prog c_impl_rowAt.f = true ∧ ∀ args M, (c_impl_rowAt.sp args M).OK Try.prog c_impl_rowAt.f args M := by
  refine ⟨fp_46, fun args M => ?_⟩
  unfold c_impl_rowAt
  dsimp only
  split
  case h_2 => trivial
  rename_i t u un uc a n ca d e v
  intro ha
  refine goIn hf_46 rfl (nt := 9) rfl (rs := [.tmp 4]) rfl (C := [c_impl_rowAt_1, c_slices_IndexFunc_Row]) ⟨(by first | exact .inl ok_impl_rowAt_1 | exact ok_impl_rowAt_1), (by first | exact .inl ok_slices_IndexFunc_Row | exact ok_slices_IndexFunc_Row), trivial⟩ (q := fun _ => false) okQ_none mixed (O := fun _ => .nil) (by kernel_rfl) ?_
  simp only [↓WP, ↓grdD, ↓grdT, ↓un_dead, ↓binVC, ↓buildVC, ↓sliceVC, WQ, WN, Int.reduceToNat, renl, cll, rent, clt, ↓reduceIte, Nat.reduceLeDiff, Nat.reduceEqDiff, Nat.reduceLT, reduceCtorEq, List.append_nil, Nat.reduceAdd, Nat.reduceSub, Nat.reduceBEq, forall_const, implies_true, cond_true, cond_false, AV.ren, AC.ren, AV.cl, AC.cl, eq_self, List.all_cons, List.all_nil, AV.eqv, AC.eqv, eqvl, eqvt, Sl.eqv, List.map_append, List.length_map, List.length_append, List.length_replicate, List.length_set, List.map_replicate, nilVC, fl_25_2, sz_23, c_impl_rowAt_1, c_slices_IndexFunc_Row]
  simp [ha]
theorem q_impl_rowAt : Quiet c_impl_rowAt := by
  intro args M
  unfold c_impl_rowAt
  dsimp only
  split <;> first | trivial | (intro _; rfl)
def c_spec_l30At : Contract := ⟨47, fun args M => match args with
  | [.agg [.int .i64 _, .sl _ _ _, .sl a n _, .int .i64 _, .int .i64 _], .c (.int .i64 v)] => .pure (RowOk TR a n (M a.r)) (I (idx (fun x => decide (x.1 = v)) (row TR a n (M a.r))))
  | _ => .bad⟩
theorem ok_spec_l30At : fnP Try.prog c_spec_l30At.f = true ∧ ∀ args M, (c_spec_l30At.sp args M).OK Try.prog c_spec_l30At.f args M := by
  refine ⟨fp_47, fun args M => ?_⟩
  unfold c_spec_l30At
  dsimp only
  split
  case h_2 => trivial
  rename_i t u un uc a n ca d e v
  intro ha
  obtain ⟨hs, X, hX, rfl, hat⟩ := ha.x
  rw [hX]
  refine goIn hf_47 rfl (nt := 22) rfl (rs := [.tmp 4]) rfl (C := []) trivial (q := fun _ => false) okQ_none mixed (O := fun _ => .nil) (by kernel_rfl) ?_
  simp only [↓WP, ↓grdD, ↓grdT, ↓un_dead, ↓binVC, ↓buildVC, ↓sliceVC, WQ, WN, Int.reduceToNat, renl, cll, rent, clt, ↓reduceIte, Nat.reduceLeDiff, Nat.reduceEqDiff, Nat.reduceLT, reduceCtorEq, List.append_nil, Nat.reduceAdd, Nat.reduceSub, Nat.reduceBEq, forall_const, implies_true, cond_true, cond_false, AV.ren, AC.ren, AV.cl, AC.cl, eq_self, List.all_cons, List.all_nil, AV.eqv, AC.eqv, eqvl, eqvt, Sl.eqv, List.map_append, List.length_map, List.length_append, List.length_replicate, List.length_set, List.map_replicate, nilVC, fl_25_2, sz_23, sd_23, el_23, fl_60_0, sz_3]
  refine loopI (J := {i : Nat // i ≤ X.length ∧ clear (fun x : TR => decide (x.1 = v)) X i}) (fun i => ⟨slots 22 [(1, I v), (2, .c (.ptr ⟨.loc 0, 0, 0, 0⟩)), (5, I i.1)], M, [], [.box 25 [.int .i64 t, .sl u.up un uc, .sl a.up X.length ca, .int .i64 d, .int .i64 e]]⟩) (fun i => X.length - i.1) ⟨0, by omega, clear_zero _ _⟩ (Le_intro [0] (by simp [WL, WNL, swA_new, swA_ne, nest_sw_ne, mapLL, List.mem_cons, Nat.reduceAdd, Nat.reduceLT, Nat.reduceLeDiff, Nat.reduceEqDiff, okU, List.nodup_cons, List.not_mem_nil, toT, toL, toO, keysO, renl, rent, cll, clt, eq_self, AV.eqv, AC.eqv, eqvl, eqvt, Sl.eqv, rowsLe, mapLL, rowsCl, List.map_append, List.length_map, List.length_append, List.length_set, List.map_replicate, rowG, List.getElem?_cons_zero, List.getElem?_cons_succ, List.getElem?_nil, List.append_nil, List.nil_append, List.cons_append, ghosts, St.gh, Option.some.injEq, implies_true, setT, AV.ren, AC.ren, AV.cl, AC.cl, List.replicate_succ, List.replicate_zero, List.nodup_nil, List.length_nil, List.length_cons, List.getD_cons_zero, List.getD_cons_succ, ↓reduceIte])) ?_
  rintro ⟨i, hi, he⟩
  have hw := wS (i := i) (by omega)
  rcases Nat.lt_or_ge i X.length with hlt | hge
  · obtain ⟨own, ty, cnt, cap, len, get, hM, hf, hic, hkn, hget⟩ := hat (by omega)
    simp only [↓WP, ↓grdD, ↓grdT, ↓un_dead, ↓binVC, ↓buildVC, ↓sliceVC, WQ, WN, Int.reduceToNat, renl, cll, rent, clt, ↓reduceIte, Nat.reduceLeDiff, Nat.reduceEqDiff, Nat.reduceLT, reduceCtorEq, List.append_nil, Nat.reduceAdd, Nat.reduceSub, Nat.reduceBEq, forall_const, implies_true, cond_true, cond_false, AV.ren, AC.ren, AV.cl, AC.cl, eq_self, List.all_cons, List.all_nil, AV.eqv, AC.eqv, eqvl, eqvt, Sl.eqv, List.map_append, List.length_map, List.length_append, List.length_replicate, List.length_set, List.map_replicate, nilVC, fl_25_2, sz_23, sd_23, el_23, fl_60_0, sz_3, dlt hlt, hw, hM, hf, hget i hlt]
    repeat' (first | with_reducible refine And.intro ?_ ?_ | intro _)
    all_goals try omega
    · rename_i h1
      have := idx_hit (p := fun x : TR => decide (x.1 = v)) he hlt h1
      rw [this]
    · rename_i h1
      exact ⟨⟨i + 1, hlt, clear_succ he h1⟩, Le_intro [0] (by simp [WL, WNL, swA_new, swA_ne, nest_sw_ne, mapLL, List.mem_cons, Nat.reduceAdd, Nat.reduceLT, Nat.reduceLeDiff, Nat.reduceEqDiff, okU, List.nodup_cons, List.not_mem_nil, toT, toL, toO, keysO, renl, rent, cll, clt, eq_self, AV.eqv, AC.eqv, eqvl, eqvt, Sl.eqv, rowsLe, mapLL, rowsCl, List.map_append, List.length_map, List.length_append, List.length_set, List.map_replicate, rowG, List.getElem?_cons_zero, List.getElem?_cons_succ, List.getElem?_nil, List.append_nil, List.nil_append, List.cons_append, ghosts, St.gh, Option.some.injEq, implies_true, setT, AV.ren, AC.ren, AV.cl, AC.cl, List.replicate_succ, List.replicate_zero, List.nodup_nil, List.length_nil, List.length_cons, List.getD_cons_zero, List.getD_cons_succ, ↓reduceIte]), by show X.length - (i + 1) < X.length - i; omega⟩
  · obtain rfl : i = X.length := by omega
    simp only [↓WP, ↓grdD, ↓grdT, ↓un_dead, ↓binVC, ↓buildVC, ↓sliceVC, WQ, WN, Int.reduceToNat, renl, cll, rent, clt, ↓reduceIte, Nat.reduceLeDiff, Nat.reduceEqDiff, Nat.reduceLT, reduceCtorEq, List.append_nil, Nat.reduceAdd, Nat.reduceSub, Nat.reduceBEq, forall_const, implies_true, cond_true, cond_false, AV.ren, AC.ren, AV.cl, AC.cl, eq_self, List.all_cons, List.all_nil, AV.eqv, AC.eqv, eqvl, eqvt, Sl.eqv, List.map_append, List.length_map, List.length_append, List.length_replicate, List.length_set, List.map_replicate, nilVC, fl_25_2, sz_23, sd_23, el_23, fl_60_0, sz_3, dge hge, hw]
    have := idx_miss he
    rw [this]
end Go.Eng.T
