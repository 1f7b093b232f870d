/- sched: where a task is; Delete. -/
import Derived.Test.YtmlenialhmeomaaFn6
set_option linter.unusedVariables false
set_option linter.unusedSimpArgs false
set_option linter.unusedSectionVars false
namespace Go.Eng.T
open Go.Proofs
open Cel (enc dec)
set_option maxRecDepth 100000
set_option maxHeartbeats 4000000
def c_impl_taskAt_1 : Contract := ⟨52, fun args M => match args with
  | [.agg [.int .i64 x, .int .i64 _, .int .i64 _], .c (.ptr p)] => box1 p (M p.r) fun v => .pure True (Eng.B (decide (x = v)))
  | _ => .bad⟩
theorem ok_impl_taskAt_1 : fnP Try.prog c_impl_taskAt_1.f = true ∧ ∀ args M, (c_impl_taskAt_1.sp args M).OK Try.prog c_impl_taskAt_1.f args M := by
  refine ⟨fp_52, fun args M => ?_⟩
  unfold c_impl_taskAt_1
  dsimp only
  split
  case h_2 => trivial
  rename_i x y z p
  refine box1_cases fun t v hM h1 h2 h3 => ?_
  intro _
  refine goIn hf_52 rfl (nt := 8) rfl (rs := [.tmp 3]) rfl (C := []) trivial (q := fun _ => false) okQ_none mixed (O := fun _ => .nil) (by kernel_rfl) ?_
  simp only [↓WP, ↓grdD, ↓grdT, ↓un_dead, ↓binVC, ↓buildVC, ↓sliceVC, WQ, WN, Int.reduceToNat, renl, cll, rent, clt, ↓reduceIte, Nat.reduceLeDiff, Nat.reduceEqDiff, Nat.reduceLT, reduceCtorEq, List.append_nil, Nat.reduceAdd, Nat.reduceSub, Nat.reduceBEq, forall_const, implies_true, cond_true, cond_false, AV.ren, AC.ren, AV.cl, AC.cl, eq_self, List.all_cons, List.all_nil, AV.eqv, AC.eqv, eqvl, eqvt, Sl.eqv, List.map_append, List.length_map, List.length_append, List.length_replicate, List.length_set, List.map_replicate, nilVC, fl_53_0, sz_3, hM, h1, h2, h3]
def c_slices_IndexFunc_STask : Contract := ⟨51, fun args M => match args with
  | [.c (.sl a n _), .c (.clo f [p])] => box1 p (M p.r) fun v => .pure (f = 52 ∧ RowOk T3 a n (M a.r)) (I (idx (fun x => decide (x.1 = v)) (row T3 a n (M a.r))))
  | _ => .bad⟩
theorem ok_slices_IndexFunc_STask : fnP Try.prog c_slices_IndexFunc_STask.f = true ∧ ∀ args M, (c_slices_IndexFunc_STask.sp args M).OK Try.prog c_slices_IndexFunc_STask.f args M := by
  refine ⟨fp_51, fun args M => ?_⟩
  unfold c_slices_IndexFunc_STask
  dsimp only
  split
  case h_2 => trivial
  rename_i a n ca f p
  refine box1_cases fun t v hMp h1 h2 h3 => ?_
  rintro ⟨rfl, ha⟩
  obtain ⟨hs, X, hX, rfl, hat⟩ := ha.x
  rw [hX]
  refine goIn hf_51 rfl (nt := 19) rfl (rs := [.tmp 4]) rfl (C := [c_impl_taskAt_1]) ⟨(by first | exact .inl ok_impl_taskAt_1 | exact ok_impl_taskAt_1), trivial⟩ (q := fun _ => false) okQ_none mixed (O := fun _ => .nil) (by kernel_rfl) ?_
  simp only [↓WP, ↓grdD, ↓grdT, ↓un_dead, ↓binVC, ↓buildVC, ↓sliceVC, WQ, WN, Int.reduceToNat, renl, cll, rent, clt, ↓reduceIte, Nat.reduceLeDiff, Nat.reduceEqDiff, Nat.reduceLT, reduceCtorEq, List.append_nil, Nat.reduceAdd, Nat.reduceSub, Nat.reduceBEq, forall_const, implies_true, cond_true, cond_false, AV.ren, AC.ren, AV.cl, AC.cl, eq_self, List.all_cons, List.all_nil, AV.eqv, AC.eqv, eqvl, eqvt, Sl.eqv, List.map_append, List.length_map, List.length_append, List.length_replicate, List.length_set, List.map_replicate, nilVC, sd_27, el_27, sz_53, c_impl_taskAt_1]
  refine loopI (J := {i : Nat // i ≤ X.length ∧ clear (fun x : T3 => decide (x.1 = v)) X i}) (fun i => ⟨slots 19 [(0, .c (.sl a.up X.length ca)), (1, .c (.clo 52 [p.up])), (7, I X.length), (8, I i.1)], M, [], []⟩) (fun i => X.length - i.1) ⟨0, by omega, clear_zero _ _⟩ (Le_intro [] (by simp [WL, WNL, swA_new, swA_ne, nest_sw_ne, mapLL, List.mem_cons, Nat.reduceAdd, Nat.reduceLT, Nat.reduceLeDiff, Nat.reduceEqDiff, okU, List.nodup_cons, List.not_mem_nil, toT, toL, toO, keysO, renl, rent, cll, clt, eq_self, AV.eqv, AC.eqv, eqvl, eqvt, Sl.eqv, rowsLe, mapLL, rowsCl, List.map_append, List.length_map, List.length_append, List.length_set, List.map_replicate, rowG, List.getElem?_cons_zero, List.getElem?_cons_succ, List.getElem?_nil, List.append_nil, List.nil_append, List.cons_append, ghosts, St.gh, Option.some.injEq, implies_true, setT, AV.ren, AC.ren, AV.cl, AC.cl, List.replicate_succ, List.replicate_zero, List.nodup_nil, List.length_nil, List.length_cons, List.getD_cons_zero, List.getD_cons_succ, ↓reduceIte])) ?_
  rintro ⟨i, hi, he⟩
  have hw := wS (i := i) (by omega)
  rcases Nat.lt_or_ge i X.length with hlt | hge
  · obtain ⟨own, ty, cnt, cap, len, get, hM, hf, hic, hkn, hget⟩ := hat (by omega)
    simp only [↓WP, ↓grdD, ↓grdT, ↓un_dead, ↓binVC, ↓buildVC, ↓sliceVC, WQ, WN, Int.reduceToNat, renl, cll, rent, clt, ↓reduceIte, Nat.reduceLeDiff, Nat.reduceEqDiff, Nat.reduceLT, reduceCtorEq, List.append_nil, Nat.reduceAdd, Nat.reduceSub, Nat.reduceBEq, forall_const, implies_true, cond_true, cond_false, AV.ren, AC.ren, AV.cl, AC.cl, eq_self, List.all_cons, List.all_nil, AV.eqv, AC.eqv, eqvl, eqvt, Sl.eqv, List.map_append, List.length_map, List.length_append, List.length_replicate, List.length_set, List.map_replicate, nilVC, sd_27, el_27, sz_53, c_impl_taskAt_1, dlt hlt, hw, hM, hf, hget i hlt, hMp, h1, h2, h3]
    repeat refine ⟨by omega, ?_⟩
    refine ⟨fun h1 => ?_, fun h1 => ?_⟩
    · have := idx_hit (p := fun x : T3 => decide (x.1 = v)) he hlt h1
      simp [this]
    · exact ⟨⟨i + 1, hlt, clear_succ he h1⟩, Le_intro [] (by simp [WL, WNL, swA_new, swA_ne, nest_sw_ne, mapLL, List.mem_cons, Nat.reduceAdd, Nat.reduceLT, Nat.reduceLeDiff, Nat.reduceEqDiff, okU, List.nodup_cons, List.not_mem_nil, toT, toL, toO, keysO, renl, rent, cll, clt, eq_self, AV.eqv, AC.eqv, eqvl, eqvt, Sl.eqv, rowsLe, mapLL, rowsCl, List.map_append, List.length_map, List.length_append, List.length_set, List.map_replicate, rowG, List.getElem?_cons_zero, List.getElem?_cons_succ, List.getElem?_nil, List.append_nil, List.nil_append, List.cons_append, ghosts, St.gh, Option.some.injEq, implies_true, setT, AV.ren, AC.ren, AV.cl, AC.cl, List.replicate_succ, List.replicate_zero, List.nodup_nil, List.length_nil, List.length_cons, List.getD_cons_zero, List.getD_cons_succ, ↓reduceIte]), by show X.length - (i + 1) < X.length - i; omega⟩
  · obtain rfl : i = X.length := by omega
    simp only [↓WP, ↓grdD, ↓grdT, ↓un_dead, ↓binVC, ↓buildVC, ↓sliceVC, WQ, WN, Int.reduceToNat, renl, cll, rent, clt, ↓reduceIte, Nat.reduceLeDiff, Nat.reduceEqDiff, Nat.reduceLT, reduceCtorEq, List.append_nil, Nat.reduceAdd, Nat.reduceSub, Nat.reduceBEq, forall_const, implies_true, cond_true, cond_false, AV.ren, AC.ren, AV.cl, AC.cl, eq_self, List.all_cons, List.all_nil, AV.eqv, AC.eqv, eqvl, eqvt, Sl.eqv, List.map_append, List.length_map, List.length_append, List.length_replicate, List.length_set, List.map_replicate, nilVC, sd_27, el_27, sz_53, c_impl_taskAt_1, dge hge, hw]
    have := idx_miss he
    simp [this]
def c_impl_taskAt : Contract := ⟨40, fun args M => match args with
  | [.agg [.sl a n _, .int .i64 _], .c (.int .i64 v)] => .pure (RowOk T3 a n (M a.r)) (I (idx (fun x => decide (x.1 = v)) (row T3 a n (M a.r))))
  | _ => .bad⟩
theorem ok_impl_taskAt : fnP Try.prog c_impl_taskAt.f = true ∧ ∀ args M, (c_impl_taskAt.sp args M).OK Try.prog c_impl_taskAt.f args M := by
  refine ⟨fp_40, fun args M => ?_⟩
  unfold c_impl_taskAt
  dsimp only
  split
  case h_2 => trivial
  rename_i a n ca t v
  intro ha
  refine goIn hf_40 rfl (nt := 9) rfl (rs := [.tmp 4]) rfl (C := [c_impl_taskAt_1, c_slices_IndexFunc_STask]) ⟨(by first | exact .inl ok_impl_taskAt_1 | exact ok_impl_taskAt_1), (by first | exact .inl ok_slices_IndexFunc_STask | exact ok_slices_IndexFunc_STask), trivial⟩ (q := fun _ => false) okQ_none mixed (O := fun _ => .nil) (by kernel_rfl) ?_
  simp only [↓WP, ↓grdD, ↓grdT, ↓un_dead, ↓binVC, ↓buildVC, ↓sliceVC, WQ, WN, Int.reduceToNat, renl, cll, rent, clt, ↓reduceIte, Nat.reduceLeDiff, Nat.reduceEqDiff, Nat.reduceLT, reduceCtorEq, List.append_nil, Nat.reduceAdd, Nat.reduceSub, Nat.reduceBEq, forall_const, implies_true, cond_true, cond_false, AV.ren, AC.ren, AV.cl, AC.cl, eq_self, List.all_cons, List.all_nil, AV.eqv, AC.eqv, eqvl, eqvt, Sl.eqv, List.map_append, List.length_map, List.length_append, List.length_replicate, List.length_set, List.map_replicate, nilVC, fl_29_0, sz_27, c_impl_taskAt_1, c_slices_IndexFunc_STask]
  simp [ha]
theorem q_impl_taskAt : Quiet c_impl_taskAt := by
  intro args M
  unfold c_impl_taskAt
  dsimp only
  split <;> first | trivial | (intro _; rfl)
def c_spec_l33At : Contract := ⟨39, fun args M => match args with
  | [.agg [.sl a n _, .int .i64 _], .c (.int .i64 v)] => .pure (RowOk T3 a n (M a.r)) (I (idx (fun x => decide (x.1 = v)) (row T3 a n (M a.r))))
  | _ => .bad⟩
theorem ok_spec_l33At : fnP Try.prog c_spec_l33At.f = true ∧ ∀ args M, (c_spec_l33At.sp args M).OK Try.prog c_spec_l33At.f args M := by
  refine ⟨fp_39, fun args M => ?_⟩
  unfold c_spec_l33At
  dsimp only
  split
  case h_2 => trivial
  rename_i a n ca t v
  intro ha
  obtain ⟨hs, X, hX, rfl, hat⟩ := ha.x
  rw [hX]
  refine goIn hf_39 rfl (nt := 22) rfl (rs := [.tmp 4]) rfl (C := []) trivial (q := fun _ => false) okQ_none mixed (O := fun _ => .nil) (by kernel_rfl) ?_
  simp only [↓WP, ↓grdD, ↓grdT, ↓un_dead, ↓binVC, ↓buildVC, ↓sliceVC, WQ, WN, Int.reduceToNat, renl, cll, rent, clt, ↓reduceIte, Nat.reduceLeDiff, Nat.reduceEqDiff, Nat.reduceLT, reduceCtorEq, List.append_nil, Nat.reduceAdd, Nat.reduceSub, Nat.reduceBEq, forall_const, implies_true, cond_true, cond_false, AV.ren, AC.ren, AV.cl, AC.cl, eq_self, List.all_cons, List.all_nil, AV.eqv, AC.eqv, eqvl, eqvt, Sl.eqv, List.map_append, List.length_map, List.length_append, List.length_replicate, List.length_set, List.map_replicate, nilVC, fl_29_0, sz_27, sd_27, el_27, fl_53_0, sz_3]
  refine loopI (J := {i : Nat // i ≤ X.length ∧ clear (fun x : T3 => decide (x.1 = v)) X i}) (fun i => ⟨slots 22 [(1, I v), (2, .c (.ptr ⟨.loc 0, 0, 0, 0⟩)), (5, I i.1)], M, [], [.box 29 [.sl a.up X.length ca, .int .i64 t]]⟩) (fun i => X.length - i.1) ⟨0, by omega, clear_zero _ _⟩ (Le_intro [0] (by simp [WL, WNL, swA_new, swA_ne, nest_sw_ne, mapLL, List.mem_cons, Nat.reduceAdd, Nat.reduceLT, Nat.reduceLeDiff, Nat.reduceEqDiff, okU, List.nodup_cons, List.not_mem_nil, toT, toL, toO, keysO, renl, rent, cll, clt, eq_self, AV.eqv, AC.eqv, eqvl, eqvt, Sl.eqv, rowsLe, mapLL, rowsCl, List.map_append, List.length_map, List.length_append, List.length_set, List.map_replicate, rowG, List.getElem?_cons_zero, List.getElem?_cons_succ, List.getElem?_nil, List.append_nil, List.nil_append, List.cons_append, ghosts, St.gh, Option.some.injEq, implies_true, setT, AV.ren, AC.ren, AV.cl, AC.cl, List.replicate_succ, List.replicate_zero, List.nodup_nil, List.length_nil, List.length_cons, List.getD_cons_zero, List.getD_cons_succ, ↓reduceIte])) ?_
  rintro ⟨i, hi, he⟩
  have hw := wS (i := i) (by omega)
  rcases Nat.lt_or_ge i X.length with hlt | hge
  · obtain ⟨own, ty, cnt, cap, len, get, hM, hf, hic, hkn, hget⟩ := hat (by omega)
    simp only [↓WP, ↓grdD, ↓grdT, ↓un_dead, ↓binVC, ↓buildVC, ↓sliceVC, WQ, WN, Int.reduceToNat, renl, cll, rent, clt, ↓reduceIte, Nat.reduceLeDiff, Nat.reduceEqDiff, Nat.reduceLT, reduceCtorEq, List.append_nil, Nat.reduceAdd, Nat.reduceSub, Nat.reduceBEq, forall_const, implies_true, cond_true, cond_false, AV.ren, AC.ren, AV.cl, AC.cl, eq_self, List.all_cons, List.all_nil, AV.eqv, AC.eqv, eqvl, eqvt, Sl.eqv, List.map_append, List.length_map, List.length_append, List.length_replicate, List.length_set, List.map_replicate, nilVC, fl_29_0, sz_27, sd_27, el_27, fl_53_0, sz_3, dlt hlt, hw, hM, hf, hget i hlt]
    repeat refine ⟨by omega, ?_⟩
    refine ⟨fun h1 => ?_, fun h1 => ?_⟩
    · have := idx_hit (p := fun x : T3 => decide (x.1 = v)) he hlt h1
      simp [this]
    · exact ⟨⟨i + 1, hlt, clear_succ he h1⟩, Le_intro [0] (by simp [WL, WNL, swA_new, swA_ne, nest_sw_ne, mapLL, List.mem_cons, Nat.reduceAdd, Nat.reduceLT, Nat.reduceLeDiff, Nat.reduceEqDiff, okU, List.nodup_cons, List.not_mem_nil, toT, toL, toO, keysO, renl, rent, cll, clt, eq_self, AV.eqv, AC.eqv, eqvl, eqvt, Sl.eqv, rowsLe, mapLL, rowsCl, List.map_append, List.length_map, List.length_append, List.length_set, List.map_replicate, rowG, List.getElem?_cons_zero, List.getElem?_cons_succ, List.getElem?_nil, List.append_nil, List.nil_append, List.cons_append, ghosts, St.gh, Option.some.injEq, implies_true, setT, AV.ren, AC.ren, AV.cl, AC.cl, List.replicate_succ, List.replicate_zero, List.nodup_nil, List.length_nil, List.length_cons, List.getD_cons_zero, List.getD_cons_succ, ↓reduceIte]), by show X.length - (i + 1) < X.length - i; omega⟩
  · obtain rfl : i = X.length := by omega
    simp only [↓WP, ↓grdD, ↓grdT, ↓un_dead, ↓binVC, ↓buildVC, ↓sliceVC, WQ, WN, Int.reduceToNat, renl, cll, rent, clt, ↓reduceIte, Nat.reduceLeDiff, Nat.reduceEqDiff, Nat.reduceLT, reduceCtorEq, List.append_nil, Nat.reduceAdd, Nat.reduceSub, Nat.reduceBEq, forall_const, implies_true, cond_true, cond_false, AV.ren, AC.ren, AV.cl, AC.cl, eq_self, List.all_cons, List.all_nil, AV.eqv, AC.eqv, eqvl, eqvt, Sl.eqv, List.map_append, List.length_map, List.length_append, List.length_replicate, List.length_set, List.map_replicate, nilVC, fl_29_0, sz_27, sd_27, el_27, fl_53_0, sz_3, dge hge, hw]
    have := idx_miss he
    simp [this]
theorem q_spec_l33At : Quiet c_spec_l33At := by
  intro args M
  unfold c_spec_l33At
  dsimp only
  split <;> first | trivial | (intro _; rfl)
theorem win_one {z : List AC} : win (fun _ => z) 1 = [z] := by simp [win, List.range_succ]
theorem putAt_last {Z : List (List AC)} {z : List AC} {m : Nat} (hm : m + 1 = Z.length) : putAt Z m [z] = Z.take m ++ [z] := by
  rw [putAt_in (by omega), List.drop_eq_nil_of_le (by simp; omega), List.append_nil]
theorem putAt_del {Z : List (List AC)} {z : List AC} {m : Nat} (hm : m + 1 < Z.length) :
    putAt (putAt Z m (win (fun k => Z.getD (m + 1 + k) []) (Z.length - (m + 1)))) (Z.length - 1) [z] = Z.take m ++ Z.drop (m + 1) ++ [z] := by
  have hW : win (fun k => Z.getD (m + 1 + k) []) (Z.length - (m + 1)) = Z.drop (m + 1) := by
    rw [win_drop (by omega)]
    exact List.take_of_length_le (by rw [List.length_drop]; exact Nat.le_refl _)
  have h1 : putAt Z m (Z.drop (m + 1)) = (Z.take m ++ Z.drop (m + 1)) ++ Z.drop (m + (Z.drop (m + 1)).length) := putAt_in (by omega)
  have hl : (Z.take m ++ Z.drop (m + 1)).length = Z.length - 1 := by simp; omega
  have hl2 : (Z.drop (m + (Z.drop (m + 1)).length)).length = 1 := by simp; omega
  have e := putAt_in (L := Z.take m ++ Z.drop (m + 1) ++ Z.drop (m + (Z.drop (m + 1)).length)) (N := [z]) (j := Z.length - 1) (by rw [List.length_append, hl]; omega)
  have e2 : (Z.take m ++ Z.drop (m + 1) ++ Z.drop (m + (Z.drop (m + 1)).length)).take (Z.length - 1) = Z.take m ++ Z.drop (m + 1) := by rw [← hl]; exact List.take_left' rfl
  have e3 : (Z.take m ++ Z.drop (m + 1) ++ Z.drop (m + (Z.drop (m + 1)).length)).drop (Z.length - 1 + [z].length) = [] := List.drop_eq_nil_of_le (by rw [List.length_append, hl, hl2]; exact Nat.le_refl _)
  rw [hW, h1, e, e2, e3, List.append_nil]
def c_slices_Delete_STask : Contract := ⟨41, fun args M => match args with
  | [.c (.sl a n c), .c (.int .i64 i), .c (.int .i64 j)] => specR T3 a n (M a.r) fun ty cap X => .eff (0 ≤ i ∧ i < n ∧ j = i + 1 ∧ n ≤ c ∧ c ≤ cap) Unit (fun _ => True) (fun _ => .c (.sl a.up (n - 1) c)) (fun _ => []) (fun _ => [(a.r, rowG true ty cap (X.take i.toNat ++ X.drop (i.toNat + 1) ++ [(0, 0, 0)]))])
  | _ => .bad⟩
theorem ok_slices_Delete_STask : fnP Try.prog c_slices_Delete_STask.f = true ∧ ∀ args M, (c_slices_Delete_STask.sp args M).OK Try.prog c_slices_Delete_STask.f args M := by
  refine ⟨fp_41, fun args M => ?_⟩
  unfold c_slices_Delete_STask
  dsimp only
  split
  case h_2 => trivial
  rename_i a n c i j
  refine specR_cases fun ty cap X hM hX hlen hs hi0 hk0 hf0 => ?_
  rintro ⟨h1, h2, rfl, hc, hcap⟩
  subst hlen
  obtain ⟨m, rfl⟩ : ∃ m : Nat, i = m := ⟨i.toNat, by omega⟩
  obtain ⟨r, ai, ak, af⟩ := a
  dsimp only at hi0 hk0 hf0 hM
  subst hi0 hk0 hf0
  have hm : m < X.length := by omega
  refine goIn hf_41 rfl (nt := 33) rfl (rs := [.tmp 6]) rfl (C := []) trivial (q := fun f => [].contains f) trivial mixed (O := ots [(5, otl [0, 1, 3, 4] (.alt 2 (otl [5, 6, 7] .nil) (otl [5, 2, 6, 7] .nil)))]) (by kernel_rfl) ?_
  have htn : ((m : Int) + 1).toNat = m + 1 := by omega
  have hdec : decide ((m : Int) = (m : Int) + 1) = false := by simp only [decide_eq_false_iff_not]; omega
  rcases Nat.eq_zero_or_pos (X.length - (m + 1)) with hr | hr
  · have hx1 : X.length - m = 1 := by omega
    have hml : m + 1 = X.length := by omega
    have hm1 : X.length - 1 = m := by omega
    have hput : putAt (List.map enc X) m [[.int .i64 0, .int .i64 0, .int .i64 0]] = List.map enc (X.take m) ++ [[.int .i64 0, .int .i64 0, .int .i64 0]] := by
      rw [putAt_last (by simp; omega), List.map_take]
    have hdr : X.drop (m + 1) = [] := List.drop_eq_nil_of_le (by omega)
    simp only [↓WP, ↓grdD, ↓grdT, ↓un_dead, ↓binVC, ↓buildVC, ↓sliceVC, WQ, WN, Int.reduceToNat, renl, cll, rent, clt, ↓reduceIte, Nat.reduceLeDiff, Nat.reduceEqDiff, Nat.reduceLT, reduceCtorEq, List.append_nil, Nat.reduceAdd, Nat.reduceSub, Nat.reduceBEq, forall_const, implies_true, cond_true, cond_false, AV.ren, AC.ren, AV.cl, AC.cl, eq_self, List.all_cons, List.all_nil, AV.eqv, AC.eqv, eqvl, eqvt, Sl.eqv, List.map_append, List.length_map, List.length_append, List.length_replicate, List.length_set, List.map_replicate, nilVC, sd_27, el_27, zr_53, hM, htn, hdec, Nat.sub_zero, hr, hx1, win_one, hput, hdr]
    repeat' (first | with_reducible refine And.intro ?_ ?_ | intro _)
    all_goals try omega
    all_goals try rfl
    all_goals
      refine end_ret ?_
      simp only [↓WP, ↓grdD, ↓grdT, ↓un_dead, ↓binVC, ↓buildVC, ↓sliceVC, WQ, WN, Int.reduceToNat, renl, cll, rent, clt, ↓reduceIte, Nat.reduceLeDiff, Nat.reduceEqDiff, Nat.reduceLT, reduceCtorEq, List.append_nil, Nat.reduceAdd, Nat.reduceSub, Nat.reduceBEq, forall_const, implies_true, cond_true, cond_false, AV.ren, AC.ren, AV.cl, AC.cl, eq_self, List.all_cons, List.all_nil, AV.eqv, AC.eqv, eqvl, eqvt, Sl.eqv, List.map_append, List.length_map, List.length_append, List.length_replicate, List.length_set, List.map_replicate, nilVC, sd_27, el_27, zr_53]
      refine ⟨(), [], [], ?_⟩
      simp only [WL, WNL, swA_new, swA_ne, nest_sw_ne, mapLL, List.mem_cons, Nat.reduceAdd, Nat.reduceLT, Nat.reduceLeDiff, Nat.reduceEqDiff, okU, List.nodup_cons, List.not_mem_nil, toT, toL, toO, keysO, renl, rent, cll, clt, eq_self, AV.eqv, AC.eqv, eqvl, eqvt, Sl.eqv, rowsLe, mapLL, rowsCl, List.map_append, List.length_map, List.length_append, List.length_set, List.map_replicate, rowG, List.getElem?_cons_zero, List.getElem?_cons_succ, List.getElem?_nil, List.append_nil, List.nil_append, List.cons_append, ghosts, St.gh, Option.some.injEq, implies_true, setT, AV.ren, AC.ren, AV.cl, AC.cl, List.replicate_succ, List.replicate_zero, List.nodup_nil, List.length_nil, List.length_cons, List.getD_cons_zero, List.getD_cons_succ, ↓reduceIte, retP]
      simp [okU, hM, hm1]
  · have hr2 : X.length - (X.length - 1) = 1 := by omega
    have hml : m + (X.length - (m + 1)) = X.length - 1 := by omega
    have hput : putAt (putAt (List.map enc X) m (win (fun k => (List.map enc X).getD (m + 1 + k) []) (X.length - (m + 1)))) (X.length - 1) [[.int .i64 0, .int .i64 0, .int .i64 0]] = List.map enc (X.take m) ++ List.map enc (X.drop (m + 1)) ++ [[.int .i64 0, .int .i64 0, .int .i64 0]] := by
      have := putAt_del (Z := List.map enc X) (z := [.int .i64 0, .int .i64 0, .int .i64 0]) (m := m) (by simp; omega)
      rw [List.length_map] at this
      rw [this, List.map_take, List.map_drop]
    have hpl : (putAt (List.map enc X) m (win (fun k => (List.map enc X).getD (m + 1 + k) []) (X.length - (m + 1)))).length = X.length := by
      rw [putAt_in (by simp; omega)]
      simp [win_length]
      omega
    simp only [↓WP, ↓grdD, ↓grdT, ↓un_dead, ↓binVC, ↓buildVC, ↓sliceVC, WQ, WN, Int.reduceToNat, renl, cll, rent, clt, ↓reduceIte, Nat.reduceLeDiff, Nat.reduceEqDiff, Nat.reduceLT, reduceCtorEq, List.append_nil, Nat.reduceAdd, Nat.reduceSub, Nat.reduceBEq, forall_const, implies_true, cond_true, cond_false, AV.ren, AC.ren, AV.cl, AC.cl, eq_self, List.all_cons, List.all_nil, AV.eqv, AC.eqv, eqvl, eqvt, Sl.eqv, List.map_append, List.length_map, List.length_append, List.length_replicate, List.length_set, List.map_replicate, nilVC, sd_27, el_27, zr_53, hM, htn, hdec, Nat.sub_zero, hr2, hml, win_one, hput, hpl]
    repeat' (first | with_reducible refine And.intro ?_ ?_ | intro _)
    all_goals try omega
    all_goals try rfl
    all_goals
      refine end_ret ?_
      simp only [↓WP, ↓grdD, ↓grdT, ↓un_dead, ↓binVC, ↓buildVC, ↓sliceVC, WQ, WN, Int.reduceToNat, renl, cll, rent, clt, ↓reduceIte, Nat.reduceLeDiff, Nat.reduceEqDiff, Nat.reduceLT, reduceCtorEq, List.append_nil, Nat.reduceAdd, Nat.reduceSub, Nat.reduceBEq, forall_const, implies_true, cond_true, cond_false, AV.ren, AC.ren, AV.cl, AC.cl, eq_self, List.all_cons, List.all_nil, AV.eqv, AC.eqv, eqvl, eqvt, Sl.eqv, List.map_append, List.length_map, List.length_append, List.length_replicate, List.length_set, List.map_replicate, nilVC, sd_27, el_27, zr_53]
      refine ⟨(), [], [], ?_⟩
      simp only [WL, WNL, swA_new, swA_ne, nest_sw_ne, mapLL, List.mem_cons, Nat.reduceAdd, Nat.reduceLT, Nat.reduceLeDiff, Nat.reduceEqDiff, okU, List.nodup_cons, List.not_mem_nil, toT, toL, toO, keysO, renl, rent, cll, clt, eq_self, AV.eqv, AC.eqv, eqvl, eqvt, Sl.eqv, rowsLe, mapLL, rowsCl, List.map_append, List.length_map, List.length_append, List.length_set, List.map_replicate, rowG, List.getElem?_cons_zero, List.getElem?_cons_succ, List.getElem?_nil, List.append_nil, List.nil_append, List.cons_append, ghosts, St.gh, Option.some.injEq, implies_true, setT, AV.ren, AC.ren, AV.cl, AC.cl, List.replicate_succ, List.replicate_zero, List.nodup_nil, List.length_nil, List.length_cons, List.getD_cons_zero, List.getD_cons_succ, ↓reduceIte, retP]
      simp [okU, hM]

def dropOf (X : List T3) (t v : Int) : List T3 × Int × Bool :=
  if schedOk X t then (if 0 ≤ idx (fun x : T3 => decide (x.1 = v)) X then (X.take (idx (fun x : T3 => decide (x.1 = v)) X).toNat ++ X.drop ((idx (fun x : T3 => decide (x.1 = v)) X).toNat + 1), t, true) else (X, t, false)) else ([], 0, false)
theorem dropOf_len (X : List T3) (t v : Int) : (dropOf X t v).1.length ≤ X.length := by
  unfold dropOf
  split
  · split
    · simp; omega
    · exact Nat.le_refl _
  · exact Nat.zero_le _
def c_impl_SchedDrop : Contract := ⟨21, fun args M => match args with
  | [.agg [.sl a n c, .int .i64 t], .c (.int .i64 v)] => .eff (RowOk T3 a n (M a.r) ∧ n ≤ c) Nat (fun k => (dropOf (row T3 a n (M a.r)) t v).1.length ≤ k) (fun k => .tup [(true, [.sl ⟨.loc 0, 0, 0, 0⟩ (dropOf (row T3 a n (M a.r)) t v).1.length k, .int .i64 (dropOf (row T3 a n (M a.r)) t v).2.1]), (false, [.bool (dropOf (row T3 a n (M a.r)) t v).2.2])]) (fun k => [rowG true 53 k (dropOf (row T3 a n (M a.r)) t v).1]) (fun _ => [])
  | _ => .bad⟩
theorem ok_impl_SchedDrop : fnP Try.prog c_impl_SchedDrop.f = true ∧ ∀ args M, (c_impl_SchedDrop.sp args M).OK Try.prog c_impl_SchedDrop.f args M := by
  refine ⟨fp_21, fun args M => ?_⟩
  unfold c_impl_SchedDrop
  dsimp only
  split
  case h_2 => trivial
  rename_i a n c t v
  rintro ⟨hrow, hc⟩
  obtain ⟨hs, X, hX, rfl, hat⟩ := hrow.x
  rw [hX]
  refine goIn hf_21 rfl (nt := 28) rfl (rs := [.cell 4 29, .tmp 5]) rfl (C := [c_impl_SchedOk, c_impl_cloneSched, c_impl_taskAt, c_slices_Delete_STask]) ⟨(by first | exact .inl ok_impl_SchedOk | exact ok_impl_SchedOk), (by first | exact .inl ok_impl_cloneSched | exact ok_impl_cloneSched), (by first | exact .inl ok_impl_taskAt | exact ok_impl_taskAt), (by first | exact .inl ok_slices_Delete_STask | exact ok_slices_Delete_STask), trivial⟩ (q := fun _ => false) okQ_none mixed (O := fun _ => .nil) (by kernel_rfl) ?_
  by_cases hok : schedOk X t
  · obtain ⟨j, hj⟩ : ∃ j, j = idx (fun x : T3 => decide (x.1 = v)) X := ⟨_, rfl⟩
    have hjr := idx_range (fun x : T3 => decide (x.1 = v)) X
    rw [← hj] at hjr
    by_cases h2 : 0 ≤ j
    · obtain ⟨m, rfl⟩ : ∃ m : Nat, j = m := ⟨j.toNat, by omega⟩
      have hn : dropOf X t v = (X.take m ++ X.drop (m + 1), t, true) := by rw [dropOf, if_pos hok, ← hj, if_pos h2, Int.toNat_natCast]
      have hlt : decide ((m : Int) < 0) = false := by simp
      have hll : (X.take m ++ X.drop (m + 1)).length = X.length - 1 := by simp; omega
      rw [hn]
      simp only [↓WP, ↓grdD, ↓grdT, ↓un_dead, ↓binVC, ↓buildVC, ↓sliceVC, WQ, WN, Int.reduceToNat, renl, cll, rent, clt, ↓reduceIte, Nat.reduceLeDiff, Nat.reduceEqDiff, Nat.reduceLT, reduceCtorEq, List.append_nil, Nat.reduceAdd, Nat.reduceSub, Nat.reduceBEq, forall_const, implies_true, cond_true, cond_false, AV.ren, AC.ren, AV.cl, AC.cl, eq_self, List.all_cons, List.all_nil, AV.eqv, AC.eqv, eqvl, eqvt, Sl.eqv, List.map_append, List.length_map, List.length_append, List.length_replicate, List.length_set, List.map_replicate, nilVC, zr_29, sz_29, fs_29, fl_29_0, sz_27, c_impl_SchedOk, c_impl_cloneSched, c_impl_taskAt, c_slices_Delete_STask, hX, decide_eq_true hok, ← hj, hlt, w64 (n := (m : Int) + 1) (by omega) (by omega)]
      refine ⟨hrow, ⟨hrow, hc⟩, fun k hk => ⟨hrow, ⟨hs, by omega, by omega, hk⟩, end_ret ?_⟩⟩
      have hl2 : (X.take m).length + (X.drop (m + 1)).length = X.length - 1 := by simp; omega
      simp only [↓WP, ↓grdD, ↓grdT, ↓un_dead, ↓binVC, ↓buildVC, ↓sliceVC, WQ, WN, Int.reduceToNat, renl, cll, rent, clt, ↓reduceIte, Nat.reduceLeDiff, Nat.reduceEqDiff, Nat.reduceLT, reduceCtorEq, List.append_nil, Nat.reduceAdd, Nat.reduceSub, Nat.reduceBEq, forall_const, implies_true, cond_true, cond_false, AV.ren, AC.ren, AV.cl, AC.cl, eq_self, List.all_cons, List.all_nil, AV.eqv, AC.eqv, eqvl, eqvt, Sl.eqv, List.map_append, List.length_map, List.length_append, List.length_replicate, List.length_set, List.map_replicate, nilVC, zr_29, sz_29, fs_29, fl_29_0, sz_27, c_impl_SchedOk, c_impl_cloneSched, c_impl_taskAt, c_slices_Delete_STask, hl2]
      refine ⟨k, [], [2], ?_⟩
      simp only [WL, WNL, swA_new, swA_ne, nest_sw_ne, mapLL, List.mem_cons, Nat.reduceAdd, Nat.reduceLT, Nat.reduceLeDiff, Nat.reduceEqDiff, okU, List.nodup_cons, List.not_mem_nil, toT, toL, toO, keysO, renl, rent, cll, clt, eq_self, AV.eqv, AC.eqv, eqvl, eqvt, Sl.eqv, rowsLe, mapLL, rowsCl, List.map_append, List.length_map, List.length_append, List.length_set, List.map_replicate, rowG, List.getElem?_cons_zero, List.getElem?_cons_succ, List.getElem?_nil, List.append_nil, List.nil_append, List.cons_append, ghosts, St.gh, Option.some.injEq, implies_true, setT, AV.ren, AC.ren, AV.cl, AC.cl, List.replicate_succ, List.replicate_zero, List.nodup_nil, List.length_nil, List.length_cons, List.getD_cons_zero, List.getD_cons_succ, ↓reduceIte, retP, hl2]
      have : X.length - 1 ≤ k := by omega
      simp [this]
    · have hn : dropOf X t v = (X, t, false) := by rw [dropOf, if_pos hok, ← hj, if_neg h2]
      have hlt : decide (j < 0) = true := by simp; omega
      rw [hn]
      simp only [↓WP, ↓grdD, ↓grdT, ↓un_dead, ↓binVC, ↓buildVC, ↓sliceVC, WQ, WN, Int.reduceToNat, renl, cll, rent, clt, ↓reduceIte, Nat.reduceLeDiff, Nat.reduceEqDiff, Nat.reduceLT, reduceCtorEq, List.append_nil, Nat.reduceAdd, Nat.reduceSub, Nat.reduceBEq, forall_const, implies_true, cond_true, cond_false, AV.ren, AC.ren, AV.cl, AC.cl, eq_self, List.all_cons, List.all_nil, AV.eqv, AC.eqv, eqvl, eqvt, Sl.eqv, List.map_append, List.length_map, List.length_append, List.length_replicate, List.length_set, List.map_replicate, nilVC, zr_29, sz_29, fs_29, fl_29_0, sz_27, c_impl_SchedOk, c_impl_cloneSched, c_impl_taskAt, c_slices_Delete_STask, hX, decide_eq_true hok, ← hj, hlt]
      refine ⟨hrow, ⟨hrow, hc⟩, fun k hk => ⟨hrow, end_ret ?_⟩⟩
      simp only [↓WP, ↓grdD, ↓grdT, ↓un_dead, ↓binVC, ↓buildVC, ↓sliceVC, WQ, WN, Int.reduceToNat, renl, cll, rent, clt, ↓reduceIte, Nat.reduceLeDiff, Nat.reduceEqDiff, Nat.reduceLT, reduceCtorEq, List.append_nil, Nat.reduceAdd, Nat.reduceSub, Nat.reduceBEq, forall_const, implies_true, cond_true, cond_false, AV.ren, AC.ren, AV.cl, AC.cl, eq_self, List.all_cons, List.all_nil, AV.eqv, AC.eqv, eqvl, eqvt, Sl.eqv, List.map_append, List.length_map, List.length_append, List.length_replicate, List.length_set, List.map_replicate, nilVC, zr_29, sz_29, fs_29, fl_29_0, sz_27, c_impl_SchedOk, c_impl_cloneSched, c_impl_taskAt, c_slices_Delete_STask]
      refine ⟨k, [], [2], ?_⟩
      simp only [WL, WNL, swA_new, swA_ne, nest_sw_ne, mapLL, List.mem_cons, Nat.reduceAdd, Nat.reduceLT, Nat.reduceLeDiff, Nat.reduceEqDiff, okU, List.nodup_cons, List.not_mem_nil, toT, toL, toO, keysO, renl, rent, cll, clt, eq_self, AV.eqv, AC.eqv, eqvl, eqvt, Sl.eqv, rowsLe, mapLL, rowsCl, List.map_append, List.length_map, List.length_append, List.length_set, List.map_replicate, rowG, List.getElem?_cons_zero, List.getElem?_cons_succ, List.getElem?_nil, List.append_nil, List.nil_append, List.cons_append, ghosts, St.gh, Option.some.injEq, implies_true, setT, AV.ren, AC.ren, AV.cl, AC.cl, List.replicate_succ, List.replicate_zero, List.nodup_nil, List.length_nil, List.length_cons, List.getD_cons_zero, List.getD_cons_succ, ↓reduceIte, retP]
      simp [hk]
  · have hn : dropOf X t v = ([], 0, false) := by rw [dropOf, if_neg hok]
    rw [hn]
    simp only [↓WP, ↓grdD, ↓grdT, ↓un_dead, ↓binVC, ↓buildVC, ↓sliceVC, WQ, WN, Int.reduceToNat, renl, cll, rent, clt, ↓reduceIte, Nat.reduceLeDiff, Nat.reduceEqDiff, Nat.reduceLT, reduceCtorEq, List.append_nil, Nat.reduceAdd, Nat.reduceSub, Nat.reduceBEq, forall_const, implies_true, cond_true, cond_false, AV.ren, AC.ren, AV.cl, AC.cl, eq_self, List.all_cons, List.all_nil, AV.eqv, AC.eqv, eqvl, eqvt, Sl.eqv, List.map_append, List.length_map, List.length_append, List.length_replicate, List.length_set, List.map_replicate, nilVC, zr_29, sz_29, fs_29, fl_29_0, sz_27, c_impl_SchedOk, c_impl_cloneSched, c_impl_taskAt, c_slices_Delete_STask, hX, decide_eq_false hok]
    refine ⟨hrow, end_ret ?_⟩
    simp only [↓WP, ↓grdD, ↓grdT, ↓un_dead, ↓binVC, ↓buildVC, ↓sliceVC, WQ, WN, Int.reduceToNat, renl, cll, rent, clt, ↓reduceIte, Nat.reduceLeDiff, Nat.reduceEqDiff, Nat.reduceLT, reduceCtorEq, List.append_nil, Nat.reduceAdd, Nat.reduceSub, Nat.reduceBEq, forall_const, implies_true, cond_true, cond_false, AV.ren, AC.ren, AV.cl, AC.cl, eq_self, List.all_cons, List.all_nil, AV.eqv, AC.eqv, eqvl, eqvt, Sl.eqv, List.map_append, List.length_map, List.length_append, List.length_replicate, List.length_set, List.map_replicate, nilVC, zr_29, sz_29, fs_29, fl_29_0, sz_27, c_impl_SchedOk, c_impl_cloneSched, c_impl_taskAt, c_slices_Delete_STask]
    refine ⟨0, [(53, 3)], [2], ?_⟩
    simp [WL, WNL, swA_new, swA_ne, nest_sw_ne, mapLL, List.mem_cons, Nat.reduceAdd, Nat.reduceLT, Nat.reduceLeDiff, Nat.reduceEqDiff, okU, List.nodup_cons, List.not_mem_nil, toT, toL, toO, keysO, renl, rent, cll, clt, eq_self, AV.eqv, AC.eqv, eqvl, eqvt, Sl.eqv, rowsLe, mapLL, rowsCl, List.map_append, List.length_map, List.length_append, List.length_set, List.map_replicate, rowG, List.getElem?_cons_zero, List.getElem?_cons_succ, List.getElem?_nil, List.append_nil, List.nil_append, List.cons_append, ghosts, St.gh, Option.some.injEq, implies_true, setT, AV.ren, AC.ren, AV.cl, AC.cl, List.replicate_succ, List.replicate_zero, List.nodup_nil, List.length_nil, List.length_cons, List.getD_cons_zero, List.getD_cons_succ, ↓reduceIte, retP]
end Go.Eng.T
