/- line: a Pipeline copied, compared; words. -/
import Derived.Test.YtffbhimjpibocaaFn2
set_option linter.unusedVariables false
set_option linter.unusedSimpArgs false
set_option linter.unusedSectionVars false
namespace Go.Eng.T
open Go.Proofs
open Cel (enc dec)
set_option maxRecDepth 100000
set_option maxHeartbeats 4000000
def c_laws_toPipeline : Contract := ⟨7, fun args M => match args with
  | [.agg [.sl a n _, .str s1, .str s2, .bool b1, .bool b2]] => .eff (Row2Ok ByteArray a n M) Unit (fun _ => True) (fun _ => .agg [.sl ⟨.loc 0, 0, 0, 0⟩ n n, .str s1, .str s2, .bool b1, .bool b2]) (fun _ => [.rows true 39 1 [(n, nestC (.loc 1) (own1 (row2 ByteArray a n M)))], .rows true 9 1 (mems (own1 (row2 ByteArray a n M)))]) (fun _ => [])
  | _ => .bad⟩
theorem ok_laws_toPipeline : fnP Try.prog c_laws_toPipeline.f = true ∧ ∀ args M, (c_laws_toPipeline.sp args M).OK Try.prog c_laws_toPipeline.f args M := by
  refine ⟨fp_7, fun args M => ?_⟩
  unfold c_laws_toPipeline
  dsimp only
  split
  case h_2 => trivial
  rename_i a n c s1 s2 b1 b2
  intro hrow
  refine goIn hf_7 rfl (nt := 21) rfl (rs := [.cell 2 29]) rfl (C := [c_laws_toCmdS]) ⟨(by first | exact .inl ok_laws_toCmdS | exact ok_laws_toCmdS), trivial⟩ (q := fun _ => false) okQ_none mixed (O := fun _ => .nil) (by kernel_rfl) ?_
  simp only [↓WP, ↓grdD, ↓grdT, ↓un_dead, ↓binVC, ↓buildVC, ↓sliceVC, WQ, WN, Int.reduceToNat, renl, cll, rent, clt, ↓reduceIte, Nat.reduceLeDiff, Nat.reduceEqDiff, Nat.reduceLT, reduceCtorEq, List.append_nil, Nat.reduceAdd, Nat.reduceSub, Nat.reduceBEq, forall_const, implies_true, cond_true, cond_false, AV.ren, AC.ren, AV.cl, AC.cl, eq_self, List.all_cons, List.all_nil, AV.eqv, AC.eqv, eqvl, eqvt, Sl.eqv, List.map_append, List.length_map, List.length_append, List.length_replicate, List.length_set, List.map_replicate, nilVC, zr_29, fl_24_0, sz_22, fl_29_0, sz_27, fl_24_1, sz_9, fl_29_1, fl_24_2, fl_29_2, fl_24_3, sz_4, fl_29_3, fl_24_4, fl_29_4, sz_29, c_laws_toCmdS, Row2Ok_upE hrow, row2_upE hrow]
  refine end_ret ?_
  simp only [↓WP, ↓grdD, ↓grdT, ↓un_dead, ↓binVC, ↓buildVC, ↓sliceVC, WQ, WN, Int.reduceToNat, renl, cll, rent, clt, ↓reduceIte, Nat.reduceLeDiff, Nat.reduceEqDiff, Nat.reduceLT, reduceCtorEq, List.append_nil, Nat.reduceAdd, Nat.reduceSub, Nat.reduceBEq, forall_const, implies_true, cond_true, cond_false, AV.ren, AC.ren, AV.cl, AC.cl, eq_self, List.all_cons, List.all_nil, AV.eqv, AC.eqv, eqvl, eqvt, Sl.eqv, List.map_append, List.length_map, List.length_append, List.length_replicate, List.length_set, List.map_replicate, nilVC, zr_29, fl_24_0, sz_22, fl_29_0, sz_27, fl_24_1, sz_9, fl_29_1, fl_24_2, fl_29_2, fl_24_3, sz_4, fl_29_3, fl_24_4, fl_29_4, sz_29, c_laws_toCmdS]
  refine ⟨(), [], [3, 4], ?_⟩
  simp only [WL, WNL, swA_new, swA_ne, nest_sw_ne, mapLL, List.mem_cons, Nat.reduceAdd, Nat.reduceLT, Nat.reduceLeDiff, Nat.reduceEqDiff, okU, List.nodup_cons, List.not_mem_nil, toT, toL, toO, keysO, renl, rent, cll, clt, eq_self, AV.eqv, AC.eqv, eqvl, eqvt, Sl.eqv, rowsLe, mapLL, rowsCl, List.map_append, List.length_map, List.length_append, List.length_set, List.map_replicate, rowG, List.getElem?_cons_zero, List.getElem?_cons_succ, List.getElem?_nil, List.append_nil, List.nil_append, List.cons_append, ghosts, St.gh, Option.some.injEq, implies_true, setT, AV.ren, AC.ren, AV.cl, AC.cl, List.replicate_succ, List.replicate_zero, List.nodup_nil, List.length_nil, List.length_cons, List.getD_cons_zero, List.getD_cons_succ, ↓reduceIte, retP]
  try simp
theorem q_laws_toPipeline : Quiet c_laws_toPipeline := by
  intro args M
  unfold c_laws_toPipeline
  dsimp only
  split <;> first | trivial | (intro _; rfl)
def c_laws_eqPipeline : Contract := ⟨9, fun args M => match args with
  | [.agg [.sl a n _, .str s1, .str s2, .bool b1, .bool b2], .agg [.sl a' n' _, .str s1', .str s2', .bool b1', .bool b2']] => .pure (Row2Ok ByteArray a n M ∧ Row2Ok ByteArray a' n' M) (Eng.B (decide (row2 ByteArray a n M = row2 ByteArray a' n' M ∧ s1 = s1' ∧ s2 = s2' ∧ b1 = b1' ∧ b2 = b2')))
  | _ => .bad⟩
theorem ok_laws_eqPipeline : fnP Try.prog c_laws_eqPipeline.f = true ∧ ∀ args M, (c_laws_eqPipeline.sp args M).OK Try.prog c_laws_eqPipeline.f args M := by
  refine ⟨fp_9, fun args M => ?_⟩
  unfold c_laws_eqPipeline
  dsimp only
  split
  case h_2 => trivial
  rename_i a n c s1 s2 b1 b2 a' n' c' s1' s2' b1' b2'
  rintro ⟨ha, hb⟩
  refine goIn hf_9 rfl (nt := 31) rfl (rs := [.tmp 4]) rfl (C := [c_laws_eqCmdS]) ⟨(by first | exact .inl ok_laws_eqCmdS | exact ok_laws_eqCmdS), trivial⟩ (q := fun _ => false) okQ_none mixed (O := fun _ => .nil) (by kernel_rfl) ?_
  simp only [↓WP, ↓grdD, ↓grdT, ↓un_dead, ↓binVC, ↓buildVC, ↓sliceVC, WQ, WN, Int.reduceToNat, renl, cll, rent, clt, ↓reduceIte, Nat.reduceLeDiff, Nat.reduceEqDiff, Nat.reduceLT, reduceCtorEq, List.append_nil, Nat.reduceAdd, Nat.reduceSub, Nat.reduceBEq, forall_const, implies_true, cond_true, cond_false, AV.ren, AC.ren, AV.cl, AC.cl, eq_self, List.all_cons, List.all_nil, AV.eqv, AC.eqv, eqvl, eqvt, Sl.eqv, List.map_append, List.length_map, List.length_append, List.length_replicate, List.length_set, List.map_replicate, nilVC, fl_29_0, sz_27, fl_29_1, sz_9, fl_29_2, fl_29_3, sz_4, bt_4, fl_29_4, c_laws_eqCmdS, Row2Ok_upE ha, row2_upE ha, Row2Ok_upE hb, row2_upE hb]
  simp only [WB, eq_self]
  by_cases e1 : row2 ByteArray a n M = row2 ByteArray a' n' M <;> by_cases e2 : s1 = s1' <;> by_cases e3 : s2 = s2' <;> cases b1 <;> cases b1' <;> cases b2 <;> cases b2' <;> simp [e1, e2, e3]
theorem q_laws_eqPipeline : Quiet c_laws_eqPipeline := by
  intro args M
  unfold c_laws_eqPipeline
  dsimp only
  split <;> first | trivial | (intro _; rfl)
theorem u8_lt (s : ByteArray) (i : Nat) : decide ((((s.data.toList.getD i 0).toNat : Nat) : Int) < 33) = decide (bt s i < 33) := by
  unfold bt; congr 1; exact propext (by omega)
theorem u8_gt (s : ByteArray) (i : Nat) : decide ((126 : Int) < (((s.data.toList.getD i 0).toNat : Nat) : Int)) = decide (126 < bt s i) := by
  unfold bt; congr 1; exact propext (by omega)
def c_impl_lineWord : Contract := ⟨17, fun args M => match args with
  | [.c (.str s)] => .pure (small s) (Eng.B (decide (lw s)))
  | _ => .bad⟩
theorem ok_impl_lineWord : fnP Try.prog c_impl_lineWord.f = true ∧ ∀ args M, (c_impl_lineWord.sp args M).OK Try.prog c_impl_lineWord.f args M := by
  refine ⟨fp_17, fun args M => ?_⟩
  unfold c_impl_lineWord
  dsimp only
  split
  case h_2 => trivial
  rename_i s
  intro hs
  have hs : s.size ≤ 9223372036854775807 := hs
  refine goIn hf_17 rfl (nt := 23) rfl (rs := [.tmp 2]) rfl (C := [c_impl_in]) ⟨(by first | exact .inl ok_impl_in | exact ok_impl_in), trivial⟩ (q := fun _ => false) okQ_none mixed (O := fun _ => .nil) (by kernel_rfl) ?_
  simp only [↓WP, ↓grdD, ↓grdT, ↓un_dead, ↓binVC, ↓buildVC, ↓sliceVC, WQ, WN, Int.reduceToNat, renl, cll, rent, clt, ↓reduceIte, Nat.reduceLeDiff, Nat.reduceEqDiff, Nat.reduceLT, reduceCtorEq, List.append_nil, Nat.reduceAdd, Nat.reduceSub, Nat.reduceBEq, forall_const, implies_true, cond_true, cond_false, AV.ren, AC.ren, AV.cl, AC.cl, eq_self, List.all_cons, List.all_nil, AV.eqv, AC.eqv, eqvl, eqvt, Sl.eqv, List.map_append, List.length_map, List.length_append, List.length_replicate, List.length_set, List.map_replicate, nilVC, st_9, c_impl_in]
  refine loopI (J := {i : Nat // i ≤ s.size ∧ ∀ j, j < i → 33 ≤ bt s j ∧ bt s j ≤ 126}) (fun i => ⟨slots 23 [(0, .c (.str s)), (5, I s.size), (6, I i.1)], M, [], []⟩) (fun i => s.size - i.1) ⟨0, by omega, fun j hj => by omega⟩ (Le_intro [] (by simp [WL, WNL, swA_new, swA_ne, nest_sw_ne, mapLL, List.mem_cons, Nat.reduceAdd, Nat.reduceLT, Nat.reduceLeDiff, Nat.reduceEqDiff, okU, List.nodup_cons, List.not_mem_nil, toT, toL, toO, keysO, renl, rent, cll, clt, eq_self, AV.eqv, AC.eqv, eqvl, eqvt, Sl.eqv, rowsLe, mapLL, rowsCl, List.map_append, List.length_map, List.length_append, List.length_set, List.map_replicate, rowG, List.getElem?_cons_zero, List.getElem?_cons_succ, List.getElem?_nil, List.append_nil, List.nil_append, List.cons_append, ghosts, St.gh, Option.some.injEq, implies_true, setT, AV.ren, AC.ren, AV.cl, AC.cl, List.replicate_succ, List.replicate_zero, List.nodup_nil, List.length_nil, List.length_cons, List.getD_cons_zero, List.getD_cons_succ, ↓reduceIte])) ?_
  rintro ⟨i, hi, he⟩
  rcases Nat.lt_or_ge i s.size with hlt | hge
  · have hw := wS (i := i) (by omega)
    by_cases h1 : bt s i < 33
    · have hn : decide (lw s) = false := decide_eq_false fun h => by have := h.2 i hlt; omega
      simp only [↓WP, ↓grdD, ↓grdT, ↓un_dead, ↓binVC, ↓buildVC, ↓sliceVC, WQ, WN, Int.reduceToNat, renl, cll, rent, clt, ↓reduceIte, Nat.reduceLeDiff, Nat.reduceEqDiff, Nat.reduceLT, reduceCtorEq, List.append_nil, Nat.reduceAdd, Nat.reduceSub, Nat.reduceBEq, forall_const, implies_true, cond_true, cond_false, AV.ren, AC.ren, AV.cl, AC.cl, eq_self, List.all_cons, List.all_nil, AV.eqv, AC.eqv, eqvl, eqvt, Sl.eqv, List.map_append, List.length_map, List.length_append, List.length_replicate, List.length_set, List.map_replicate, nilVC, st_9, c_impl_in, dlt hlt, hw, u8_lt, u8_gt, decide_eq_true h1, hn]
      try simp
      try omega
    · by_cases h2 : 126 < bt s i
      · have hn : decide (lw s) = false := decide_eq_false fun h => by have := h.2 i hlt; omega
        simp only [↓WP, ↓grdD, ↓grdT, ↓un_dead, ↓binVC, ↓buildVC, ↓sliceVC, WQ, WN, Int.reduceToNat, renl, cll, rent, clt, ↓reduceIte, Nat.reduceLeDiff, Nat.reduceEqDiff, Nat.reduceLT, reduceCtorEq, List.append_nil, Nat.reduceAdd, Nat.reduceSub, Nat.reduceBEq, forall_const, implies_true, cond_true, cond_false, AV.ren, AC.ren, AV.cl, AC.cl, eq_self, List.all_cons, List.all_nil, AV.eqv, AC.eqv, eqvl, eqvt, Sl.eqv, List.map_append, List.length_map, List.length_append, List.length_replicate, List.length_set, List.map_replicate, nilVC, st_9, c_impl_in, dlt hlt, hw, u8_lt, u8_gt, decide_eq_false h1, decide_eq_true h2, hn]
        try simp
        try omega
      · simp only [↓WP, ↓grdD, ↓grdT, ↓un_dead, ↓binVC, ↓buildVC, ↓sliceVC, WQ, WN, Int.reduceToNat, renl, cll, rent, clt, ↓reduceIte, Nat.reduceLeDiff, Nat.reduceEqDiff, Nat.reduceLT, reduceCtorEq, List.append_nil, Nat.reduceAdd, Nat.reduceSub, Nat.reduceBEq, forall_const, implies_true, cond_true, cond_false, AV.ren, AC.ren, AV.cl, AC.cl, eq_self, List.all_cons, List.all_nil, AV.eqv, AC.eqv, eqvl, eqvt, Sl.eqv, List.map_append, List.length_map, List.length_append, List.length_replicate, List.length_set, List.map_replicate, nilVC, st_9, c_impl_in, dlt hlt, hw, u8_lt, u8_gt, decide_eq_false h1, decide_eq_false h2]
        repeat refine ⟨by omega, ?_⟩
        exact ⟨⟨i + 1, hlt, fun j hj => by
          rcases Nat.lt_or_ge j i with h | h
          · exact he j h
          · obtain rfl : j = i := by omega
            omega⟩, Le_intro [] (by simp [WL, WNL, swA_new, swA_ne, nest_sw_ne, mapLL, List.mem_cons, Nat.reduceAdd, Nat.reduceLT, Nat.reduceLeDiff, Nat.reduceEqDiff, okU, List.nodup_cons, List.not_mem_nil, toT, toL, toO, keysO, renl, rent, cll, clt, eq_self, AV.eqv, AC.eqv, eqvl, eqvt, Sl.eqv, rowsLe, mapLL, rowsCl, List.map_append, List.length_map, List.length_append, List.length_set, List.map_replicate, rowG, List.getElem?_cons_zero, List.getElem?_cons_succ, List.getElem?_nil, List.append_nil, List.nil_append, List.cons_append, ghosts, St.gh, Option.some.injEq, implies_true, setT, AV.ren, AC.ren, AV.cl, AC.cl, List.replicate_succ, List.replicate_zero, List.nodup_nil, List.length_nil, List.length_cons, List.getD_cons_zero, List.getD_cons_succ, ↓reduceIte]), by show s.size - (i + 1) < s.size - i; omega⟩
  · obtain rfl : i = s.size := by omega
    have hv : decide (lw s) = decide (1 ≤ s.size ∧ s.size ≤ 20) := by
      congr 1
      exact propext ⟨fun h => h.1, fun h => ⟨h, he⟩⟩
    rw [hv]
    simp only [↓WP, ↓grdD, ↓grdT, ↓un_dead, ↓binVC, ↓buildVC, ↓sliceVC, WQ, WN, Int.reduceToNat, renl, cll, rent, clt, ↓reduceIte, Nat.reduceLeDiff, Nat.reduceEqDiff, Nat.reduceLT, reduceCtorEq, List.append_nil, Nat.reduceAdd, Nat.reduceSub, Nat.reduceBEq, forall_const, implies_true, cond_true, cond_false, AV.ren, AC.ren, AV.cl, AC.cl, eq_self, List.all_cons, List.all_nil, AV.eqv, AC.eqv, eqvl, eqvt, Sl.eqv, List.map_append, List.length_map, List.length_append, List.length_replicate, List.length_set, List.map_replicate, nilVC, st_9, c_impl_in, dge hge]
    simp only [WB, eq_self]
    by_cases e : 1 ≤ s.size ∧ s.size ≤ 20
    · have e' : (1 : Int) ≤ (s.size : Int) ∧ (s.size : Int) ≤ 20 := by omega
      simp [e, e']
    · have e' : ¬ ((1 : Int) ≤ (s.size : Int) ∧ (s.size : Int) ≤ 20) := by omega
      simp [e, e']
def c_spec_l34Word : Contract := ⟨14, fun args M => match args with
  | [.c (.str s)] => .pure (small s) (Eng.B (decide (lw s)))
  | _ => .bad⟩
theorem ok_spec_l34Word : fnP Try.prog c_spec_l34Word.f = true ∧ ∀ args M, (c_spec_l34Word.sp args M).OK Try.prog c_spec_l34Word.f args M := by
  refine ⟨fp_14, fun args M => ?_⟩
  unfold c_spec_l34Word
  dsimp only
  split
  case h_2 => trivial
  rename_i s
  intro hs
  have hs : s.size ≤ 9223372036854775807 := hs
  refine goIn hf_14 rfl (nt := 24) rfl (rs := [.tmp 2]) rfl (C := [c_spec_l1In]) ⟨(by first | exact .inl ok_spec_l1In | exact ok_spec_l1In), trivial⟩ (q := fun _ => false) okQ_none mixed (O := fun _ => .nil) (by kernel_rfl) ?_
  by_cases hl : 1 ≤ s.size ∧ s.size ≤ 20
  · have hl1 : decide ((1 : Int) ≤ s.size ∧ (s.size : Int) ≤ 20) = true := decide_eq_true (by omega)
    simp only [↓WP, ↓grdD, ↓grdT, ↓un_dead, ↓binVC, ↓buildVC, ↓sliceVC, WQ, WN, Int.reduceToNat, renl, cll, rent, clt, ↓reduceIte, Nat.reduceLeDiff, Nat.reduceEqDiff, Nat.reduceLT, reduceCtorEq, List.append_nil, Nat.reduceAdd, Nat.reduceSub, Nat.reduceBEq, forall_const, implies_true, cond_true, cond_false, AV.ren, AC.ren, AV.cl, AC.cl, eq_self, List.all_cons, List.all_nil, AV.eqv, AC.eqv, eqvl, eqvt, Sl.eqv, List.map_append, List.length_map, List.length_append, List.length_replicate, List.length_set, List.map_replicate, nilVC, st_9, c_spec_l1In, hl1]
    refine loopI (J := {i : Nat // i ≤ s.size ∧ ∀ j, j < i → 33 ≤ bt s j ∧ bt s j ≤ 126}) (fun i => ⟨slots 24 [(0, .c (.str s)), (3, I i.1)], M, [], []⟩) (fun i => s.size - i.1) ⟨0, by omega, fun j hj => by omega⟩ (Le_intro [] (by simp [WL, WNL, swA_new, swA_ne, nest_sw_ne, mapLL, List.mem_cons, Nat.reduceAdd, Nat.reduceLT, Nat.reduceLeDiff, Nat.reduceEqDiff, okU, List.nodup_cons, List.not_mem_nil, toT, toL, toO, keysO, renl, rent, cll, clt, eq_self, AV.eqv, AC.eqv, eqvl, eqvt, Sl.eqv, rowsLe, mapLL, rowsCl, List.map_append, List.length_map, List.length_append, List.length_set, List.map_replicate, rowG, List.getElem?_cons_zero, List.getElem?_cons_succ, List.getElem?_nil, List.append_nil, List.nil_append, List.cons_append, ghosts, St.gh, Option.some.injEq, implies_true, setT, AV.ren, AC.ren, AV.cl, AC.cl, List.replicate_succ, List.replicate_zero, List.nodup_nil, List.length_nil, List.length_cons, List.getD_cons_zero, List.getD_cons_succ, ↓reduceIte])) ?_
    rintro ⟨i, hi, he⟩
    rcases Nat.lt_or_ge i s.size with hlt | hge
    · have hw := wS (i := i) (by omega)
      by_cases h1 : bt s i < 33
      · have hn : decide (lw s) = false := decide_eq_false fun h => by have := h.2 i hlt; omega
        simp only [↓WP, ↓grdD, ↓grdT, ↓un_dead, ↓binVC, ↓buildVC, ↓sliceVC, WQ, WN, Int.reduceToNat, renl, cll, rent, clt, ↓reduceIte, Nat.reduceLeDiff, Nat.reduceEqDiff, Nat.reduceLT, reduceCtorEq, List.append_nil, Nat.reduceAdd, Nat.reduceSub, Nat.reduceBEq, forall_const, implies_true, cond_true, cond_false, AV.ren, AC.ren, AV.cl, AC.cl, eq_self, List.all_cons, List.all_nil, AV.eqv, AC.eqv, eqvl, eqvt, Sl.eqv, List.map_append, List.length_map, List.length_append, List.length_replicate, List.length_set, List.map_replicate, nilVC, st_9, c_spec_l1In, dlt hlt, hw, u8_lt, u8_gt, decide_eq_true h1, hn]
        try simp
        try omega
      · by_cases h2 : 126 < bt s i
        · have hn : decide (lw s) = false := decide_eq_false fun h => by have := h.2 i hlt; omega
          simp only [↓WP, ↓grdD, ↓grdT, ↓un_dead, ↓binVC, ↓buildVC, ↓sliceVC, WQ, WN, Int.reduceToNat, renl, cll, rent, clt, ↓reduceIte, Nat.reduceLeDiff, Nat.reduceEqDiff, Nat.reduceLT, reduceCtorEq, List.append_nil, Nat.reduceAdd, Nat.reduceSub, Nat.reduceBEq, forall_const, implies_true, cond_true, cond_false, AV.ren, AC.ren, AV.cl, AC.cl, eq_self, List.all_cons, List.all_nil, AV.eqv, AC.eqv, eqvl, eqvt, Sl.eqv, List.map_append, List.length_map, List.length_append, List.length_replicate, List.length_set, List.map_replicate, nilVC, st_9, c_spec_l1In, dlt hlt, hw, u8_lt, u8_gt, decide_eq_false h1, decide_eq_true h2, hn]
          try simp
          try omega
        · simp only [↓WP, ↓grdD, ↓grdT, ↓un_dead, ↓binVC, ↓buildVC, ↓sliceVC, WQ, WN, Int.reduceToNat, renl, cll, rent, clt, ↓reduceIte, Nat.reduceLeDiff, Nat.reduceEqDiff, Nat.reduceLT, reduceCtorEq, List.append_nil, Nat.reduceAdd, Nat.reduceSub, Nat.reduceBEq, forall_const, implies_true, cond_true, cond_false, AV.ren, AC.ren, AV.cl, AC.cl, eq_self, List.all_cons, List.all_nil, AV.eqv, AC.eqv, eqvl, eqvt, Sl.eqv, List.map_append, List.length_map, List.length_append, List.length_replicate, List.length_set, List.map_replicate, nilVC, st_9, c_spec_l1In, dlt hlt, hw, u8_lt, u8_gt, decide_eq_false h1, decide_eq_false h2]
          repeat refine ⟨by omega, ?_⟩
          exact ⟨⟨i + 1, hlt, fun j hj => by
            rcases Nat.lt_or_ge j i with h | h
            · exact he j h
            · obtain rfl : j = i := by omega
              omega⟩, Le_intro [] (by simp [WL, WNL, swA_new, swA_ne, nest_sw_ne, mapLL, List.mem_cons, Nat.reduceAdd, Nat.reduceLT, Nat.reduceLeDiff, Nat.reduceEqDiff, okU, List.nodup_cons, List.not_mem_nil, toT, toL, toO, keysO, renl, rent, cll, clt, eq_self, AV.eqv, AC.eqv, eqvl, eqvt, Sl.eqv, rowsLe, mapLL, rowsCl, List.map_append, List.length_map, List.length_append, List.length_set, List.map_replicate, rowG, List.getElem?_cons_zero, List.getElem?_cons_succ, List.getElem?_nil, List.append_nil, List.nil_append, List.cons_append, ghosts, St.gh, Option.some.injEq, implies_true, setT, AV.ren, AC.ren, AV.cl, AC.cl, List.replicate_succ, List.replicate_zero, List.nodup_nil, List.length_nil, List.length_cons, List.getD_cons_zero, List.getD_cons_succ, ↓reduceIte]), by show s.size - (i + 1) < s.size - i; omega⟩
    · obtain rfl : i = s.size := by omega
      have hv : decide (lw s) = true := decide_eq_true ⟨hl, he⟩
      rw [hv]
      simp only [↓WP, ↓grdD, ↓grdT, ↓un_dead, ↓binVC, ↓buildVC, ↓sliceVC, WQ, WN, Int.reduceToNat, renl, cll, rent, clt, ↓reduceIte, Nat.reduceLeDiff, Nat.reduceEqDiff, Nat.reduceLT, reduceCtorEq, List.append_nil, Nat.reduceAdd, Nat.reduceSub, Nat.reduceBEq, forall_const, implies_true, cond_true, cond_false, AV.ren, AC.ren, AV.cl, AC.cl, eq_self, List.all_cons, List.all_nil, AV.eqv, AC.eqv, eqvl, eqvt, Sl.eqv, List.map_append, List.length_map, List.length_append, List.length_replicate, List.length_set, List.map_replicate, nilVC, st_9, c_spec_l1In, dge hge]
  · have hl1 : decide ((1 : Int) ≤ s.size ∧ (s.size : Int) ≤ 20) = false := decide_eq_false (by omega)
    have hn : decide (lw s) = false := decide_eq_false fun h => hl h.1
    simp only [↓WP, ↓grdD, ↓grdT, ↓un_dead, ↓binVC, ↓buildVC, ↓sliceVC, WQ, WN, Int.reduceToNat, renl, cll, rent, clt, ↓reduceIte, Nat.reduceLeDiff, Nat.reduceEqDiff, Nat.reduceLT, reduceCtorEq, List.append_nil, Nat.reduceAdd, Nat.reduceSub, Nat.reduceBEq, forall_const, implies_true, cond_true, cond_false, AV.ren, AC.ren, AV.cl, AC.cl, eq_self, List.all_cons, List.all_nil, AV.eqv, AC.eqv, eqvl, eqvt, Sl.eqv, List.map_append, List.length_map, List.length_append, List.length_replicate, List.length_set, List.map_replicate, nilVC, st_9, c_spec_l1In, hl1, hn]
end Go.Eng.T
