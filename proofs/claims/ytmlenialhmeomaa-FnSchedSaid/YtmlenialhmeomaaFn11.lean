/- sched: SchedAdd. -/
import Derived.Test.YtmlenialhmeomaaFn10
set_option linter.unusedVariables false
set_option linter.unusedSimpArgs false
set_option linter.unusedSectionVars false
namespace Go.Eng.T
open Go.Proofs
open Cel (enc dec)
set_option maxRecDepth 100000
set_option maxHeartbeats 4000000
def hasRow (α : Type) [Cel α] (a : AA) (o : Option Rg) : Prop := RowAt α a 0 o
theorem hasRow_rows {α : Type} [Cel α] {a : AA} {own ty s LL} : hasRow α a (some (.rows own ty s LL)) = (s = Cel.sz α ∧ a.f = 0 ∧ a.i < LL.length ∧ a.k ≤ (LL.getD a.i (0, [])).2.length) := by
  show (s = Cel.sz α ∧ a.f = 0 ∧ a.i < LL.length ∧ a.k + 0 ≤ (LL.getD a.i (0, [])).2.length ∧ allEnc α (win _ 0)) = _
  simp [allEnc, win]
theorem hasRow_up {α : Type} [Cel α] {a : AA} {o : Option Rg} : hasRow α a.up (o.map Rg.up) = hasRow α a o := RowAt_up
theorem hasRow.x {α : Type} [Cel α] {a : AA} {o : Option Rg} (h : hasRow α a o) : ∃ own ty cnt cap len get, o = some (.arr own ty (Cel.sz α) cnt cap len get) ∧ a.f = 0 ∧ a.i < cnt := by
  unfold hasRow RowAt at h
  split at h
  · obtain ⟨rfl, h1, h2, _⟩ := h
    exact ⟨_, _, _, _, _, _, rfl, h1, h2⟩
  · exact h.elim
theorem addOf_no {X : List T3} {t id nice : Int} (hok : schedOk X t) (h : ¬ (¬ 0 ≤ idx (fun x : T3 => decide (x.1 = id)) X ∧ ((1 ≤ id ∧ id ≤ 999) ∧ 0 ≤ nice ∧ nice ≤ 9) ∧ X.length < 8)) : addOf X t id nice = (X, t, false) := by
  rw [addOf, if_pos hok, if_neg h]
theorem addOf_yes {X : List T3} {t id nice : Int} (hok : schedOk X t) (h : ¬ 0 ≤ idx (fun x : T3 => decide (x.1 = id)) X ∧ ((1 ≤ id ∧ id ≤ 999) ∧ 0 ≤ nice ∧ nice ≤ 9) ∧ X.length < 8) : addOf X t id nice = (insL X (id, nice, 0), t, true) := by
  rw [addOf, if_pos hok, if_pos h]
def c_impl_SchedAdd : Contract := ⟨23, fun args M => match args with
  | [.agg [.sl a n c, .int .i64 t], .c (.int .i64 id), .c (.int .i64 nice)] => .eff (RowOk T3 a n (M a.r) ∧ n ≤ c ∧ hasRow T3 a (M a.r)) Nat (fun k => (addOf (row T3 a n (M a.r)) t id nice).1.length ≤ k) (fun k => .tup [(true, [.sl ⟨.loc 0, 0, 0, 0⟩ (addOf (row T3 a n (M a.r)) t id nice).1.length k, .int .i64 (addOf (row T3 a n (M a.r)) t id nice).2.1]), (false, [.bool (addOf (row T3 a n (M a.r)) t id nice).2.2])]) (fun k => [rowG true 53 k (addOf (row T3 a n (M a.r)) t id nice).1]) (fun _ => [])
  | _ => .bad⟩
theorem ok_impl_SchedAdd : fnP Try.prog c_impl_SchedAdd.f = true ∧ ∀ args M, (c_impl_SchedAdd.sp args M).OK Try.prog c_impl_SchedAdd.f args M := by
  refine ⟨fp_23, fun args M => ?_⟩
  unfold c_impl_SchedAdd
  dsimp only
  split
  case h_2 => trivial
  rename_i a n c t id nice
  rintro ⟨hrow, hc, hhas⟩
  obtain ⟨hs, X, hX, rfl, hat⟩ := hrow.x
  rw [hX]
  refine goIn hf_23 rfl (nt := 60) rfl (rs := [.cell 6 29, .tmp 7]) rfl (C := [c_impl_SchedOk, c_impl_cloneSched, c_impl_taskAt, c_impl_taskOk, c_slices_Insert_STask]) ⟨(by first | exact .inl ok_impl_SchedOk | exact ok_impl_SchedOk), (by first | exact .inl ok_impl_cloneSched | exact ok_impl_cloneSched), (by first | exact .inl ok_impl_taskAt | exact ok_impl_taskAt), (by first | exact .inl ok_impl_taskOk | exact ok_impl_taskOk), (by first | exact .inl ok_slices_Insert_STask | exact ok_slices_Insert_STask), trivial⟩ (q := fun _ => false) okQ_none mixed (O := fun _ => .nil) (by kernel_rfl) ?_
  by_cases hok : schedOk X t
  · obtain ⟨j, hj⟩ : ∃ j, j = idx (fun x : T3 => decide (x.1 = id)) X := ⟨_, rfl⟩
    have hX8 := hok.1
    by_cases hA : ¬ 0 ≤ idx (fun x : T3 => decide (x.1 = id)) X ∧ ((1 ≤ id ∧ id ≤ 999) ∧ 0 ≤ nice ∧ nice ≤ 9) ∧ X.length < 8
    · rw [addOf_yes hok hA]
      obtain ⟨hA1, hA2, hA3⟩ := hA
      rw [← hj] at hA1
      have d1 : decide (0 ≤ j) = false := decide_eq_false hA1
      have d3 : decide ((8 : Int) ≤ (X.length : Int)) = false := decide_eq_false (by omega)
      simp only [↓WP, ↓grdD, ↓grdT, ↓un_dead, ↓binVC, ↓buildVC, ↓sliceVC, WQ, WN, Int.reduceToNat, renl, cll, rent, clt, ↓reduceIte, Nat.reduceLeDiff, Nat.reduceEqDiff, Nat.reduceLT, reduceCtorEq, List.append_nil, Nat.reduceAdd, Nat.reduceSub, Nat.reduceBEq, forall_const, implies_true, cond_true, cond_false, AV.ren, AC.ren, AV.cl, AC.cl, eq_self, List.all_cons, List.all_nil, AV.eqv, AC.eqv, eqvl, eqvt, Sl.eqv, List.map_append, List.length_map, List.length_append, List.length_replicate, List.length_set, List.map_replicate, nilVC, zr_29, sz_29, fs_29, fl_29_0, sz_27, sd_27, el_27, fl_53_0, sz_3, zr_53, fs_53, c_impl_SchedOk, c_impl_cloneSched, c_impl_taskAt, c_impl_taskOk, c_slices_Insert_STask, hX, decide_eq_true hok, ← hj, d1, decide_eq_true hA2, d3]
      refine ⟨hrow, ⟨hrow, hc⟩, fun k hk => ⟨hrow, ?_⟩⟩
      refine loopI (J := {i : Nat // i ≤ X.length ∧ clear (fun x : T3 => decide (id ≤ x.1)) X i}) (fun i => ⟨slots 60 [(1, I id), (2, I nice), (3, .c (.ptr ⟨.loc 0, 0, 0, 0⟩)), (6, .c (.ptr ⟨.loc 1, 0, 0, 0⟩)), (8, .c (.ptr ⟨.loc 3, 0, 0, 0⟩)), (9, I i.1)], M, [], [.box 29 [.sl a.up X.length c, .int .i64 t], .box 29 [.sl ⟨.nil, 0, 0, 0⟩ 0 0, .int .i64 0], rowG true 53 k X, .box 29 [.sl ⟨.loc 2, 0, 0, 0⟩ X.length k, .int .i64 t]]⟩) (fun i => X.length - i.1) ⟨0, by omega, clear_zero _ _⟩ (Le_intro [0, 1, 2, 3] (by simp only [WL, WNL, swA_new, swA_ne, nest_sw_ne, mapLL, List.mem_cons, Nat.reduceAdd, Nat.reduceLT, Nat.reduceLeDiff, Nat.reduceEqDiff, okU, List.nodup_cons, List.not_mem_nil, toT, toL, toO, keysO, renl, rent, cll, clt, eq_self, AV.eqv, AC.eqv, eqvl, eqvt, Sl.eqv, rowsLe, mapLL, rowsCl, List.map_append, List.length_map, List.length_append, List.length_set, List.map_replicate, rowG, List.getElem?_cons_zero, List.getElem?_cons_succ, List.getElem?_nil, List.append_nil, List.nil_append, List.cons_append, ghosts, St.gh, Option.some.injEq, implies_true, setT, AV.ren, AC.ren, AV.cl, AC.cl, List.replicate_succ, List.replicate_zero, List.nodup_nil, List.length_nil, List.length_cons, List.getD_cons_zero, List.getD_cons_succ, ↓reduceIte]; try simp)) ?_
      rintro ⟨i, hi, he⟩
      have hw := wS (i := i) (by omega)
      by_cases hgo : i < X.length ∧ (X.getD i default).1 < id
      · obtain ⟨hlt, hx⟩ := hgo
        obtain ⟨own, ty, cnt, cap, len, get, hM, hf, hic, hkn, hget⟩ := hat (by omega)
        simp only [↓WP, ↓grdD, ↓grdT, ↓un_dead, ↓binVC, ↓buildVC, ↓sliceVC, WQ, WN, Int.reduceToNat, renl, cll, rent, clt, ↓reduceIte, Nat.reduceLeDiff, Nat.reduceEqDiff, Nat.reduceLT, reduceCtorEq, List.append_nil, Nat.reduceAdd, Nat.reduceSub, Nat.reduceBEq, forall_const, implies_true, cond_true, cond_false, AV.ren, AC.ren, AV.cl, AC.cl, eq_self, List.all_cons, List.all_nil, AV.eqv, AC.eqv, eqvl, eqvt, Sl.eqv, List.map_append, List.length_map, List.length_append, List.length_replicate, List.length_set, List.map_replicate, nilVC, zr_29, sz_29, fs_29, fl_29_0, sz_27, sd_27, el_27, fl_53_0, sz_3, zr_53, fs_53, c_impl_SchedOk, c_impl_cloneSched, c_impl_taskAt, c_impl_taskOk, c_slices_Insert_STask, dlt hlt, hw, hM, hf, hget i hlt, decide_eq_true hx]
        repeat refine ⟨by omega, ?_⟩
        exact ⟨⟨i + 1, hlt, clear_succ he (decide_eq_false (by omega))⟩, Le_intro [0, 1, 2, 3] (by simp only [WL, WNL, swA_new, swA_ne, nest_sw_ne, mapLL, List.mem_cons, Nat.reduceAdd, Nat.reduceLT, Nat.reduceLeDiff, Nat.reduceEqDiff, okU, List.nodup_cons, List.not_mem_nil, toT, toL, toO, keysO, renl, rent, cll, clt, eq_self, AV.eqv, AC.eqv, eqvl, eqvt, Sl.eqv, rowsLe, mapLL, rowsCl, List.map_append, List.length_map, List.length_append, List.length_set, List.map_replicate, rowG, List.getElem?_cons_zero, List.getElem?_cons_succ, List.getElem?_nil, List.append_nil, List.nil_append, List.cons_append, ghosts, St.gh, Option.some.injEq, implies_true, setT, AV.ren, AC.ren, AV.cl, AC.cl, List.replicate_succ, List.replicate_zero, List.nodup_nil, List.length_nil, List.length_cons, List.getD_cons_zero, List.getD_cons_succ, ↓reduceIte]; try simp), by show X.length - (i + 1) < X.length - i; omega⟩
      · have hfi : fi X id = i := by
          rcases Nat.lt_or_ge i X.length with hlt | hge
          · exact fi_hit he hlt (by have : ¬ (X.getD i default).1 < id := fun h => hgo ⟨hlt, h⟩; omega)
          · obtain rfl : i = X.length := by omega
            exact fi_end he
        have hin : List.map enc (insAt X i (id, nice, 0)) = List.map enc (insL X (id, nice, 0)) := by unfold insAt insL; rw [hfi]
        have hil := insL_length X (id, nice, 0)
        have hdec : dec [AC.int .i64 id, AC.int .i64 nice, AC.int .i64 0] = ((id, nice, 0) : T3) := rfl
        have hab : ∀ x y : Nat, x ≠ y → RId.loc x ≠ RId.loc y := fun x y h e => h (by cases e; rfl)
        rcases Nat.lt_or_ge i X.length with hlt | hge
        · have hx : decide ((X.getD i default).1 < id) = false := decide_eq_false fun h => hgo ⟨hlt, h⟩
          obtain ⟨own, ty, cnt, cap, len, get, hM, hf, hic, hkn, hget⟩ := hat (by omega)
          by_cases hkk : X.length + 1 ≤ k
          · simp only [↓WP, ↓grdD, ↓grdT, ↓un_dead, ↓binVC, ↓buildVC, ↓sliceVC, WQ, WN, Int.reduceToNat, renl, cll, rent, clt, ↓reduceIte, Nat.reduceLeDiff, Nat.reduceEqDiff, Nat.reduceLT, reduceCtorEq, List.append_nil, Nat.reduceAdd, Nat.reduceSub, Nat.reduceBEq, forall_const, implies_true, cond_true, cond_false, AV.ren, AC.ren, AV.cl, AC.cl, eq_self, List.all_cons, List.all_nil, AV.eqv, AC.eqv, eqvl, eqvt, Sl.eqv, List.map_append, List.length_map, List.length_append, List.length_replicate, List.length_set, List.map_replicate, nilVC, zr_29, sz_29, fs_29, fl_29_0, sz_27, sd_27, el_27, fl_53_0, sz_3, zr_53, fs_53, c_impl_SchedOk, c_impl_cloneSched, c_impl_taskAt, c_impl_taskOk, c_slices_Insert_STask, dlt hlt, hw, hM, hf, hget i hlt, hx, if_pos hkk, hdec, hin]
            repeat' (first | with_reducible refine And.intro ?_ ?_ | intro _)
            all_goals try omega
            all_goals try exact hab _ _ (by omega)
            all_goals try exact absurd ‹RId.loc 2 = RId.loc 4› (hab _ _ (by omega))
            all_goals
              refine end_ret ?_
              simp only [↓WP, ↓grdD, ↓grdT, ↓un_dead, ↓binVC, ↓buildVC, ↓sliceVC, WQ, WN, Int.reduceToNat, renl, cll, rent, clt, ↓reduceIte, Nat.reduceLeDiff, Nat.reduceEqDiff, Nat.reduceLT, reduceCtorEq, List.append_nil, Nat.reduceAdd, Nat.reduceSub, Nat.reduceBEq, forall_const, implies_true, cond_true, cond_false, AV.ren, AC.ren, AV.cl, AC.cl, eq_self, List.all_cons, List.all_nil, AV.eqv, AC.eqv, eqvl, eqvt, Sl.eqv, List.map_append, List.length_map, List.length_append, List.length_replicate, List.length_set, List.map_replicate, nilVC, zr_29, sz_29, fs_29, fl_29_0, sz_27, sd_27, el_27, fl_53_0, sz_3, zr_53, fs_53, c_impl_SchedOk, c_impl_cloneSched, c_impl_taskAt, c_impl_taskOk, c_slices_Insert_STask, hil]
              refine ⟨k, [], [2], ?_⟩
              simp only [WL, WNL, swA_new, swA_ne, nest_sw_ne, mapLL, List.mem_cons, Nat.reduceAdd, Nat.reduceLT, Nat.reduceLeDiff, Nat.reduceEqDiff, okU, List.nodup_cons, List.not_mem_nil, toT, toL, toO, keysO, renl, rent, cll, clt, eq_self, AV.eqv, AC.eqv, eqvl, eqvt, Sl.eqv, rowsLe, mapLL, rowsCl, List.map_append, List.length_map, List.length_append, List.length_set, List.map_replicate, rowG, List.getElem?_cons_zero, List.getElem?_cons_succ, List.getElem?_nil, List.append_nil, List.nil_append, List.cons_append, ghosts, St.gh, Option.some.injEq, implies_true, setT, AV.ren, AC.ren, AV.cl, AC.cl, List.replicate_succ, List.replicate_zero, List.nodup_nil, List.length_nil, List.length_cons, List.getD_cons_zero, List.getD_cons_succ, ↓reduceIte, retP, hil]
              try simp
              try omega
          · simp only [↓WP, ↓grdD, ↓grdT, ↓un_dead, ↓binVC, ↓buildVC, ↓sliceVC, WQ, WN, Int.reduceToNat, renl, cll, rent, clt, ↓reduceIte, Nat.reduceLeDiff, Nat.reduceEqDiff, Nat.reduceLT, reduceCtorEq, List.append_nil, Nat.reduceAdd, Nat.reduceSub, Nat.reduceBEq, forall_const, implies_true, cond_true, cond_false, AV.ren, AC.ren, AV.cl, AC.cl, eq_self, List.all_cons, List.all_nil, AV.eqv, AC.eqv, eqvl, eqvt, Sl.eqv, List.map_append, List.length_map, List.length_append, List.length_replicate, List.length_set, List.map_replicate, nilVC, zr_29, sz_29, fs_29, fl_29_0, sz_27, sd_27, el_27, fl_53_0, sz_3, zr_53, fs_53, c_impl_SchedOk, c_impl_cloneSched, c_impl_taskAt, c_impl_taskOk, c_slices_Insert_STask, dlt hlt, hw, hM, hf, hget i hlt, hx, if_neg hkk, hdec, hin]
            repeat' (first | with_reducible refine And.intro ?_ ?_ | intro _)
            all_goals try omega
            all_goals try exact hab _ _ (by omega)
            all_goals try exact absurd ‹RId.loc 2 = RId.loc 4› (hab _ _ (by omega))
            all_goals
              rename_i p hp
              refine end_ret ?_
              simp only [↓WP, ↓grdD, ↓grdT, ↓un_dead, ↓binVC, ↓buildVC, ↓sliceVC, WQ, WN, Int.reduceToNat, renl, cll, rent, clt, ↓reduceIte, Nat.reduceLeDiff, Nat.reduceEqDiff, Nat.reduceLT, reduceCtorEq, List.append_nil, Nat.reduceAdd, Nat.reduceSub, Nat.reduceBEq, forall_const, implies_true, cond_true, cond_false, AV.ren, AC.ren, AV.cl, AC.cl, eq_self, List.all_cons, List.all_nil, AV.eqv, AC.eqv, eqvl, eqvt, Sl.eqv, List.map_append, List.length_map, List.length_append, List.length_replicate, List.length_set, List.map_replicate, nilVC, zr_29, sz_29, fs_29, fl_29_0, sz_27, sd_27, el_27, fl_53_0, sz_3, zr_53, fs_53, c_impl_SchedOk, c_impl_cloneSched, c_impl_taskAt, c_impl_taskOk, c_slices_Insert_STask, hil]
              refine ⟨p, [], [5], ?_⟩
              simp only [WL, WNL, swA_new, swA_ne, nest_sw_ne, mapLL, List.mem_cons, Nat.reduceAdd, Nat.reduceLT, Nat.reduceLeDiff, Nat.reduceEqDiff, okU, List.nodup_cons, List.not_mem_nil, toT, toL, toO, keysO, renl, rent, cll, clt, eq_self, AV.eqv, AC.eqv, eqvl, eqvt, Sl.eqv, rowsLe, mapLL, rowsCl, List.map_append, List.length_map, List.length_append, List.length_set, List.map_replicate, rowG, List.getElem?_cons_zero, List.getElem?_cons_succ, List.getElem?_nil, List.append_nil, List.nil_append, List.cons_append, ghosts, St.gh, Option.some.injEq, implies_true, setT, AV.ren, AC.ren, AV.cl, AC.cl, List.replicate_succ, List.replicate_zero, List.nodup_nil, List.length_nil, List.length_cons, List.getD_cons_zero, List.getD_cons_succ, ↓reduceIte, retP, hil]
              try simp
              try omega
        · obtain rfl : i = X.length := by omega
          obtain ⟨own, ty, cnt, cap, len, get, hM, hf, hic⟩ := hhas.x
          obtain ⟨x, hx⟩ : ∃ x, (List.map AC.up (get a.i (a.k + X.length))).getD 0 dfl = x := ⟨_, rfl⟩
          by_cases hkk : X.length + 1 ≤ k
          · simp only [↓WP, ↓grdD, ↓grdT, ↓un_dead, ↓binVC, ↓buildVC, ↓sliceVC, WQ, WN, Int.reduceToNat, renl, cll, rent, clt, ↓reduceIte, Nat.reduceLeDiff, Nat.reduceEqDiff, Nat.reduceLT, reduceCtorEq, List.append_nil, Nat.reduceAdd, Nat.reduceSub, Nat.reduceBEq, forall_const, implies_true, cond_true, cond_false, AV.ren, AC.ren, AV.cl, AC.cl, eq_self, List.all_cons, List.all_nil, AV.eqv, AC.eqv, eqvl, eqvt, Sl.eqv, List.map_append, List.length_map, List.length_append, List.length_replicate, List.length_set, List.map_replicate, nilVC, zr_29, sz_29, fs_29, fl_29_0, sz_27, sd_27, el_27, fl_53_0, sz_3, zr_53, fs_53, c_impl_SchedOk, c_impl_cloneSched, c_impl_taskAt, c_impl_taskOk, c_slices_Insert_STask, dge hge, hw, hM, hf, hx]
            cases x
            all_goals
              simp only [↓WP, ↓grdD, ↓grdT, ↓un_dead, ↓binVC, ↓buildVC, ↓sliceVC, WQ, WN, Int.reduceToNat, renl, cll, rent, clt, ↓reduceIte, Nat.reduceLeDiff, Nat.reduceEqDiff, Nat.reduceLT, reduceCtorEq, List.append_nil, Nat.reduceAdd, Nat.reduceSub, Nat.reduceBEq, forall_const, implies_true, cond_true, cond_false, AV.ren, AC.ren, AV.cl, AC.cl, eq_self, List.all_cons, List.all_nil, AV.eqv, AC.eqv, eqvl, eqvt, Sl.eqv, List.map_append, List.length_map, List.length_append, List.length_replicate, List.length_set, List.map_replicate, nilVC, zr_29, sz_29, fs_29, fl_29_0, sz_27, sd_27, el_27, fl_53_0, sz_3, zr_53, fs_53, c_impl_SchedOk, c_impl_cloneSched, c_impl_taskAt, c_impl_taskOk, c_slices_Insert_STask, if_pos hkk, hdec, hin]
              repeat' (first | with_reducible refine And.intro ?_ ?_ | intro _)
              all_goals try omega
              all_goals try exact hab _ _ (by omega)
              all_goals try exact absurd ‹RId.loc 2 = RId.loc 4› (hab _ _ (by omega))
              all_goals
                refine end_ret ?_
                simp only [↓WP, ↓grdD, ↓grdT, ↓un_dead, ↓binVC, ↓buildVC, ↓sliceVC, WQ, WN, Int.reduceToNat, renl, cll, rent, clt, ↓reduceIte, Nat.reduceLeDiff, Nat.reduceEqDiff, Nat.reduceLT, reduceCtorEq, List.append_nil, Nat.reduceAdd, Nat.reduceSub, Nat.reduceBEq, forall_const, implies_true, cond_true, cond_false, AV.ren, AC.ren, AV.cl, AC.cl, eq_self, List.all_cons, List.all_nil, AV.eqv, AC.eqv, eqvl, eqvt, Sl.eqv, List.map_append, List.length_map, List.length_append, List.length_replicate, List.length_set, List.map_replicate, nilVC, zr_29, sz_29, fs_29, fl_29_0, sz_27, sd_27, el_27, fl_53_0, sz_3, zr_53, fs_53, c_impl_SchedOk, c_impl_cloneSched, c_impl_taskAt, c_impl_taskOk, c_slices_Insert_STask, hil]
                refine ⟨k, [], [2], ?_⟩
                simp only [WL, WNL, swA_new, swA_ne, nest_sw_ne, mapLL, List.mem_cons, Nat.reduceAdd, Nat.reduceLT, Nat.reduceLeDiff, Nat.reduceEqDiff, okU, List.nodup_cons, List.not_mem_nil, toT, toL, toO, keysO, renl, rent, cll, clt, eq_self, AV.eqv, AC.eqv, eqvl, eqvt, Sl.eqv, rowsLe, mapLL, rowsCl, List.map_append, List.length_map, List.length_append, List.length_set, List.map_replicate, rowG, List.getElem?_cons_zero, List.getElem?_cons_succ, List.getElem?_nil, List.append_nil, List.nil_append, List.cons_append, ghosts, St.gh, Option.some.injEq, implies_true, setT, AV.ren, AC.ren, AV.cl, AC.cl, List.replicate_succ, List.replicate_zero, List.nodup_nil, List.length_nil, List.length_cons, List.getD_cons_zero, List.getD_cons_succ, ↓reduceIte, retP, hil]
                try simp
                try omega
          · simp only [↓WP, ↓grdD, ↓grdT, ↓un_dead, ↓binVC, ↓buildVC, ↓sliceVC, WQ, WN, Int.reduceToNat, renl, cll, rent, clt, ↓reduceIte, Nat.reduceLeDiff, Nat.reduceEqDiff, Nat.reduceLT, reduceCtorEq, List.append_nil, Nat.reduceAdd, Nat.reduceSub, Nat.reduceBEq, forall_const, implies_true, cond_true, cond_false, AV.ren, AC.ren, AV.cl, AC.cl, eq_self, List.all_cons, List.all_nil, AV.eqv, AC.eqv, eqvl, eqvt, Sl.eqv, List.map_append, List.length_map, List.length_append, List.length_replicate, List.length_set, List.map_replicate, nilVC, zr_29, sz_29, fs_29, fl_29_0, sz_27, sd_27, el_27, fl_53_0, sz_3, zr_53, fs_53, c_impl_SchedOk, c_impl_cloneSched, c_impl_taskAt, c_impl_taskOk, c_slices_Insert_STask, dge hge, hw, hM, hf, hx]
            cases x
            all_goals
              simp only [↓WP, ↓grdD, ↓grdT, ↓un_dead, ↓binVC, ↓buildVC, ↓sliceVC, WQ, WN, Int.reduceToNat, renl, cll, rent, clt, ↓reduceIte, Nat.reduceLeDiff, Nat.reduceEqDiff, Nat.reduceLT, reduceCtorEq, List.append_nil, Nat.reduceAdd, Nat.reduceSub, Nat.reduceBEq, forall_const, implies_true, cond_true, cond_false, AV.ren, AC.ren, AV.cl, AC.cl, eq_self, List.all_cons, List.all_nil, AV.eqv, AC.eqv, eqvl, eqvt, Sl.eqv, List.map_append, List.length_map, List.length_append, List.length_replicate, List.length_set, List.map_replicate, nilVC, zr_29, sz_29, fs_29, fl_29_0, sz_27, sd_27, el_27, fl_53_0, sz_3, zr_53, fs_53, c_impl_SchedOk, c_impl_cloneSched, c_impl_taskAt, c_impl_taskOk, c_slices_Insert_STask, if_neg hkk, hdec, hin]
              repeat' (first | with_reducible refine And.intro ?_ ?_ | intro _)
              all_goals try omega
              all_goals try exact hab _ _ (by omega)
              all_goals try exact absurd ‹RId.loc 2 = RId.loc 4› (hab _ _ (by omega))
              all_goals
                rename_i p hp
                refine end_ret ?_
                simp only [↓WP, ↓grdD, ↓grdT, ↓un_dead, ↓binVC, ↓buildVC, ↓sliceVC, WQ, WN, Int.reduceToNat, renl, cll, rent, clt, ↓reduceIte, Nat.reduceLeDiff, Nat.reduceEqDiff, Nat.reduceLT, reduceCtorEq, List.append_nil, Nat.reduceAdd, Nat.reduceSub, Nat.reduceBEq, forall_const, implies_true, cond_true, cond_false, AV.ren, AC.ren, AV.cl, AC.cl, eq_self, List.all_cons, List.all_nil, AV.eqv, AC.eqv, eqvl, eqvt, Sl.eqv, List.map_append, List.length_map, List.length_append, List.length_replicate, List.length_set, List.map_replicate, nilVC, zr_29, sz_29, fs_29, fl_29_0, sz_27, sd_27, el_27, fl_53_0, sz_3, zr_53, fs_53, c_impl_SchedOk, c_impl_cloneSched, c_impl_taskAt, c_impl_taskOk, c_slices_Insert_STask, hil]
                refine ⟨p, [], [5], ?_⟩
                simp only [WL, WNL, swA_new, swA_ne, nest_sw_ne, mapLL, List.mem_cons, Nat.reduceAdd, Nat.reduceLT, Nat.reduceLeDiff, Nat.reduceEqDiff, okU, List.nodup_cons, List.not_mem_nil, toT, toL, toO, keysO, renl, rent, cll, clt, eq_self, AV.eqv, AC.eqv, eqvl, eqvt, Sl.eqv, rowsLe, mapLL, rowsCl, List.map_append, List.length_map, List.length_append, List.length_set, List.map_replicate, rowG, List.getElem?_cons_zero, List.getElem?_cons_succ, List.getElem?_nil, List.append_nil, List.nil_append, List.cons_append, ghosts, St.gh, Option.some.injEq, implies_true, setT, AV.ren, AC.ren, AV.cl, AC.cl, List.replicate_succ, List.replicate_zero, List.nodup_nil, List.length_nil, List.length_cons, List.getD_cons_zero, List.getD_cons_succ, ↓reduceIte, retP, hil]
                try simp
                try omega
    · rw [addOf_no hok hA]
      have key : decide (0 ≤ j) = true ∨ (decide (0 ≤ j) = false ∧ decide ((1 ≤ id ∧ id ≤ 999) ∧ 0 ≤ nice ∧ nice ≤ 9) = false) ∨ (decide (0 ≤ j) = false ∧ decide ((1 ≤ id ∧ id ≤ 999) ∧ 0 ≤ nice ∧ nice ≤ 9) = true ∧ decide ((8 : Int) ≤ (X.length : Int)) = true) := by
        rw [← hj] at hA
        by_cases k1 : 0 ≤ j
        · exact .inl (decide_eq_true k1)
        · by_cases k2 : (1 ≤ id ∧ id ≤ 999) ∧ 0 ≤ nice ∧ nice ≤ 9
          · exact .inr (.inr ⟨decide_eq_false k1, decide_eq_true k2, decide_eq_true (by have : ¬ X.length < 8 := fun h => hA ⟨k1, k2, h⟩; omega)⟩)
          · exact .inr (.inl ⟨decide_eq_false k1, decide_eq_false k2⟩)
      rcases key with k1 | ⟨k1, k2⟩ | ⟨k1, k2, k3⟩
      · simp only [↓WP, ↓grdD, ↓grdT, ↓un_dead, ↓binVC, ↓buildVC, ↓sliceVC, WQ, WN, Int.reduceToNat, renl, cll, rent, clt, ↓reduceIte, Nat.reduceLeDiff, Nat.reduceEqDiff, Nat.reduceLT, reduceCtorEq, List.append_nil, Nat.reduceAdd, Nat.reduceSub, Nat.reduceBEq, forall_const, implies_true, cond_true, cond_false, AV.ren, AC.ren, AV.cl, AC.cl, eq_self, List.all_cons, List.all_nil, AV.eqv, AC.eqv, eqvl, eqvt, Sl.eqv, List.map_append, List.length_map, List.length_append, List.length_replicate, List.length_set, List.map_replicate, nilVC, zr_29, sz_29, fs_29, fl_29_0, sz_27, sd_27, el_27, fl_53_0, sz_3, zr_53, fs_53, c_impl_SchedOk, c_impl_cloneSched, c_impl_taskAt, c_impl_taskOk, c_slices_Insert_STask, hX, decide_eq_true hok, ← hj, k1]
        refine ⟨hrow, ⟨hrow, hc⟩, fun k hk => ⟨hrow, end_ret ?_⟩⟩
        simp only [↓WP, ↓grdD, ↓grdT, ↓un_dead, ↓binVC, ↓buildVC, ↓sliceVC, WQ, WN, Int.reduceToNat, renl, cll, rent, clt, ↓reduceIte, Nat.reduceLeDiff, Nat.reduceEqDiff, Nat.reduceLT, reduceCtorEq, List.append_nil, Nat.reduceAdd, Nat.reduceSub, Nat.reduceBEq, forall_const, implies_true, cond_true, cond_false, AV.ren, AC.ren, AV.cl, AC.cl, eq_self, List.all_cons, List.all_nil, AV.eqv, AC.eqv, eqvl, eqvt, Sl.eqv, List.map_append, List.length_map, List.length_append, List.length_replicate, List.length_set, List.map_replicate, nilVC, zr_29, sz_29, fs_29, fl_29_0, sz_27, sd_27, el_27, fl_53_0, sz_3, zr_53, fs_53, c_impl_SchedOk, c_impl_cloneSched, c_impl_taskAt, c_impl_taskOk, c_slices_Insert_STask]
        refine ⟨k, [], [2], ?_⟩
        simp only [WL, WNL, swA_new, swA_ne, nest_sw_ne, mapLL, List.mem_cons, Nat.reduceAdd, Nat.reduceLT, Nat.reduceLeDiff, Nat.reduceEqDiff, okU, List.nodup_cons, List.not_mem_nil, toT, toL, toO, keysO, renl, rent, cll, clt, eq_self, AV.eqv, AC.eqv, eqvl, eqvt, Sl.eqv, rowsLe, mapLL, rowsCl, List.map_append, List.length_map, List.length_append, List.length_set, List.map_replicate, rowG, List.getElem?_cons_zero, List.getElem?_cons_succ, List.getElem?_nil, List.append_nil, List.nil_append, List.cons_append, ghosts, St.gh, Option.some.injEq, implies_true, setT, AV.ren, AC.ren, AV.cl, AC.cl, List.replicate_succ, List.replicate_zero, List.nodup_nil, List.length_nil, List.length_cons, List.getD_cons_zero, List.getD_cons_succ, ↓reduceIte, retP]
        simp [hk]
      · simp only [↓WP, ↓grdD, ↓grdT, ↓un_dead, ↓binVC, ↓buildVC, ↓sliceVC, WQ, WN, Int.reduceToNat, renl, cll, rent, clt, ↓reduceIte, Nat.reduceLeDiff, Nat.reduceEqDiff, Nat.reduceLT, reduceCtorEq, List.append_nil, Nat.reduceAdd, Nat.reduceSub, Nat.reduceBEq, forall_const, implies_true, cond_true, cond_false, AV.ren, AC.ren, AV.cl, AC.cl, eq_self, List.all_cons, List.all_nil, AV.eqv, AC.eqv, eqvl, eqvt, Sl.eqv, List.map_append, List.length_map, List.length_append, List.length_replicate, List.length_set, List.map_replicate, nilVC, zr_29, sz_29, fs_29, fl_29_0, sz_27, sd_27, el_27, fl_53_0, sz_3, zr_53, fs_53, c_impl_SchedOk, c_impl_cloneSched, c_impl_taskAt, c_impl_taskOk, c_slices_Insert_STask, hX, decide_eq_true hok, ← hj, k1, k2]
        refine ⟨hrow, ⟨hrow, hc⟩, fun k hk => ⟨hrow, end_ret ?_⟩⟩
        simp only [↓WP, ↓grdD, ↓grdT, ↓un_dead, ↓binVC, ↓buildVC, ↓sliceVC, WQ, WN, Int.reduceToNat, renl, cll, rent, clt, ↓reduceIte, Nat.reduceLeDiff, Nat.reduceEqDiff, Nat.reduceLT, reduceCtorEq, List.append_nil, Nat.reduceAdd, Nat.reduceSub, Nat.reduceBEq, forall_const, implies_true, cond_true, cond_false, AV.ren, AC.ren, AV.cl, AC.cl, eq_self, List.all_cons, List.all_nil, AV.eqv, AC.eqv, eqvl, eqvt, Sl.eqv, List.map_append, List.length_map, List.length_append, List.length_replicate, List.length_set, List.map_replicate, nilVC, zr_29, sz_29, fs_29, fl_29_0, sz_27, sd_27, el_27, fl_53_0, sz_3, zr_53, fs_53, c_impl_SchedOk, c_impl_cloneSched, c_impl_taskAt, c_impl_taskOk, c_slices_Insert_STask]
        refine ⟨k, [], [2], ?_⟩
        simp only [WL, WNL, swA_new, swA_ne, nest_sw_ne, mapLL, List.mem_cons, Nat.reduceAdd, Nat.reduceLT, Nat.reduceLeDiff, Nat.reduceEqDiff, okU, List.nodup_cons, List.not_mem_nil, toT, toL, toO, keysO, renl, rent, cll, clt, eq_self, AV.eqv, AC.eqv, eqvl, eqvt, Sl.eqv, rowsLe, mapLL, rowsCl, List.map_append, List.length_map, List.length_append, List.length_set, List.map_replicate, rowG, List.getElem?_cons_zero, List.getElem?_cons_succ, List.getElem?_nil, List.append_nil, List.nil_append, List.cons_append, ghosts, St.gh, Option.some.injEq, implies_true, setT, AV.ren, AC.ren, AV.cl, AC.cl, List.replicate_succ, List.replicate_zero, List.nodup_nil, List.length_nil, List.length_cons, List.getD_cons_zero, List.getD_cons_succ, ↓reduceIte, retP]
        simp [hk]
      · simp only [↓WP, ↓grdD, ↓grdT, ↓un_dead, ↓binVC, ↓buildVC, ↓sliceVC, WQ, WN, Int.reduceToNat, renl, cll, rent, clt, ↓reduceIte, Nat.reduceLeDiff, Nat.reduceEqDiff, Nat.reduceLT, reduceCtorEq, List.append_nil, Nat.reduceAdd, Nat.reduceSub, Nat.reduceBEq, forall_const, implies_true, cond_true, cond_false, AV.ren, AC.ren, AV.cl, AC.cl, eq_self, List.all_cons, List.all_nil, AV.eqv, AC.eqv, eqvl, eqvt, Sl.eqv, List.map_append, List.length_map, List.length_append, List.length_replicate, List.length_set, List.map_replicate, nilVC, zr_29, sz_29, fs_29, fl_29_0, sz_27, sd_27, el_27, fl_53_0, sz_3, zr_53, fs_53, c_impl_SchedOk, c_impl_cloneSched, c_impl_taskAt, c_impl_taskOk, c_slices_Insert_STask, hX, decide_eq_true hok, ← hj, k1, k2, k3]
        refine ⟨hrow, ⟨hrow, hc⟩, fun k hk => ⟨hrow, end_ret ?_⟩⟩
        simp only [↓WP, ↓grdD, ↓grdT, ↓un_dead, ↓binVC, ↓buildVC, ↓sliceVC, WQ, WN, Int.reduceToNat, renl, cll, rent, clt, ↓reduceIte, Nat.reduceLeDiff, Nat.reduceEqDiff, Nat.reduceLT, reduceCtorEq, List.append_nil, Nat.reduceAdd, Nat.reduceSub, Nat.reduceBEq, forall_const, implies_true, cond_true, cond_false, AV.ren, AC.ren, AV.cl, AC.cl, eq_self, List.all_cons, List.all_nil, AV.eqv, AC.eqv, eqvl, eqvt, Sl.eqv, List.map_append, List.length_map, List.length_append, List.length_replicate, List.length_set, List.map_replicate, nilVC, zr_29, sz_29, fs_29, fl_29_0, sz_27, sd_27, el_27, fl_53_0, sz_3, zr_53, fs_53, c_impl_SchedOk, c_impl_cloneSched, c_impl_taskAt, c_impl_taskOk, c_slices_Insert_STask]
        refine ⟨k, [], [2], ?_⟩
        simp only [WL, WNL, swA_new, swA_ne, nest_sw_ne, mapLL, List.mem_cons, Nat.reduceAdd, Nat.reduceLT, Nat.reduceLeDiff, Nat.reduceEqDiff, okU, List.nodup_cons, List.not_mem_nil, toT, toL, toO, keysO, renl, rent, cll, clt, eq_self, AV.eqv, AC.eqv, eqvl, eqvt, Sl.eqv, rowsLe, mapLL, rowsCl, List.map_append, List.length_map, List.length_append, List.length_set, List.map_replicate, rowG, List.getElem?_cons_zero, List.getElem?_cons_succ, List.getElem?_nil, List.append_nil, List.nil_append, List.cons_append, ghosts, St.gh, Option.some.injEq, implies_true, setT, AV.ren, AC.ren, AV.cl, AC.cl, List.replicate_succ, List.replicate_zero, List.nodup_nil, List.length_nil, List.length_cons, List.getD_cons_zero, List.getD_cons_succ, ↓reduceIte, retP]
        simp [hk]
  · have hn : addOf X t id nice = ([], 0, false) := by rw [addOf, if_neg hok]
    rw [hn]
    simp only [↓WP, ↓grdD, ↓grdT, ↓un_dead, ↓binVC, ↓buildVC, ↓sliceVC, WQ, WN, Int.reduceToNat, renl, cll, rent, clt, ↓reduceIte, Nat.reduceLeDiff, Nat.reduceEqDiff, Nat.reduceLT, reduceCtorEq, List.append_nil, Nat.reduceAdd, Nat.reduceSub, Nat.reduceBEq, forall_const, implies_true, cond_true, cond_false, AV.ren, AC.ren, AV.cl, AC.cl, eq_self, List.all_cons, List.all_nil, AV.eqv, AC.eqv, eqvl, eqvt, Sl.eqv, List.map_append, List.length_map, List.length_append, List.length_replicate, List.length_set, List.map_replicate, nilVC, zr_29, sz_29, fs_29, fl_29_0, sz_27, sd_27, el_27, fl_53_0, sz_3, zr_53, fs_53, c_impl_SchedOk, c_impl_cloneSched, c_impl_taskAt, c_impl_taskOk, c_slices_Insert_STask, hX, decide_eq_false hok]
    refine ⟨hrow, end_ret ?_⟩
    simp only [↓WP, ↓grdD, ↓grdT, ↓un_dead, ↓binVC, ↓buildVC, ↓sliceVC, WQ, WN, Int.reduceToNat, renl, cll, rent, clt, ↓reduceIte, Nat.reduceLeDiff, Nat.reduceEqDiff, Nat.reduceLT, reduceCtorEq, List.append_nil, Nat.reduceAdd, Nat.reduceSub, Nat.reduceBEq, forall_const, implies_true, cond_true, cond_false, AV.ren, AC.ren, AV.cl, AC.cl, eq_self, List.all_cons, List.all_nil, AV.eqv, AC.eqv, eqvl, eqvt, Sl.eqv, List.map_append, List.length_map, List.length_append, List.length_replicate, List.length_set, List.map_replicate, nilVC, zr_29, sz_29, fs_29, fl_29_0, sz_27, sd_27, el_27, fl_53_0, sz_3, zr_53, fs_53, c_impl_SchedOk, c_impl_cloneSched, c_impl_taskAt, c_impl_taskOk, c_slices_Insert_STask]
    refine ⟨0, [(53, 3)], [2], ?_⟩
    simp [WL, WNL, swA_new, swA_ne, nest_sw_ne, mapLL, List.mem_cons, Nat.reduceAdd, Nat.reduceLT, Nat.reduceLeDiff, Nat.reduceEqDiff, okU, List.nodup_cons, List.not_mem_nil, toT, toL, toO, keysO, renl, rent, cll, clt, eq_self, AV.eqv, AC.eqv, eqvl, eqvt, Sl.eqv, rowsLe, mapLL, rowsCl, List.map_append, List.length_map, List.length_append, List.length_set, List.map_replicate, rowG, List.getElem?_cons_zero, List.getElem?_cons_succ, List.getElem?_nil, List.append_nil, List.nil_append, List.cons_append, ghosts, St.gh, Option.some.injEq, implies_true, setT, AV.ren, AC.ren, AV.cl, AC.cl, List.replicate_succ, List.replicate_zero, List.nodup_nil, List.length_nil, List.length_cons, List.getD_cons_zero, List.getD_cons_succ, ↓reduceIte, retP]
end Go.Eng.T
