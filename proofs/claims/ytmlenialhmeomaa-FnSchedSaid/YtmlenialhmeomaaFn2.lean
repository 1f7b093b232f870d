/- sched: SchedOk, toSched, eqSched, szSched. -/
import Derived.Test.YtmlenialhmeomaaFn1
set_option linter.unusedVariables false
set_option linter.unusedSimpArgs false
set_option linter.unusedSectionVars false
namespace Go.Eng.T
open Go.Proofs
open Cel (enc dec)
set_option maxRecDepth 100000
set_option maxHeartbeats 4000000

def c_laws_szSched : Contract := ⟨9, fun args M => match args with
  | [.agg [.sl _ n _, .int .i64 _], .c (.int .i64 left)] => .pure (0 ≤ left ∧ left ≤ 1048576 ∧ n ≤ 9223372036854775807) (I (if left < n then -1 else left - n))
  | _ => .bad⟩
theorem ok_laws_szSched : fnP Try.prog c_laws_szSched.f = true ∧ ∀ args M, (c_laws_szSched.sp args M).OK Try.prog c_laws_szSched.f args M := by
  refine ⟨fp_9, fun args M => ?_⟩
  unfold c_laws_szSched
  dsimp only
  split
  case h_2 => trivial
  rename_i a n c t left
  rintro ⟨h1, h2, h3⟩
  refine goIn hf_9 rfl (nt := 12) rfl (rs := [.tmp 4]) rfl (C := [c_laws_szSTaskS]) ⟨(by first | exact .inl ok_laws_szSTaskS | exact ok_laws_szSTaskS), trivial⟩ (q := fun _ => false) okQ_none mixed (O := fun _ => .nil) (by kernel_rfl) ?_
  simp only [↓WP, ↓grdD, ↓grdT, ↓un_dead, ↓binVC, ↓buildVC, ↓sliceVC, WQ, WN, Int.reduceToNat, renl, cll, rent, clt, ↓reduceIte, Nat.reduceLeDiff, Nat.reduceEqDiff, Nat.reduceLT, reduceCtorEq, List.append_nil, Nat.reduceAdd, Nat.reduceSub, Nat.reduceBEq, forall_const, implies_true, cond_true, cond_false, AV.ren, AC.ren, AV.cl, AC.cl, eq_self, List.all_cons, List.all_nil, AV.eqv, AC.eqv, eqvl, eqvt, Sl.eqv, List.map_append, List.length_map, List.length_append, List.length_replicate, List.length_set, List.map_replicate, nilVC, fl_24_0, sz_22, c_laws_szSTaskS]
  by_cases h : left < n
  · simp [h]; omega
  · simp [h]; omega
def c_laws_toSched : Contract := ⟨11, fun args M => match args with
  | [.agg [.sl a n _, .int .i64 t]] => .eff (RowOk T3 a n (M a.r)) Unit (fun _ => True) (fun _ => .agg [.sl ⟨.loc 0, 0, 0, 0⟩ n n, .int .i64 t]) (fun _ => [rowG true 53 n (row T3 a n (M a.r))]) (fun _ => [])
  | _ => .bad⟩
theorem ok_laws_toSched : fnP Try.prog c_laws_toSched.f = true ∧ ∀ args M, (c_laws_toSched.sp args M).OK Try.prog c_laws_toSched.f args M := by
  refine ⟨fp_11, fun args M => ?_⟩
  unfold c_laws_toSched
  dsimp only
  split
  case h_2 => trivial
  rename_i a n c t
  intro hrow
  refine goIn hf_11 rfl (nt := 12) rfl (rs := [.cell 2 29]) rfl (C := [c_laws_toSTaskS]) ⟨(by first | exact .inl ok_laws_toSTaskS | exact ok_laws_toSTaskS), trivial⟩ (q := fun _ => false) okQ_none mixed (O := fun _ => .nil) (by kernel_rfl) ?_
  simp only [↓WP, ↓grdD, ↓grdT, ↓un_dead, ↓binVC, ↓buildVC, ↓sliceVC, WQ, WN, Int.reduceToNat, renl, cll, rent, clt, ↓reduceIte, Nat.reduceLeDiff, Nat.reduceEqDiff, Nat.reduceLT, reduceCtorEq, List.append_nil, Nat.reduceAdd, Nat.reduceSub, Nat.reduceBEq, forall_const, implies_true, cond_true, cond_false, AV.ren, AC.ren, AV.cl, AC.cl, eq_self, List.all_cons, List.all_nil, AV.eqv, AC.eqv, eqvl, eqvt, Sl.eqv, List.map_append, List.length_map, List.length_append, List.length_replicate, List.length_set, List.map_replicate, nilVC, zr_29, fl_24_0, sz_22, fl_29_0, sz_27, fl_24_1, sz_3, fl_29_1, sz_29, c_laws_toSTaskS]
  refine ⟨hrow, end_ret ?_⟩
  simp only [↓WP, ↓grdD, ↓grdT, ↓un_dead, ↓binVC, ↓buildVC, ↓sliceVC, WQ, WN, Int.reduceToNat, renl, cll, rent, clt, ↓reduceIte, Nat.reduceLeDiff, Nat.reduceEqDiff, Nat.reduceLT, reduceCtorEq, List.append_nil, Nat.reduceAdd, Nat.reduceSub, Nat.reduceBEq, forall_const, implies_true, cond_true, cond_false, AV.ren, AC.ren, AV.cl, AC.cl, eq_self, List.all_cons, List.all_nil, AV.eqv, AC.eqv, eqvl, eqvt, Sl.eqv, List.map_append, List.length_map, List.length_append, List.length_replicate, List.length_set, List.map_replicate, nilVC, zr_29, fl_24_0, sz_22, fl_29_0, sz_27, fl_24_1, sz_3, fl_29_1, sz_29, c_laws_toSTaskS]
  refine ⟨(), [], [3], ?_⟩
  simp only [WL, WNL, swA_new, swA_ne, nest_sw_ne, mapLL, List.mem_cons, Nat.reduceAdd, Nat.reduceLT, Nat.reduceLeDiff, Nat.reduceEqDiff, okU, List.nodup_cons, List.not_mem_nil, toT, toL, toO, keysO, renl, rent, cll, clt, eq_self, AV.eqv, AC.eqv, eqvl, eqvt, Sl.eqv, rowsLe, mapLL, rowsCl, List.map_append, List.length_map, List.length_append, List.length_set, List.map_replicate, rowG, List.getElem?_cons_zero, List.getElem?_cons_succ, List.getElem?_nil, List.append_nil, List.nil_append, List.cons_append, ghosts, St.gh, Option.some.injEq, implies_true, setT, AV.ren, AC.ren, AV.cl, AC.cl, List.replicate_succ, List.replicate_zero, List.nodup_nil, List.length_nil, List.length_cons, List.getD_cons_zero, List.getD_cons_succ, ↓reduceIte, retP]
theorem q_laws_toSched : Quiet c_laws_toSched := by
  intro args M
  unfold c_laws_toSched
  dsimp only
  split <;> first | trivial | (intro _; rfl)
def c_laws_eqSched : Contract := ⟨13, fun args M => match args with
  | [.agg [.sl a n _, .int .i64 u], .agg [.sl b m _, .int .i64 v]] => .pure (RowOk T3 a n (M a.r) ∧ RowOk T3 b m (M b.r)) (Eng.B (decide (u = v ∧ row T3 a n (M a.r) = row T3 b m (M b.r))))
  | _ => .bad⟩
theorem ok_laws_eqSched : fnP Try.prog c_laws_eqSched.f = true ∧ ∀ args M, (c_laws_eqSched.sp args M).OK Try.prog c_laws_eqSched.f args M := by
  refine ⟨fp_13, fun args M => ?_⟩
  unfold c_laws_eqSched
  dsimp only
  split
  case h_2 => trivial
  rename_i a n ca u b m cb v
  rintro ⟨ha, hb⟩
  refine goIn hf_13 rfl (nt := 16) rfl (rs := [.tmp 4]) rfl (C := [c_laws_eqSTaskS]) ⟨(by first | exact .inl ok_laws_eqSTaskS | exact ok_laws_eqSTaskS), trivial⟩ (q := fun _ => false) okQ_none mixed (O := fun _ => .nil) (by kernel_rfl) ?_
  simp only [↓WP, ↓grdD, ↓grdT, ↓un_dead, ↓binVC, ↓buildVC, ↓sliceVC, WQ, WN, Int.reduceToNat, renl, cll, rent, clt, ↓reduceIte, Nat.reduceLeDiff, Nat.reduceEqDiff, Nat.reduceLT, reduceCtorEq, List.append_nil, Nat.reduceAdd, Nat.reduceSub, Nat.reduceBEq, forall_const, implies_true, cond_true, cond_false, AV.ren, AC.ren, AV.cl, AC.cl, eq_self, List.all_cons, List.all_nil, AV.eqv, AC.eqv, eqvl, eqvt, Sl.eqv, List.map_append, List.length_map, List.length_append, List.length_replicate, List.length_set, List.map_replicate, nilVC, fl_29_0, sz_27, fl_29_1, sz_3, c_laws_eqSTaskS]
  by_cases h1 : u = v <;> by_cases h2 : row T3 a n (M a.r) = row T3 b m (M b.r) <;> simp [h1, h2, ha, hb]
theorem q_laws_eqSched : Quiet c_laws_eqSched := by
  intro args M
  unfold c_laws_eqSched
  dsimp only
  split <;> first | trivial | (intro _; rfl)

/-- task i is right -/
def tOk (X : List T3) (i : Nat) : Prop := (1 ≤ (X.getD i default).1 ∧ (X.getD i default).1 ≤ 999) ∧ (0 ≤ (X.getD i default).2.1 ∧ (X.getD i default).2.1 ≤ 9) ∧ (0 ≤ (X.getD i default).2.2 ∧ (X.getD i default).2.2 ≤ 1000) ∧ (0 < i → (X.getD (i - 1) default).1 < (X.getD i default).1)
instance (X : List T3) (i : Nat) : Decidable (tOk X i) := by unfold tOk; infer_instance
def schedOk (X : List T3) (t : Int) : Prop := X.length ≤ 8 ∧ (0 ≤ t ∧ t ≤ 1000000) ∧ ∀ i, i < X.length → tOk X i
instance (X : List T3) (t : Int) : Decidable (schedOk X t) := by unfold schedOk; infer_instance
theorem tOk_all {X : List T3} {i : Nat} (h : ∀ j, j < i → tOk X j) (k : tOk X i) : ∀ j, j < i + 1 → tOk X j := fun j hj => by
  rcases Nat.lt_or_eq_of_le (Nat.le_of_lt_succ hj) with h1 | h1
  · exact h j h1
  · subst h1; exact k

def c_impl_taskOk : Contract := ⟨32, fun args M => match args with
  | [.c (.int .i64 x), .c (.int .i64 y)] => .pure True (Eng.B (decide ((1 ≤ x ∧ x ≤ 999) ∧ 0 ≤ y ∧ y ≤ 9)))
  | _ => .bad⟩
theorem ok_impl_taskOk : fnP Try.prog c_impl_taskOk.f = true ∧ ∀ args M, (c_impl_taskOk.sp args M).OK Try.prog c_impl_taskOk.f args M := by
  refine ⟨fp_32, fun args M => ?_⟩
  unfold c_impl_taskOk
  dsimp only
  split
  case h_2 => trivial
  rename_i x y
  intro _
  refine goIn hf_32 rfl (nt := 11) rfl (rs := [.tmp 4]) rfl (C := [c_impl_in]) ⟨(by first | exact .inl ok_impl_in | exact ok_impl_in), trivial⟩ (q := fun _ => false) okQ_none mixed (O := fun _ => .nil) (by kernel_rfl) ?_
  simp only [↓WP, ↓grdD, ↓grdT, ↓un_dead, ↓binVC, ↓buildVC, ↓sliceVC, WQ, WN, Int.reduceToNat, renl, cll, rent, clt, ↓reduceIte, Nat.reduceLeDiff, Nat.reduceEqDiff, Nat.reduceLT, reduceCtorEq, List.append_nil, Nat.reduceAdd, Nat.reduceSub, Nat.reduceBEq, forall_const, implies_true, cond_true, cond_false, AV.ren, AC.ren, AV.cl, AC.cl, eq_self, List.all_cons, List.all_nil, AV.eqv, AC.eqv, eqvl, eqvt, Sl.eqv, List.map_append, List.length_map, List.length_append, List.length_replicate, List.length_set, List.map_replicate, nilVC, c_impl_in]
  simp
theorem q_impl_taskOk : Quiet c_impl_taskOk := by
  intro args M
  unfold c_impl_taskOk
  dsimp only
  split <;> first | trivial | (intro _; rfl)
def c_impl_SchedOk : Contract := ⟨12, fun args M => match args with
  | [.agg [.sl a n _, .int .i64 t]] => .pure (RowOk T3 a n (M a.r)) (Eng.B (decide (schedOk (row T3 a n (M a.r)) t)))
  | _ => .bad⟩
theorem ok_impl_SchedOk : fnP Try.prog c_impl_SchedOk.f = true ∧ ∀ args M, (c_impl_SchedOk.sp args M).OK Try.prog c_impl_SchedOk.f args M := by
  refine ⟨fp_12, fun args M => ?_⟩
  unfold c_impl_SchedOk
  dsimp only
  split
  case h_2 => trivial
  rename_i a n c t
  intro hrow
  obtain ⟨hs, X, hX, rfl, hat⟩ := hrow.x
  rw [hX]
  refine goIn hf_12 rfl (nt := 51) rfl (rs := [.tmp 2]) rfl (C := [c_impl_taskOk, c_impl_in]) ⟨(by first | exact .inl ok_impl_taskOk | exact ok_impl_taskOk), (by first | exact .inl ok_impl_in | exact ok_impl_in), trivial⟩ (q := fun f => [32, 33].contains f) ⟨fun _ => q_impl_taskOk, fun _ => q_impl_in, trivial⟩ mixed (O := ots [(4, otl [0, 1, 2, 3, 4, 5, 6, 7, 8, 9, 10, 11, 12, 13, 14, 15, 16, 17, 18, 19, 20, 21, 22, 23, 24, 25, 26, 27] .nil)]) (by kernel_rfl) ?_
  simp only [↓WP, ↓grdD, ↓grdT, ↓un_dead, ↓binVC, ↓buildVC, ↓sliceVC, WQ, WN, Int.reduceToNat, renl, cll, rent, clt, ↓reduceIte, Nat.reduceLeDiff, Nat.reduceEqDiff, Nat.reduceLT, reduceCtorEq, List.append_nil, Nat.reduceAdd, Nat.reduceSub, Nat.reduceBEq, forall_const, implies_true, cond_true, cond_false, AV.ren, AC.ren, AV.cl, AC.cl, eq_self, List.all_cons, List.all_nil, AV.eqv, AC.eqv, eqvl, eqvt, Sl.eqv, List.map_append, List.length_map, List.length_append, List.length_replicate, List.length_set, List.map_replicate, nilVC, fl_29_0, sz_27, sd_27, el_27, sz_53, zr_53, fl_53_0, sz_3, fl_53_1, fl_53_2, fl_29_1, c_impl_taskOk, c_impl_in]
  refine loopI (J := {i : Nat // i ≤ X.length ∧ ∀ j, j < i → tOk X j}) (fun i => ⟨slots 51 [(1, .c (.ptr ⟨.loc 0, 0, 0, 0⟩)), (6, .c (.sl a.up X.length c)), (7, I X.length), (8, I i.1)], M, [], [.box 29 [.sl a.up X.length c, .int .i64 t]]⟩) (fun i => X.length - i.1) ⟨0, by omega, fun j hj => absurd hj (by omega)⟩ (Le_intro [0] (by simp [WL, WNL, swA_new, swA_ne, nest_sw_ne, mapLL, List.mem_cons, Nat.reduceAdd, Nat.reduceLT, Nat.reduceLeDiff, Nat.reduceEqDiff, okU, List.nodup_cons, List.not_mem_nil, toT, toL, toO, keysO, renl, rent, cll, clt, eq_self, AV.eqv, AC.eqv, eqvl, eqvt, Sl.eqv, rowsLe, mapLL, rowsCl, List.map_append, List.length_map, List.length_append, List.length_set, List.map_replicate, rowG, List.getElem?_cons_zero, List.getElem?_cons_succ, List.getElem?_nil, List.append_nil, List.nil_append, List.cons_append, ghosts, St.gh, Option.some.injEq, implies_true, setT, AV.ren, AC.ren, AV.cl, AC.cl, List.replicate_succ, List.replicate_zero, List.nodup_nil, List.length_nil, List.length_cons, List.getD_cons_zero, List.getD_cons_succ, ↓reduceIte])) ?_
  rintro ⟨i, hi, he⟩
  have hw := wS (i := i) (by omega)
  rcases Nat.lt_or_ge i X.length with hlt | hge
  · obtain ⟨own, ty, cnt, cap, len, get, hM, hf, hic, hkn, hget⟩ := hat (by omega)
    have hw1 : IntKind.i64.wrap ((i : Int) - 1) = (i : Int) - 1 := w64 (by omega) (by omega)
    have hg1 : get a.i (a.k + ((i : Int) - 1).toNat) = enc (X.getD (i - 1) default) := by
      rw [show ((i : Int) - 1).toNat = i - 1 by omega]; exact hget _ (by omega)
    simp only [↓WP, ↓grdD, ↓grdT, ↓un_dead, ↓binVC, ↓buildVC, ↓sliceVC, WQ, WN, Int.reduceToNat, renl, cll, rent, clt, ↓reduceIte, Nat.reduceLeDiff, Nat.reduceEqDiff, Nat.reduceLT, reduceCtorEq, List.append_nil, Nat.reduceAdd, Nat.reduceSub, Nat.reduceBEq, forall_const, implies_true, cond_true, cond_false, AV.ren, AC.ren, AV.cl, AC.cl, eq_self, List.all_cons, List.all_nil, AV.eqv, AC.eqv, eqvl, eqvt, Sl.eqv, List.map_append, List.length_map, List.length_append, List.length_replicate, List.length_set, List.map_replicate, nilVC, fl_29_0, sz_27, sd_27, el_27, sz_53, zr_53, fl_53_0, sz_3, fl_53_1, fl_53_2, fl_29_1, c_impl_taskOk, c_impl_in, dlt hlt, hw, hM, hf, hget i hlt, hw1, hg1]
    simp only [WB, eq_self]
    repeat refine ⟨by omega, ?_⟩
    refine ⟨fun h hc => ?_, fun h => ?_⟩
    · have hg := hc.2.2 i hlt
      unfold tOk at hg
      omega
    · refine ⟨⟨i + 1, hlt, tOk_all he (by unfold tOk; omega)⟩, Le_intro [0] (by simp [WL, WNL, swA_new, swA_ne, nest_sw_ne, mapLL, List.mem_cons, Nat.reduceAdd, Nat.reduceLT, Nat.reduceLeDiff, Nat.reduceEqDiff, okU, List.nodup_cons, List.not_mem_nil, toT, toL, toO, keysO, renl, rent, cll, clt, eq_self, AV.eqv, AC.eqv, eqvl, eqvt, Sl.eqv, rowsLe, mapLL, rowsCl, List.map_append, List.length_map, List.length_append, List.length_set, List.map_replicate, rowG, List.getElem?_cons_zero, List.getElem?_cons_succ, List.getElem?_nil, List.append_nil, List.nil_append, List.cons_append, ghosts, St.gh, Option.some.injEq, implies_true, setT, AV.ren, AC.ren, AV.cl, AC.cl, List.replicate_succ, List.replicate_zero, List.nodup_nil, List.length_nil, List.length_cons, List.getD_cons_zero, List.getD_cons_succ, ↓reduceIte]), by show X.length - (i + 1) < X.length - i; omega⟩
  · obtain rfl : i = X.length := by omega
    simp only [↓WP, ↓grdD, ↓grdT, ↓un_dead, ↓binVC, ↓buildVC, ↓sliceVC, WQ, WN, Int.reduceToNat, renl, cll, rent, clt, ↓reduceIte, Nat.reduceLeDiff, Nat.reduceEqDiff, Nat.reduceLT, reduceCtorEq, List.append_nil, Nat.reduceAdd, Nat.reduceSub, Nat.reduceBEq, forall_const, implies_true, cond_true, cond_false, AV.ren, AC.ren, AV.cl, AC.cl, eq_self, List.all_cons, List.all_nil, AV.eqv, AC.eqv, eqvl, eqvt, Sl.eqv, List.map_append, List.length_map, List.length_append, List.length_replicate, List.length_set, List.map_replicate, nilVC, fl_29_0, sz_27, sd_27, el_27, sz_53, zr_53, fl_53_0, sz_3, fl_53_1, fl_53_2, fl_29_1, c_impl_taskOk, c_impl_in, dge hge, hw]
    simp only [WB, eq_self]
    unfold schedOk
    exact ⟨fun h => ⟨by omega, by omega, he⟩, fun h => ⟨by omega, by omega⟩⟩
theorem q_impl_SchedOk : Quiet c_impl_SchedOk := by
  intro args M
  unfold c_impl_SchedOk
  dsimp only
  split <;> first | trivial | (intro _; rfl)
def c_spec_SchedOk : Contract := ⟨10, fun args M => match args with
  | [.agg [.sl a n _, .int .i64 t]] => .pure (RowOk T3 a n (M a.r)) (Eng.B (decide (schedOk (row T3 a n (M a.r)) t)))
  | _ => .bad⟩
theorem ok_spec_SchedOk : fnP Try.prog c_spec_SchedOk.f = true ∧ ∀ args M, (c_spec_SchedOk.sp args M).OK Try.prog c_spec_SchedOk.f args M := by
  refine ⟨fp_10, fun args M => ?_⟩
  unfold c_spec_SchedOk
  dsimp only
  split
  case h_2 => trivial
  rename_i a n c t
  intro hrow
  obtain ⟨hs, X, hX, rfl, hat⟩ := hrow.x
  rw [hX]
  refine goIn hf_10 rfl (nt := 59) rfl (rs := [.tmp 2]) rfl (C := [c_spec_l1In]) ⟨(by first | exact .inl ok_spec_l1In | exact ok_spec_l1In), trivial⟩ (q := fun f => [30].contains f) ⟨fun _ => q_spec_l1In, trivial⟩ mixed (O := ots [(7, otl [0, 1, 2, 3, 4, 5, 6, 7, 8, 9, 10, 11, 12, 13, 14, 15, 16, 17, 18, 19, 20, 21, 22, 23, 24, 25, 26, 27, 28, 29, 30, 31] .nil)]) (by kernel_rfl) ?_
  simp only [↓WP, ↓grdD, ↓grdT, ↓un_dead, ↓binVC, ↓buildVC, ↓sliceVC, WQ, WN, Int.reduceToNat, renl, cll, rent, clt, ↓reduceIte, Nat.reduceLeDiff, Nat.reduceEqDiff, Nat.reduceLT, reduceCtorEq, List.append_nil, Nat.reduceAdd, Nat.reduceSub, Nat.reduceBEq, forall_const, implies_true, cond_true, cond_false, AV.ren, AC.ren, AV.cl, AC.cl, eq_self, List.all_cons, List.all_nil, AV.eqv, AC.eqv, eqvl, eqvt, Sl.eqv, List.map_append, List.length_map, List.length_append, List.length_replicate, List.length_set, List.map_replicate, nilVC, fl_29_0, sz_27, sd_27, fl_29_1, sz_3, el_27, sz_53, zr_53, fl_53_0, fl_53_1, fl_53_2, c_spec_l1In]
  simp only [WB, eq_self]
  refine ⟨fun h hc => ?_, fun h => ?_⟩
  · unfold schedOk at hc
    omega
  · refine loopI (J := {i : Nat // i ≤ X.length ∧ ∀ j, j < i → tOk X j}) (fun i => ⟨slots 59 [(1, .c (.ptr ⟨.loc 0, 0, 0, 0⟩)), (3, I i.1)], M, [], [.box 29 [.sl a.up X.length c, .int .i64 t]]⟩) (fun i => X.length - i.1) ⟨0, by omega, fun j hj => absurd hj (by omega)⟩ (Le_intro [0] (by simp [WL, WNL, swA_new, swA_ne, nest_sw_ne, mapLL, List.mem_cons, Nat.reduceAdd, Nat.reduceLT, Nat.reduceLeDiff, Nat.reduceEqDiff, okU, List.nodup_cons, List.not_mem_nil, toT, toL, toO, keysO, renl, rent, cll, clt, eq_self, AV.eqv, AC.eqv, eqvl, eqvt, Sl.eqv, rowsLe, mapLL, rowsCl, List.map_append, List.length_map, List.length_append, List.length_set, List.map_replicate, rowG, List.getElem?_cons_zero, List.getElem?_cons_succ, List.getElem?_nil, List.append_nil, List.nil_append, List.cons_append, ghosts, St.gh, Option.some.injEq, implies_true, setT, AV.ren, AC.ren, AV.cl, AC.cl, List.replicate_succ, List.replicate_zero, List.nodup_nil, List.length_nil, List.length_cons, List.getD_cons_zero, List.getD_cons_succ, ↓reduceIte])) ?_
    rintro ⟨i, hi, he⟩
    have hw := wS (i := i) (by omega)
    rcases Nat.lt_or_ge i X.length with hlt | hge
    · obtain ⟨own, ty, cnt, cap, len, get, hM, hf, hic, hkn, hget⟩ := hat (by omega)
      have hw1 : IntKind.i64.wrap ((i : Int) - 1) = (i : Int) - 1 := w64 (by omega) (by omega)
      have hg1 : get a.i (a.k + ((i : Int) - 1).toNat) = enc (X.getD (i - 1) default) := by
        rw [show ((i : Int) - 1).toNat = i - 1 by omega]; exact hget _ (by omega)
      simp only [↓WP, ↓grdD, ↓grdT, ↓un_dead, ↓binVC, ↓buildVC, ↓sliceVC, WQ, WN, Int.reduceToNat, renl, cll, rent, clt, ↓reduceIte, Nat.reduceLeDiff, Nat.reduceEqDiff, Nat.reduceLT, reduceCtorEq, List.append_nil, Nat.reduceAdd, Nat.reduceSub, Nat.reduceBEq, forall_const, implies_true, cond_true, cond_false, AV.ren, AC.ren, AV.cl, AC.cl, eq_self, List.all_cons, List.all_nil, AV.eqv, AC.eqv, eqvl, eqvt, Sl.eqv, List.map_append, List.length_map, List.length_append, List.length_replicate, List.length_set, List.map_replicate, nilVC, fl_29_0, sz_27, sd_27, fl_29_1, sz_3, el_27, sz_53, zr_53, fl_53_0, fl_53_1, fl_53_2, c_spec_l1In, dlt hlt, hw, hM, hf, hget i hlt, hw1, hg1]
      simp only [WB, eq_self]
      repeat refine ⟨by omega, ?_⟩
      refine ⟨fun h1 hc => ?_, fun h1 => ?_⟩
      · have hg := hc.2.2 i hlt
        unfold tOk at hg
        omega
      · refine ⟨⟨i + 1, hlt, tOk_all he (by unfold tOk; omega)⟩, Le_intro [0] (by simp [WL, WNL, swA_new, swA_ne, nest_sw_ne, mapLL, List.mem_cons, Nat.reduceAdd, Nat.reduceLT, Nat.reduceLeDiff, Nat.reduceEqDiff, okU, List.nodup_cons, List.not_mem_nil, toT, toL, toO, keysO, renl, rent, cll, clt, eq_self, AV.eqv, AC.eqv, eqvl, eqvt, Sl.eqv, rowsLe, mapLL, rowsCl, List.map_append, List.length_map, List.length_append, List.length_set, List.map_replicate, rowG, List.getElem?_cons_zero, List.getElem?_cons_succ, List.getElem?_nil, List.append_nil, List.nil_append, List.cons_append, ghosts, St.gh, Option.some.injEq, implies_true, setT, AV.ren, AC.ren, AV.cl, AC.cl, List.replicate_succ, List.replicate_zero, List.nodup_nil, List.length_nil, List.length_cons, List.getD_cons_zero, List.getD_cons_succ, ↓reduceIte]), by show X.length - (i + 1) < X.length - i; omega⟩
    · obtain rfl : i = X.length := by omega
      simp only [↓WP, ↓grdD, ↓grdT, ↓un_dead, ↓binVC, ↓buildVC, ↓sliceVC, WQ, WN, Int.reduceToNat, renl, cll, rent, clt, ↓reduceIte, Nat.reduceLeDiff, Nat.reduceEqDiff, Nat.reduceLT, reduceCtorEq, List.append_nil, Nat.reduceAdd, Nat.reduceSub, Nat.reduceBEq, forall_const, implies_true, cond_true, cond_false, AV.ren, AC.ren, AV.cl, AC.cl, eq_self, List.all_cons, List.all_nil, AV.eqv, AC.eqv, eqvl, eqvt, Sl.eqv, List.map_append, List.length_map, List.length_append, List.length_replicate, List.length_set, List.map_replicate, nilVC, fl_29_0, sz_27, sd_27, fl_29_1, sz_3, el_27, sz_53, zr_53, fl_53_0, fl_53_1, fl_53_2, c_spec_l1In, dge hge, hw]
      simp only [WB, eq_self]
      refine ⟨?_, ?_, he⟩ <;> omega
theorem q_spec_SchedOk : Quiet c_spec_SchedOk := by
  intro args M
  unfold c_spec_SchedOk
  dsimp only
  split <;> first | trivial | (intro _; rfl)
def c_laws_FnExactSchedOk : Contract := ⟨3, fun args M => match args with
  | [.agg [.sl a n _, .int .i64 _]] => .pure (n ≤ 9223372036854775807 ∧ (n ≤ 4294967296 → RowOk T3 a n (M a.r))) (Eng.B true)
  | _ => .bad⟩
theorem ok_laws_FnExactSchedOk : fnP Try.prog c_laws_FnExactSchedOk.f = true ∧ ∀ args M, (c_laws_FnExactSchedOk.sp args M).OK Try.prog c_laws_FnExactSchedOk.f args M := by
  refine ⟨fp_3, fun args M => ?_⟩
  unfold c_laws_FnExactSchedOk
  dsimp only
  split
  case h_2 => trivial
  rename_i a n c t
  rintro ⟨hn, hrow⟩
  refine goIn hf_3 rfl (nt := 27) rfl (rs := [.tmp 2]) rfl (C := [c_laws_szSched, c_laws_toSched, c_spec_SchedOk, c_impl_SchedOk, c_laws_eqSched]) ⟨(by first | exact .inl ok_laws_szSched | exact ok_laws_szSched), (by first | exact .inl ok_laws_toSched | exact ok_laws_toSched), (by first | exact .inl ok_spec_SchedOk | exact ok_spec_SchedOk), (by first | exact .inl ok_impl_SchedOk | exact ok_impl_SchedOk), (by first | exact .inl ok_laws_eqSched | exact ok_laws_eqSched), trivial⟩ (q := fun f => [11, 13].contains f) ⟨fun h => absurd h (by decide), fun _ => q_laws_toSched, fun h => absurd h (by decide), fun h => absurd h (by decide), fun _ => q_laws_eqSched, trivial⟩ mixed (O := ots [(10, otl [0, 1, 2, 3, 4] .nil)]) (by kernel_rfl) ?_
  rcases Nat.lt_or_ge 1048576 n with hb | hb
  · simp only [↓WP, ↓grdD, ↓grdT, ↓un_dead, ↓binVC, ↓buildVC, ↓sliceVC, WQ, WN, Int.reduceToNat, renl, cll, rent, clt, ↓reduceIte, Nat.reduceLeDiff, Nat.reduceEqDiff, Nat.reduceLT, reduceCtorEq, List.append_nil, Nat.reduceAdd, Nat.reduceSub, Nat.reduceBEq, forall_const, implies_true, cond_true, cond_false, AV.ren, AC.ren, AV.cl, AC.cl, eq_self, List.all_cons, List.all_nil, AV.eqv, AC.eqv, eqvl, eqvt, Sl.eqv, List.map_append, List.length_map, List.length_append, List.length_replicate, List.length_set, List.map_replicate, nilVC, sz_24, zr_29, sz_29, bt_4, c_laws_szSched, c_laws_toSched, c_spec_SchedOk, c_impl_SchedOk, c_laws_eqSched, if_pos (show (1048576 : Int) < n by omega)]
    simp
    omega
  · have hrow := hrow (by omega)
    have hb2 : n ≤ 4294967296 := by omega
    simp only [↓WP, ↓grdD, ↓grdT, ↓un_dead, ↓binVC, ↓buildVC, ↓sliceVC, WQ, WN, Int.reduceToNat, renl, cll, rent, clt, ↓reduceIte, Nat.reduceLeDiff, Nat.reduceEqDiff, Nat.reduceLT, reduceCtorEq, List.append_nil, Nat.reduceAdd, Nat.reduceSub, Nat.reduceBEq, forall_const, implies_true, cond_true, cond_false, AV.ren, AC.ren, AV.cl, AC.cl, eq_self, List.all_cons, List.all_nil, AV.eqv, AC.eqv, eqvl, eqvt, Sl.eqv, List.map_append, List.length_map, List.length_append, List.length_replicate, List.length_set, List.map_replicate, nilVC, sz_24, zr_29, sz_29, bt_4, c_laws_szSched, c_laws_toSched, c_spec_SchedOk, c_impl_SchedOk, c_laws_eqSched, if_neg (show ¬ (1048576 : Int) < n by omega), hrow]
    simp [hb2]
    omega
end Go.Eng.T
