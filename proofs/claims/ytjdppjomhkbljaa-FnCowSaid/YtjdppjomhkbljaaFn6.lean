/- cow: CowOk as the program does it. -/
import Derived.Test.YtjdppjomhkbljaaFn5
set_option linter.unusedVariables false
set_option linter.unusedSimpArgs false
set_option linter.unusedSectionVars false
namespace Go.Eng
open Cel (enc dec)
def spOk (s : List Int) : Prop := s.length ≤ 4 ∧ ∀ f ∈ s, 0 ≤ f ∧ f ≤ 11
def frOk (w : List Int) (r : Int) : Prop := w.length = 4 ∧ (∀ x ∈ w, -1000000 ≤ x ∧ x ≤ 1000000) ∧ (r = 0 → ∀ x ∈ w, x = 0)
instance (s : List Int) : Decidable (spOk s) := by unfold spOk; infer_instance
instance (s : List Int) (r : Int) : Decidable (frOk s r) := by unfold frOk; infer_instance
def cowOk (X : List (List Int)) (R : List Int) (Z : List (List Int)) : Prop :=
  (X.length = 12 ∧ R.length = 12 ∧ Z.length = 4) ∧ (∀ k, k < 4 → spOk (Z.getD k default)) ∧ (∀ k, k < 12 → frOk (X.getD k default) (R.getD k default)) ∧ R = refs Z.flatten
instance (X : List (List Int)) (R : List Int) (Z : List (List Int)) : Decidable (cowOk X R Z) := by unfold cowOk; infer_instance
theorem not_any {X : List Int} {p : Int → Prop} [DecidablePred p] : (X.any fun x => !decide (p x)) = !decide (∀ x ∈ X, p x) := by
  rw [Bool.eq_iff_iff]
  simp
theorem sp_cond (s : List Int) : (decide ((4 : Int) < (s.length : Int)) || s.any fun p => !decide (0 ≤ p ∧ p ≤ 11)) = !decide (spOk s) := by
  have e : decide ((4 : Int) < (s.length : Int)) = !decide (s.length ≤ 4) := by
    rw [Bool.eq_iff_iff]
    simp only [decide_eq_true_iff, Bool.not_eq_true', decide_eq_false_iff_not]
    omega
  rw [not_any, e]
  rw [Bool.eq_iff_iff]
  simp only [Bool.or_eq_true, Bool.not_eq_true', decide_eq_false_iff_not]
  constructor
  · rintro (h | h) ⟨h1, h2⟩
    · exact h h1
    · exact h h2
  · intro h
    by_cases h1 : s.length ≤ 4
    · exact .inr fun h2 => h ⟨h1, h2⟩
    · exact .inl h1
theorem sp_all {Z : List (List Int)} (h : ∀ k, k < Z.length → spOk (Z.getD k default)) : (∀ s ∈ Z, ∀ f ∈ s, 0 ≤ f ∧ f ≤ 11) ∧ tot Z ≤ 4 * Z.length := by
  refine ⟨fun s hs => ?_, ?_⟩
  · obtain ⟨k, hk, rfl⟩ := List.getElem_of_mem hs
    have := h k hk
    rw [getD_of_lt hk] at this
    exact this.2
  · have key : ∀ Z : List (List Int), (∀ s ∈ Z, s.length ≤ 4) → tot Z ≤ 4 * Z.length := by
      intro Z
      induction Z with
      | nil => intro _; simp [tot]
      | cons s r ih => intro h; have := ih fun t ht => h t (by simp [ht]); have := h s (by simp); simp [tot]; omega
    refine key Z fun s hs => ?_
    obtain ⟨k, hk, rfl⟩ := List.getElem_of_mem hs
    have := h k hk
    rw [getD_of_lt hk] at this
    exact this.1
end Go.Eng
namespace Go.Eng.T
open Go.Proofs
open Cel (enc dec)
set_option maxRecDepth 100000
set_option maxHeartbeats 4000000
def c_slices_ContainsFunc_int : Contract := ⟨51, fun args M => match args with
  | [.c (.sl a n _), .c (.clo f caps)] => cloP f caps M fun q => .pure (RowOk Int a n (M a.r)) (Eng.B ((row Int a n (M a.r)).any q))
  | _ => .bad⟩
theorem ok_slices_ContainsFunc_int : fnP Try.prog c_slices_ContainsFunc_int.f = true ∧ ∀ args M, (c_slices_ContainsFunc_int.sp args M).OK Try.prog c_slices_ContainsFunc_int.f args M := by
  refine ⟨fp_51, fun args M => ?_⟩
  unfold c_slices_ContainsFunc_int
  dsimp only
  split
  case h_2 => trivial
  rename_i a n ca f caps
  refine cloP_cases (fun e1 e2 => ?_) (fun e1 e2 => ?_) (fun e1 p e2 t v hv hpi hpk hpf => ?_)
  · subst e1 e2
    intro ha
    refine goIn hf_51 rfl (nt := 9) rfl (rs := [.tmp 4]) rfl (C := [c_slices_IndexFunc_int]) ⟨(by first | exact .inl ok_slices_IndexFunc_int | exact ok_slices_IndexFunc_int), trivial⟩ (q := fun _ => false) okQ_none mixed (O := fun _ => .nil) (by kernel_rfl) ?_
    simp only [↓WP, ↓grdD, ↓grdT, ↓un_dead, ↓binVC, ↓buildVC, ↓sliceVC, WQ, WN, Int.reduceToNat, renl, cll, rent, clt, ↓reduceIte, Nat.reduceLeDiff, Nat.reduceEqDiff, Nat.reduceLT, reduceCtorEq, List.append_nil, Nat.reduceAdd, Nat.reduceSub, Nat.reduceBEq, forall_const, implies_true, cond_true, cond_false, AV.ren, AC.ren, AV.cl, AC.cl, eq_self, List.all_cons, List.all_nil, AV.eqv, AC.eqv, eqvl, eqvt, Sl.eqv, List.map_append, List.length_map, List.length_append, List.length_replicate, List.length_set, List.map_replicate, nilVC, c_slices_IndexFunc_int, cloP_1, ← idx_any]
    exact ha
  · subst e1 e2
    intro ha
    refine goIn hf_51 rfl (nt := 9) rfl (rs := [.tmp 4]) rfl (C := [c_slices_IndexFunc_int]) ⟨(by first | exact .inl ok_slices_IndexFunc_int | exact ok_slices_IndexFunc_int), trivial⟩ (q := fun _ => false) okQ_none mixed (O := fun _ => .nil) (by kernel_rfl) ?_
    simp only [↓WP, ↓grdD, ↓grdT, ↓un_dead, ↓binVC, ↓buildVC, ↓sliceVC, WQ, WN, Int.reduceToNat, renl, cll, rent, clt, ↓reduceIte, Nat.reduceLeDiff, Nat.reduceEqDiff, Nat.reduceLT, reduceCtorEq, List.append_nil, Nat.reduceAdd, Nat.reduceSub, Nat.reduceBEq, forall_const, implies_true, cond_true, cond_false, AV.ren, AC.ren, AV.cl, AC.cl, eq_self, List.all_cons, List.all_nil, AV.eqv, AC.eqv, eqvl, eqvt, Sl.eqv, List.map_append, List.length_map, List.length_append, List.length_replicate, List.length_set, List.map_replicate, nilVC, c_slices_IndexFunc_int, cloP_2, ← idx_any]
    exact ha
  · subst e1 e2
    intro ha
    refine goIn hf_51 rfl (nt := 9) rfl (rs := [.tmp 4]) rfl (C := [c_slices_IndexFunc_int]) ⟨(by first | exact .inl ok_slices_IndexFunc_int | exact ok_slices_IndexFunc_int), trivial⟩ (q := fun _ => false) okQ_none mixed (O := fun _ => .nil) (by kernel_rfl) ?_
    simp only [↓WP, ↓grdD, ↓grdT, ↓un_dead, ↓binVC, ↓buildVC, ↓sliceVC, WQ, WN, Int.reduceToNat, renl, cll, rent, clt, ↓reduceIte, Nat.reduceLeDiff, Nat.reduceEqDiff, Nat.reduceLT, reduceCtorEq, List.append_nil, Nat.reduceAdd, Nat.reduceSub, Nat.reduceBEq, forall_const, implies_true, cond_true, cond_false, AV.ren, AC.ren, AV.cl, AC.cl, eq_self, List.all_cons, List.all_nil, AV.eqv, AC.eqv, eqvl, eqvt, Sl.eqv, List.map_append, List.length_map, List.length_append, List.length_replicate, List.length_set, List.map_replicate, nilVC, c_slices_IndexFunc_int, cloP_3, hv, hpi, hpk, hpf, box1_box, ← idx_any]
    exact ha
def c_impl_wordsOk : Contract := ⟨54, fun args M => match args with
  | [.c (.sl a n _)] => .pure (RowOk Int a n (M a.r)) (Eng.B (decide (∀ x ∈ row Int a n (M a.r), -1000000 ≤ x ∧ x ≤ 1000000)))
  | _ => .bad⟩
theorem ok_impl_wordsOk : fnP Try.prog c_impl_wordsOk.f = true ∧ ∀ args M, (c_impl_wordsOk.sp args M).OK Try.prog c_impl_wordsOk.f args M := by
  refine ⟨fp_54, fun args M => ?_⟩
  unfold c_impl_wordsOk
  dsimp only
  split
  case h_2 => trivial
  rename_i a n ca
  intro ha
  refine goIn hf_54 rfl (nt := 6) rfl (rs := [.tmp 2]) rfl (C := [c_slices_ContainsFunc_int]) ⟨(by first | exact .inl ok_slices_ContainsFunc_int | exact ok_slices_ContainsFunc_int), trivial⟩ (q := fun _ => false) okQ_none mixed (O := fun _ => .nil) (by kernel_rfl) ?_
  simp only [↓WP, ↓grdD, ↓grdT, ↓un_dead, ↓binVC, ↓buildVC, ↓sliceVC, WQ, WN, Int.reduceToNat, renl, cll, rent, clt, ↓reduceIte, Nat.reduceLeDiff, Nat.reduceEqDiff, Nat.reduceLT, reduceCtorEq, List.append_nil, Nat.reduceAdd, Nat.reduceSub, Nat.reduceBEq, forall_const, implies_true, cond_true, cond_false, AV.ren, AC.ren, AV.cl, AC.cl, eq_self, List.all_cons, List.all_nil, AV.eqv, AC.eqv, eqvl, eqvt, Sl.eqv, List.map_append, List.length_map, List.length_append, List.length_replicate, List.length_set, List.map_replicate, nilVC, c_slices_ContainsFunc_int, cloP_2, not_any]
  simp [ha]
def c_impl_allAre : Contract := ⟨55, fun args M => match args with
  | [.c (.sl a n _), .c (.int .i64 v)] => .pure (RowOk Int a n (M a.r)) (Eng.B (decide (∀ x ∈ row Int a n (M a.r), x = v)))
  | _ => .bad⟩
theorem ok_impl_allAre : fnP Try.prog c_impl_allAre.f = true ∧ ∀ args M, (c_impl_allAre.sp args M).OK Try.prog c_impl_allAre.f args M := by
  refine ⟨fp_55, fun args M => ?_⟩
  unfold c_impl_allAre
  dsimp only
  split
  case h_2 => trivial
  rename_i a n ca v
  intro ha
  refine goIn hf_55 rfl (nt := 9) rfl (rs := [.tmp 4]) rfl (C := [c_impl_allAre_1, c_slices_ContainsFunc_int]) ⟨(by first | exact .inl ok_impl_allAre_1 | exact ok_impl_allAre_1), (by first | exact .inl ok_slices_ContainsFunc_int | exact ok_slices_ContainsFunc_int), trivial⟩ (q := fun _ => false) okQ_none mixed (O := fun _ => .nil) (by kernel_rfl) ?_
  simp only [↓WP, ↓grdD, ↓grdT, ↓un_dead, ↓binVC, ↓buildVC, ↓sliceVC, WQ, WN, Int.reduceToNat, renl, cll, rent, clt, ↓reduceIte, Nat.reduceLeDiff, Nat.reduceEqDiff, Nat.reduceLT, reduceCtorEq, List.append_nil, Nat.reduceAdd, Nat.reduceSub, Nat.reduceBEq, forall_const, implies_true, cond_true, cond_false, AV.ren, AC.ren, AV.cl, AC.cl, eq_self, List.all_cons, List.all_nil, AV.eqv, AC.eqv, eqvl, eqvt, Sl.eqv, List.map_append, List.length_map, List.length_append, List.length_replicate, List.length_set, List.map_replicate, nilVC, c_impl_allAre_1, c_slices_ContainsFunc_int, cloP_3, not_any, box1_box, clsK_cons]
  simp [ha]
def c_slices_Equal_int : Contract := ⟨56, fun args M => match args with
  | [.c (.sl a n _), .c (.sl b m _)] => .pure (RowOk Int a n (M a.r) ∧ RowOk Int b m (M b.r)) (Eng.B (decide (row Int a n (M a.r) = row Int b m (M b.r))))
  | _ => .bad⟩
theorem ok_slices_Equal_int : fnP Try.prog c_slices_Equal_int.f = true ∧ ∀ args M, (c_slices_Equal_int.sp args M).OK Try.prog c_slices_Equal_int.f args M := by
  refine ⟨fp_56, fun args M => ?_⟩
  unfold c_slices_Equal_int
  dsimp only
  split
  case h_2 => trivial
  rename_i a n ca b m cb
  rintro ⟨ha, hb⟩
  obtain ⟨hs, X, hX, rfl, hat⟩ := ha.x
  obtain ⟨hs', Y, hY, rfl, hbt⟩ := hb.x
  rw [hX, hY]
  refine goIn hf_56 rfl (nt := 26) rfl (rs := [.tmp 4]) rfl (C := []) trivial (q := fun f => [].contains f) trivial mixed (O := ots [(6, otl [0, 1, 2, 3, 4, 5, 6, 7, 8] .nil)]) (by kernel_rfl) ?_
  simp only [↓WP, ↓grdD, ↓grdT, ↓un_dead, ↓binVC, ↓buildVC, ↓sliceVC, WQ, WN, Int.reduceToNat, renl, cll, rent, clt, ↓reduceIte, Nat.reduceLeDiff, Nat.reduceEqDiff, Nat.reduceLT, reduceCtorEq, List.append_nil, Nat.reduceAdd, Nat.reduceSub, Nat.reduceBEq, forall_const, implies_true, cond_true, cond_false, AV.ren, AC.ren, AV.cl, AC.cl, eq_self, List.all_cons, List.all_nil, AV.eqv, AC.eqv, eqvl, eqvt, Sl.eqv, List.map_append, List.length_map, List.length_append, List.length_replicate, List.length_set, List.map_replicate, nilVC, sd_23, el_23, sz_3]
  refine ⟨fun h => ?_, fun h => ?_⟩
  · have : X ≠ Y := by rintro rfl; simp at h
    simp [this]
  · have hl : X.length = Y.length := by simp at h; omega
    refine loopI (J := {i : Nat // i ≤ X.length ∧ X.take i = Y.take i}) (fun i => ⟨slots 26 [(0, .c (.sl a.up X.length ca)), (1, .c (.sl b.up Y.length cb)), (12, I X.length), (13, I i.1)], M, [], []⟩) (fun i => X.length - i.1) ⟨0, by omega, rfl⟩ (Le_intro [] (by simp [WL, WNL, swA_new, swA_ne, nest_sw_ne, mapLL, List.mem_cons, Nat.reduceAdd, Nat.reduceLT, Nat.reduceLeDiff, Nat.reduceEqDiff, okU, List.nodup_cons, List.not_mem_nil, toT, toL, toO, keysO, renl, rent, cll, clt, eq_self, AV.eqv, AC.eqv, eqvl, eqvt, Sl.eqv, rowsLe, mapLL, rowsCl, List.map_append, List.length_map, List.length_append, List.length_set, List.map_replicate, rowG, List.getElem?_cons_zero, List.getElem?_cons_succ, List.getElem?_nil, List.append_nil, List.nil_append, List.cons_append, ghosts, St.gh, Option.some.injEq, implies_true, setT, AV.ren, AC.ren, AV.cl, AC.cl, List.replicate_succ, List.replicate_zero, List.nodup_nil, List.length_nil, List.length_cons, List.getD_cons_zero, List.getD_cons_succ, ↓reduceIte])) ?_
    rintro ⟨i, hi, he⟩
    have hw := wS (i := i) (by omega)
    rcases Nat.lt_or_ge i X.length with hlt | hge
    · obtain ⟨own, ty, cnt, cap, len, get, hM, hf, hic, hkn, hget⟩ := hat (by omega)
      obtain ⟨own', ty', cnt', cap', len', get', hM', hf', hic', hkn', hget'⟩ := hbt (by omega)
      simp only [↓WP, ↓grdD, ↓grdT, ↓un_dead, ↓binVC, ↓buildVC, ↓sliceVC, WQ, WN, Int.reduceToNat, renl, cll, rent, clt, ↓reduceIte, Nat.reduceLeDiff, Nat.reduceEqDiff, Nat.reduceLT, reduceCtorEq, List.append_nil, Nat.reduceAdd, Nat.reduceSub, Nat.reduceBEq, forall_const, implies_true, cond_true, cond_false, AV.ren, AC.ren, AV.cl, AC.cl, eq_self, List.all_cons, List.all_nil, AV.eqv, AC.eqv, eqvl, eqvt, Sl.eqv, List.map_append, List.length_map, List.length_append, List.length_replicate, List.length_set, List.map_replicate, nilVC, sd_23, el_23, sz_3, dlt hlt, hw, hM, hf, hget i hlt, hM', hf', hget' i (by omega)]
      repeat refine ⟨by omega, ?_⟩
      refine ⟨fun h1 => ?_, fun h1 => ?_⟩
      · have := ne_of_getD (X := X) (Y := Y) (i := i) (by simpa using h1)
        simp [this]
      · exact ⟨⟨i + 1, hlt, eq_step he hlt (by omega) (by simpa using h1)⟩, Le_intro [] (by simp [WL, WNL, swA_new, swA_ne, nest_sw_ne, mapLL, List.mem_cons, Nat.reduceAdd, Nat.reduceLT, Nat.reduceLeDiff, Nat.reduceEqDiff, okU, List.nodup_cons, List.not_mem_nil, toT, toL, toO, keysO, renl, rent, cll, clt, eq_self, AV.eqv, AC.eqv, eqvl, eqvt, Sl.eqv, rowsLe, mapLL, rowsCl, List.map_append, List.length_map, List.length_append, List.length_set, List.map_replicate, rowG, List.getElem?_cons_zero, List.getElem?_cons_succ, List.getElem?_nil, List.append_nil, List.nil_append, List.cons_append, ghosts, St.gh, Option.some.injEq, implies_true, setT, AV.ren, AC.ren, AV.cl, AC.cl, List.replicate_succ, List.replicate_zero, List.nodup_nil, List.length_nil, List.length_cons, List.getD_cons_zero, List.getD_cons_succ, ↓reduceIte]), by show X.length - (i + 1) < X.length - i; omega⟩
    · obtain rfl : i = X.length := by omega
      simp only [↓WP, ↓grdD, ↓grdT, ↓un_dead, ↓binVC, ↓buildVC, ↓sliceVC, WQ, WN, Int.reduceToNat, renl, cll, rent, clt, ↓reduceIte, Nat.reduceLeDiff, Nat.reduceEqDiff, Nat.reduceLT, reduceCtorEq, List.append_nil, Nat.reduceAdd, Nat.reduceSub, Nat.reduceBEq, forall_const, implies_true, cond_true, cond_false, AV.ren, AC.ren, AV.cl, AC.cl, eq_self, List.all_cons, List.all_nil, AV.eqv, AC.eqv, eqvl, eqvt, Sl.eqv, List.map_append, List.length_map, List.length_append, List.length_replicate, List.length_set, List.map_replicate, nilVC, sd_23, el_23, sz_3, dge hge, hw]
      simp [eq_of_take hl he]
theorem q_slices_Equal_int : Quiet c_slices_Equal_int := by
  intro args M
  unfold c_slices_Equal_int
  dsimp only
  split <;> first | trivial | (intro _; rfl)
def c_impl_cowRefs : Contract := ⟨57, fun args M => match args with
  | [.c (.sl a n _)] => .eff (Row2Ok Int a n M ∧ (∀ s ∈ row2 Int a n M, ∀ f ∈ s, 0 ≤ f ∧ f ≤ 11) ∧ tot (row2 Int a n M) ≤ 4294967296) Unit (fun _ => True) (fun _ => .c (.sl ⟨.loc 0, 0, 0, 0⟩ 12 12)) (fun _ => [rowG true 3 12 (refs (row2 Int a n M).flatten)]) (fun _ => [])
  | _ => .bad⟩
theorem ok_impl_cowRefs : fnP Try.prog c_impl_cowRefs.f = true ∧ ∀ args M, (c_impl_cowRefs.sp args M).OK Try.prog c_impl_cowRefs.f args M := by
  refine ⟨fp_57, fun args M => ?_⟩
  unfold c_impl_cowRefs
  dsimp only
  split
  case h_2 => trivial
  rename_i a n ca
  rintro ⟨hrow, hr, htot⟩
  obtain ⟨hs, X, hX, rfl, hat⟩ := hrow.x
  rw [hX] at hr htot ⊢
  refine goIn hf_57 rfl (nt := 30) rfl (rs := [.tmp 2]) rfl (C := []) trivial (q := fun _ => false) okQ_none mixed (O := fun _ => .nil) (by kernel_rfl) ?_
  simp only [↓WP, ↓grdD, ↓grdT, ↓un_dead, ↓binVC, ↓buildVC, ↓sliceVC, WQ, WN, Int.reduceToNat, renl, cll, rent, clt, ↓reduceIte, Nat.reduceLeDiff, Nat.reduceEqDiff, Nat.reduceLT, reduceCtorEq, List.append_nil, Nat.reduceAdd, Nat.reduceSub, Nat.reduceBEq, forall_const, implies_true, cond_true, cond_false, AV.ren, AC.ren, AV.cl, AC.cl, eq_self, List.all_cons, List.all_nil, AV.eqv, AC.eqv, eqvl, eqvt, Sl.eqv, List.map_append, List.length_map, List.length_append, List.length_replicate, List.length_set, List.map_replicate, nilVC, el_23, zr_3, sd_22, el_22, sz_23, sd_23, sz_3]
  refine ⟨by omega, ?_⟩
  refine loopI (J := {i : Nat // i ≤ X.length}) (fun i => ⟨slots 30 [(3, .c (.sl ⟨.loc 0, 0, 0, 0⟩ 12 12)), (9, .c (.sl a.up X.length ca)), (10, I X.length), (11, I i.1)], M, [], [rowG true 3 12 (refs (X.take i.1).flatten)]⟩) (fun i => X.length - i.1) ⟨0, by omega⟩ (Le_intro [0] (by simp only [WL, WNL, swA_new, swA_ne, nest_sw_ne, mapLL, List.mem_cons, Nat.reduceAdd, Nat.reduceLT, Nat.reduceLeDiff, Nat.reduceEqDiff, okU, List.nodup_cons, List.not_mem_nil, toT, toL, toO, keysO, renl, rent, cll, clt, eq_self, AV.eqv, AC.eqv, eqvl, eqvt, Sl.eqv, rowsLe, mapLL, rowsCl, List.map_append, List.length_map, List.length_append, List.length_set, List.map_replicate, rowG, List.getElem?_cons_zero, List.getElem?_cons_succ, List.getElem?_nil, List.append_nil, List.nil_append, List.cons_append, ghosts, St.gh, Option.some.injEq, implies_true, setT, AV.ren, AC.ren, AV.cl, AC.cl, List.replicate_succ, List.replicate_zero, List.nodup_nil, List.length_nil, List.length_cons, List.getD_cons_zero, List.getD_cons_succ, ↓reduceIte]; simp [refs_nil, enc_int])) ?_
  rintro ⟨i, hi⟩
  have hw := wS (i := i) (by omega)
  rcases Nat.lt_or_ge i X.length with hlt | hge
  · obtain ⟨own, ty, cnt, cap, len, get, b, c, hM, hf, hic, hkn, hget⟩ := hat (by omega)
    obtain ⟨g1, g2, g3, g4⟩ := hget i hlt
    obtain ⟨gs, Y, hY, hYl, hbt⟩ := g3.x
    rw [g4] at hY
    have hYr := hr _ (getD_mem hlt)
    have hfl := flat_step hlt
    rw [hY] at g1 hYr hYl hfl gs
    simp only [↓WP, ↓grdD, ↓grdT, ↓un_dead, ↓binVC, ↓buildVC, ↓sliceVC, WQ, WN, Int.reduceToNat, renl, cll, rent, clt, ↓reduceIte, Nat.reduceLeDiff, Nat.reduceEqDiff, Nat.reduceLT, reduceCtorEq, List.append_nil, Nat.reduceAdd, Nat.reduceSub, Nat.reduceBEq, forall_const, implies_true, cond_true, cond_false, AV.ren, AC.ren, AV.cl, AC.cl, eq_self, List.all_cons, List.all_nil, AV.eqv, AC.eqv, eqvl, eqvt, Sl.eqv, List.map_append, List.length_map, List.length_append, List.length_replicate, List.length_set, List.map_replicate, nilVC, el_23, zr_3, sd_22, el_22, sz_23, sd_23, sz_3, dlt hlt, hw, hM, hf, g1]
    repeat refine ⟨by omega, ?_⟩
    refine loopI (J := {j : Nat // j ≤ Y.length}) (fun j => ⟨slots 30 [(3, .c (.sl ⟨.loc 0, 0, 0, 0⟩ 12 12)), (9, .c (.sl a.up X.length ca)), (10, I X.length), (11, I i), (15, .c (.sl (b i).up Y.length (c i))), (16, I Y.length), (17, I j.1)], M, [], [rowG true 3 12 (refs ((X.take i).flatten ++ Y.take j.1))]⟩) (fun j => Y.length - j.1) ⟨0, by omega⟩ (Le_intro [0] (by simp only [WL, WNL, swA_new, swA_ne, nest_sw_ne, mapLL, List.mem_cons, Nat.reduceAdd, Nat.reduceLT, Nat.reduceLeDiff, Nat.reduceEqDiff, okU, List.nodup_cons, List.not_mem_nil, toT, toL, toO, keysO, renl, rent, cll, clt, eq_self, AV.eqv, AC.eqv, eqvl, eqvt, Sl.eqv, rowsLe, mapLL, rowsCl, List.map_append, List.length_map, List.length_append, List.length_set, List.map_replicate, rowG, List.getElem?_cons_zero, List.getElem?_cons_succ, List.getElem?_nil, List.append_nil, List.nil_append, List.cons_append, ghosts, St.gh, Option.some.injEq, implies_true, setT, AV.ren, AC.ren, AV.cl, AC.cl, List.replicate_succ, List.replicate_zero, List.nodup_nil, List.length_nil, List.length_cons, List.getD_cons_zero, List.getD_cons_succ, ↓reduceIte]; simp)) ?_
    rintro ⟨j, hj⟩
    have hwj := wS (i := j) (by omega)
    rcases Nat.lt_or_ge j Y.length with hjlt | hjge
    · rw [hY] at hbt
      obtain ⟨own', ty', cnt', cap', len', get', hM', hf', hic', hkn', hget'⟩ := hbt (by omega)
      obtain ⟨y0, y1⟩ := hYr _ (getD_mem hjlt)
      obtain ⟨L, hL⟩ : ∃ L, (X.take i).flatten ++ Y.take j = L := ⟨_, rfl⟩
      have hst := refs_step L y0 y1
      have hgt := refs_get L (i := (Y.getD j default).toNat) (by omega)
      have hLl : L.length ≤ 4294967296 := by
        have h1 := congrArg List.length hL
        rw [List.length_append, flat_len, List.length_take] at h1
        have h2 := tot_step hlt
        have h3 := tot_take (X := X) (i := i + 1)
        rw [hY] at h2
        omega
      have hct := List.count_le_length (a := (((Y.getD j default).toNat : Nat) : Int)) (l := L)
      have hge1 : (List.map enc (refs L)).getD (Y.getD j default).toNat [] = enc ((refs L).getD (Y.getD j default).toNat default) := getD_enc _ _ (by rw [refs_length]; omega)
      have hw1 : IntKind.i64.wrap ((refs L).getD (Y.getD j default).toNat default + 1) = (refs L).getD (Y.getD j default).toNat default + 1 := by rw [hgt, w64 (by omega) (by omega)]
      simp only [↓WP, ↓grdD, ↓grdT, ↓un_dead, ↓binVC, ↓buildVC, ↓sliceVC, WQ, WN, Int.reduceToNat, renl, cll, rent, clt, ↓reduceIte, Nat.reduceLeDiff, Nat.reduceEqDiff, Nat.reduceLT, reduceCtorEq, List.append_nil, Nat.reduceAdd, Nat.reduceSub, Nat.reduceBEq, forall_const, implies_true, cond_true, cond_false, AV.ren, AC.ren, AV.cl, AC.cl, eq_self, List.all_cons, List.all_nil, AV.eqv, AC.eqv, eqvl, eqvt, Sl.eqv, List.map_append, List.length_map, List.length_append, List.length_replicate, List.length_set, List.map_replicate, nilVC, el_23, zr_3, sd_22, el_22, sz_23, sd_23, sz_3, dlt hjlt, hwj, hL, hM', hf', hget' j hjlt, hge1, hw1, refs_length]
      repeat refine ⟨by omega, ?_⟩
      refine ⟨⟨j + 1, hjlt⟩, Le_intro [0] ?_, by show Y.length - (j + 1) < Y.length - j; omega⟩
      have hL2 : (X.take i).flatten ++ Y.take (j + 1) = L ++ [Y.getD j default] := by rw [← hL, List.append_assoc, take_step Y j default hjlt]
      have hme : (List.map enc (refs L)).set (Y.getD j default).toNat [AC.int .i64 ((refs L).getD (Y.getD j default).toNat default + 1)] = List.map enc (refs (L ++ [Y.getD j default])) := by rw [← hst, List.map_set]; rfl
      simp only [WL, WNL, swA_new, swA_ne, nest_sw_ne, mapLL, List.mem_cons, Nat.reduceAdd, Nat.reduceLT, Nat.reduceLeDiff, Nat.reduceEqDiff, okU, List.nodup_cons, List.not_mem_nil, toT, toL, toO, keysO, renl, rent, cll, clt, eq_self, AV.eqv, AC.eqv, eqvl, eqvt, Sl.eqv, rowsLe, mapLL, rowsCl, List.map_append, List.length_map, List.length_append, List.length_set, List.map_replicate, rowG, List.getElem?_cons_zero, List.getElem?_cons_succ, List.getElem?_nil, List.append_nil, List.nil_append, List.cons_append, ghosts, St.gh, Option.some.injEq, implies_true, setT, AV.ren, AC.ren, AV.cl, AC.cl, List.replicate_succ, List.replicate_zero, List.nodup_nil, List.length_nil, List.length_cons, List.getD_cons_zero, List.getD_cons_succ, ↓reduceIte, hL2, hme]
      try simp
    · obtain rfl : j = Y.length := by omega
      simp only [↓WP, ↓grdD, ↓grdT, ↓un_dead, ↓binVC, ↓buildVC, ↓sliceVC, WQ, WN, Int.reduceToNat, renl, cll, rent, clt, ↓reduceIte, Nat.reduceLeDiff, Nat.reduceEqDiff, Nat.reduceLT, reduceCtorEq, List.append_nil, Nat.reduceAdd, Nat.reduceSub, Nat.reduceBEq, forall_const, implies_true, cond_true, cond_false, AV.ren, AC.ren, AV.cl, AC.cl, eq_self, List.all_cons, List.all_nil, AV.eqv, AC.eqv, eqvl, eqvt, Sl.eqv, List.map_append, List.length_map, List.length_append, List.length_replicate, List.length_set, List.map_replicate, nilVC, el_23, zr_3, sd_22, el_22, sz_23, sd_23, sz_3, dge hjge, hwj, hw]
      repeat refine ⟨by omega, ?_⟩
      refine ⟨⟨i + 1, hlt⟩, Le_intro [0] ?_, by show X.length - (i + 1) < X.length - i; omega⟩
      simp only [WL, WNL, swA_new, swA_ne, nest_sw_ne, mapLL, List.mem_cons, Nat.reduceAdd, Nat.reduceLT, Nat.reduceLeDiff, Nat.reduceEqDiff, okU, List.nodup_cons, List.not_mem_nil, toT, toL, toO, keysO, renl, rent, cll, clt, eq_self, AV.eqv, AC.eqv, eqvl, eqvt, Sl.eqv, rowsLe, mapLL, rowsCl, List.map_append, List.length_map, List.length_append, List.length_set, List.map_replicate, rowG, List.getElem?_cons_zero, List.getElem?_cons_succ, List.getElem?_nil, List.append_nil, List.nil_append, List.cons_append, ghosts, St.gh, Option.some.injEq, implies_true, setT, AV.ren, AC.ren, AV.cl, AC.cl, List.replicate_succ, List.replicate_zero, List.nodup_nil, List.length_nil, List.length_cons, List.getD_cons_zero, List.getD_cons_succ, ↓reduceIte, hfl]
      try simp
  · obtain rfl : i = X.length := by omega
    simp only [↓WP, ↓grdD, ↓grdT, ↓un_dead, ↓binVC, ↓buildVC, ↓sliceVC, WQ, WN, Int.reduceToNat, renl, cll, rent, clt, ↓reduceIte, Nat.reduceLeDiff, Nat.reduceEqDiff, Nat.reduceLT, reduceCtorEq, List.append_nil, Nat.reduceAdd, Nat.reduceSub, Nat.reduceBEq, forall_const, implies_true, cond_true, cond_false, AV.ren, AC.ren, AV.cl, AC.cl, eq_self, List.all_cons, List.all_nil, AV.eqv, AC.eqv, eqvl, eqvt, Sl.eqv, List.map_append, List.length_map, List.length_append, List.length_replicate, List.length_set, List.map_replicate, nilVC, el_23, zr_3, sd_22, el_22, sz_23, sd_23, sz_3, dge hge, hw]
    refine end_ret ?_
    simp only [↓WP, ↓grdD, ↓grdT, ↓un_dead, ↓binVC, ↓buildVC, ↓sliceVC, WQ, WN, Int.reduceToNat, renl, cll, rent, clt, ↓reduceIte, Nat.reduceLeDiff, Nat.reduceEqDiff, Nat.reduceLT, reduceCtorEq, List.append_nil, Nat.reduceAdd, Nat.reduceSub, Nat.reduceBEq, forall_const, implies_true, cond_true, cond_false, AV.ren, AC.ren, AV.cl, AC.cl, eq_self, List.all_cons, List.all_nil, AV.eqv, AC.eqv, eqvl, eqvt, Sl.eqv, List.map_append, List.length_map, List.length_append, List.length_replicate, List.length_set, List.map_replicate, nilVC, el_23, zr_3, sd_22, el_22, sz_23, sd_23, sz_3]
    refine ⟨(), [], [0], ?_⟩
    simp only [WL, WNL, swA_new, swA_ne, nest_sw_ne, mapLL, List.mem_cons, Nat.reduceAdd, Nat.reduceLT, Nat.reduceLeDiff, Nat.reduceEqDiff, okU, List.nodup_cons, List.not_mem_nil, toT, toL, toO, keysO, renl, rent, cll, clt, eq_self, AV.eqv, AC.eqv, eqvl, eqvt, Sl.eqv, rowsLe, mapLL, rowsCl, List.map_append, List.length_map, List.length_append, List.length_set, List.map_replicate, rowG, List.getElem?_cons_zero, List.getElem?_cons_succ, List.getElem?_nil, List.append_nil, List.nil_append, List.cons_append, ghosts, St.gh, Option.some.injEq, implies_true, setT, AV.ren, AC.ren, AV.cl, AC.cl, List.replicate_succ, List.replicate_zero, List.nodup_nil, List.length_nil, List.length_cons, List.getD_cons_zero, List.getD_cons_succ, ↓reduceIte, retP, List.take_length]
    try simp
end Go.Eng.T
