/- cow: searches; references. -/
import Derived.Test.YtjdppjomhkbljaaFn4
set_option linter.unusedVariables false
set_option linter.unusedSimpArgs false
set_option linter.unusedSectionVars false
namespace Go.Eng
open Cel (enc dec)
/-- how often each frame is named -/
def refs (L : List Int) : List Int := (List.range 12).map fun i : Nat => ((L.count (i : Int) : Nat) : Int)
theorem refs_length (L : List Int) : (refs L).length = 12 := by simp [refs]
theorem refs_nil : refs [] = List.replicate 12 0 := by decide
theorem refs_get (L : List Int) {i : Nat} (h : i < 12) : (refs L).getD i default = ((L.count (i : Int) : Nat) : Int) := by
  rw [getD_of_lt (by rw [refs_length]; exact h)]; simp [refs]
theorem refs_step (L : List Int) {f : Int} (h0 : 0 ≤ f) (h1 : f ≤ 11) : (refs L).set f.toNat ((refs L).getD f.toNat default + 1) = refs (L ++ [f]) := by
  refine List.ext_getElem (by simp [refs_length]) fun k hk hk' => ?_
  have hk2 : k < 12 := by simpa [refs_length] using hk
  have hg := refs_get L (i := f.toNat) (by omega)
  have e1 : ∀ L : List Int, ∀ h, (refs L)[k]'h = ((L.count (k : Int) : Nat) : Int) := fun L h => by simp [refs]
  simp only [List.getElem_set, e1, hg, List.count_append]
  by_cases e : f.toNat = k
  · subst e
    rw [if_pos rfl, List.count_singleton]
    have : ((f.toNat : Nat) : Int) = f := by omega
    simp [this]
  · rw [if_neg e, List.count_singleton]
    have : (f == (k : Int)) = false := by simp; omega
    simp [this]
theorem flat_take {X : List (List Int)} {i j : Nat} (hi : i < X.length) (hj : j < (X.getD i default).length) : (X.take i).flatten ++ (X.getD i default).take (j + 1) = ((X.take i).flatten ++ (X.getD i default).take j) ++ [(X.getD i default).getD j default] := by
  rw [take_step _ j default hj, List.append_assoc]
theorem flat_step {X : List (List Int)} {i : Nat} (hi : i < X.length) : (X.take (i + 1)).flatten = (X.take i).flatten ++ (X.getD i default).take (X.getD i default).length := by
  rw [take_step X i default hi, List.flatten_append, List.take_length]; simp
theorem flat_len : ∀ X : List (List Int), X.flatten.length = tot X
  | [] => rfl
  | l :: r => by simp [tot, flat_len r]
end Go.Eng
namespace Go.Eng.T
open Go.Proofs
open Cel (enc dec)
set_option maxRecDepth 100000
set_option maxHeartbeats 4000000
def c_spec_l1In : Contract := ⟨48, fun args M => match args with
  | [.c (.int .i64 n), .c (.int .i64 lo), .c (.int .i64 hi)] => .pure True (Eng.B (decide (lo ≤ n ∧ n ≤ hi)))
  | _ => .bad⟩
theorem ok_spec_l1In : fnP Try.prog c_spec_l1In.f = true ∧ ∀ args M, (c_spec_l1In.sp args M).OK Try.prog c_spec_l1In.f args M := by
  refine ⟨fp_48, fun args M => ?_⟩
  unfold c_spec_l1In
  dsimp only
  split
  case h_2 => trivial
  rename_i n lo hi
  intro _
  refine goIn hf_48 rfl (nt := 15) rfl (rs := [.tmp 6]) rfl (C := []) trivial (q := fun _ => false) okQ_none mixed (O := fun _ => .nil) (by kernel_rfl) ?_
  simp only [↓WP, ↓grdD, ↓grdT, ↓un_dead, ↓binVC, ↓buildVC, ↓sliceVC, WQ, WN, Int.reduceToNat, renl, cll, rent, clt, ↓reduceIte, Nat.reduceLeDiff, Nat.reduceEqDiff, Nat.reduceLT, reduceCtorEq, List.append_nil, Nat.reduceAdd, Nat.reduceSub, Nat.reduceBEq, forall_const, implies_true, cond_true, cond_false, AV.ren, AC.ren, AV.cl, AC.cl, eq_self, List.all_cons, List.all_nil, AV.eqv, AC.eqv, eqvl, eqvt, Sl.eqv, List.map_append, List.length_map, List.length_append, List.length_replicate, List.length_set, List.map_replicate, nilVC, ]
  by_cases h : lo ≤ n <;> simp [h]
theorem q_spec_l1In : Quiet c_spec_l1In := by
  intro args M
  unfold c_spec_l1In
  dsimp only
  split <;> first | trivial | (intro _; rfl)
def c_impl_in : Contract := ⟨53, fun args M => match args with
  | [.c (.int .i64 n), .c (.int .i64 lo), .c (.int .i64 hi)] => .pure True (Eng.B (decide (lo ≤ n ∧ n ≤ hi)))
  | _ => .bad⟩
theorem ok_impl_in : fnP Try.prog c_impl_in.f = true ∧ ∀ args M, (c_impl_in.sp args M).OK Try.prog c_impl_in.f args M := by
  refine ⟨fp_53, fun args M => ?_⟩
  unfold c_impl_in
  dsimp only
  split
  case h_2 => trivial
  rename_i n lo hi
  intro _
  refine goIn hf_53 rfl (nt := 15) rfl (rs := [.tmp 6]) rfl (C := []) trivial (q := fun _ => false) okQ_none mixed (O := fun _ => .nil) (by kernel_rfl) ?_
  simp only [↓WP, ↓grdD, ↓grdT, ↓un_dead, ↓binVC, ↓buildVC, ↓sliceVC, WQ, WN, Int.reduceToNat, renl, cll, rent, clt, ↓reduceIte, Nat.reduceLeDiff, Nat.reduceEqDiff, Nat.reduceLT, reduceCtorEq, List.append_nil, Nat.reduceAdd, Nat.reduceSub, Nat.reduceBEq, forall_const, implies_true, cond_true, cond_false, AV.ren, AC.ren, AV.cl, AC.cl, eq_self, List.all_cons, List.all_nil, AV.eqv, AC.eqv, eqvl, eqvt, Sl.eqv, List.map_append, List.length_map, List.length_append, List.length_replicate, List.length_set, List.map_replicate, nilVC, ]
  by_cases h : lo ≤ n <;> simp [h]
theorem q_impl_in : Quiet c_impl_in := by
  intro args M
  unfold c_impl_in
  dsimp only
  split <;> first | trivial | (intro _; rfl)
def c_slices_Index_int : Contract := ⟨66, fun args M => match args with
  | [.c (.sl a n _), .c (.int .i64 v)] => .pure (RowOk Int a n (M a.r)) (I (idx (fun x => decide (x = v)) (row Int a n (M a.r))))
  | _ => .bad⟩
theorem ok_slices_Index_int : fnP Try.prog c_slices_Index_int.f = true ∧ ∀ args M, (c_slices_Index_int.sp args M).OK Try.prog c_slices_Index_int.f args M := by
  refine ⟨fp_66, fun args M => ?_⟩
  unfold c_slices_Index_int
  dsimp only
  split
  case h_2 => trivial
  rename_i a n ca v
  intro ha
  obtain ⟨hs, X, hX, rfl, hat⟩ := ha.x
  rw [hX]
  refine goIn hf_66 rfl (nt := 19) rfl (rs := [.tmp 4]) rfl (C := []) trivial (q := fun _ => false) okQ_none mixed (O := fun _ => .nil) (by kernel_rfl) ?_
  simp only [↓WP, ↓grdD, ↓grdT, ↓un_dead, ↓binVC, ↓buildVC, ↓sliceVC, WQ, WN, Int.reduceToNat, renl, cll, rent, clt, ↓reduceIte, Nat.reduceLeDiff, Nat.reduceEqDiff, Nat.reduceLT, reduceCtorEq, List.append_nil, Nat.reduceAdd, Nat.reduceSub, Nat.reduceBEq, forall_const, implies_true, cond_true, cond_false, AV.ren, AC.ren, AV.cl, AC.cl, eq_self, List.all_cons, List.all_nil, AV.eqv, AC.eqv, eqvl, eqvt, Sl.eqv, List.map_append, List.length_map, List.length_append, List.length_replicate, List.length_set, List.map_replicate, nilVC, sd_23, el_23, sz_3]
  refine loopI (J := {i : Nat // i ≤ X.length ∧ clear (fun x => decide (x = v)) X i}) (fun i => ⟨slots 19 [(0, .c (.sl a.up X.length ca)), (1, I v), (7, I X.length), (8, I i.1)], M, [], []⟩) (fun i => X.length - i.1) ⟨0, by omega, clear_zero _ _⟩ (Le_intro [] (by simp [WL, WNL, swA_new, swA_ne, nest_sw_ne, mapLL, List.mem_cons, Nat.reduceAdd, Nat.reduceLT, Nat.reduceLeDiff, Nat.reduceEqDiff, okU, List.nodup_cons, List.not_mem_nil, toT, toL, toO, keysO, renl, rent, cll, clt, eq_self, AV.eqv, AC.eqv, eqvl, eqvt, Sl.eqv, rowsLe, mapLL, rowsCl, List.map_append, List.length_map, List.length_append, List.length_set, List.map_replicate, rowG, List.getElem?_cons_zero, List.getElem?_cons_succ, List.getElem?_nil, List.append_nil, List.nil_append, List.cons_append, ghosts, St.gh, Option.some.injEq, implies_true, setT, AV.ren, AC.ren, AV.cl, AC.cl, List.replicate_succ, List.replicate_zero, List.nodup_nil, List.length_nil, List.length_cons, List.getD_cons_zero, List.getD_cons_succ, ↓reduceIte])) ?_
  rintro ⟨i, hi, he⟩
  have hw := wS (i := i) (by omega)
  rcases Nat.lt_or_ge i X.length with hlt | hge
  · obtain ⟨own, ty, cnt, cap, len, get, hM, hf, hic, hkn, hget⟩ := hat (by omega)
    simp only [↓WP, ↓grdD, ↓grdT, ↓un_dead, ↓binVC, ↓buildVC, ↓sliceVC, WQ, WN, Int.reduceToNat, renl, cll, rent, clt, ↓reduceIte, Nat.reduceLeDiff, Nat.reduceEqDiff, Nat.reduceLT, reduceCtorEq, List.append_nil, Nat.reduceAdd, Nat.reduceSub, Nat.reduceBEq, forall_const, implies_true, cond_true, cond_false, AV.ren, AC.ren, AV.cl, AC.cl, eq_self, List.all_cons, List.all_nil, AV.eqv, AC.eqv, eqvl, eqvt, Sl.eqv, List.map_append, List.length_map, List.length_append, List.length_replicate, List.length_set, List.map_replicate, nilVC, sd_23, el_23, sz_3, dlt hlt, hw, hM, hf, hget i hlt]
    repeat refine ⟨by omega, ?_⟩
    refine ⟨fun h1 => ?_, fun h1 => ?_⟩
    · have h1 : X.getD i default = v := (of_decide_eq_true h1).symm
      have := idx_hit he hlt (decide_eq_true h1)
      simp [this]
    · have h1 : ¬ X.getD i default = v := fun e => of_decide_eq_false h1 e.symm
      exact ⟨⟨i + 1, hlt, clear_succ he (decide_eq_false h1)⟩, Le_intro [] (by simp [WL, WNL, swA_new, swA_ne, nest_sw_ne, mapLL, List.mem_cons, Nat.reduceAdd, Nat.reduceLT, Nat.reduceLeDiff, Nat.reduceEqDiff, okU, List.nodup_cons, List.not_mem_nil, toT, toL, toO, keysO, renl, rent, cll, clt, eq_self, AV.eqv, AC.eqv, eqvl, eqvt, Sl.eqv, rowsLe, mapLL, rowsCl, List.map_append, List.length_map, List.length_append, List.length_set, List.map_replicate, rowG, List.getElem?_cons_zero, List.getElem?_cons_succ, List.getElem?_nil, List.append_nil, List.nil_append, List.cons_append, ghosts, St.gh, Option.some.injEq, implies_true, setT, AV.ren, AC.ren, AV.cl, AC.cl, List.replicate_succ, List.replicate_zero, List.nodup_nil, List.length_nil, List.length_cons, List.getD_cons_zero, List.getD_cons_succ, ↓reduceIte]), by show X.length - (i + 1) < X.length - i; omega⟩
  · obtain rfl : i = X.length := by omega
    simp only [↓WP, ↓grdD, ↓grdT, ↓un_dead, ↓binVC, ↓buildVC, ↓sliceVC, WQ, WN, Int.reduceToNat, renl, cll, rent, clt, ↓reduceIte, Nat.reduceLeDiff, Nat.reduceEqDiff, Nat.reduceLT, reduceCtorEq, List.append_nil, Nat.reduceAdd, Nat.reduceSub, Nat.reduceBEq, forall_const, implies_true, cond_true, cond_false, AV.ren, AC.ren, AV.cl, AC.cl, eq_self, List.all_cons, List.all_nil, AV.eqv, AC.eqv, eqvl, eqvt, Sl.eqv, List.map_append, List.length_map, List.length_append, List.length_replicate, List.length_set, List.map_replicate, nilVC, sd_23, el_23, sz_3, dge hge, hw]
    have := idx_miss he
    simp [this]
theorem q_slices_Index_int : Quiet c_slices_Index_int := by
  intro args M
  unfold c_slices_Index_int
  dsimp only
  split <;> first | trivial | (intro _; rfl)
def c_slices_Clone_int : Contract := ⟨64, fun args M => match args with
  | [.c (.sl a n c)] => .eff (RowOk Int a n (M a.r) ∧ n ≤ c) Nat (fun k => n ≤ k) (fun k => .c (.sl ⟨.loc 0, 0, 0, 0⟩ n k)) (fun k => [rowG true 3 k (row Int a n (M a.r))]) (fun _ => [])
  | _ => .bad⟩
theorem ok_slices_Clone_int : fnP Try.prog c_slices_Clone_int.f = true ∧ ∀ args M, (c_slices_Clone_int.sp args M).OK Try.prog c_slices_Clone_int.f args M := by
  refine ⟨fp_64, fun args M => ?_⟩
  unfold c_slices_Clone_int
  dsimp only
  split
  case h_2 => trivial
  rename_i a n c
  rintro ⟨hrow, hc⟩
  obtain ⟨hs, X, hX, rfl, hat⟩ := hrow.x
  rw [hX]
  refine goIn hf_64 rfl (nt := 8) rfl (rs := [.tmp 2]) rfl (C := []) trivial (q := fun _ => false) okQ_none mixed (O := fun _ => .nil) (by kernel_rfl) ?_
  rcases Nat.eq_zero_or_pos X.length with h0 | h0
  · obtain rfl : X = [] := List.eq_nil_of_length_eq_zero h0
    simp only [↓WP, ↓grdD, ↓grdT, ↓un_dead, ↓binVC, ↓buildVC, ↓sliceVC, WQ, WN, Int.reduceToNat, renl, cll, rent, clt, ↓reduceIte, Nat.reduceLeDiff, Nat.reduceEqDiff, Nat.reduceLT, reduceCtorEq, List.append_nil, Nat.reduceAdd, Nat.reduceSub, Nat.reduceBEq, forall_const, implies_true, cond_true, cond_false, AV.ren, AC.ren, AV.cl, AC.cl, eq_self, List.all_cons, List.all_nil, AV.eqv, AC.eqv, eqvl, eqvt, Sl.eqv, List.map_append, List.length_map, List.length_append, List.length_replicate, List.length_set, List.map_replicate, nilVC, slt_23, el_23, zr_3]
    repeat' (first | with_reducible refine And.intro ?_ ?_ | intro _)
    all_goals try omega
    all_goals try rfl
    all_goals
      refine end_ret ?_
      simp only [↓WP, ↓grdD, ↓grdT, ↓un_dead, ↓binVC, ↓buildVC, ↓sliceVC, WQ, WN, Int.reduceToNat, renl, cll, rent, clt, ↓reduceIte, Nat.reduceLeDiff, Nat.reduceEqDiff, Nat.reduceLT, reduceCtorEq, List.append_nil, Nat.reduceAdd, Nat.reduceSub, Nat.reduceBEq, forall_const, implies_true, cond_true, cond_false, AV.ren, AC.ren, AV.cl, AC.cl, eq_self, List.all_cons, List.all_nil, AV.eqv, AC.eqv, eqvl, eqvt, Sl.eqv, List.map_append, List.length_map, List.length_append, List.length_replicate, List.length_set, List.map_replicate, nilVC, slt_23, el_23, zr_3]
      refine ⟨0, [(3, 1)], [0], ?_⟩
      simp [WL, WNL, swA_new, swA_ne, nest_sw_ne, mapLL, List.mem_cons, Nat.reduceAdd, Nat.reduceLT, Nat.reduceLeDiff, Nat.reduceEqDiff, okU, List.nodup_cons, List.not_mem_nil, toT, toL, toO, keysO, renl, rent, cll, clt, eq_self, AV.eqv, AC.eqv, eqvl, eqvt, Sl.eqv, rowsLe, mapLL, rowsCl, List.map_append, List.length_map, List.length_append, List.length_set, List.map_replicate, rowG, List.getElem?_cons_zero, List.getElem?_cons_succ, List.getElem?_nil, List.append_nil, List.nil_append, List.cons_append, ghosts, St.gh, Option.some.injEq, implies_true, setT, AV.ren, AC.ren, AV.cl, AC.cl, List.replicate_succ, List.replicate_zero, List.nodup_nil, List.length_nil, List.length_cons, List.getD_cons_zero, List.getD_cons_succ, ↓reduceIte, retP]
  · obtain ⟨own, ty, cnt, cap, len, get, hM, hf, hic, hkn, hget⟩ := hat h0
    have hwin : win (fun k => List.map AC.up (get a.i (a.k + k))) X.length = X.map enc := win_enc (g := fun k => get a.i (a.k + k)) hget
    simp only [↓WP, ↓grdD, ↓grdT, ↓un_dead, ↓binVC, ↓buildVC, ↓sliceVC, WQ, WN, Int.reduceToNat, renl, cll, rent, clt, ↓reduceIte, Nat.reduceLeDiff, Nat.reduceEqDiff, Nat.reduceLT, reduceCtorEq, List.append_nil, Nat.reduceAdd, Nat.reduceSub, Nat.reduceBEq, forall_const, implies_true, cond_true, cond_false, AV.ren, AC.ren, AV.cl, AC.cl, eq_self, List.all_cons, List.all_nil, AV.eqv, AC.eqv, eqvl, eqvt, Sl.eqv, List.map_append, List.length_map, List.length_append, List.length_replicate, List.length_set, List.map_replicate, nilVC, slt_23, el_23, zr_3, hM, hf, hwin]
    refine fun b hb => ⟨fun e => absurd (hb e) (by omega), fun _ => ?_⟩
    repeat' (first | with_reducible refine And.intro ?_ ?_ | intro _)
    all_goals try omega
    all_goals try rfl
    all_goals try exact .inl trivial
    all_goals
      rename_i k hk _
      refine end_ret ?_
      simp only [↓WP, ↓grdD, ↓grdT, ↓un_dead, ↓binVC, ↓buildVC, ↓sliceVC, WQ, WN, Int.reduceToNat, renl, cll, rent, clt, ↓reduceIte, Nat.reduceLeDiff, Nat.reduceEqDiff, Nat.reduceLT, reduceCtorEq, List.append_nil, Nat.reduceAdd, Nat.reduceSub, Nat.reduceBEq, forall_const, implies_true, cond_true, cond_false, AV.ren, AC.ren, AV.cl, AC.cl, eq_self, List.all_cons, List.all_nil, AV.eqv, AC.eqv, eqvl, eqvt, Sl.eqv, List.map_append, List.length_map, List.length_append, List.length_replicate, List.length_set, List.map_replicate, nilVC, slt_23, el_23, zr_3]
      refine ⟨k, [], [0], ?_⟩
      simp only [WL, WNL, swA_new, swA_ne, nest_sw_ne, mapLL, List.mem_cons, Nat.reduceAdd, Nat.reduceLT, Nat.reduceLeDiff, Nat.reduceEqDiff, okU, List.nodup_cons, List.not_mem_nil, toT, toL, toO, keysO, renl, rent, cll, clt, eq_self, AV.eqv, AC.eqv, eqvl, eqvt, Sl.eqv, rowsLe, mapLL, rowsCl, List.map_append, List.length_map, List.length_append, List.length_set, List.map_replicate, rowG, List.getElem?_cons_zero, List.getElem?_cons_succ, List.getElem?_nil, List.append_nil, List.nil_append, List.cons_append, ghosts, St.gh, Option.some.injEq, implies_true, setT, AV.ren, AC.ren, AV.cl, AC.cl, List.replicate_succ, List.replicate_zero, List.nodup_nil, List.length_nil, List.length_cons, List.getD_cons_zero, List.getD_cons_succ, ↓reduceIte, retP]
      simp [hk]
theorem q_slices_Clone_int : Quiet c_slices_Clone_int := by
  intro args M
  unfold c_slices_Clone_int
  dsimp only
  split <;> first | trivial | (intro _; rfl)
def c_impl_CowOk_1 : Contract := ⟨52, fun args M => match args with
  | [.c (.int .i64 p)] => .pure True (Eng.B (!decide (0 ≤ p ∧ p ≤ 11)))
  | _ => .bad⟩
theorem ok_impl_CowOk_1 : fnP Try.prog c_impl_CowOk_1.f = true ∧ ∀ args M, (c_impl_CowOk_1.sp args M).OK Try.prog c_impl_CowOk_1.f args M := by
  refine ⟨fp_52, fun args M => ?_⟩
  unfold c_impl_CowOk_1
  dsimp only
  split
  case h_2 => trivial
  rename_i p
  intro _
  refine goIn hf_52 rfl (nt := 6) rfl (rs := [.tmp 2]) rfl (C := [c_impl_in]) ⟨(by first | exact .inl ok_impl_in | exact ok_impl_in), trivial⟩ (q := fun _ => false) okQ_none mixed (O := fun _ => .nil) (by kernel_rfl) ?_
  simp only [↓WP, ↓grdD, ↓grdT, ↓un_dead, ↓binVC, ↓buildVC, ↓sliceVC, WQ, WN, Int.reduceToNat, renl, cll, rent, clt, ↓reduceIte, Nat.reduceLeDiff, Nat.reduceEqDiff, Nat.reduceLT, reduceCtorEq, List.append_nil, Nat.reduceAdd, Nat.reduceSub, Nat.reduceBEq, forall_const, implies_true, cond_true, cond_false, AV.ren, AC.ren, AV.cl, AC.cl, eq_self, List.all_cons, List.all_nil, AV.eqv, AC.eqv, eqvl, eqvt, Sl.eqv, List.map_append, List.length_map, List.length_append, List.length_replicate, List.length_set, List.map_replicate, nilVC, c_impl_in]
def c_impl_wordsOk_1 : Contract := ⟨74, fun args M => match args with
  | [.c (.int .i64 p)] => .pure True (Eng.B (!decide (-1000000 ≤ p ∧ p ≤ 1000000)))
  | _ => .bad⟩
def c_impl_isWord : Contract := ⟨67, fun args M => match args with
  | [.c (.int .i64 p)] => .pure True (Eng.B (decide (-1000000 ≤ p ∧ p ≤ 1000000)))
  | _ => .bad⟩
theorem ok_impl_isWord : fnP Try.prog c_impl_isWord.f = true ∧ ∀ args M, (c_impl_isWord.sp args M).OK Try.prog c_impl_isWord.f args M := by
  refine ⟨fp_67, fun args M => ?_⟩
  unfold c_impl_isWord
  dsimp only
  split
  case h_2 => trivial
  rename_i p
  intro _
  refine goIn hf_67 rfl (nt := 5) rfl (rs := [.tmp 2]) rfl (C := [c_impl_in]) ⟨(by first | exact .inl ok_impl_in | exact ok_impl_in), trivial⟩ (q := fun _ => false) okQ_none mixed (O := fun _ => .nil) (by kernel_rfl) ?_
  simp only [↓WP, ↓grdD, ↓grdT, ↓un_dead, ↓binVC, ↓buildVC, ↓sliceVC, WQ, WN, Int.reduceToNat, renl, cll, rent, clt, ↓reduceIte, Nat.reduceLeDiff, Nat.reduceEqDiff, Nat.reduceLT, reduceCtorEq, List.append_nil, Nat.reduceAdd, Nat.reduceSub, Nat.reduceBEq, forall_const, implies_true, cond_true, cond_false, AV.ren, AC.ren, AV.cl, AC.cl, eq_self, List.all_cons, List.all_nil, AV.eqv, AC.eqv, eqvl, eqvt, Sl.eqv, List.map_append, List.length_map, List.length_append, List.length_replicate, List.length_set, List.map_replicate, nilVC, c_impl_in]
theorem q_impl_isWord : Quiet c_impl_isWord := by
  intro args M
  unfold c_impl_isWord
  dsimp only
  split <;> first | trivial | (intro _; rfl)
theorem ok_impl_wordsOk_1 : fnP Try.prog c_impl_wordsOk_1.f = true ∧ ∀ args M, (c_impl_wordsOk_1.sp args M).OK Try.prog c_impl_wordsOk_1.f args M := by
  refine ⟨fp_74, fun args M => ?_⟩
  unfold c_impl_wordsOk_1
  dsimp only
  split
  case h_2 => trivial
  rename_i p
  intro _
  refine goIn hf_74 rfl (nt := 6) rfl (rs := [.tmp 2]) rfl (C := [c_impl_isWord]) ⟨(by first | exact .inl ok_impl_isWord | exact ok_impl_isWord), trivial⟩ (q := fun _ => false) okQ_none mixed (O := fun _ => .nil) (by kernel_rfl) ?_
  simp only [↓WP, ↓grdD, ↓grdT, ↓un_dead, ↓binVC, ↓buildVC, ↓sliceVC, WQ, WN, Int.reduceToNat, renl, cll, rent, clt, ↓reduceIte, Nat.reduceLeDiff, Nat.reduceEqDiff, Nat.reduceLT, reduceCtorEq, List.append_nil, Nat.reduceAdd, Nat.reduceSub, Nat.reduceBEq, forall_const, implies_true, cond_true, cond_false, AV.ren, AC.ren, AV.cl, AC.cl, eq_self, List.all_cons, List.all_nil, AV.eqv, AC.eqv, eqvl, eqvt, Sl.eqv, List.map_append, List.length_map, List.length_append, List.length_replicate, List.length_set, List.map_replicate, nilVC, c_impl_isWord]
def c_impl_allAre_1 : Contract := ⟨75, fun args M => match args with
  | [.c (.int .i64 x), .c (.ptr p)] => box1 p (M p.r) fun v => .pure True (Eng.B (!decide (x = v)))
  | _ => .bad⟩
theorem ok_impl_allAre_1 : fnP Try.prog c_impl_allAre_1.f = true ∧ ∀ args M, (c_impl_allAre_1.sp args M).OK Try.prog c_impl_allAre_1.f args M := by
  refine ⟨fp_75, fun args M => ?_⟩
  unfold c_impl_allAre_1
  dsimp only
  split
  case h_2 => trivial
  rename_i x p
  refine box1_cases fun t v hv hi hk hf => ?_
  intro _
  refine goIn hf_75 rfl (nt := 7) rfl (rs := [.tmp 3]) rfl (C := []) trivial (q := fun _ => false) okQ_none mixed (O := fun _ => .nil) (by kernel_rfl) ?_
  simp only [↓WP, ↓grdD, ↓grdT, ↓un_dead, ↓binVC, ↓buildVC, ↓sliceVC, WQ, WN, Int.reduceToNat, renl, cll, rent, clt, ↓reduceIte, Nat.reduceLeDiff, Nat.reduceEqDiff, Nat.reduceLT, reduceCtorEq, List.append_nil, Nat.reduceAdd, Nat.reduceSub, Nat.reduceBEq, forall_const, implies_true, cond_true, cond_false, AV.ren, AC.ren, AV.cl, AC.cl, eq_self, List.all_cons, List.all_nil, AV.eqv, AC.eqv, eqvl, eqvt, Sl.eqv, List.map_append, List.length_map, List.length_append, List.length_replicate, List.length_set, List.map_replicate, nilVC, sz_3, hv, hi, hk, hf]
/-- what a closure asks for -/
def cloP (f : FuncId) (caps : List AA) (M : RId → Option Rg) (K : (Int → Bool) → Spec) : Spec :=
  if f = 52 then (if caps = [] then K (fun p => !decide (0 ≤ p ∧ p ≤ 11)) else .bad)
  else if f = 74 then (if caps = [] then K (fun p => !decide (-1000000 ≤ p ∧ p ≤ 1000000)) else .bad)
  else if f = 75 then (match caps with
    | [p] => box1 p (M p.r) fun v => K (fun x => !decide (x = v))
    | _ => .bad)
  else .bad
theorem cloP_1 {M : RId → Option Rg} {K : (Int → Bool) → Spec} : cloP 52 [] M K = K (fun p => !decide (0 ≤ p ∧ p ≤ 11)) := Eq.trans rfl rfl
theorem cloP_2 {M : RId → Option Rg} {K : (Int → Bool) → Spec} : cloP 74 [] M K = K (fun p => !decide (-1000000 ≤ p ∧ p ≤ 1000000)) := Eq.trans rfl rfl
theorem cloP_3 {M : RId → Option Rg} {p : AA} {K : (Int → Bool) → Spec} : cloP 75 [p] M K = box1 p (M p.r) fun v => K (fun x => !decide (x = v)) := Eq.trans rfl rfl
theorem cloP_cases {P : Program} {g : FuncId} {args : List AV} {M : RId → Option Rg} {f : FuncId} {caps : List AA} {K : (Int → Bool) → Spec}
    (h1 : f = 52 → caps = [] → (K (fun p => !decide (0 ≤ p ∧ p ≤ 11))).OK P g args M)
    (h2 : f = 74 → caps = [] → (K (fun p => !decide (-1000000 ≤ p ∧ p ≤ 1000000))).OK P g args M)
    (h3 : f = 75 → ∀ p, caps = [p] → ∀ t v, M p.r = some (.box t [.int .i64 v]) → p.i = 0 → p.k = 0 → p.f = 0 → (K (fun x => !decide (x = v))).OK P g args M) : (cloP f caps M K).OK P g args M := by
  unfold cloP
  split
  · rename_i e
    split
    · rename_i e2; exact h1 e e2
    · trivial
  · split
    · rename_i e
      split
      · rename_i e2; exact h2 e e2
      · trivial
    · split
      · rename_i e
        split
        · rename_i p
          exact box1_cases fun t v hv hi hk hf => h3 e p rfl t v hv hi hk hf
        · trivial
      · trivial
def c_slices_IndexFunc_int : Contract := ⟨73, fun args M => match args with
  | [.c (.sl a n _), .c (.clo f caps)] => cloP f caps M fun q => .pure (RowOk Int a n (M a.r)) (I (idx q (row Int a n (M a.r))))
  | _ => .bad⟩
theorem ok_slices_IndexFunc_int : fnP Try.prog c_slices_IndexFunc_int.f = true ∧ ∀ args M, (c_slices_IndexFunc_int.sp args M).OK Try.prog c_slices_IndexFunc_int.f args M := by
  refine ⟨fp_73, fun args M => ?_⟩
  unfold c_slices_IndexFunc_int
  dsimp only
  split
  case h_2 => trivial
  rename_i a n ca f caps
  refine cloP_cases (fun e1 e2 => ?_) (fun e1 e2 => ?_) (fun e1 p e2 t v hv hpi hpk hpf => ?_)
  · subst e1 e2
    intro ha
    obtain ⟨hs, X, hX, rfl, hat⟩ := ha.x
    rw [hX]
    refine goIn hf_73 rfl (nt := 19) rfl (rs := [.tmp 4]) rfl (C := [c_impl_CowOk_1, c_impl_wordsOk_1, c_impl_allAre_1]) ⟨(by first | exact .inl ok_impl_CowOk_1 | exact ok_impl_CowOk_1), (by first | exact .inl ok_impl_wordsOk_1 | exact ok_impl_wordsOk_1), (by first | exact .inl ok_impl_allAre_1 | exact ok_impl_allAre_1), trivial⟩ (q := fun _ => false) okQ_none mixed (O := fun _ => .nil) (by kernel_rfl) ?_
    simp only [↓WP, ↓grdD, ↓grdT, ↓un_dead, ↓binVC, ↓buildVC, ↓sliceVC, WQ, WN, Int.reduceToNat, renl, cll, rent, clt, ↓reduceIte, Nat.reduceLeDiff, Nat.reduceEqDiff, Nat.reduceLT, reduceCtorEq, List.append_nil, Nat.reduceAdd, Nat.reduceSub, Nat.reduceBEq, forall_const, implies_true, cond_true, cond_false, AV.ren, AC.ren, AV.cl, AC.cl, eq_self, List.all_cons, List.all_nil, AV.eqv, AC.eqv, eqvl, eqvt, Sl.eqv, List.map_append, List.length_map, List.length_append, List.length_replicate, List.length_set, List.map_replicate, nilVC, sd_23, el_23, sz_3, c_impl_CowOk_1, c_impl_wordsOk_1, c_impl_allAre_1]
    refine loopI (J := {i : Nat // i ≤ X.length ∧ clear (fun p : Int => !decide (0 ≤ p ∧ p ≤ 11)) X i}) (fun i => ⟨slots 19 [(0, .c (.sl a.up X.length ca)), (1, .c (.clo 52 [])), (7, I X.length), (8, I i.1)], M, [], []⟩) (fun i => X.length - i.1) ⟨0, by omega, clear_zero _ _⟩ (Le_intro [] (by simp [WL, WNL, swA_new, swA_ne, nest_sw_ne, mapLL, List.mem_cons, Nat.reduceAdd, Nat.reduceLT, Nat.reduceLeDiff, Nat.reduceEqDiff, okU, List.nodup_cons, List.not_mem_nil, toT, toL, toO, keysO, renl, rent, cll, clt, eq_self, AV.eqv, AC.eqv, eqvl, eqvt, Sl.eqv, rowsLe, mapLL, rowsCl, List.map_append, List.length_map, List.length_append, List.length_set, List.map_replicate, rowG, List.getElem?_cons_zero, List.getElem?_cons_succ, List.getElem?_nil, List.append_nil, List.nil_append, List.cons_append, ghosts, St.gh, Option.some.injEq, implies_true, setT, AV.ren, AC.ren, AV.cl, AC.cl, List.replicate_succ, List.replicate_zero, List.nodup_nil, List.length_nil, List.length_cons, List.getD_cons_zero, List.getD_cons_succ, ↓reduceIte])) ?_
    rintro ⟨i, hi, he⟩
    have hw := wS (i := i) (by omega)
    rcases Nat.lt_or_ge i X.length with hlt | hge
    · obtain ⟨own, ty, cnt, cap, len, get, hM, hf, hic, hkn, hget⟩ := hat (by omega)
      simp only [↓WP, ↓grdD, ↓grdT, ↓un_dead, ↓binVC, ↓buildVC, ↓sliceVC, WQ, WN, Int.reduceToNat, renl, cll, rent, clt, ↓reduceIte, Nat.reduceLeDiff, Nat.reduceEqDiff, Nat.reduceLT, reduceCtorEq, List.append_nil, Nat.reduceAdd, Nat.reduceSub, Nat.reduceBEq, forall_const, implies_true, cond_true, cond_false, AV.ren, AC.ren, AV.cl, AC.cl, eq_self, List.all_cons, List.all_nil, AV.eqv, AC.eqv, eqvl, eqvt, Sl.eqv, List.map_append, List.length_map, List.length_append, List.length_replicate, List.length_set, List.map_replicate, nilVC, sd_23, el_23, sz_3, c_impl_CowOk_1, c_impl_wordsOk_1, c_impl_allAre_1, dlt hlt, hw, hM, hf, hget i hlt]
      repeat refine ⟨by omega, ?_⟩
      refine ⟨fun h1 => ?_, fun h1 => ?_⟩
      · have := idx_hit (p := fun p : Int => !decide (0 ≤ p ∧ p ≤ 11)) he hlt h1
        rw [this]
      · exact ⟨⟨i + 1, hlt, clear_succ he h1⟩, Le_intro [] (by simp [WL, WNL, swA_new, swA_ne, nest_sw_ne, mapLL, List.mem_cons, Nat.reduceAdd, Nat.reduceLT, Nat.reduceLeDiff, Nat.reduceEqDiff, okU, List.nodup_cons, List.not_mem_nil, toT, toL, toO, keysO, renl, rent, cll, clt, eq_self, AV.eqv, AC.eqv, eqvl, eqvt, Sl.eqv, rowsLe, mapLL, rowsCl, List.map_append, List.length_map, List.length_append, List.length_set, List.map_replicate, rowG, List.getElem?_cons_zero, List.getElem?_cons_succ, List.getElem?_nil, List.append_nil, List.nil_append, List.cons_append, ghosts, St.gh, Option.some.injEq, implies_true, setT, AV.ren, AC.ren, AV.cl, AC.cl, List.replicate_succ, List.replicate_zero, List.nodup_nil, List.length_nil, List.length_cons, List.getD_cons_zero, List.getD_cons_succ, ↓reduceIte]), by show X.length - (i + 1) < X.length - i; omega⟩
    · obtain rfl : i = X.length := by omega
      simp only [↓WP, ↓grdD, ↓grdT, ↓un_dead, ↓binVC, ↓buildVC, ↓sliceVC, WQ, WN, Int.reduceToNat, renl, cll, rent, clt, ↓reduceIte, Nat.reduceLeDiff, Nat.reduceEqDiff, Nat.reduceLT, reduceCtorEq, List.append_nil, Nat.reduceAdd, Nat.reduceSub, Nat.reduceBEq, forall_const, implies_true, cond_true, cond_false, AV.ren, AC.ren, AV.cl, AC.cl, eq_self, List.all_cons, List.all_nil, AV.eqv, AC.eqv, eqvl, eqvt, Sl.eqv, List.map_append, List.length_map, List.length_append, List.length_replicate, List.length_set, List.map_replicate, nilVC, sd_23, el_23, sz_3, c_impl_CowOk_1, c_impl_wordsOk_1, c_impl_allAre_1, dge hge, hw]
      have := idx_miss he
      rw [this]
  · subst e1 e2
    intro ha
    obtain ⟨hs, X, hX, rfl, hat⟩ := ha.x
    rw [hX]
    refine goIn hf_73 rfl (nt := 19) rfl (rs := [.tmp 4]) rfl (C := [c_impl_CowOk_1, c_impl_wordsOk_1, c_impl_allAre_1]) ⟨(by first | exact .inl ok_impl_CowOk_1 | exact ok_impl_CowOk_1), (by first | exact .inl ok_impl_wordsOk_1 | exact ok_impl_wordsOk_1), (by first | exact .inl ok_impl_allAre_1 | exact ok_impl_allAre_1), trivial⟩ (q := fun _ => false) okQ_none mixed (O := fun _ => .nil) (by kernel_rfl) ?_
    simp only [↓WP, ↓grdD, ↓grdT, ↓un_dead, ↓binVC, ↓buildVC, ↓sliceVC, WQ, WN, Int.reduceToNat, renl, cll, rent, clt, ↓reduceIte, Nat.reduceLeDiff, Nat.reduceEqDiff, Nat.reduceLT, reduceCtorEq, List.append_nil, Nat.reduceAdd, Nat.reduceSub, Nat.reduceBEq, forall_const, implies_true, cond_true, cond_false, AV.ren, AC.ren, AV.cl, AC.cl, eq_self, List.all_cons, List.all_nil, AV.eqv, AC.eqv, eqvl, eqvt, Sl.eqv, List.map_append, List.length_map, List.length_append, List.length_replicate, List.length_set, List.map_replicate, nilVC, sd_23, el_23, sz_3, c_impl_CowOk_1, c_impl_wordsOk_1, c_impl_allAre_1]
    refine loopI (J := {i : Nat // i ≤ X.length ∧ clear (fun p : Int => !decide (-1000000 ≤ p ∧ p ≤ 1000000)) X i}) (fun i => ⟨slots 19 [(0, .c (.sl a.up X.length ca)), (1, .c (.clo 74 [])), (7, I X.length), (8, I i.1)], M, [], []⟩) (fun i => X.length - i.1) ⟨0, by omega, clear_zero _ _⟩ (Le_intro [] (by simp [WL, WNL, swA_new, swA_ne, nest_sw_ne, mapLL, List.mem_cons, Nat.reduceAdd, Nat.reduceLT, Nat.reduceLeDiff, Nat.reduceEqDiff, okU, List.nodup_cons, List.not_mem_nil, toT, toL, toO, keysO, renl, rent, cll, clt, eq_self, AV.eqv, AC.eqv, eqvl, eqvt, Sl.eqv, rowsLe, mapLL, rowsCl, List.map_append, List.length_map, List.length_append, List.length_set, List.map_replicate, rowG, List.getElem?_cons_zero, List.getElem?_cons_succ, List.getElem?_nil, List.append_nil, List.nil_append, List.cons_append, ghosts, St.gh, Option.some.injEq, implies_true, setT, AV.ren, AC.ren, AV.cl, AC.cl, List.replicate_succ, List.replicate_zero, List.nodup_nil, List.length_nil, List.length_cons, List.getD_cons_zero, List.getD_cons_succ, ↓reduceIte])) ?_
    rintro ⟨i, hi, he⟩
    have hw := wS (i := i) (by omega)
    rcases Nat.lt_or_ge i X.length with hlt | hge
    · obtain ⟨own, ty, cnt, cap, len, get, hM, hf, hic, hkn, hget⟩ := hat (by omega)
      simp only [↓WP, ↓grdD, ↓grdT, ↓un_dead, ↓binVC, ↓buildVC, ↓sliceVC, WQ, WN, Int.reduceToNat, renl, cll, rent, clt, ↓reduceIte, Nat.reduceLeDiff, Nat.reduceEqDiff, Nat.reduceLT, reduceCtorEq, List.append_nil, Nat.reduceAdd, Nat.reduceSub, Nat.reduceBEq, forall_const, implies_true, cond_true, cond_false, AV.ren, AC.ren, AV.cl, AC.cl, eq_self, List.all_cons, List.all_nil, AV.eqv, AC.eqv, eqvl, eqvt, Sl.eqv, List.map_append, List.length_map, List.length_append, List.length_replicate, List.length_set, List.map_replicate, nilVC, sd_23, el_23, sz_3, c_impl_CowOk_1, c_impl_wordsOk_1, c_impl_allAre_1, dlt hlt, hw, hM, hf, hget i hlt]
      repeat refine ⟨by omega, ?_⟩
      refine ⟨fun h1 => ?_, fun h1 => ?_⟩
      · have := idx_hit (p := fun p : Int => !decide (-1000000 ≤ p ∧ p ≤ 1000000)) he hlt h1
        rw [this]
      · exact ⟨⟨i + 1, hlt, clear_succ he h1⟩, Le_intro [] (by simp [WL, WNL, swA_new, swA_ne, nest_sw_ne, mapLL, List.mem_cons, Nat.reduceAdd, Nat.reduceLT, Nat.reduceLeDiff, Nat.reduceEqDiff, okU, List.nodup_cons, List.not_mem_nil, toT, toL, toO, keysO, renl, rent, cll, clt, eq_self, AV.eqv, AC.eqv, eqvl, eqvt, Sl.eqv, rowsLe, mapLL, rowsCl, List.map_append, List.length_map, List.length_append, List.length_set, List.map_replicate, rowG, List.getElem?_cons_zero, List.getElem?_cons_succ, List.getElem?_nil, List.append_nil, List.nil_append, List.cons_append, ghosts, St.gh, Option.some.injEq, implies_true, setT, AV.ren, AC.ren, AV.cl, AC.cl, List.replicate_succ, List.replicate_zero, List.nodup_nil, List.length_nil, List.length_cons, List.getD_cons_zero, List.getD_cons_succ, ↓reduceIte]), by show X.length - (i + 1) < X.length - i; omega⟩
    · obtain rfl : i = X.length := by omega
      simp only [↓WP, ↓grdD, ↓grdT, ↓un_dead, ↓binVC, ↓buildVC, ↓sliceVC, WQ, WN, Int.reduceToNat, renl, cll, rent, clt, ↓reduceIte, Nat.reduceLeDiff, Nat.reduceEqDiff, Nat.reduceLT, reduceCtorEq, List.append_nil, Nat.reduceAdd, Nat.reduceSub, Nat.reduceBEq, forall_const, implies_true, cond_true, cond_false, AV.ren, AC.ren, AV.cl, AC.cl, eq_self, List.all_cons, List.all_nil, AV.eqv, AC.eqv, eqvl, eqvt, Sl.eqv, List.map_append, List.length_map, List.length_append, List.length_replicate, List.length_set, List.map_replicate, nilVC, sd_23, el_23, sz_3, c_impl_CowOk_1, c_impl_wordsOk_1, c_impl_allAre_1, dge hge, hw]
      have := idx_miss he
      rw [this]
  · subst e1 e2
    intro ha
    obtain ⟨hs, X, hX, rfl, hat⟩ := ha.x
    rw [hX]
    refine goIn hf_73 rfl (nt := 19) rfl (rs := [.tmp 4]) rfl (C := [c_impl_CowOk_1, c_impl_wordsOk_1, c_impl_allAre_1]) ⟨(by first | exact .inl ok_impl_CowOk_1 | exact ok_impl_CowOk_1), (by first | exact .inl ok_impl_wordsOk_1 | exact ok_impl_wordsOk_1), (by first | exact .inl ok_impl_allAre_1 | exact ok_impl_allAre_1), trivial⟩ (q := fun _ => false) okQ_none mixed (O := fun _ => .nil) (by kernel_rfl) ?_
    simp only [↓WP, ↓grdD, ↓grdT, ↓un_dead, ↓binVC, ↓buildVC, ↓sliceVC, WQ, WN, Int.reduceToNat, renl, cll, rent, clt, ↓reduceIte, Nat.reduceLeDiff, Nat.reduceEqDiff, Nat.reduceLT, reduceCtorEq, List.append_nil, Nat.reduceAdd, Nat.reduceSub, Nat.reduceBEq, forall_const, implies_true, cond_true, cond_false, AV.ren, AC.ren, AV.cl, AC.cl, eq_self, List.all_cons, List.all_nil, AV.eqv, AC.eqv, eqvl, eqvt, Sl.eqv, List.map_append, List.length_map, List.length_append, List.length_replicate, List.length_set, List.map_replicate, nilVC, sd_23, el_23, sz_3, c_impl_CowOk_1, c_impl_wordsOk_1, c_impl_allAre_1]
    refine loopI (J := {i : Nat // i ≤ X.length ∧ clear (fun x : Int => !decide (x = v)) X i}) (fun i => ⟨slots 19 [(0, .c (.sl a.up X.length ca)), (1, .c (.clo 75 [p.up])), (7, I X.length), (8, I i.1)], M, [], []⟩) (fun i => X.length - i.1) ⟨0, by omega, clear_zero _ _⟩ (Le_intro [] (by simp [WL, WNL, swA_new, swA_ne, nest_sw_ne, mapLL, List.mem_cons, Nat.reduceAdd, Nat.reduceLT, Nat.reduceLeDiff, Nat.reduceEqDiff, okU, List.nodup_cons, List.not_mem_nil, toT, toL, toO, keysO, renl, rent, cll, clt, eq_self, AV.eqv, AC.eqv, eqvl, eqvt, Sl.eqv, rowsLe, mapLL, rowsCl, List.map_append, List.length_map, List.length_append, List.length_set, List.map_replicate, rowG, List.getElem?_cons_zero, List.getElem?_cons_succ, List.getElem?_nil, List.append_nil, List.nil_append, List.cons_append, ghosts, St.gh, Option.some.injEq, implies_true, setT, AV.ren, AC.ren, AV.cl, AC.cl, List.replicate_succ, List.replicate_zero, List.nodup_nil, List.length_nil, List.length_cons, List.getD_cons_zero, List.getD_cons_succ, ↓reduceIte])) ?_
    rintro ⟨i, hi, he⟩
    have hw := wS (i := i) (by omega)
    rcases Nat.lt_or_ge i X.length with hlt | hge
    · obtain ⟨own, ty, cnt, cap, len, get, hM, hf, hic, hkn, hget⟩ := hat (by omega)
      simp only [↓WP, ↓grdD, ↓grdT, ↓un_dead, ↓binVC, ↓buildVC, ↓sliceVC, WQ, WN, Int.reduceToNat, renl, cll, rent, clt, ↓reduceIte, Nat.reduceLeDiff, Nat.reduceEqDiff, Nat.reduceLT, reduceCtorEq, List.append_nil, Nat.reduceAdd, Nat.reduceSub, Nat.reduceBEq, forall_const, implies_true, cond_true, cond_false, AV.ren, AC.ren, AV.cl, AC.cl, eq_self, List.all_cons, List.all_nil, AV.eqv, AC.eqv, eqvl, eqvt, Sl.eqv, List.map_append, List.length_map, List.length_append, List.length_replicate, List.length_set, List.map_replicate, nilVC, sd_23, el_23, sz_3, c_impl_CowOk_1, c_impl_wordsOk_1, c_impl_allAre_1, dlt hlt, hw, hM, hf, hget i hlt, hv, hpi, hpk, hpf, box1_box]
      repeat refine ⟨by omega, ?_⟩
      refine ⟨fun h1 => ?_, fun h1 => ?_⟩
      · have := idx_hit (p := fun x : Int => !decide (x = v)) he hlt h1
        rw [this]
      · exact ⟨⟨i + 1, hlt, clear_succ he h1⟩, Le_intro [] (by simp [WL, WNL, swA_new, swA_ne, nest_sw_ne, mapLL, List.mem_cons, Nat.reduceAdd, Nat.reduceLT, Nat.reduceLeDiff, Nat.reduceEqDiff, okU, List.nodup_cons, List.not_mem_nil, toT, toL, toO, keysO, renl, rent, cll, clt, eq_self, AV.eqv, AC.eqv, eqvl, eqvt, Sl.eqv, rowsLe, mapLL, rowsCl, List.map_append, List.length_map, List.length_append, List.length_set, List.map_replicate, rowG, List.getElem?_cons_zero, List.getElem?_cons_succ, List.getElem?_nil, List.append_nil, List.nil_append, List.cons_append, ghosts, St.gh, Option.some.injEq, implies_true, setT, AV.ren, AC.ren, AV.cl, AC.cl, List.replicate_succ, List.replicate_zero, List.nodup_nil, List.length_nil, List.length_cons, List.getD_cons_zero, List.getD_cons_succ, ↓reduceIte]), by show X.length - (i + 1) < X.length - i; omega⟩
    · obtain rfl : i = X.length := by omega
      simp only [↓WP, ↓grdD, ↓grdT, ↓un_dead, ↓binVC, ↓buildVC, ↓sliceVC, WQ, WN, Int.reduceToNat, renl, cll, rent, clt, ↓reduceIte, Nat.reduceLeDiff, Nat.reduceEqDiff, Nat.reduceLT, reduceCtorEq, List.append_nil, Nat.reduceAdd, Nat.reduceSub, Nat.reduceBEq, forall_const, implies_true, cond_true, cond_false, AV.ren, AC.ren, AV.cl, AC.cl, eq_self, List.all_cons, List.all_nil, AV.eqv, AC.eqv, eqvl, eqvt, Sl.eqv, List.map_append, List.length_map, List.length_append, List.length_replicate, List.length_set, List.map_replicate, nilVC, sd_23, el_23, sz_3, c_impl_CowOk_1, c_impl_wordsOk_1, c_impl_allAre_1, dge hge, hw]
      have := idx_miss he
      rw [this]
end Go.Eng.T
