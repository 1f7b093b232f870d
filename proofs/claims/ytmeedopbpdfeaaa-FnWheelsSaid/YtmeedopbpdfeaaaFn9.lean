/- wheel: slices.SortFunc, for few timers of which all but the last stand right. -/
import Derived.Test.YtmeedopbpdfeaaaFn8
set_option linter.unusedVariables false
set_option linter.unusedSimpArgs false
set_option linter.unusedSectionVars false
namespace Go.Eng.T
open Go.Proofs
open Cel (enc dec)
set_option maxRecDepth 100000
set_option maxHeartbeats 8000000
def insX (X : List T3) (i j : Nat) : List T3 := X.take j ++ X.getD i default :: ((X.take i).drop j ++ X.drop (i + 1))
def srtW (X : List T3) : List T3 := putW (X.take (X.length - 1)) (X.getD (X.length - 1) default)
theorem insX_self {X : List T3} {i : Nat} (hi : i < X.length) : insX X i i = X := by
  unfold insX
  rw [List.drop_eq_nil_of_le (by simp; omega), List.nil_append, getD_of_lt hi, ← List.drop_eq_getElem_cons hi, List.take_append_drop]
theorem insX_len {X : List T3} {i j : Nat} (hi : i < X.length) (hj : j ≤ i) : (insX X i j).length = X.length := by
  unfold insX
  simp
  omega
theorem insX_at {X : List T3} {i j : Nat} (hi : i < X.length) (hj : j ≤ i) : (insX X i j).getD j default = X.getD i default := by
  rw [getD_of_lt (by rw [insX_len hi hj]; omega)]
  unfold insX
  have hl : (X.take j).length = j := by simp; omega
  rw [List.getElem_append_right (by omega)]
  simp [hl]
theorem insX_before {X : List T3} {i j m : Nat} (hi : i < X.length) (hj : j ≤ i) (hm : m < j) : (insX X i j).getD m default = X.getD m default := by
  rw [getD_of_lt (by rw [insX_len hi hj]; omega), getD_of_lt (by omega)]
  unfold insX
  rw [List.getElem_append_left (by simp; omega), List.getElem_take]
theorem insX_step {X : List T3} {i j : Nat} (hi : i < X.length) (hj : j + 1 ≤ i) : ((insX X i (j + 1)).set (j + 1) (X.getD j default)).set j (X.getD i default) = insX X i j := by
  have e1 : X.take (j + 1) = X.take j ++ [X.getD j default] := by rw [getD_of_lt (by omega), List.take_append_getElem]
  have e2 : (X.take i).drop j = X.getD j default :: (X.take i).drop (j + 1) := by
    rw [List.drop_eq_getElem_cons (by simp; omega), List.getElem_take, ← getD_of_lt (by omega)]
  have hl : (X.take j).length = j := by simp; omega
  unfold insX
  rw [e2, e1, List.append_assoc, List.set_append_right _ _ (by omega), hl, List.set_append_right _ _ (by omega), hl, show j + 1 - j = 1 by omega, Nat.sub_self]
  rfl
theorem insX_end {X : List T3} {i j : Nat} (hi : i + 1 = X.length) (hj : j = pI (X.take i) (X.getD i default)) : insX X i j = srtW X := by
  have hl := pI_le (X.take i) (X.getD i default)
  have hl2 : (X.take i).length = i := by simp; omega
  unfold srtW
  rw [show X.length - 1 = i by omega, putW_at, ← hj]
  unfold insX
  rw [List.drop_eq_nil_of_le (show X.length ≤ i + 1 by omega), List.append_nil, List.take_take, Nat.min_eq_left (by omega)]
theorem srtW_len {X : List T3} (h : 1 ≤ X.length) : (srtW X).length = X.length := by
  unfold srtW
  rw [putW_len, List.length_take]
  omega
theorem cmp_lt (x y : T3) : decide ((if x.2.1 < y.2.1 then (-1 : Int) else if y.2.1 < x.2.1 then 1 else if x.1 < y.1 then -1 else if y.1 < x.1 then 1 else 0) < 0) = decide (blt x y) := by
  congr 1
  unfold blt
  rw [eq_iff_iff]
  split
  · constructor <;> intro _ <;> omega
  · split
    · constructor <;> intro _ <;> omega
    · split
      · constructor <;> intro _ <;> omega
      · split <;> (constructor <;> intro _ <;> omega)
def c_slices_insertionSortCmpFunc_Timer : Contract := ⟨64, fun args M => match args with
  | [.c (.sl a n c), .c (.int .i64 p), .c (.int .i64 q), .c (.clo f [])] => specR T3 a n (M a.r) fun ty cap X => .eff (f = 39 ∧ p = 0 ∧ q = n ∧ (1 ≤ n ∧ n ≤ 12) ∧ (X.take (n - 1)).Pairwise blt) Unit (fun _ => True) (fun _ => .tup []) (fun _ => []) (fun _ => [(a.r, rowG true ty cap (srtW X))])
  | _ => .bad⟩
theorem ok_slices_insertionSortCmpFunc_Timer : fnP Try.prog c_slices_insertionSortCmpFunc_Timer.f = true ∧ ∀ args M, (c_slices_insertionSortCmpFunc_Timer.sp args M).OK Try.prog c_slices_insertionSortCmpFunc_Timer.f args M := by
  refine ⟨fp_64, fun args M => ?_⟩
  unfold c_slices_insertionSortCmpFunc_Timer
  dsimp only
  split
  case h_2 => trivial
  rename_i a n c p q f
  refine specR_cases fun ty cap X hM hX hlen hs hi0 hk0 hf0 => ?_
  rintro ⟨rfl, rfl, rfl, ⟨hn1, hn12⟩, hso⟩
  subst hlen
  obtain ⟨r, ai, ak, af⟩ := a
  dsimp only at hi0 hk0 hf0 hM
  subst hi0 hk0 hf0
  refine goIn hf_64 rfl (nt := 53) rfl (rs := []) rfl (C := [c_impl_before]) ⟨(by first | exact .inl ok_impl_before | exact ok_impl_before), trivial⟩ (q := fun f => [].contains f) ⟨fun h => absurd h (by decide), trivial⟩ mixed (O := ots [(4, otl [0, 1, 2, 3, 4, 5, 6, 9, 10, 11] (.alt 7 (otl [8, 12, 13, 14, 15, 16] .nil) (otl [12, 13, 7, 8, 14, 15, 16] .nil))), (6, otl [0, 1, 2, 3, 4, 5, 6, 7, 8, 9, 10, 11, 12, 13, 14, 15, 16, 17] .nil)]) (by kernel_rfl) ?_
  have hw0 : IntKind.i64.wrap (0 + 1) = ((1 : Nat) : Int) := by decide
  simp only [↓WP, ↓grdD, ↓grdT, ↓un_dead, ↓binVC, ↓buildVC, ↓sliceVC, WQ, WN, Int.reduceToNat, renl, cll, rent, clt, ↓reduceIte, Nat.reduceLeDiff, Nat.reduceEqDiff, Nat.reduceLT, reduceCtorEq, List.append_nil, Nat.reduceAdd, Nat.reduceSub, Nat.reduceBEq, forall_const, implies_true, cond_true, cond_false, AV.ren, AC.ren, AV.cl, AC.cl, eq_self, List.all_cons, List.all_nil, AV.eqv, AC.eqv, eqvl, eqvt, Sl.eqv, List.map_append, List.length_map, List.length_append, List.length_replicate, List.length_set, List.map_replicate, nilVC, el_27, sz_51, c_impl_before, hM, hw0]
  refine loopI (J := {i : Nat // 1 ≤ i ∧ i ≤ X.length}) (fun i => ⟨slots 53 [(0, .c (.sl ⟨r.out, 0, 0, 0⟩ X.length c)), (1, I 0), (2, I X.length), (3, .c (.clo 39 [])), (8, I (i.1 : Nat))], M, [(r, rowG true ty cap (if i.1 < X.length then X else srtW X))], []⟩) (fun i => X.length - i.1) ⟨1, Nat.le_refl _, hn1⟩ ?_ ?_
  · refine Le_intro [] ?_
    have : (if 1 < X.length then X else srtW X) = X := by
      split
      · rfl
      · rw [← insX_end (X := X) (i := 0) (j := 0) (by omega) (by unfold pI; simp), insX_self (by omega)]
    simp only [WL, WNL, swA_new, swA_ne, nest_sw_ne, mapLL, List.mem_cons, Nat.reduceAdd, Nat.reduceLT, Nat.reduceLeDiff, Nat.reduceEqDiff, okU, List.nodup_cons, List.not_mem_nil, toT, toL, toO, keysO, renl, rent, cll, clt, eq_self, AV.eqv, AC.eqv, eqvl, eqvt, Sl.eqv, rowsLe, mapLL, rowsCl, List.map_append, List.length_map, List.length_append, List.length_set, List.map_replicate, rowG, List.getElem?_cons_zero, List.getElem?_cons_succ, List.getElem?_nil, List.append_nil, List.nil_append, List.cons_append, ghosts, St.gh, Option.some.injEq, implies_true, setT, AV.ren, AC.ren, AV.cl, AC.cl, List.replicate_succ, List.replicate_zero, List.nodup_nil, List.length_nil, List.length_cons, List.getD_cons_zero, List.getD_cons_succ, ↓reduceIte, this, hM]
    try simp
  rintro ⟨i, hi1, hi⟩
  have hw := wS (i := i) (by omega)
  rcases Nat.lt_or_ge i X.length with hlt | hge
  · simp only [↓WP, ↓grdD, ↓grdT, ↓un_dead, ↓binVC, ↓buildVC, ↓sliceVC, WQ, WN, Int.reduceToNat, renl, cll, rent, clt, ↓reduceIte, Nat.reduceLeDiff, Nat.reduceEqDiff, Nat.reduceLT, reduceCtorEq, List.append_nil, Nat.reduceAdd, Nat.reduceSub, Nat.reduceBEq, forall_const, implies_true, cond_true, cond_false, AV.ren, AC.ren, AV.cl, AC.cl, eq_self, List.all_cons, List.all_nil, AV.eqv, AC.eqv, eqvl, eqvt, Sl.eqv, List.map_append, List.length_map, List.length_append, List.length_replicate, List.length_set, List.map_replicate, nilVC, el_27, sz_51, c_impl_before, dlt hlt, hw, if_pos hlt]
    refine loopI (J := {j : Nat // j ≤ i ∧ ∀ m, j ≤ m → m < i → blt (X.getD i default) (X.getD m default)}) (fun j => ⟨slots 53 [(0, .c (.sl ⟨r.out, 0, 0, 0⟩ X.length c)), (1, I 0), (2, I X.length), (3, .c (.clo 39 [])), (8, I (i : Nat)), (9, I (j.1 : Nat))], M, [(r, rowG true ty cap (insX X i j.1))], []⟩) (fun j => j.1) ⟨i, Nat.le_refl _, fun m h1 h2 => by omega⟩ (Le_intro [] (by simp only [WL, WNL, swA_new, swA_ne, nest_sw_ne, mapLL, List.mem_cons, Nat.reduceAdd, Nat.reduceLT, Nat.reduceLeDiff, Nat.reduceEqDiff, okU, List.nodup_cons, List.not_mem_nil, toT, toL, toO, keysO, renl, rent, cll, clt, eq_self, AV.eqv, AC.eqv, eqvl, eqvt, Sl.eqv, rowsLe, mapLL, rowsCl, List.map_append, List.length_map, List.length_append, List.length_set, List.map_replicate, rowG, List.getElem?_cons_zero, List.getElem?_cons_succ, List.getElem?_nil, List.append_nil, List.nil_append, List.cons_append, ghosts, St.gh, Option.some.injEq, implies_true, setT, AV.ren, AC.ren, AV.cl, AC.cl, List.replicate_succ, List.replicate_zero, List.nodup_nil, List.length_nil, List.length_cons, List.getD_cons_zero, List.getD_cons_succ, ↓reduceIte, insX_self hlt]; try simp)) ?_
    rintro ⟨j, hj, hb⟩
    have hIl := insX_len hlt hj
    have hga : (List.map enc (insX X i j)).getD j [] = [AC.int .i64 (X.getD i default).1, AC.int .i64 (X.getD i default).2.1, AC.int .i64 (X.getD i default).2.2] := by rw [getD_enc _ _ (by omega), insX_at hlt hj]; rfl
    have fin : (j = 0 ∨ ¬ blt (X.getD i default) (X.getD (j - 1) default)) → insX X i j = if i + 1 < X.length then X else srtW X := fun h => by
      by_cases hl : i + 1 < X.length
      · rw [if_pos hl]
        rcases Nat.lt_or_ge j i with hji | hji
        · have h1 := hb j (Nat.le_refl _) hji
          rw [List.pairwise_iff_getElem] at hso
          have h2 := hso j i (by simp; omega) (by simp; omega) hji
          rw [List.getElem_take, List.getElem_take, ← getD_of_lt (by omega), ← getD_of_lt (by omega)] at h2
          exact absurd h1 (blt_asym h2)
        · obtain rfl : j = i := by omega
          exact insX_self hlt
      · rw [if_neg hl]
        refine insX_end (by omega) (pI_eq (by simp; omega) (fun m hm => ?_) (fun hm => ?_)).symm
        · have e : (X.take i).getD m default = X.getD m default := by rw [getD_of_lt (by simp; omega), getD_of_lt (by omega), List.getElem_take]
          rw [e]
          rcases h with h | h
          · omega
          · rcases Nat.lt_or_ge m (j - 1) with h3 | h3
            · rw [List.pairwise_iff_getElem] at hso
              have h2 := hso m (j - 1) (by simp; omega) (by simp; omega) h3
              rw [List.getElem_take, List.getElem_take, ← getD_of_lt (by omega), ← getD_of_lt (by omega)] at h2
              exact fun h4 => h (blt_trans h4 h2)
            · obtain rfl : m = j - 1 := by omega
              exact h
        · have hm : j < i := by simp at hm; omega
          have e : (X.take i).getD j default = X.getD j default := by rw [getD_of_lt (by simp; omega), getD_of_lt (by omega), List.getElem_take]
          rw [e]
          exact hb j (Nat.le_refl _) hm
    rcases j with _ | j
    · have hj0 : decide (((0 : Nat) : Int) > 0) = false := by decide
      have hwm : IntKind.i64.wrap (((0 : Nat) : Int) - 1) = -1 := by decide
      have hcm := cmp_lt (X.getD i default) (X.getD i default)
      simp only [↓WP, ↓grdD, ↓grdT, ↓un_dead, ↓binVC, ↓buildVC, ↓sliceVC, WQ, WN, Int.reduceToNat, renl, cll, rent, clt, ↓reduceIte, Nat.reduceLeDiff, Nat.reduceEqDiff, Nat.reduceLT, reduceCtorEq, List.append_nil, Nat.reduceAdd, Nat.reduceSub, Nat.reduceBEq, forall_const, implies_true, cond_true, cond_false, AV.ren, AC.ren, AV.cl, AC.cl, eq_self, List.all_cons, List.all_nil, AV.eqv, AC.eqv, eqvl, eqvt, Sl.eqv, List.map_append, List.length_map, List.length_append, List.length_replicate, List.length_set, List.map_replicate, nilVC, el_27, sz_51, c_impl_before, hj0, hwm, hga, hcm, hIl]
      repeat' (first | with_reducible refine And.intro ?_ ?_ | intro _)
      all_goals try omega
      all_goals exact ⟨⟨i + 1, by omega, hlt⟩, Le_intro [] (by simp only [WL, WNL, swA_new, swA_ne, nest_sw_ne, mapLL, List.mem_cons, Nat.reduceAdd, Nat.reduceLT, Nat.reduceLeDiff, Nat.reduceEqDiff, okU, List.nodup_cons, List.not_mem_nil, toT, toL, toO, keysO, renl, rent, cll, clt, eq_self, AV.eqv, AC.eqv, eqvl, eqvt, Sl.eqv, rowsLe, mapLL, rowsCl, List.map_append, List.length_map, List.length_append, List.length_set, List.map_replicate, rowG, List.getElem?_cons_zero, List.getElem?_cons_succ, List.getElem?_nil, List.append_nil, List.nil_append, List.cons_append, ghosts, St.gh, Option.some.injEq, implies_true, setT, AV.ren, AC.ren, AV.cl, AC.cl, List.replicate_succ, List.replicate_zero, List.nodup_nil, List.length_nil, List.length_cons, List.getD_cons_zero, List.getD_cons_succ, ↓reduceIte, hw, fin (.inl rfl)]; try simp), by show X.length - (i + 1) < X.length - i; omega⟩
    · have hj0 : decide (((j + 1 : Nat) : Int) > 0) = true := decide_eq_true (by omega)
      have hjw : IntKind.i64.wrap (((j + 1 : Nat) : Int) - 1) = (j : Int) := by rw [w64 (by omega) (by omega)]; omega
      have hgb : (List.map enc (insX X i (j + 1))).getD j [] = [AC.int .i64 (X.getD j default).1, AC.int .i64 (X.getD j default).2.1, AC.int .i64 (X.getD j default).2.2] := by rw [getD_enc _ _ (by omega), insX_before hlt hj (by omega)]; rfl
      have hcm := cmp_lt (X.getD i default) (X.getD j default)
      by_cases hc : blt (X.getD i default) (X.getD j default)
      · rw [decide_eq_true hc] at hcm
        have hset : ((List.map enc (insX X i (j + 1))).set (j + 1) [AC.int .i64 (X.getD j default).1, AC.int .i64 (X.getD j default).2.1, AC.int .i64 (X.getD j default).2.2]).set j [AC.int .i64 (X.getD i default).1, AC.int .i64 (X.getD i default).2.1, AC.int .i64 (X.getD i default).2.2] = List.map enc (insX X i j) := by
          rw [← insX_step hlt hj, List.map_set, List.map_set]; rfl
        simp only [↓WP, ↓grdD, ↓grdT, ↓un_dead, ↓binVC, ↓buildVC, ↓sliceVC, WQ, WN, Int.reduceToNat, renl, cll, rent, clt, ↓reduceIte, Nat.reduceLeDiff, Nat.reduceEqDiff, Nat.reduceLT, reduceCtorEq, List.append_nil, Nat.reduceAdd, Nat.reduceSub, Nat.reduceBEq, forall_const, implies_true, cond_true, cond_false, AV.ren, AC.ren, AV.cl, AC.cl, eq_self, List.all_cons, List.all_nil, AV.eqv, AC.eqv, eqvl, eqvt, Sl.eqv, List.map_append, List.length_map, List.length_append, List.length_replicate, List.length_set, List.map_replicate, nilVC, el_27, sz_51, c_impl_before, hj0, hjw, hga, hgb, hcm, hset, hIl]
        repeat' (first | with_reducible refine And.intro ?_ ?_ | intro _)
        all_goals try omega
        all_goals exact ⟨⟨j, by omega, fun m h1 h2 => by
          rcases Nat.eq_or_lt_of_le h1 with h3 | h3
          · exact h3 ▸ hc
          · exact hb m h3 h2⟩, Le_intro [] (by simp only [WL, WNL, swA_new, swA_ne, nest_sw_ne, mapLL, List.mem_cons, Nat.reduceAdd, Nat.reduceLT, Nat.reduceLeDiff, Nat.reduceEqDiff, okU, List.nodup_cons, List.not_mem_nil, toT, toL, toO, keysO, renl, rent, cll, clt, eq_self, AV.eqv, AC.eqv, eqvl, eqvt, Sl.eqv, rowsLe, mapLL, rowsCl, List.map_append, List.length_map, List.length_append, List.length_set, List.map_replicate, rowG, List.getElem?_cons_zero, List.getElem?_cons_succ, List.getElem?_nil, List.append_nil, List.nil_append, List.cons_append, ghosts, St.gh, Option.some.injEq, implies_true, setT, AV.ren, AC.ren, AV.cl, AC.cl, List.replicate_succ, List.replicate_zero, List.nodup_nil, List.length_nil, List.length_cons, List.getD_cons_zero, List.getD_cons_succ, ↓reduceIte]; try simp), Nat.lt_succ_self j⟩
      · rw [decide_eq_false hc] at hcm
        simp only [↓WP, ↓grdD, ↓grdT, ↓un_dead, ↓binVC, ↓buildVC, ↓sliceVC, WQ, WN, Int.reduceToNat, renl, cll, rent, clt, ↓reduceIte, Nat.reduceLeDiff, Nat.reduceEqDiff, Nat.reduceLT, reduceCtorEq, List.append_nil, Nat.reduceAdd, Nat.reduceSub, Nat.reduceBEq, forall_const, implies_true, cond_true, cond_false, AV.ren, AC.ren, AV.cl, AC.cl, eq_self, List.all_cons, List.all_nil, AV.eqv, AC.eqv, eqvl, eqvt, Sl.eqv, List.map_append, List.length_map, List.length_append, List.length_replicate, List.length_set, List.map_replicate, nilVC, el_27, sz_51, c_impl_before, hj0, hjw, hga, hgb, hcm, hIl]
        repeat' (first | with_reducible refine And.intro ?_ ?_ | intro _)
        all_goals try omega
        all_goals exact ⟨⟨i + 1, by omega, hlt⟩, Le_intro [] (by simp only [WL, WNL, swA_new, swA_ne, nest_sw_ne, mapLL, List.mem_cons, Nat.reduceAdd, Nat.reduceLT, Nat.reduceLeDiff, Nat.reduceEqDiff, okU, List.nodup_cons, List.not_mem_nil, toT, toL, toO, keysO, renl, rent, cll, clt, eq_self, AV.eqv, AC.eqv, eqvl, eqvt, Sl.eqv, rowsLe, mapLL, rowsCl, List.map_append, List.length_map, List.length_append, List.length_set, List.map_replicate, rowG, List.getElem?_cons_zero, List.getElem?_cons_succ, List.getElem?_nil, List.append_nil, List.nil_append, List.cons_append, ghosts, St.gh, Option.some.injEq, implies_true, setT, AV.ren, AC.ren, AV.cl, AC.cl, List.replicate_succ, List.replicate_zero, List.nodup_nil, List.length_nil, List.length_cons, List.getD_cons_zero, List.getD_cons_succ, ↓reduceIte, hw, fin (.inr hc)]; try simp), by show X.length - (i + 1) < X.length - i; omega⟩
  · obtain rfl : i = X.length := by omega
    simp only [↓WP, ↓grdD, ↓grdT, ↓un_dead, ↓binVC, ↓buildVC, ↓sliceVC, WQ, WN, Int.reduceToNat, renl, cll, rent, clt, ↓reduceIte, Nat.reduceLeDiff, Nat.reduceEqDiff, Nat.reduceLT, reduceCtorEq, List.append_nil, Nat.reduceAdd, Nat.reduceSub, Nat.reduceBEq, forall_const, implies_true, cond_true, cond_false, AV.ren, AC.ren, AV.cl, AC.cl, eq_self, List.all_cons, List.all_nil, AV.eqv, AC.eqv, eqvl, eqvt, Sl.eqv, List.map_append, List.length_map, List.length_append, List.length_replicate, List.length_set, List.map_replicate, nilVC, el_27, sz_51, c_impl_before, dge hge, hw, if_neg (Nat.lt_irrefl _)]
    refine end_ret ?_
    simp only [↓WP, ↓grdD, ↓grdT, ↓un_dead, ↓binVC, ↓buildVC, ↓sliceVC, WQ, WN, Int.reduceToNat, renl, cll, rent, clt, ↓reduceIte, Nat.reduceLeDiff, Nat.reduceEqDiff, Nat.reduceLT, reduceCtorEq, List.append_nil, Nat.reduceAdd, Nat.reduceSub, Nat.reduceBEq, forall_const, implies_true, cond_true, cond_false, AV.ren, AC.ren, AV.cl, AC.cl, eq_self, List.all_cons, List.all_nil, AV.eqv, AC.eqv, eqvl, eqvt, Sl.eqv, List.map_append, List.length_map, List.length_append, List.length_replicate, List.length_set, List.map_replicate, nilVC, el_27, sz_51, c_impl_before]
    refine ⟨(), [], [], ?_⟩
    simp only [WL, WNL, swA_new, swA_ne, nest_sw_ne, mapLL, List.mem_cons, Nat.reduceAdd, Nat.reduceLT, Nat.reduceLeDiff, Nat.reduceEqDiff, okU, List.nodup_cons, List.not_mem_nil, toT, toL, toO, keysO, renl, rent, cll, clt, eq_self, AV.eqv, AC.eqv, eqvl, eqvt, Sl.eqv, rowsLe, mapLL, rowsCl, List.map_append, List.length_map, List.length_append, List.length_set, List.map_replicate, rowG, List.getElem?_cons_zero, List.getElem?_cons_succ, List.getElem?_nil, List.append_nil, List.nil_append, List.cons_append, ghosts, St.gh, Option.some.injEq, implies_true, setT, AV.ren, AC.ren, AV.cl, AC.cl, List.replicate_succ, List.replicate_zero, List.nodup_nil, List.length_nil, List.length_cons, List.getD_cons_zero, List.getD_cons_succ, ↓reduceIte, retP]
    simp [okU, hM]
def c_slices_heapSortCmpFunc_Timer : Contract := ⟨65, fun _ _ => .bad⟩
theorem ok_slices_heapSortCmpFunc_Timer : fnP Try.prog c_slices_heapSortCmpFunc_Timer.f = true ∧ ∀ args M, (c_slices_heapSortCmpFunc_Timer.sp args M).OK Try.prog c_slices_heapSortCmpFunc_Timer.f args M := ⟨fp_65, fun _ _ => trivial⟩
def c_slices_breakPatternsCmpFunc_Timer : Contract := ⟨66, fun _ _ => .bad⟩
theorem ok_slices_breakPatternsCmpFunc_Timer : fnP Try.prog c_slices_breakPatternsCmpFunc_Timer.f = true ∧ ∀ args M, (c_slices_breakPatternsCmpFunc_Timer.sp args M).OK Try.prog c_slices_breakPatternsCmpFunc_Timer.f args M := ⟨fp_66, fun _ _ => trivial⟩
def c_slices_choosePivotCmpFunc_Timer : Contract := ⟨67, fun _ _ => .bad⟩
theorem ok_slices_choosePivotCmpFunc_Timer : fnP Try.prog c_slices_choosePivotCmpFunc_Timer.f = true ∧ ∀ args M, (c_slices_choosePivotCmpFunc_Timer.sp args M).OK Try.prog c_slices_choosePivotCmpFunc_Timer.f args M := ⟨fp_67, fun _ _ => trivial⟩
def c_slices_reverseRangeCmpFunc_Timer : Contract := ⟨68, fun _ _ => .bad⟩
theorem ok_slices_reverseRangeCmpFunc_Timer : fnP Try.prog c_slices_reverseRangeCmpFunc_Timer.f = true ∧ ∀ args M, (c_slices_reverseRangeCmpFunc_Timer.sp args M).OK Try.prog c_slices_reverseRangeCmpFunc_Timer.f args M := ⟨fp_68, fun _ _ => trivial⟩
def c_slices_partialInsertionSortCmpFunc_Timer : Contract := ⟨69, fun _ _ => .bad⟩
theorem ok_slices_partialInsertionSortCmpFunc_Timer : fnP Try.prog c_slices_partialInsertionSortCmpFunc_Timer.f = true ∧ ∀ args M, (c_slices_partialInsertionSortCmpFunc_Timer.sp args M).OK Try.prog c_slices_partialInsertionSortCmpFunc_Timer.f args M := ⟨fp_69, fun _ _ => trivial⟩
def c_slices_partitionEqualCmpFunc_Timer : Contract := ⟨70, fun _ _ => .bad⟩
theorem ok_slices_partitionEqualCmpFunc_Timer : fnP Try.prog c_slices_partitionEqualCmpFunc_Timer.f = true ∧ ∀ args M, (c_slices_partitionEqualCmpFunc_Timer.sp args M).OK Try.prog c_slices_partitionEqualCmpFunc_Timer.f args M := ⟨fp_70, fun _ _ => trivial⟩
def c_slices_partitionCmpFunc_Timer : Contract := ⟨71, fun _ _ => .bad⟩
theorem ok_slices_partitionCmpFunc_Timer : fnP Try.prog c_slices_partitionCmpFunc_Timer.f = true ∧ ∀ args M, (c_slices_partitionCmpFunc_Timer.sp args M).OK Try.prog c_slices_partitionCmpFunc_Timer.f args M := ⟨fp_71, fun _ _ => trivial⟩
def c_slices_pdqsortCmpFunc_Timer_self : Contract := ⟨60, fun _ _ => .bad⟩
theorem ok_slices_pdqsortCmpFunc_Timer_self : fnP Try.prog c_slices_pdqsortCmpFunc_Timer_self.f = true ∧ ∀ args M, (c_slices_pdqsortCmpFunc_Timer_self.sp args M).OK Try.prog c_slices_pdqsortCmpFunc_Timer_self.f args M := ⟨fp_60, fun _ _ => trivial⟩
def c_slices_pdqsortCmpFunc_Timer : Contract := ⟨60, fun args M => match args with
  | [.c (.sl a n c), .c (.int .i64 p), .c (.int .i64 q), .c (.int .i64 _), .c (.clo f [])] => specR T3 a n (M a.r) fun ty cap X => .eff (f = 39 ∧ p = 0 ∧ q = n ∧ (1 ≤ n ∧ n ≤ 12) ∧ (X.take (n - 1)).Pairwise blt) Unit (fun _ => True) (fun _ => .tup []) (fun _ => []) (fun _ => [(a.r, rowG true ty cap (srtW X))])
  | _ => .bad⟩
theorem ok_slices_pdqsortCmpFunc_Timer : fnP Try.prog c_slices_pdqsortCmpFunc_Timer.f = true ∧ ∀ args M, (c_slices_pdqsortCmpFunc_Timer.sp args M).OK Try.prog c_slices_pdqsortCmpFunc_Timer.f args M := by
  refine ⟨fp_60, fun args M => ?_⟩
  unfold c_slices_pdqsortCmpFunc_Timer
  dsimp only
  split
  case h_2 => trivial
  rename_i a n c p q lim f
  refine specR_cases fun ty cap X hM hX hlen hs hi0 hk0 hf0 => ?_
  rintro ⟨rfl, rfl, rfl, ⟨hn1, hn12⟩, hso⟩
  subst hlen
  obtain ⟨r, ai, ak, af⟩ := a
  dsimp only at hi0 hk0 hf0 hM
  subst hi0 hk0 hf0
  refine goIn hf_60 rfl (nt := 148) rfl (rs := []) rfl (C := [c_slices_insertionSortCmpFunc_Timer, c_slices_heapSortCmpFunc_Timer, c_slices_breakPatternsCmpFunc_Timer, c_slices_choosePivotCmpFunc_Timer, c_slices_reverseRangeCmpFunc_Timer, c_slices_partialInsertionSortCmpFunc_Timer, c_slices_partitionEqualCmpFunc_Timer, c_slices_partitionCmpFunc_Timer, c_slices_pdqsortCmpFunc_Timer_self]) ⟨(by first | exact .inl ok_slices_insertionSortCmpFunc_Timer | exact ok_slices_insertionSortCmpFunc_Timer), (by first | exact .inl ok_slices_heapSortCmpFunc_Timer | exact ok_slices_heapSortCmpFunc_Timer), (by first | exact .inl ok_slices_breakPatternsCmpFunc_Timer | exact ok_slices_breakPatternsCmpFunc_Timer), (by first | exact .inl ok_slices_choosePivotCmpFunc_Timer | exact ok_slices_choosePivotCmpFunc_Timer), (by first | exact .inl ok_slices_reverseRangeCmpFunc_Timer | exact ok_slices_reverseRangeCmpFunc_Timer), (by first | exact .inl ok_slices_partialInsertionSortCmpFunc_Timer | exact ok_slices_partialInsertionSortCmpFunc_Timer), (by first | exact .inl ok_slices_partitionEqualCmpFunc_Timer | exact ok_slices_partitionEqualCmpFunc_Timer), (by first | exact .inl ok_slices_partitionCmpFunc_Timer | exact ok_slices_partitionCmpFunc_Timer), (by first | exact .inl ok_slices_pdqsortCmpFunc_Timer_self | exact ok_slices_pdqsortCmpFunc_Timer_self), trivial⟩ (q := fun f => [].contains f) ⟨fun h => absurd h (by decide), fun h => absurd h (by decide), fun h => absurd h (by decide), fun h => absurd h (by decide), fun h => absurd h (by decide), fun h => absurd h (by decide), fun h => absurd h (by decide), fun h => absurd h (by decide), fun h => absurd h (by decide), trivial⟩ mixed (O := ots [(17, otl [0, 1, 2, 3, 4, 5, 6, 9, 10] (.alt 7 (otl [8, 11, 12, 13, 14, 15, 16] .nil) (otl [11, 12, 7, 8, 13, 14, 15, 16] .nil)))]) (by kernel_rfl) ?_
  have hw0 : IntKind.i64.wrap ((X.length : Int) - 0) = X.length := by rw [Int.sub_zero]; exact w64 (by omega) (by omega)
  have hl : decide ((X.length : Int) ≤ 12) = true := decide_eq_true (by omega)
  simp only [↓WP, ↓grdD, ↓grdT, ↓un_dead, ↓binVC, ↓buildVC, ↓sliceVC, WQ, WN, Int.reduceToNat, renl, cll, rent, clt, ↓reduceIte, Nat.reduceLeDiff, Nat.reduceEqDiff, Nat.reduceLT, reduceCtorEq, List.append_nil, Nat.reduceAdd, Nat.reduceSub, Nat.reduceBEq, forall_const, implies_true, cond_true, cond_false, AV.ren, AC.ren, AV.cl, AC.cl, eq_self, List.all_cons, List.all_nil, AV.eqv, AC.eqv, eqvl, eqvt, Sl.eqv, List.map_append, List.length_map, List.length_append, List.length_replicate, List.length_set, List.map_replicate, nilVC, el_27, sz_51, c_slices_insertionSortCmpFunc_Timer, c_slices_heapSortCmpFunc_Timer, c_slices_breakPatternsCmpFunc_Timer, c_slices_choosePivotCmpFunc_Timer, c_slices_reverseRangeCmpFunc_Timer, c_slices_partialInsertionSortCmpFunc_Timer, c_slices_partitionEqualCmpFunc_Timer, c_slices_partitionCmpFunc_Timer, c_slices_pdqsortCmpFunc_Timer_self, hM]
  refine loopI (J := Unit) (fun _ => ⟨slots 148 [(0, .c (.sl ⟨r.out, 0, 0, 0⟩ X.length c)), (1, I 0), (2, I X.length), (3, I lim), (4, .c (.clo 39 [])), (10, Eng.B true), (11, Eng.B true)], M, [], []⟩) (fun _ => 0) () ?_ ?_
  · refine Le_intro [] (by simp only [WL, WNL, swA_new, swA_ne, nest_sw_ne, mapLL, List.mem_cons, Nat.reduceAdd, Nat.reduceLT, Nat.reduceLeDiff, Nat.reduceEqDiff, okU, List.nodup_cons, List.not_mem_nil, toT, toL, toO, keysO, renl, rent, cll, clt, eq_self, AV.eqv, AC.eqv, eqvl, eqvt, Sl.eqv, rowsLe, mapLL, rowsCl, List.map_append, List.length_map, List.length_append, List.length_set, List.map_replicate, rowG, List.getElem?_cons_zero, List.getElem?_cons_succ, List.getElem?_nil, List.append_nil, List.nil_append, List.cons_append, ghosts, St.gh, Option.some.injEq, implies_true, setT, AV.ren, AC.ren, AV.cl, AC.cl, List.replicate_succ, List.replicate_zero, List.nodup_nil, List.length_nil, List.length_cons, List.getD_cons_zero, List.getD_cons_succ, ↓reduceIte]; try simp)
  rintro ⟨⟩
  simp only [↓WP, ↓grdD, ↓grdT, ↓un_dead, ↓binVC, ↓buildVC, ↓sliceVC, WQ, WN, Int.reduceToNat, renl, cll, rent, clt, ↓reduceIte, Nat.reduceLeDiff, Nat.reduceEqDiff, Nat.reduceLT, reduceCtorEq, List.append_nil, Nat.reduceAdd, Nat.reduceSub, Nat.reduceBEq, forall_const, implies_true, cond_true, cond_false, AV.ren, AC.ren, AV.cl, AC.cl, eq_self, List.all_cons, List.all_nil, AV.eqv, AC.eqv, eqvl, eqvt, Sl.eqv, List.map_append, List.length_map, List.length_append, List.length_replicate, List.length_set, List.map_replicate, nilVC, el_27, sz_51, c_slices_insertionSortCmpFunc_Timer, c_slices_heapSortCmpFunc_Timer, c_slices_breakPatternsCmpFunc_Timer, c_slices_choosePivotCmpFunc_Timer, c_slices_reverseRangeCmpFunc_Timer, c_slices_partialInsertionSortCmpFunc_Timer, c_slices_partitionEqualCmpFunc_Timer, c_slices_partitionCmpFunc_Timer, c_slices_pdqsortCmpFunc_Timer_self, hM, hw0, hl]
  refine ⟨⟨hs, ⟨hn1, hn12⟩, hso⟩, end_ret ?_⟩
  simp only [↓WP, ↓grdD, ↓grdT, ↓un_dead, ↓binVC, ↓buildVC, ↓sliceVC, WQ, WN, Int.reduceToNat, renl, cll, rent, clt, ↓reduceIte, Nat.reduceLeDiff, Nat.reduceEqDiff, Nat.reduceLT, reduceCtorEq, List.append_nil, Nat.reduceAdd, Nat.reduceSub, Nat.reduceBEq, forall_const, implies_true, cond_true, cond_false, AV.ren, AC.ren, AV.cl, AC.cl, eq_self, List.all_cons, List.all_nil, AV.eqv, AC.eqv, eqvl, eqvt, Sl.eqv, List.map_append, List.length_map, List.length_append, List.length_replicate, List.length_set, List.map_replicate, nilVC, el_27, sz_51, c_slices_insertionSortCmpFunc_Timer, c_slices_heapSortCmpFunc_Timer, c_slices_breakPatternsCmpFunc_Timer, c_slices_choosePivotCmpFunc_Timer, c_slices_reverseRangeCmpFunc_Timer, c_slices_partialInsertionSortCmpFunc_Timer, c_slices_partitionEqualCmpFunc_Timer, c_slices_partitionCmpFunc_Timer, c_slices_pdqsortCmpFunc_Timer_self]
  refine ⟨(), [], [], ?_⟩
  simp only [WL, WNL, swA_new, swA_ne, nest_sw_ne, mapLL, List.mem_cons, Nat.reduceAdd, Nat.reduceLT, Nat.reduceLeDiff, Nat.reduceEqDiff, okU, List.nodup_cons, List.not_mem_nil, toT, toL, toO, keysO, renl, rent, cll, clt, eq_self, AV.eqv, AC.eqv, eqvl, eqvt, Sl.eqv, rowsLe, mapLL, rowsCl, List.map_append, List.length_map, List.length_append, List.length_set, List.map_replicate, rowG, List.getElem?_cons_zero, List.getElem?_cons_succ, List.getElem?_nil, List.append_nil, List.nil_append, List.cons_append, ghosts, St.gh, Option.some.injEq, implies_true, setT, AV.ren, AC.ren, AV.cl, AC.cl, List.replicate_succ, List.replicate_zero, List.nodup_nil, List.length_nil, List.length_cons, List.getD_cons_zero, List.getD_cons_succ, ↓reduceIte, retP]
  simp [okU, hM]
def c_math_bits_Len32 : Contract := ⟨72, fun _ _ => .bad⟩
theorem ok_math_bits_Len32 : fnP Try.prog c_math_bits_Len32.f = true ∧ ∀ args M, (c_math_bits_Len32.sp args M).OK Try.prog c_math_bits_Len32.f args M := ⟨fp_72, fun _ _ => trivial⟩
def c_math_bits_Len64 : Contract := ⟨73, fun args M => match args with
  | [.c (.int .u64 x)] => .eff (0 ≤ x ∧ x ≤ 12) Int (fun _ => True) (fun q => I q) (fun _ => []) (fun _ => [])
  | _ => .bad⟩
theorem ok_math_bits_Len64 : fnP Try.prog c_math_bits_Len64.f = true ∧ ∀ args M, (c_math_bits_Len64.sp args M).OK Try.prog c_math_bits_Len64.f args M := by
  refine ⟨fp_73, fun args M => ?_⟩
  unfold c_math_bits_Len64
  dsimp only
  split
  case h_2 => trivial
  rename_i x
  rintro ⟨h0, h1⟩
  refine goIn hf_73 rfl (nt := 25) rfl (rs := [.tmp 2]) rfl (C := []) trivial (q := fun _ => false) okQ_none mixed (O := fun _ => .nil) (by kernel_rfl) ?_
  have d1 : decide (x ≥ 4294967296) = false := decide_eq_false (by omega)
  have d2 : decide (x ≥ 65536) = false := decide_eq_false (by omega)
  have d3 : decide (x ≥ 256) = false := decide_eq_false (by omega)
  have hw : IntKind.u8.wrap x = x := by
    unfold IntKind.wrap
    simp [IntKind.bits, IntKind.signed]
    omega
  simp only [↓WP, ↓grdD, ↓grdT, ↓un_dead, ↓binVC, ↓buildVC, ↓sliceVC, WQ, WN, Int.reduceToNat, renl, cll, rent, clt, ↓reduceIte, Nat.reduceLeDiff, Nat.reduceEqDiff, Nat.reduceLT, reduceCtorEq, List.append_nil, Nat.reduceAdd, Nat.reduceSub, Nat.reduceBEq, forall_const, implies_true, cond_true, cond_false, AV.ren, AC.ren, AV.cl, AC.cl, eq_self, List.all_cons, List.all_nil, AV.eqv, AC.eqv, eqvl, eqvt, Sl.eqv, List.map_append, List.length_map, List.length_append, List.length_replicate, List.length_set, List.map_replicate, nilVC, cv_93_5, st_9, cv_5_3, d1, d2, d3, hw]
  refine ⟨⟨h0, Int.lt_of_le_of_lt h1 (of_decide_eq_true (by kernel_rfl))⟩, end_ret ?_⟩
  simp only [↓WP, ↓grdD, ↓grdT, ↓un_dead, ↓binVC, ↓buildVC, ↓sliceVC, WQ, WN, Int.reduceToNat, renl, cll, rent, clt, ↓reduceIte, Nat.reduceLeDiff, Nat.reduceEqDiff, Nat.reduceLT, reduceCtorEq, List.append_nil, Nat.reduceAdd, Nat.reduceSub, Nat.reduceBEq, forall_const, implies_true, cond_true, cond_false, AV.ren, AC.ren, AV.cl, AC.cl, eq_self, List.all_cons, List.all_nil, AV.eqv, AC.eqv, eqvl, eqvt, Sl.eqv, List.map_append, List.length_map, List.length_append, List.length_replicate, List.length_set, List.map_replicate, nilVC, cv_93_5, st_9, cv_5_3]
  apply Exists.intro
  refine ⟨[], [], ?q1, ⟨rfl, List.nodup_nil, trivial, ?k1, ?o1⟩, ⟨?e1, ?cl⟩, ?u1⟩
  case e1 => exact ⟨rfl, rfl⟩
  case cl => trivial
  case o1 => simp [WL, WNL, swA_new, swA_ne, nest_sw_ne, mapLL, List.mem_cons, Nat.reduceAdd, Nat.reduceLT, Nat.reduceLeDiff, Nat.reduceEqDiff, okU, List.nodup_cons, List.not_mem_nil, toT, toL, toO, keysO, renl, rent, cll, clt, eq_self, AV.eqv, AC.eqv, eqvl, eqvt, Sl.eqv, rowsLe, mapLL, rowsCl, List.map_append, List.length_map, List.length_append, List.length_set, List.map_replicate, rowG, List.getElem?_cons_zero, List.getElem?_cons_succ, List.getElem?_nil, List.append_nil, List.nil_append, List.cons_append, ghosts, St.gh, Option.some.injEq, implies_true, setT, AV.ren, AC.ren, AV.cl, AC.cl, List.replicate_succ, List.replicate_zero, List.nodup_nil, List.length_nil, List.length_cons, List.getD_cons_zero, List.getD_cons_succ, ↓reduceIte]
  case k1 => simp [WL, WNL, swA_new, swA_ne, nest_sw_ne, mapLL, List.mem_cons, Nat.reduceAdd, Nat.reduceLT, Nat.reduceLeDiff, Nat.reduceEqDiff, okU, List.nodup_cons, List.not_mem_nil, toT, toL, toO, keysO, renl, rent, cll, clt, eq_self, AV.eqv, AC.eqv, eqvl, eqvt, Sl.eqv, rowsLe, mapLL, rowsCl, List.map_append, List.length_map, List.length_append, List.length_set, List.map_replicate, rowG, List.getElem?_cons_zero, List.getElem?_cons_succ, List.getElem?_nil, List.append_nil, List.nil_append, List.cons_append, ghosts, St.gh, Option.some.injEq, implies_true, setT, AV.ren, AC.ren, AV.cl, AC.cl, List.replicate_succ, List.replicate_zero, List.nodup_nil, List.length_nil, List.length_cons, List.getD_cons_zero, List.getD_cons_succ, ↓reduceIte]
  case u1 => simp [okU]
  case q1 => trivial
def c_math_bits_Len : Contract := ⟨61, fun args M => match args with
  | [.c (.int .u64 x)] => .eff (0 ≤ x ∧ x ≤ 12) Int (fun _ => True) (fun q => I q) (fun _ => []) (fun _ => [])
  | _ => .bad⟩
theorem ok_math_bits_Len : fnP Try.prog c_math_bits_Len.f = true ∧ ∀ args M, (c_math_bits_Len.sp args M).OK Try.prog c_math_bits_Len.f args M := by
  refine ⟨fp_61, fun args M => ?_⟩
  unfold c_math_bits_Len
  dsimp only
  split
  case h_2 => trivial
  rename_i x
  rintro ⟨h0, h1⟩
  refine goIn hf_61 rfl (nt := 8) rfl (rs := [.tmp 2]) rfl (C := [c_math_bits_Len32, c_math_bits_Len64]) ⟨(by first | exact .inl ok_math_bits_Len32 | exact ok_math_bits_Len32), (by first | exact .inl ok_math_bits_Len64 | exact ok_math_bits_Len64), trivial⟩ (q := fun _ => false) okQ_none mixed (O := fun _ => .nil) (by kernel_rfl) ?_
  simp only [↓WP, ↓grdD, ↓grdT, ↓un_dead, ↓binVC, ↓buildVC, ↓sliceVC, WQ, WN, Int.reduceToNat, renl, cll, rent, clt, ↓reduceIte, Nat.reduceLeDiff, Nat.reduceEqDiff, Nat.reduceLT, reduceCtorEq, List.append_nil, Nat.reduceAdd, Nat.reduceSub, Nat.reduceBEq, forall_const, implies_true, cond_true, cond_false, AV.ren, AC.ren, AV.cl, AC.cl, eq_self, List.all_cons, List.all_nil, AV.eqv, AC.eqv, eqvl, eqvt, Sl.eqv, List.map_append, List.length_map, List.length_append, List.length_replicate, List.length_set, List.map_replicate, nilVC, cv_77_91, c_math_bits_Len32, c_math_bits_Len64]
  refine ⟨⟨h0, h1⟩, fun p => end_ret ?_⟩
  simp only [↓WP, ↓grdD, ↓grdT, ↓un_dead, ↓binVC, ↓buildVC, ↓sliceVC, WQ, WN, Int.reduceToNat, renl, cll, rent, clt, ↓reduceIte, Nat.reduceLeDiff, Nat.reduceEqDiff, Nat.reduceLT, reduceCtorEq, List.append_nil, Nat.reduceAdd, Nat.reduceSub, Nat.reduceBEq, forall_const, implies_true, cond_true, cond_false, AV.ren, AC.ren, AV.cl, AC.cl, eq_self, List.all_cons, List.all_nil, AV.eqv, AC.eqv, eqvl, eqvt, Sl.eqv, List.map_append, List.length_map, List.length_append, List.length_replicate, List.length_set, List.map_replicate, nilVC, cv_77_91, c_math_bits_Len32, c_math_bits_Len64]
  refine ⟨p, [], [], ?_⟩
  simp only [WL, WNL, swA_new, swA_ne, nest_sw_ne, mapLL, List.mem_cons, Nat.reduceAdd, Nat.reduceLT, Nat.reduceLeDiff, Nat.reduceEqDiff, okU, List.nodup_cons, List.not_mem_nil, toT, toL, toO, keysO, renl, rent, cll, clt, eq_self, AV.eqv, AC.eqv, eqvl, eqvt, Sl.eqv, rowsLe, mapLL, rowsCl, List.map_append, List.length_map, List.length_append, List.length_set, List.map_replicate, rowG, List.getElem?_cons_zero, List.getElem?_cons_succ, List.getElem?_nil, List.append_nil, List.nil_append, List.cons_append, ghosts, St.gh, Option.some.injEq, implies_true, setT, AV.ren, AC.ren, AV.cl, AC.cl, List.replicate_succ, List.replicate_zero, List.nodup_nil, List.length_nil, List.length_cons, List.getD_cons_zero, List.getD_cons_succ, ↓reduceIte, retP]
def c_slices_SortFunc_Timer : Contract := ⟨48, fun args M => match args with
  | [.c (.sl a n c), .c (.clo f [])] => specR T3 a n (M a.r) fun ty cap X => .eff (f = 39 ∧ (1 ≤ n ∧ n ≤ 12) ∧ (X.take (n - 1)).Pairwise blt) Unit (fun _ => True) (fun _ => .tup []) (fun _ => []) (fun _ => [(a.r, rowG true ty cap (srtW X))])
  | _ => .bad⟩
theorem ok_slices_SortFunc_Timer : fnP Try.prog c_slices_SortFunc_Timer.f = true ∧ ∀ args M, (c_slices_SortFunc_Timer.sp args M).OK Try.prog c_slices_SortFunc_Timer.f args M := by
  refine ⟨fp_48, fun args M => ?_⟩
  unfold c_slices_SortFunc_Timer
  dsimp only
  split
  case h_2 => trivial
  rename_i a n c f
  refine specR_cases fun ty cap X hM hX hlen hs hi0 hk0 hf0 => ?_
  rintro ⟨rfl, ⟨hn1, hn12⟩, hso⟩
  subst hlen
  obtain ⟨r, ai, ak, af⟩ := a
  dsimp only at hi0 hk0 hf0 hM
  subst hi0 hk0 hf0
  refine goIn hf_48 rfl (nt := 14) rfl (rs := []) rfl (C := [c_math_bits_Len, c_slices_pdqsortCmpFunc_Timer]) ⟨(by first | exact .inl ok_math_bits_Len | exact ok_math_bits_Len), (by first | exact .inl ok_slices_pdqsortCmpFunc_Timer | exact ok_slices_pdqsortCmpFunc_Timer), trivial⟩ (q := fun _ => false) okQ_none mixed (O := fun _ => .nil) (by kernel_rfl) ?_
  have hw : IntKind.u64.wrap (X.length : Int) = X.length := by
    unfold IntKind.wrap
    simp [IntKind.bits, IntKind.signed]
    omega
  simp only [↓WP, ↓grdD, ↓grdT, ↓un_dead, ↓binVC, ↓buildVC, ↓sliceVC, WQ, WN, Int.reduceToNat, renl, cll, rent, clt, ↓reduceIte, Nat.reduceLeDiff, Nat.reduceEqDiff, Nat.reduceLT, reduceCtorEq, List.append_nil, Nat.reduceAdd, Nat.reduceSub, Nat.reduceBEq, forall_const, implies_true, cond_true, cond_false, AV.ren, AC.ren, AV.cl, AC.cl, eq_self, List.all_cons, List.all_nil, AV.eqv, AC.eqv, eqvl, eqvt, Sl.eqv, List.map_append, List.length_map, List.length_append, List.length_replicate, List.length_set, List.map_replicate, nilVC, sd_27, cv_3_77, c_math_bits_Len, c_slices_pdqsortCmpFunc_Timer, hM, hw]
  refine ⟨⟨by omega, by omega⟩, fun _ => ⟨⟨hs, ⟨hn1, hn12⟩, hso⟩, end_ret ?_⟩⟩
  simp only [↓WP, ↓grdD, ↓grdT, ↓un_dead, ↓binVC, ↓buildVC, ↓sliceVC, WQ, WN, Int.reduceToNat, renl, cll, rent, clt, ↓reduceIte, Nat.reduceLeDiff, Nat.reduceEqDiff, Nat.reduceLT, reduceCtorEq, List.append_nil, Nat.reduceAdd, Nat.reduceSub, Nat.reduceBEq, forall_const, implies_true, cond_true, cond_false, AV.ren, AC.ren, AV.cl, AC.cl, eq_self, List.all_cons, List.all_nil, AV.eqv, AC.eqv, eqvl, eqvt, Sl.eqv, List.map_append, List.length_map, List.length_append, List.length_replicate, List.length_set, List.map_replicate, nilVC, sd_27, cv_3_77, c_math_bits_Len, c_slices_pdqsortCmpFunc_Timer]
  refine ⟨(), [], [], ?_⟩
  simp only [WL, WNL, swA_new, swA_ne, nest_sw_ne, mapLL, List.mem_cons, Nat.reduceAdd, Nat.reduceLT, Nat.reduceLeDiff, Nat.reduceEqDiff, okU, List.nodup_cons, List.not_mem_nil, toT, toL, toO, keysO, renl, rent, cll, clt, eq_self, AV.eqv, AC.eqv, eqvl, eqvt, Sl.eqv, rowsLe, mapLL, rowsCl, List.map_append, List.length_map, List.length_append, List.length_set, List.map_replicate, rowG, List.getElem?_cons_zero, List.getElem?_cons_succ, List.getElem?_nil, List.append_nil, List.nil_append, List.cons_append, ghosts, St.gh, Option.some.injEq, implies_true, setT, AV.ren, AC.ren, AV.cl, AC.cl, List.replicate_succ, List.replicate_zero, List.nodup_nil, List.length_nil, List.length_cons, List.getD_cons_zero, List.getD_cons_succ, ↓reduceIte, retP]
  simp [okU, hM]
end Go.Eng.T
