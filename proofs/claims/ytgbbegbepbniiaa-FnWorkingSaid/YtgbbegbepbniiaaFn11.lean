/- faults: slices.Compact. -/
import Derived.Test.YtgbbegbepbniiaaFn10
set_option linter.unusedVariables false
set_option linter.unusedSimpArgs false
set_option linter.unusedSectionVars false
namespace Go.Eng.T
open Go.Proofs
open Cel (enc dec)
set_option maxRecDepth 100000
set_option maxHeartbeats 8000000
theorem dd_gap {X : List Int} {k : Nat} (hk : 0 < k) (h : X.getD k default = X.getD (k - 1) default) : ∀ j, k + 1 ≤ j → (dd X j).length + 1 ≤ j
  | j + 1, hj => by
    rcases Nat.lt_or_ge k j with hlt | hge
    · have ih := dd_gap hk h j hlt
      rw [dd]
      split
      · omega
      · rw [List.length_append, List.length_singleton]; omega
    · obtain rfl : k = j := by omega
      rw [dd, if_pos ⟨hk, h⟩]
      have := dd_len X k
      omega
theorem mix_get {A X : List Int} {j : Nat} (h : A.length ≤ j) (hj : j < X.length) : (A ++ X.drop A.length).getD j default = X.getD j default := by
  rw [getD_of_lt (by simp; omega), getD_of_lt hj, List.getElem_append_right h, List.getElem_drop]
  congr 1; omega
theorem mix_set {A X : List Int} {x : Int} (h : A.length < X.length) : (A ++ X.drop A.length).set A.length x = (A ++ [x]) ++ X.drop (A ++ [x]).length := by
  rw [List.set_append_right _ _ (Nat.le_refl _), Nat.sub_self, List.drop_eq_getElem_cons h, List.length_append, List.length_singleton, List.append_assoc]
  rfl
def c_slices_Compact_int : Contract := ⟨44, fun args M => match args with
  | [.c (.sl a n c)] => specR Int a n (M a.r) fun ty cap X => .eff (n ≤ c ∧ c ≤ cap) Unit (fun _ => True) (fun _ => .c (.sl a.up (dd X n).length c)) (fun _ => []) (fun _ => [(a.r, rowG true ty cap (dd X n ++ List.replicate (n - (dd X n).length) 0))])
  | _ => .bad⟩
theorem ok_slices_Compact_int : fnP Try.prog c_slices_Compact_int.f = true ∧ ∀ args M, (c_slices_Compact_int.sp args M).OK Try.prog c_slices_Compact_int.f args M := by
  refine ⟨fp_44, fun args M => ?_⟩
  unfold c_slices_Compact_int
  dsimp only
  split
  case h_2 => trivial
  rename_i a n c
  refine specR_cases fun ty cap X hM hX hlen hs hi0 hk0 hf0 => ?_
  rintro ⟨hc, hcap⟩
  subst hlen
  obtain ⟨r, ai, ak, af⟩ := a
  dsimp only at hi0 hk0 hf0 hM
  subst hi0 hk0 hf0
  have hz : X.length - X.length = 0 := Nat.sub_self _
  refine goIn hf_44 rfl (nt := 61) rfl (rs := [.tmp 2]) rfl (C := []) trivial (q := fun f => [].contains f) trivial mixed (O := ots [(6, otl [0, 1, 2, 3, 4, 5, 6, 7, 8, 9] .nil), (11, otl [0, 1, 2, 3, 4, 5, 6, 7, 8, 9] .nil)]) (by kernel_rfl) ?_
  by_cases h2 : X.length < 2
  · have hd : dd X X.length = X := by
      rw [dd_all (Nat.le_refl _) fun i hi h => by omega, List.take_length]
    rw [hd, hz]
    have d2 : decide ((X.length : Int) < 2) = true := decide_eq_true (by omega)
    simp only [↓WP, ↓grdD, ↓grdT, ↓un_dead, ↓binVC, ↓buildVC, ↓sliceVC, WQ, WN, Int.reduceToNat, renl, cll, rent, clt, ↓reduceIte, Nat.reduceLeDiff, Nat.reduceEqDiff, Nat.reduceLT, reduceCtorEq, List.append_nil, Nat.reduceAdd, Nat.reduceSub, Nat.reduceBEq, forall_const, implies_true, cond_true, cond_false, AV.ren, AC.ren, AV.cl, AC.cl, eq_self, List.all_cons, List.all_nil, AV.eqv, AC.eqv, eqvl, eqvt, Sl.eqv, List.map_append, List.length_map, List.length_append, List.length_replicate, List.length_set, List.map_replicate, nilVC, sd_22, el_22, sz_3, hM, d2]
    refine end_ret ?_
    simp only [↓WP, ↓grdD, ↓grdT, ↓un_dead, ↓binVC, ↓buildVC, ↓sliceVC, WQ, WN, Int.reduceToNat, renl, cll, rent, clt, ↓reduceIte, Nat.reduceLeDiff, Nat.reduceEqDiff, Nat.reduceLT, reduceCtorEq, List.append_nil, Nat.reduceAdd, Nat.reduceSub, Nat.reduceBEq, forall_const, implies_true, cond_true, cond_false, AV.ren, AC.ren, AV.cl, AC.cl, eq_self, List.all_cons, List.all_nil, AV.eqv, AC.eqv, eqvl, eqvt, Sl.eqv, List.map_append, List.length_map, List.length_append, List.length_replicate, List.length_set, List.map_replicate, nilVC, sd_22, el_22, sz_3]
    refine ⟨(), [], [], ?_⟩
    simp only [WL, WNL, swA_new, swA_ne, nest_sw_ne, mapLL, List.mem_cons, Nat.reduceAdd, Nat.reduceLT, Nat.reduceLeDiff, Nat.reduceEqDiff, okU, List.nodup_cons, List.not_mem_nil, toT, toL, toO, keysO, renl, rent, cll, clt, eq_self, AV.eqv, AC.eqv, eqvl, eqvt, Sl.eqv, rowsLe, mapLL, rowsCl, List.map_append, List.length_map, List.length_append, List.length_set, List.map_replicate, rowG, List.getElem?_cons_zero, List.getElem?_cons_succ, List.getElem?_nil, List.append_nil, List.nil_append, List.cons_append, ghosts, St.gh, Option.some.injEq, implies_true, setT, AV.ren, AC.ren, AV.cl, AC.cl, List.replicate_succ, List.replicate_zero, List.nodup_nil, List.length_nil, List.length_cons, List.getD_cons_zero, List.getD_cons_succ, ↓reduceIte, retP]
    simp [okU, hM]
    try (simp only [WL, WNL, swA_new, swA_ne, nest_sw_ne, mapLL, List.mem_cons, Nat.reduceAdd, Nat.reduceLT, Nat.reduceLeDiff, Nat.reduceEqDiff, okU, List.nodup_cons, List.not_mem_nil, toT, toL, toO, keysO, renl, rent, cll, clt, eq_self, AV.eqv, AC.eqv, eqvl, eqvt, Sl.eqv, rowsLe, mapLL, rowsCl, List.map_append, List.length_map, List.length_append, List.length_set, List.map_replicate, rowG, List.getElem?_cons_zero, List.getElem?_cons_succ, List.getElem?_nil, List.append_nil, List.nil_append, List.cons_append, ghosts, St.gh, Option.some.injEq, implies_true, setT, AV.ren, AC.ren, AV.cl, AC.cl, List.replicate_succ, List.replicate_zero, List.nodup_nil, List.length_nil, List.length_cons, List.getD_cons_zero, List.getD_cons_succ, ↓reduceIte]; done)
  · have d2 : decide ((X.length : Int) < 2) = false := decide_eq_false (by omega)
    simp only [↓WP, ↓grdD, ↓grdT, ↓un_dead, ↓binVC, ↓buildVC, ↓sliceVC, WQ, WN, Int.reduceToNat, renl, cll, rent, clt, ↓reduceIte, Nat.reduceLeDiff, Nat.reduceEqDiff, Nat.reduceLT, reduceCtorEq, List.append_nil, Nat.reduceAdd, Nat.reduceSub, Nat.reduceBEq, forall_const, implies_true, cond_true, cond_false, AV.ren, AC.ren, AV.cl, AC.cl, eq_self, List.all_cons, List.all_nil, AV.eqv, AC.eqv, eqvl, eqvt, Sl.eqv, List.map_append, List.length_map, List.length_append, List.length_replicate, List.length_set, List.map_replicate, nilVC, sd_22, el_22, sz_3, hM, d2]
    refine loopI (J := {k : Nat // (1 ≤ k ∧ k ≤ X.length) ∧ ∀ i, i < k → ¬ (0 < i ∧ X.getD i default = X.getD (i - 1) default)}) (fun k => ⟨slots 61 [(0, .c (.sl ⟨r.out, 0, 0, 0⟩ X.length c)), (3, I (k.1 : Nat))], M, [], []⟩) (fun k => X.length - k.1) ⟨1, ⟨Nat.le_refl _, by omega⟩, fun i hi h => by omega⟩ (Le_intro [] (by simp only [WL, WNL, swA_new, swA_ne, nest_sw_ne, mapLL, List.mem_cons, Nat.reduceAdd, Nat.reduceLT, Nat.reduceLeDiff, Nat.reduceEqDiff, okU, List.nodup_cons, List.not_mem_nil, toT, toL, toO, keysO, renl, rent, cll, clt, eq_self, AV.eqv, AC.eqv, eqvl, eqvt, Sl.eqv, rowsLe, mapLL, rowsCl, List.map_append, List.length_map, List.length_append, List.length_set, List.map_replicate, rowG, List.getElem?_cons_zero, List.getElem?_cons_succ, List.getElem?_nil, List.append_nil, List.nil_append, List.cons_append, ghosts, St.gh, Option.some.injEq, implies_true, setT, AV.ren, AC.ren, AV.cl, AC.cl, List.replicate_succ, List.replicate_zero, List.nodup_nil, List.length_nil, List.length_cons, List.getD_cons_zero, List.getD_cons_succ, ↓reduceIte]; try simp)) ?_
    rintro ⟨k, ⟨hk1, hk2⟩, hk3⟩
    have hw := wS (i := k) (by omega)
    rcases Nat.lt_or_ge k X.length with hlt | hge
    · have hga : (List.map enc X).getD k [] = [AC.int .i64 (X.getD k default)] := getD_enc _ _ hlt
      have hgb : (List.map enc X).getD (k - 1) [] = [AC.int .i64 (X.getD (k - 1) default)] := getD_enc _ _ (by omega)
      have hwm : IntKind.i64.wrap ((k : Int) - 1) = ((k - 1 : Nat) : Int) := by rw [w64 (by omega) (by omega)]; omega
      by_cases he : X.getD k default = X.getD (k - 1) default
      · simp only [↓WP, ↓grdD, ↓grdT, ↓un_dead, ↓binVC, ↓buildVC, ↓sliceVC, WQ, WN, Int.reduceToNat, renl, cll, rent, clt, ↓reduceIte, Nat.reduceLeDiff, Nat.reduceEqDiff, Nat.reduceLT, reduceCtorEq, List.append_nil, Nat.reduceAdd, Nat.reduceSub, Nat.reduceBEq, forall_const, implies_true, cond_true, cond_false, AV.ren, AC.ren, AV.cl, AC.cl, eq_self, List.all_cons, List.all_nil, AV.eqv, AC.eqv, eqvl, eqvt, Sl.eqv, List.map_append, List.length_map, List.length_append, List.length_replicate, List.length_set, List.map_replicate, nilVC, sd_22, el_22, sz_3, hM, dlt hlt, hga, hgb, hwm, decide_eq_true he]
        repeat' (first | with_reducible refine And.intro ?_ ?_ | intro _)
        all_goals try omega
        all_goals
          have hdk : dd X k = X.take k := dd_all (by omega) hk3
          have hdk1 : dd X (k + 1) = X.take k := by rw [dd, if_pos ⟨hk1, he⟩, hdk]
          have hl1 : (X.take k).length = k := by simp; omega
          refine loopI (J := {j : Nat // k + 1 ≤ j ∧ j ≤ X.length}) (fun j => ⟨slots 61 [(0, .c (.sl ⟨r.out, 0, 0, 0⟩ X.length c)), (3, I ((dd X j.1).length : Nat)), (4, .c (.sl ⟨r.out, 0, k, 0⟩ (X.length - k) (c - k))), (5, I (j.1 - k : Nat))], M, [(r, rowG true ty cap (dd X j.1 ++ X.drop (dd X j.1).length))], []⟩) (fun j => X.length - j.1) ⟨k + 1, Nat.le_refl _, hlt⟩ ?_ ?_
          · refine Le_intro [] ?_
            simp only [WL, WNL, swA_new, swA_ne, nest_sw_ne, mapLL, List.mem_cons, Nat.reduceAdd, Nat.reduceLT, Nat.reduceLeDiff, Nat.reduceEqDiff, okU, List.nodup_cons, List.not_mem_nil, toT, toL, toO, keysO, renl, rent, cll, clt, eq_self, AV.eqv, AC.eqv, eqvl, eqvt, Sl.eqv, rowsLe, mapLL, rowsCl, List.map_append, List.length_map, List.length_append, List.length_set, List.map_replicate, rowG, List.getElem?_cons_zero, List.getElem?_cons_succ, List.getElem?_nil, List.append_nil, List.nil_append, List.cons_append, ghosts, St.gh, Option.some.injEq, implies_true, setT, AV.ren, AC.ren, AV.cl, AC.cl, List.replicate_succ, List.replicate_zero, List.nodup_nil, List.length_nil, List.length_cons, List.getD_cons_zero, List.getD_cons_succ, ↓reduceIte, hdk1, hl1, List.take_append_drop, hM, Nat.add_sub_cancel_left]
            try simp
          rintro ⟨j, hj1, hj2⟩
          have hgap := dd_gap hk1 he j hj1
          have hjk : ((j - k : Nat) : Int) = (j : Int) - k := by omega
          have hwj : IntKind.i64.wrap (((j - k : Nat) : Int) + 1) = ((j + 1 - k : Nat) : Int) := by rw [w64 (by omega) (by omega)]; omega
          have hrl : (dd X j ++ X.drop (dd X j).length).length = X.length := by simp; omega
          rcases Nat.lt_or_ge j X.length with hjl | hjg
          · have hrb : (List.map enc (dd X j ++ X.drop (dd X j).length)).getD j [] = [AC.int .i64 (X.getD j default)] := by
              rw [getD_enc _ _ (by omega), mix_get (by omega) hjl]; rfl
            have hrc : (List.map enc (dd X j ++ X.drop (dd X j).length)).getD (j - 1) [] = [AC.int .i64 (X.getD (j - 1) default)] := by
              rw [getD_enc _ _ (by omega), mix_get (by omega) (by omega)]; rfl
            have hwk : IntKind.i64.wrap (((j - k : Nat) : Int) - 1) = ((j - k - 1 : Nat) : Int) := by rw [w64 (by omega) (by omega)]; omega
            have hkj : k + (j - k) = j := by omega
            have hkj1 : k + (j - k - 1) = j - 1 := by omega
            have dj : decide (((j - k : Nat) : Int) < ((X.length - k : Nat) : Int)) = true := decide_eq_true (by omega)
            have hwl : IntKind.i64.wrap (((dd X j).length : Int) + 1) = (((dd X j).length + 1 : Nat) : Int) := by rw [w64 (by omega) (by omega)]; omega
            have hset := fun x : Int => mix_set (A := dd X j) (X := X) (x := x) (by omega)
            obtain ⟨Y, hY⟩ : ∃ Y, Y = dd X j ++ X.drop (dd X j).length := ⟨_, rfl⟩
            rw [← hY] at hrb hrc hrl hset ⊢
            by_cases hne : X.getD j default = X.getD (j - 1) default
            · simp only [↓WP, ↓grdD, ↓grdT, ↓un_dead, ↓binVC, ↓buildVC, ↓sliceVC, WQ, WN, Int.reduceToNat, renl, cll, rent, clt, ↓reduceIte, Nat.reduceLeDiff, Nat.reduceEqDiff, Nat.reduceLT, reduceCtorEq, List.append_nil, Nat.reduceAdd, Nat.reduceSub, Nat.reduceBEq, forall_const, implies_true, cond_true, cond_false, AV.ren, AC.ren, AV.cl, AC.cl, eq_self, List.all_cons, List.all_nil, AV.eqv, AC.eqv, eqvl, eqvt, Sl.eqv, List.map_append, List.length_map, List.length_append, List.length_replicate, List.length_set, List.map_replicate, nilVC, sd_22, el_22, sz_3, hM, dj, hrb, hrc, hwk, hkj, hkj1, hwj, decide_eq_true hne, Bool.not_true]
              repeat' (first | with_reducible refine And.intro ?_ ?_ | intro _)
              all_goals try omega
              all_goals
                have hd1 : dd X (j + 1) = dd X j := by rw [dd, if_pos ⟨by omega, hne⟩]
                exact ⟨⟨j + 1, by omega, hjl⟩, Le_intro [] (by simp only [WL, WNL, swA_new, swA_ne, nest_sw_ne, mapLL, List.mem_cons, Nat.reduceAdd, Nat.reduceLT, Nat.reduceLeDiff, Nat.reduceEqDiff, okU, List.nodup_cons, List.not_mem_nil, toT, toL, toO, keysO, renl, rent, cll, clt, eq_self, AV.eqv, AC.eqv, eqvl, eqvt, Sl.eqv, rowsLe, mapLL, rowsCl, List.map_append, List.length_map, List.length_append, List.length_set, List.map_replicate, rowG, List.getElem?_cons_zero, List.getElem?_cons_succ, List.getElem?_nil, List.append_nil, List.nil_append, List.cons_append, ghosts, St.gh, Option.some.injEq, implies_true, setT, AV.ren, AC.ren, AV.cl, AC.cl, List.replicate_succ, List.replicate_zero, List.nodup_nil, List.length_nil, List.length_cons, List.getD_cons_zero, List.getD_cons_succ, ↓reduceIte, hd1, ← hY]; try (simp; rw [hY]; simp)), by show X.length - (j + 1) < X.length - j; omega⟩
            · simp only [↓WP, ↓grdD, ↓grdT, ↓un_dead, ↓binVC, ↓buildVC, ↓sliceVC, WQ, WN, Int.reduceToNat, renl, cll, rent, clt, ↓reduceIte, Nat.reduceLeDiff, Nat.reduceEqDiff, Nat.reduceLT, reduceCtorEq, List.append_nil, Nat.reduceAdd, Nat.reduceSub, Nat.reduceBEq, forall_const, implies_true, cond_true, cond_false, AV.ren, AC.ren, AV.cl, AC.cl, eq_self, List.all_cons, List.all_nil, AV.eqv, AC.eqv, eqvl, eqvt, Sl.eqv, List.map_append, List.length_map, List.length_append, List.length_replicate, List.length_set, List.map_replicate, nilVC, sd_22, el_22, sz_3, hM, dj, hrb, hrc, hwk, hkj, hkj1, hwj, decide_eq_false hne, Bool.not_false, hwl]
              repeat' (first | with_reducible refine And.intro ?_ ?_ | intro _)
              all_goals try omega
              all_goals
                have hd1 : dd X (j + 1) = dd X j ++ [X.getD j default] := by rw [dd, if_neg fun h => hne h.2]
                have hl1 : (dd X (j + 1)).length = (dd X j).length + 1 := by rw [hd1, List.length_append, List.length_singleton]
                have hs1 : (List.map enc Y).set (dd X j).length [AC.int .i64 (X.getD j default)] = List.map enc (dd X (j + 1) ++ X.drop (dd X (j + 1)).length) := by
                  rw [show [AC.int .i64 (X.getD j default)] = enc (X.getD j default) from rfl, ← List.map_set, hset, hd1]
                obtain ⟨Y', hY'⟩ : ∃ Y', Y' = dd X (j + 1) ++ X.drop (dd X (j + 1)).length := ⟨_, rfl⟩
                rw [hs1, ← hl1, ← hY']
                exact ⟨⟨j + 1, by omega, hjl⟩, Le_intro [] (by simp only [WL, WNL, swA_new, swA_ne, nest_sw_ne, mapLL, List.mem_cons, Nat.reduceAdd, Nat.reduceLT, Nat.reduceLeDiff, Nat.reduceEqDiff, okU, List.nodup_cons, List.not_mem_nil, toT, toL, toO, keysO, renl, rent, cll, clt, eq_self, AV.eqv, AC.eqv, eqvl, eqvt, Sl.eqv, rowsLe, mapLL, rowsCl, List.map_append, List.length_map, List.length_append, List.length_set, List.map_replicate, rowG, List.getElem?_cons_zero, List.getElem?_cons_succ, List.getElem?_nil, List.append_nil, List.nil_append, List.cons_append, ghosts, St.gh, Option.some.injEq, implies_true, setT, AV.ren, AC.ren, AV.cl, AC.cl, List.replicate_succ, List.replicate_zero, List.nodup_nil, List.length_nil, List.length_cons, List.getD_cons_zero, List.getD_cons_succ, ↓reduceIte, ← hY']; try (simp; rw [hY']; simp)), by show X.length - (j + 1) < X.length - j; omega⟩
          · obtain rfl : j = X.length := by omega
            obtain ⟨Y, hY⟩ : ∃ Y, Y = dd X X.length ++ X.drop (dd X X.length).length := ⟨_, rfl⟩
            rw [← hY] at hrl ⊢
            have dj : decide (((X.length - k : Nat) : Int) < ((X.length - k : Nat) : Int)) = false := decide_eq_false (by omega)
            have hz0 : ∀ n : Nat, n - 0 = n := Nat.sub_zero
            simp only [↓WP, ↓grdD, ↓grdT, ↓un_dead, ↓binVC, ↓buildVC, ↓sliceVC, WQ, WN, Int.reduceToNat, renl, cll, rent, clt, ↓reduceIte, Nat.reduceLeDiff, Nat.reduceEqDiff, Nat.reduceLT, reduceCtorEq, List.append_nil, Nat.reduceAdd, Nat.reduceSub, Nat.reduceBEq, forall_const, implies_true, cond_true, cond_false, AV.ren, AC.ren, AV.cl, AC.cl, eq_self, List.all_cons, List.all_nil, AV.eqv, AC.eqv, eqvl, eqvt, Sl.eqv, List.map_append, List.length_map, List.length_append, List.length_replicate, List.length_set, List.map_replicate, nilVC, sd_22, el_22, sz_3, hM, dj, zr_3, hz0]
            repeat' (first | with_reducible refine And.intro ?_ ?_ | intro _)
            all_goals try omega
            all_goals
              have hput : putAt (List.map enc Y) (dd X X.length).length (win (fun _ => [AC.int .i64 0]) (X.length - (dd X X.length).length)) = List.map enc (dd X X.length) ++ List.replicate (X.length - (dd X X.length).length) [AC.int .i64 0] := by
                have hwc : win (fun _ => [AC.int .i64 0]) (X.length - (dd X X.length).length) = List.replicate (X.length - (dd X X.length).length) [AC.int .i64 0] := by
                  unfold win; rw [List.map_const', List.length_range]
                rw [putAt_in (by rw [List.length_map]; omega), hwc, List.drop_eq_nil_of_le (by rw [List.length_map, List.length_replicate]; omega), List.append_nil, hY, List.map_append, List.take_left' (by simp)]
              refine end_ret ?_
              simp only [↓WP, ↓grdD, ↓grdT, ↓un_dead, ↓binVC, ↓buildVC, ↓sliceVC, WQ, WN, Int.reduceToNat, renl, cll, rent, clt, ↓reduceIte, Nat.reduceLeDiff, Nat.reduceEqDiff, Nat.reduceLT, reduceCtorEq, List.append_nil, Nat.reduceAdd, Nat.reduceSub, Nat.reduceBEq, forall_const, implies_true, cond_true, cond_false, AV.ren, AC.ren, AV.cl, AC.cl, eq_self, List.all_cons, List.all_nil, AV.eqv, AC.eqv, eqvl, eqvt, Sl.eqv, List.map_append, List.length_map, List.length_append, List.length_replicate, List.length_set, List.map_replicate, nilVC, sd_22, el_22, sz_3, hput]
              refine ⟨(), [], [], ?_⟩
              simp only [WL, WNL, swA_new, swA_ne, nest_sw_ne, mapLL, List.mem_cons, Nat.reduceAdd, Nat.reduceLT, Nat.reduceLeDiff, Nat.reduceEqDiff, okU, List.nodup_cons, List.not_mem_nil, toT, toL, toO, keysO, renl, rent, cll, clt, eq_self, AV.eqv, AC.eqv, eqvl, eqvt, Sl.eqv, rowsLe, mapLL, rowsCl, List.map_append, List.length_map, List.length_append, List.length_set, List.map_replicate, rowG, List.getElem?_cons_zero, List.getElem?_cons_succ, List.getElem?_nil, List.append_nil, List.nil_append, List.cons_append, ghosts, St.gh, Option.some.injEq, implies_true, setT, AV.ren, AC.ren, AV.cl, AC.cl, List.replicate_succ, List.replicate_zero, List.nodup_nil, List.length_nil, List.length_cons, List.getD_cons_zero, List.getD_cons_succ, ↓reduceIte, retP]
              simp [okU, hM]
      · simp only [↓WP, ↓grdD, ↓grdT, ↓un_dead, ↓binVC, ↓buildVC, ↓sliceVC, WQ, WN, Int.reduceToNat, renl, cll, rent, clt, ↓reduceIte, Nat.reduceLeDiff, Nat.reduceEqDiff, Nat.reduceLT, reduceCtorEq, List.append_nil, Nat.reduceAdd, Nat.reduceSub, Nat.reduceBEq, forall_const, implies_true, cond_true, cond_false, AV.ren, AC.ren, AV.cl, AC.cl, eq_self, List.all_cons, List.all_nil, AV.eqv, AC.eqv, eqvl, eqvt, Sl.eqv, List.map_append, List.length_map, List.length_append, List.length_replicate, List.length_set, List.map_replicate, nilVC, sd_22, el_22, sz_3, hM, dlt hlt, hga, hgb, hwm, decide_eq_false he, hw]
        repeat' (first | with_reducible refine And.intro ?_ ?_ | intro _)
        all_goals try omega
        all_goals exact ⟨⟨k + 1, ⟨by omega, hlt⟩, fun i hi => by
          rcases Nat.lt_or_ge i k with h | h
          · exact hk3 i h
          · obtain rfl : i = k := by omega
            exact fun h => he h.2⟩, Le_intro [] (by simp only [WL, WNL, swA_new, swA_ne, nest_sw_ne, mapLL, List.mem_cons, Nat.reduceAdd, Nat.reduceLT, Nat.reduceLeDiff, Nat.reduceEqDiff, okU, List.nodup_cons, List.not_mem_nil, toT, toL, toO, keysO, renl, rent, cll, clt, eq_self, AV.eqv, AC.eqv, eqvl, eqvt, Sl.eqv, rowsLe, mapLL, rowsCl, List.map_append, List.length_map, List.length_append, List.length_set, List.map_replicate, rowG, List.getElem?_cons_zero, List.getElem?_cons_succ, List.getElem?_nil, List.append_nil, List.nil_append, List.cons_append, ghosts, St.gh, Option.some.injEq, implies_true, setT, AV.ren, AC.ren, AV.cl, AC.cl, List.replicate_succ, List.replicate_zero, List.nodup_nil, List.length_nil, List.length_cons, List.getD_cons_zero, List.getD_cons_succ, ↓reduceIte]; try simp), by show X.length - (k + 1) < X.length - k; omega⟩
    · obtain rfl : k = X.length := by omega
      have hd : dd X X.length = X := by rw [dd_all (Nat.le_refl _) hk3, List.take_length]
      rw [hd, hz]
      simp only [↓WP, ↓grdD, ↓grdT, ↓un_dead, ↓binVC, ↓buildVC, ↓sliceVC, WQ, WN, Int.reduceToNat, renl, cll, rent, clt, ↓reduceIte, Nat.reduceLeDiff, Nat.reduceEqDiff, Nat.reduceLT, reduceCtorEq, List.append_nil, Nat.reduceAdd, Nat.reduceSub, Nat.reduceBEq, forall_const, implies_true, cond_true, cond_false, AV.ren, AC.ren, AV.cl, AC.cl, eq_self, List.all_cons, List.all_nil, AV.eqv, AC.eqv, eqvl, eqvt, Sl.eqv, List.map_append, List.length_map, List.length_append, List.length_replicate, List.length_set, List.map_replicate, nilVC, sd_22, el_22, sz_3, dge hge]
      refine end_ret ?_
      simp only [↓WP, ↓grdD, ↓grdT, ↓un_dead, ↓binVC, ↓buildVC, ↓sliceVC, WQ, WN, Int.reduceToNat, renl, cll, rent, clt, ↓reduceIte, Nat.reduceLeDiff, Nat.reduceEqDiff, Nat.reduceLT, reduceCtorEq, List.append_nil, Nat.reduceAdd, Nat.reduceSub, Nat.reduceBEq, forall_const, implies_true, cond_true, cond_false, AV.ren, AC.ren, AV.cl, AC.cl, eq_self, List.all_cons, List.all_nil, AV.eqv, AC.eqv, eqvl, eqvt, Sl.eqv, List.map_append, List.length_map, List.length_append, List.length_replicate, List.length_set, List.map_replicate, nilVC, sd_22, el_22, sz_3]
      refine ⟨(), [], [], ?_⟩
      simp only [WL, WNL, swA_new, swA_ne, nest_sw_ne, mapLL, List.mem_cons, Nat.reduceAdd, Nat.reduceLT, Nat.reduceLeDiff, Nat.reduceEqDiff, okU, List.nodup_cons, List.not_mem_nil, toT, toL, toO, keysO, renl, rent, cll, clt, eq_self, AV.eqv, AC.eqv, eqvl, eqvt, Sl.eqv, rowsLe, mapLL, rowsCl, List.map_append, List.length_map, List.length_append, List.length_set, List.map_replicate, rowG, List.getElem?_cons_zero, List.getElem?_cons_succ, List.getElem?_nil, List.append_nil, List.nil_append, List.cons_append, ghosts, St.gh, Option.some.injEq, implies_true, setT, AV.ren, AC.ren, AV.cl, AC.cl, List.replicate_succ, List.replicate_zero, List.nodup_nil, List.length_nil, List.length_cons, List.getD_cons_zero, List.getD_cons_succ, ↓reduceIte, retP]
      simp [okU, hM]
      try (simp only [WL, WNL, swA_new, swA_ne, nest_sw_ne, mapLL, List.mem_cons, Nat.reduceAdd, Nat.reduceLT, Nat.reduceLeDiff, Nat.reduceEqDiff, okU, List.nodup_cons, List.not_mem_nil, toT, toL, toO, keysO, renl, rent, cll, clt, eq_self, AV.eqv, AC.eqv, eqvl, eqvt, Sl.eqv, rowsLe, mapLL, rowsCl, List.map_append, List.length_map, List.length_append, List.length_set, List.map_replicate, rowG, List.getElem?_cons_zero, List.getElem?_cons_succ, List.getElem?_nil, List.append_nil, List.nil_append, List.cons_append, ghosts, St.gh, Option.some.injEq, implies_true, setT, AV.ren, AC.ren, AV.cl, AC.cl, List.replicate_succ, List.replicate_zero, List.nodup_nil, List.length_nil, List.length_cons, List.getD_cons_zero, List.getD_cons_succ, ↓reduceIte]; done)
end Go.Eng.T
