/- sched: slices.Insert. -/
import Derived.Test.YtmlenialhmeomaaFn9
import Derived.Test.YtmlenialhmeomaaEngE
set_option linter.unusedVariables false
set_option linter.unusedSimpArgs false
set_option linter.unusedSectionVars false
namespace Go.Eng.T
open Go.Proofs
open Cel (enc dec)
set_option maxRecDepth 100000
set_option maxHeartbeats 4000000
def c_slices_overlaps_STask : Contract := ⟨53, fun args M => match args with
  | [.c (.sl a _ ca), .c (.sl b _ cb)] => .pure (a.r ≠ b.r ∧ 0 < ca ∧ 0 < cb ∧ ownK (M a.r) a.i ∧ ownK (M b.r) b.i) (Eng.B false)
  | _ => .bad⟩
theorem ok_slices_overlaps_STask : SpecOK Try.prog c_slices_overlaps_STask := ext_overlaps hf_53 (by kernel_rfl) (by kernel_rfl) (by kernel_rfl) (tS := 27) (tR := 4) (by kernel_rfl) el_27
def c_slices_rotateRight_STask : Contract := ⟨54, fun args M => match args with
  | [.c (.int .i64 _)] => .bad
  | _ => .bad⟩
theorem ok_slices_rotateRight_STask : fnP Try.prog c_slices_rotateRight_STask.f = true ∧ ∀ args M, (c_slices_rotateRight_STask.sp args M).OK Try.prog c_slices_rotateRight_STask.f args M := by
  refine ⟨fp_54, fun args M => ?_⟩
  unfold c_slices_rotateRight_STask
  dsimp only
  split
  case h_2 => trivial
  trivial
def insAt (X : List T3) (j : Nat) (v : T3) : List T3 := X.take j ++ v :: X.drop j
theorem ins_put {Z : List (List AC)} {z : List AC} {j : Nat} (hj : j < Z.length) : putAt (putAt Z (j + 1) (win (fun k => Z.getD (j + k) []) (Z.length - j))) j [z] = Z.take j ++ z :: Z.drop j := by
  have hw : win (fun k => Z.getD (j + k) []) (Z.length - j) = Z.drop j := by
    rw [win_drop (by omega), List.take_of_length_le (by simp)]
  have e0 : Z.drop (j + 1 + (Z.drop j).length) = [] := List.drop_eq_nil_of_le (by simp; omega)
  rw [hw, putAt_in (L := Z) (by omega), e0, List.append_nil, putAt_in (by simp; omega)]
  have e1 : (List.take (j + 1) Z ++ List.drop j Z).take j = Z.take j := by
    rw [List.take_append_of_le_length (by simp; omega), List.take_take, Nat.min_eq_left (by omega)]
  have e2 : (List.take (j + 1) Z ++ List.drop j Z).drop (j + [z].length) = Z.drop j := by
    rw [List.drop_append_of_le_length (by simp; omega), List.drop_eq_nil_of_le (by simp; omega), List.nil_append]
  rw [e1, e2, List.append_assoc]
  rfl
theorem ins_put2 {Z : List (List AC)} {z o : List AC} {j : Nat} (hj : j < Z.length) : putAt (putAt (win (fun k => Z.getD k []) j ++ win (fun _ => o) (Z.length + 1 - j)) j [z]) (j + 1) (win (fun k => Z.getD (j + k) []) (Z.length - j)) = Z.take j ++ z :: Z.drop j := by
  have hw : win (fun k => Z.getD (j + k) []) (Z.length - j) = Z.drop j := by
    rw [win_drop (by omega), List.take_of_length_le (by simp)]
  have hw2 : win (fun k => Z.getD k []) j = Z.take j := by
    have := win_drop (B := Z) (j := 0) (n := j) (by omega)
    simpa using this
  have hl : (win (fun _ => o) (Z.length + 1 - j)).length = Z.length + 1 - j := win_length _ _
  rw [hw, hw2, putAt_in (j := j) (by simp; omega)]
  have e1 : (Z.take j ++ win (fun _ => o) (Z.length + 1 - j)).take j = Z.take j := by
    rw [List.take_append_of_le_length (by simp; omega), List.take_take, Nat.min_self]
  rw [e1, putAt_in (by simp; omega)]
  have hl1 : (Z.take j ++ [z]).length = j + 1 := by simp; omega
  have e0 : List.drop (j + 1 + (Z.drop j).length) (Z.take j ++ [z] ++ List.drop (j + [z].length) (Z.take j ++ win (fun _ => o) (Z.length + 1 - j))) = [] := List.drop_eq_nil_of_le (by simp [hl]; omega)
  rw [List.take_append_of_le_length (by omega), List.take_of_length_le (by omega), e0, List.append_nil, List.append_assoc]
  rfl
theorem insAt_enc (X : List T3) (j : Nat) (v : T3) : List.map enc (insAt X j v) = (List.map enc X).take j ++ enc v :: (List.map enc X).drop j := by
  simp [insAt, List.map_take, List.map_drop]
def c_slices_Insert_STask : Contract := ⟨42, fun args M => match args with
  | [.c (.sl a n c), .c (.int .i64 i), .c (.sl b m cb)] => specR T3 a n (M a.r) fun ty cap X => specR T3 b m (M b.r) fun _ cap2 V => if n + 1 ≤ c then .eff (a.r ≠ b.r ∧ (0 ≤ i ∧ i ≤ n) ∧ (m = 1 ∧ 0 < cb ∧ cb ≤ cap2) ∧ n ≤ c ∧ c ≤ cap) Unit (fun _ => True) (fun _ => .c (.sl a.up (n + 1) c)) (fun _ => []) (fun _ => [(a.r, rowG true ty cap (insAt X i.toNat (V.getD 0 default)))]) else .eff (a.r ≠ b.r ∧ (0 ≤ i ∧ i ≤ n) ∧ (m = 1 ∧ 0 < cb ∧ cb ≤ cap2) ∧ n ≤ c ∧ c ≤ cap) Nat (fun k => n + 1 ≤ k) (fun k => .c (.sl ⟨.loc 0, 0, 0, 0⟩ (n + 1) k)) (fun k => [rowG true 53 k (insAt X i.toNat (V.getD 0 default))]) (fun _ => [])
  | _ => .bad⟩
theorem ok_slices_Insert_STask : fnP Try.prog c_slices_Insert_STask.f = true ∧ ∀ args M, (c_slices_Insert_STask.sp args M).OK Try.prog c_slices_Insert_STask.f args M := by
  refine ⟨fp_42, fun args M => ?_⟩
  unfold c_slices_Insert_STask
  dsimp only
  split
  case h_2 => trivial
  rename_i a n c i b m cb
  refine specR_cases fun ty cap X hM hX hlen hs hi0 hk0 hf0 => ?_
  refine specR_cases fun ty2 cap2 V hM2 hX2 hlen2 hs2 hi2 hk2 hf2 => ?_
  by_cases hc : n + 1 ≤ c
  · rw [if_pos hc]
    rintro ⟨hne, ⟨hj0, hj1⟩, ⟨hm1, hcb, hcb2⟩, hnc, hcc⟩
    subst hlen
    obtain ⟨v, rfl⟩ : ∃ v, V = [v] := ⟨V.getD 0 default, by rw [← hlen2] at hm1; obtain ⟨w, rfl⟩ := List.length_eq_one_iff.1 hm1; rfl⟩
    subst hm1
    obtain ⟨j, rfl⟩ : ∃ j : Nat, i = j := ⟨i.toNat, by omega⟩
    obtain ⟨r, ai, ak, af⟩ := a
    dsimp only at hi0 hk0 hf0 hM hne
    subst hi0 hk0 hf0
    obtain ⟨r2, ai2, ak2, af2⟩ := b
    dsimp only at hi2 hk2 hf2 hM2 hne
    subst hi2 hk2 hf2
    refine goIn hf_42 rfl (nt := 95) rfl (rs := [.tmp 6]) rfl (C := [c_slices_overlaps_STask, c_slices_rotateRight_STask]) ⟨(by first | exact .inl ok_slices_overlaps_STask | exact ok_slices_overlaps_STask), (by first | exact .inl ok_slices_rotateRight_STask | exact ok_slices_rotateRight_STask), trivial⟩ (q := fun f => [].contains f) ⟨fun h => absurd h (by decide), fun h => absurd h (by decide), trivial⟩ mixed (O := ots [(11, otl [0, 1, 2, 3, 5, 6] (.alt 4 (otl [7, 8] .nil) (otl [7, 4, 8] .nil))), (15, otl [0, 1, 2, 3, 5, 6] (.alt 4 (otl [7, 8] .nil) (otl [7, 4, 8] .nil)))]) (by kernel_rfl) ?_
    have h10 : decide (((1 : Nat) : Int) = 0) = false := by decide
    obtain ⟨x, y, z⟩ := v
    by_cases he : j = X.length
    · have hd : decide ((j : Int) = (X.length : Int)) = true := decide_eq_true (by omega)
      have hput : putAt (List.map enc X) X.length [[AC.int .i64 x, AC.int .i64 y, AC.int .i64 z]] = List.map enc (insAt X j (x, y, z)) := by
        rw [putAt_end (by simp), insAt_enc, he, List.take_of_length_le (by simp), List.drop_eq_nil_of_le (by simp)]; rfl
      have hput' : List.map enc X ++ [[AC.int .i64 x, AC.int .i64 y, AC.int .i64 z]] = List.map enc (insAt X j (x, y, z)) := by
        rw [insAt_enc, he, List.take_of_length_le (by simp), List.drop_eq_nil_of_le (by simp)]; rfl
      simp only [↓WP, ↓grdD, ↓grdT, ↓un_dead, ↓binVC, ↓buildVC, ↓sliceVC, WQ, WN, Int.reduceToNat, renl, cll, rent, clt, ↓reduceIte, Nat.reduceLeDiff, Nat.reduceEqDiff, Nat.reduceLT, reduceCtorEq, List.append_nil, Nat.reduceAdd, Nat.reduceSub, Nat.reduceBEq, forall_const, implies_true, cond_true, cond_false, AV.ren, AC.ren, AV.cl, AC.cl, eq_self, List.all_cons, List.all_nil, AV.eqv, AC.eqv, eqvl, eqvt, Sl.eqv, List.map_append, List.length_map, List.length_append, List.length_replicate, List.length_set, List.map_replicate, nilVC, el_27, sd_27, zr_53, id_3, c_slices_overlaps_STask, c_slices_rotateRight_STask, hM, hM2, h10, hd, Nat.sub_zero, Nat.zero_add, if_neg hne, if_neg (Ne.symm hne), win_one, hput, hput']
      repeat' (first | with_reducible refine And.intro ?_ ?_ | intro _)
      all_goals try omega
      all_goals
        refine end_ret ?_
        simp only [↓WP, ↓grdD, ↓grdT, ↓un_dead, ↓binVC, ↓buildVC, ↓sliceVC, WQ, WN, Int.reduceToNat, renl, cll, rent, clt, ↓reduceIte, Nat.reduceLeDiff, Nat.reduceEqDiff, Nat.reduceLT, reduceCtorEq, List.append_nil, Nat.reduceAdd, Nat.reduceSub, Nat.reduceBEq, forall_const, implies_true, cond_true, cond_false, AV.ren, AC.ren, AV.cl, AC.cl, eq_self, List.all_cons, List.all_nil, AV.eqv, AC.eqv, eqvl, eqvt, Sl.eqv, List.map_append, List.length_map, List.length_append, List.length_replicate, List.length_set, List.map_replicate, nilVC, el_27, sd_27, zr_53, id_3, c_slices_overlaps_STask, c_slices_rotateRight_STask]
        refine ⟨(), [], [], ?_⟩
        simp only [WL, WNL, swA_new, swA_ne, nest_sw_ne, mapLL, List.mem_cons, Nat.reduceAdd, Nat.reduceLT, Nat.reduceLeDiff, Nat.reduceEqDiff, okU, List.nodup_cons, List.not_mem_nil, toT, toL, toO, keysO, renl, rent, cll, clt, eq_self, AV.eqv, AC.eqv, eqvl, eqvt, Sl.eqv, rowsLe, mapLL, rowsCl, List.map_append, List.length_map, List.length_append, List.length_set, List.map_replicate, rowG, List.getElem?_cons_zero, List.getElem?_cons_succ, List.getElem?_nil, List.append_nil, List.nil_append, List.cons_append, ghosts, St.gh, Option.some.injEq, implies_true, setT, AV.ren, AC.ren, AV.cl, AC.cl, List.replicate_succ, List.replicate_zero, List.nodup_nil, List.length_nil, List.length_cons, List.getD_cons_zero, List.getD_cons_succ, ↓reduceIte, retP]
        simp [okU, hM]
    · have hd : decide ((j : Int) = (X.length : Int)) = false := decide_eq_false (by omega)
      have hw1 : IntKind.i64.wrap ((X.length : Int) + ((1 : Nat) : Int)) = ((X.length + 1 : Nat) : Int) := by rw [w64 (by omega) (by omega)]; omega
      have hw2 : IntKind.i64.wrap ((j : Int) + ((1 : Nat) : Int)) = ((j + 1 : Nat) : Int) := by rw [w64 (by omega) (by omega)]; omega
      have hd2 : decide ((c : Int) < ((X.length + 1 : Nat) : Int)) = false := decide_eq_false (by omega)
      have hmn1 : min (X.length + 1 - j) (X.length + 1 - (j + 1)) = X.length - j := by omega
      have hmn1' : min (X.length - j) (X.length + 1 - (j + 1)) = X.length - j := by omega
      have hmn2 : min 1 (X.length + 1 - j) = 1 := by omega
      have hpl : (putAt (List.map enc X) (j + 1) (win (fun k => (List.map enc X).getD (j + k) []) (X.length - j))).length = X.length + 1 := by
        rw [putAt_in (by simp; omega)]
        simp [win_length]
        omega
      have hput : putAt (putAt (List.map enc X) (j + 1) (win (fun k => (List.map enc X).getD (j + k) []) (X.length - j))) j [[AC.int .i64 x, AC.int .i64 y, AC.int .i64 z]] = List.map enc (insAt X j (x, y, z)) := by
        have := ins_put (Z := List.map enc X) (z := [AC.int .i64 x, AC.int .i64 y, AC.int .i64 z]) (j := j) (by simp; omega)
        rw [List.length_map] at this
        rw [this, insAt_enc]; rfl
      simp only [↓WP, ↓grdD, ↓grdT, ↓un_dead, ↓binVC, ↓buildVC, ↓sliceVC, WQ, WN, Int.reduceToNat, renl, cll, rent, clt, ↓reduceIte, Nat.reduceLeDiff, Nat.reduceEqDiff, Nat.reduceLT, reduceCtorEq, List.append_nil, Nat.reduceAdd, Nat.reduceSub, Nat.reduceBEq, forall_const, implies_true, cond_true, cond_false, AV.ren, AC.ren, AV.cl, AC.cl, eq_self, List.all_cons, List.all_nil, AV.eqv, AC.eqv, eqvl, eqvt, Sl.eqv, List.map_append, List.length_map, List.length_append, List.length_replicate, List.length_set, List.map_replicate, nilVC, el_27, sd_27, zr_53, id_3, c_slices_overlaps_STask, c_slices_rotateRight_STask, hM, hM2, h10, hd, hw1, hw2, hd2, Nat.sub_zero, Nat.zero_add, if_neg hne, if_neg (Ne.symm hne), ownK_rows, win_one, hmn1, hmn1', hmn2, hpl, hput]
      repeat' (first | with_reducible refine And.intro ?_ ?_ | intro _)
      all_goals try omega
      all_goals try exact Ne.symm hne
      all_goals try exact False.elim (hne (by rename_i h; injection h with h; exact h.symm))
      all_goals
        refine end_ret ?_
        simp only [↓WP, ↓grdD, ↓grdT, ↓un_dead, ↓binVC, ↓buildVC, ↓sliceVC, WQ, WN, Int.reduceToNat, renl, cll, rent, clt, ↓reduceIte, Nat.reduceLeDiff, Nat.reduceEqDiff, Nat.reduceLT, reduceCtorEq, List.append_nil, Nat.reduceAdd, Nat.reduceSub, Nat.reduceBEq, forall_const, implies_true, cond_true, cond_false, AV.ren, AC.ren, AV.cl, AC.cl, eq_self, List.all_cons, List.all_nil, AV.eqv, AC.eqv, eqvl, eqvt, Sl.eqv, List.map_append, List.length_map, List.length_append, List.length_replicate, List.length_set, List.map_replicate, nilVC, el_27, sd_27, zr_53, id_3, c_slices_overlaps_STask, c_slices_rotateRight_STask]
        refine ⟨(), [], [], ?_⟩
        simp only [WL, WNL, swA_new, swA_ne, nest_sw_ne, mapLL, List.mem_cons, Nat.reduceAdd, Nat.reduceLT, Nat.reduceLeDiff, Nat.reduceEqDiff, okU, List.nodup_cons, List.not_mem_nil, toT, toL, toO, keysO, renl, rent, cll, clt, eq_self, AV.eqv, AC.eqv, eqvl, eqvt, Sl.eqv, rowsLe, mapLL, rowsCl, List.map_append, List.length_map, List.length_append, List.length_set, List.map_replicate, rowG, List.getElem?_cons_zero, List.getElem?_cons_succ, List.getElem?_nil, List.append_nil, List.nil_append, List.cons_append, ghosts, St.gh, Option.some.injEq, implies_true, setT, AV.ren, AC.ren, AV.cl, AC.cl, List.replicate_succ, List.replicate_zero, List.nodup_nil, List.length_nil, List.length_cons, List.getD_cons_zero, List.getD_cons_succ, ↓reduceIte, retP]
        simp [okU, hM]
  · rw [if_neg hc]
    rintro ⟨hne, ⟨hj0, hj1⟩, ⟨hm1, hcb, hcb2⟩, hnc, hcc⟩
    subst hlen
    obtain ⟨v, rfl⟩ : ∃ v, V = [v] := ⟨V.getD 0 default, by rw [← hlen2] at hm1; obtain ⟨w, rfl⟩ := List.length_eq_one_iff.1 hm1; rfl⟩
    subst hm1
    obtain ⟨j, rfl⟩ : ∃ j : Nat, i = j := ⟨i.toNat, by omega⟩
    obtain ⟨r, ai, ak, af⟩ := a
    dsimp only at hi0 hk0 hf0 hM hne
    subst hi0 hk0 hf0
    obtain ⟨r2, ai2, ak2, af2⟩ := b
    dsimp only at hi2 hk2 hf2 hM2 hne
    subst hi2 hk2 hf2
    obtain rfl : c = X.length := by omega
    refine goIn hf_42 rfl (nt := 95) rfl (rs := [.tmp 6]) rfl (C := [c_slices_overlaps_STask, c_slices_rotateRight_STask]) ⟨(by first | exact .inl ok_slices_overlaps_STask | exact ok_slices_overlaps_STask), (by first | exact .inl ok_slices_rotateRight_STask | exact ok_slices_rotateRight_STask), trivial⟩ (q := fun f => [].contains f) ⟨fun h => absurd h (by decide), fun h => absurd h (by decide), trivial⟩ mixed (O := ots [(11, otl [0, 1, 2, 3, 5, 6] (.alt 4 (otl [7, 8] .nil) (otl [7, 4, 8] .nil))), (15, otl [0, 1, 2, 3, 5, 6] (.alt 4 (otl [7, 8] .nil) (otl [7, 4, 8] .nil)))]) (by kernel_rfl) ?_
    have h10 : decide (((1 : Nat) : Int) = 0) = false := by decide
    obtain ⟨x, y, z⟩ := v
    by_cases he : j = X.length
    · have hd : decide ((j : Int) = (X.length : Int)) = true := decide_eq_true (by omega)
      have hput' : List.map enc X ++ [[AC.int .i64 x, AC.int .i64 y, AC.int .i64 z]] = List.map enc (insAt X j (x, y, z)) := by
        rw [insAt_enc, he, List.take_of_length_le (by simp), List.drop_eq_nil_of_le (by simp)]; rfl
      simp only [↓WP, ↓grdD, ↓grdT, ↓un_dead, ↓binVC, ↓buildVC, ↓sliceVC, WQ, WN, Int.reduceToNat, renl, cll, rent, clt, ↓reduceIte, Nat.reduceLeDiff, Nat.reduceEqDiff, Nat.reduceLT, reduceCtorEq, List.append_nil, Nat.reduceAdd, Nat.reduceSub, Nat.reduceBEq, forall_const, implies_true, cond_true, cond_false, AV.ren, AC.ren, AV.cl, AC.cl, eq_self, List.all_cons, List.all_nil, AV.eqv, AC.eqv, eqvl, eqvt, Sl.eqv, List.map_append, List.length_map, List.length_append, List.length_replicate, List.length_set, List.map_replicate, nilVC, el_27, sd_27, zr_53, id_3, c_slices_overlaps_STask, c_slices_rotateRight_STask, hM, hM2, h10, hd, Nat.sub_zero, Nat.zero_add, if_neg hne, if_neg (Ne.symm hne), win_one, hput']
      repeat' (first | with_reducible refine And.intro ?_ ?_ | intro _)
      all_goals try omega
      all_goals try exact .inl trivial
      all_goals try exact .inr trivial
      all_goals
        rename_i k hk _
        refine end_ret ?_
        simp only [↓WP, ↓grdD, ↓grdT, ↓un_dead, ↓binVC, ↓buildVC, ↓sliceVC, WQ, WN, Int.reduceToNat, renl, cll, rent, clt, ↓reduceIte, Nat.reduceLeDiff, Nat.reduceEqDiff, Nat.reduceLT, reduceCtorEq, List.append_nil, Nat.reduceAdd, Nat.reduceSub, Nat.reduceBEq, forall_const, implies_true, cond_true, cond_false, AV.ren, AC.ren, AV.cl, AC.cl, eq_self, List.all_cons, List.all_nil, AV.eqv, AC.eqv, eqvl, eqvt, Sl.eqv, List.map_append, List.length_map, List.length_append, List.length_replicate, List.length_set, List.map_replicate, nilVC, el_27, sd_27, zr_53, id_3, c_slices_overlaps_STask, c_slices_rotateRight_STask]
        refine ⟨k, [], [0], ?_⟩
        simp only [WL, WNL, swA_new, swA_ne, nest_sw_ne, mapLL, List.mem_cons, Nat.reduceAdd, Nat.reduceLT, Nat.reduceLeDiff, Nat.reduceEqDiff, okU, List.nodup_cons, List.not_mem_nil, toT, toL, toO, keysO, renl, rent, cll, clt, eq_self, AV.eqv, AC.eqv, eqvl, eqvt, Sl.eqv, rowsLe, mapLL, rowsCl, List.map_append, List.length_map, List.length_append, List.length_set, List.map_replicate, rowG, List.getElem?_cons_zero, List.getElem?_cons_succ, List.getElem?_nil, List.append_nil, List.nil_append, List.cons_append, ghosts, St.gh, Option.some.injEq, implies_true, setT, AV.ren, AC.ren, AV.cl, AC.cl, List.replicate_succ, List.replicate_zero, List.nodup_nil, List.length_nil, List.length_cons, List.getD_cons_zero, List.getD_cons_succ, ↓reduceIte, retP]
        simp [okU, hM, hk]
    · have hd : decide ((j : Int) = (X.length : Int)) = false := decide_eq_false (by omega)
      have hw1 : IntKind.i64.wrap ((X.length : Int) + ((1 : Nat) : Int)) = ((X.length + 1 : Nat) : Int) := by rw [w64 (by omega) (by omega)]; omega
      have hw2 : IntKind.i64.wrap ((j : Int) + ((1 : Nat) : Int)) = ((j + 1 : Nat) : Int) := by rw [w64 (by omega) (by omega)]; omega
      have hw3 : IntKind.i64.wrap (((X.length + 1 : Nat) : Int) - (j : Int)) = ((X.length + 1 - j : Nat) : Int) := by rw [w64 (by omega) (by omega)]; omega
      have hd2 : decide ((X.length : Int) < ((X.length + 1 : Nat) : Int)) = true := decide_eq_true (by omega)
      have hj1 : j + (X.length + 1 - j) = X.length + 1 := by omega
      have hmn1 : min (X.length - j) (X.length + 1 - (j + 1)) = X.length - j := by omega
      have hmn2 : min 1 (X.length + 1 - j) = 1 := by omega
      have hpl : (putAt (win (fun k => (List.map enc X).getD k []) j ++ win (fun _ => [AC.int .i64 0, AC.int .i64 0, AC.int .i64 0]) (X.length + 1 - j)) j [[AC.int .i64 x, AC.int .i64 y, AC.int .i64 z]]).length = X.length + 1 := by
        rw [putAt_in (by simp [win_length])]
        simp [win_length]
        omega
      have hput : putAt (putAt (win (fun k => (List.map enc X).getD k []) j ++ win (fun _ => [AC.int .i64 0, AC.int .i64 0, AC.int .i64 0]) (X.length + 1 - j)) j [[AC.int .i64 x, AC.int .i64 y, AC.int .i64 z]]) (j + 1) (win (fun k => (List.map enc X).getD (j + k) []) (X.length - j)) = List.map enc (insAt X j (x, y, z)) := by
        have := ins_put2 (Z := List.map enc X) (z := [AC.int .i64 x, AC.int .i64 y, AC.int .i64 z]) (o := [AC.int .i64 0, AC.int .i64 0, AC.int .i64 0]) (j := j) (by simp; omega)
        rw [List.length_map] at this
        rw [this, insAt_enc]; rfl
      simp only [↓WP, ↓grdD, ↓grdT, ↓un_dead, ↓binVC, ↓buildVC, ↓sliceVC, WQ, WN, Int.reduceToNat, renl, cll, rent, clt, ↓reduceIte, Nat.reduceLeDiff, Nat.reduceEqDiff, Nat.reduceLT, reduceCtorEq, List.append_nil, Nat.reduceAdd, Nat.reduceSub, Nat.reduceBEq, forall_const, implies_true, cond_true, cond_false, AV.ren, AC.ren, AV.cl, AC.cl, eq_self, List.all_cons, List.all_nil, AV.eqv, AC.eqv, eqvl, eqvt, Sl.eqv, List.map_append, List.length_map, List.length_append, List.length_replicate, List.length_set, List.map_replicate, nilVC, el_27, sd_27, zr_53, id_3, c_slices_overlaps_STask, c_slices_rotateRight_STask, hM, hM2, h10, hd, hw1, hw2, hw3, hd2, Nat.sub_zero, Nat.zero_add, if_neg hne, if_neg (Ne.symm hne), win_one, hj1, hmn1, hmn2, hpl, hput]
      repeat' (first | with_reducible refine And.intro ?_ ?_ | intro _)
      all_goals try omega
      all_goals try exact .inl trivial
      all_goals try exact .inr trivial
      all_goals try (simp only [win_length]; omega)
      · rename_i k hk _ _
        refine end_ret ?_
        simp only [↓WP, ↓grdD, ↓grdT, ↓un_dead, ↓binVC, ↓buildVC, ↓sliceVC, WQ, WN, Int.reduceToNat, renl, cll, rent, clt, ↓reduceIte, Nat.reduceLeDiff, Nat.reduceEqDiff, Nat.reduceLT, reduceCtorEq, List.append_nil, Nat.reduceAdd, Nat.reduceSub, Nat.reduceBEq, forall_const, implies_true, cond_true, cond_false, AV.ren, AC.ren, AV.cl, AC.cl, eq_self, List.all_cons, List.all_nil, AV.eqv, AC.eqv, eqvl, eqvt, Sl.eqv, List.map_append, List.length_map, List.length_append, List.length_replicate, List.length_set, List.map_replicate, nilVC, el_27, sd_27, zr_53, id_3, c_slices_overlaps_STask, c_slices_rotateRight_STask]
        refine ⟨k, [], [0], ?_⟩
        simp only [WL, WNL, swA_new, swA_ne, nest_sw_ne, mapLL, List.mem_cons, Nat.reduceAdd, Nat.reduceLT, Nat.reduceLeDiff, Nat.reduceEqDiff, okU, List.nodup_cons, List.not_mem_nil, toT, toL, toO, keysO, renl, rent, cll, clt, eq_self, AV.eqv, AC.eqv, eqvl, eqvt, Sl.eqv, rowsLe, mapLL, rowsCl, List.map_append, List.length_map, List.length_append, List.length_set, List.map_replicate, rowG, List.getElem?_cons_zero, List.getElem?_cons_succ, List.getElem?_nil, List.append_nil, List.nil_append, List.cons_append, ghosts, St.gh, Option.some.injEq, implies_true, setT, AV.ren, AC.ren, AV.cl, AC.cl, List.replicate_succ, List.replicate_zero, List.nodup_nil, List.length_nil, List.length_cons, List.getD_cons_zero, List.getD_cons_succ, ↓reduceIte, retP]
        simp [okU, hM, hk]
      · rename_i k hk _ _
        refine end_ret ?_
        simp only [↓WP, ↓grdD, ↓grdT, ↓un_dead, ↓binVC, ↓buildVC, ↓sliceVC, WQ, WN, Int.reduceToNat, renl, cll, rent, clt, ↓reduceIte, Nat.reduceLeDiff, Nat.reduceEqDiff, Nat.reduceLT, reduceCtorEq, List.append_nil, Nat.reduceAdd, Nat.reduceSub, Nat.reduceBEq, forall_const, implies_true, cond_true, cond_false, AV.ren, AC.ren, AV.cl, AC.cl, eq_self, List.all_cons, List.all_nil, AV.eqv, AC.eqv, eqvl, eqvt, Sl.eqv, List.map_append, List.length_map, List.length_append, List.length_replicate, List.length_set, List.map_replicate, nilVC, el_27, sd_27, zr_53, id_3, c_slices_overlaps_STask, c_slices_rotateRight_STask]
        refine ⟨k, [], [0], ?_⟩
        simp only [WL, WNL, swA_new, swA_ne, nest_sw_ne, mapLL, List.mem_cons, Nat.reduceAdd, Nat.reduceLT, Nat.reduceLeDiff, Nat.reduceEqDiff, okU, List.nodup_cons, List.not_mem_nil, toT, toL, toO, keysO, renl, rent, cll, clt, eq_self, AV.eqv, AC.eqv, eqvl, eqvt, Sl.eqv, rowsLe, mapLL, rowsCl, List.map_append, List.length_map, List.length_append, List.length_set, List.map_replicate, rowG, List.getElem?_cons_zero, List.getElem?_cons_succ, List.getElem?_nil, List.append_nil, List.nil_append, List.cons_append, ghosts, St.gh, Option.some.injEq, implies_true, setT, AV.ren, AC.ren, AV.cl, AC.cl, List.replicate_succ, List.replicate_zero, List.nodup_nil, List.length_nil, List.length_cons, List.getD_cons_zero, List.getD_cons_succ, ↓reduceIte, retP]
        simp [okU, hM, hk]
end Go.Eng.T
