/- faults: the law FnFaults. -/
import Derived.Test.YtgbbegbepbniiaaFn8
set_option linter.unusedVariables false
set_option linter.unusedSimpArgs false
set_option linter.unusedSectionVars false
namespace Go.Eng.T
open Go.Proofs
open Cel (enc dec)
set_option maxRecDepth 100000
set_option maxHeartbeats 8000000
def c_spec_DrawFaults : Contract := ⟨18, fun args M => match args with
  | [.c (.sl a n c)] => .eff (RowOk UInt8 a n (M a.r)) (List Int × Nat × Int) (fun q => q.1.length ≤ 41 ∧ q.1.length ≤ q.2.1) (fun q => .tup [(false, [.sl ⟨.loc 0, 0, 0, 0⟩ q.1.length q.2.1]), (false, [.int .i64 q.2.2])]) (fun q => [rowG true 3 q.2.1 q.1]) (fun _ => [])
  | _ => .bad⟩
theorem ok_spec_DrawFaults : fnP Try.prog c_spec_DrawFaults.f = true ∧ ∀ args M, (c_spec_DrawFaults.sp args M).OK Try.prog c_spec_DrawFaults.f args M := by
  refine ⟨fp_18, fun args M => ?_⟩
  unfold c_spec_DrawFaults
  dsimp only
  split
  case h_2 => trivial
  rename_i a n ca
  intro ha
  refine goIn hf_18 rfl (nt := 14) rfl (rs := [.tmp 2, .tmp 3]) rfl (C := [c_spec_l1New, c_spec_l1PickInt, c_spec_l35Refs]) ⟨(by first | exact .inl ok_spec_l1New | exact ok_spec_l1New), (by first | exact .inl ok_spec_l1PickInt | exact ok_spec_l1PickInt), (by first | exact .inl ok_spec_l35Refs | exact ok_spec_l35Refs), trivial⟩ (q := fun _ => false) okQ_none mixed (O := fun _ => .nil) (by kernel_rfl) ?_
  simp only [↓WP, ↓grdD, ↓grdT, ↓un_dead, ↓binVC, ↓buildVC, ↓sliceVC, WQ, WN, Int.reduceToNat, renl, cll, rent, clt, ↓reduceIte, Nat.reduceLeDiff, Nat.reduceEqDiff, Nat.reduceLT, reduceCtorEq, List.append_nil, Nat.reduceAdd, Nat.reduceSub, Nat.reduceBEq, forall_const, implies_true, cond_true, cond_false, AV.ren, AC.ren, AV.cl, AC.cl, eq_self, List.all_cons, List.all_nil, AV.eqv, AC.eqv, eqvl, eqvt, Sl.eqv, List.map_append, List.length_map, List.length_append, List.length_replicate, List.length_set, List.map_replicate, nilVC, el_22, zr_3, c_spec_l1New, c_spec_l1PickInt, c_spec_l35Refs, ha]
  repeat' (first | with_reducible refine And.intro ?_ ?_ | intro _)
  all_goals try omega
  all_goals try exact .inr trivial
  all_goals try (refine .inr ?_; intro cs hcs; simp only [List.mem_cons, List.not_mem_nil, or_false] at hcs; rcases hcs with rfl | rfl | rfl | rfl | rfl | rfl | rfl | rfl <;> rfl)
  all_goals
    rename_i x1 hx1 q hq
    obtain ⟨X, k, p9, z9⟩ := q
    obtain ⟨⟨hq1, hq2⟩, _⟩ := hq
    dsimp only at hq1 hq2
    refine end_ret ?_
    simp only [↓WP, ↓grdD, ↓grdT, ↓un_dead, ↓binVC, ↓buildVC, ↓sliceVC, WQ, WN, Int.reduceToNat, renl, cll, rent, clt, ↓reduceIte, Nat.reduceLeDiff, Nat.reduceEqDiff, Nat.reduceLT, reduceCtorEq, List.append_nil, Nat.reduceAdd, Nat.reduceSub, Nat.reduceBEq, forall_const, implies_true, cond_true, cond_false, AV.ren, AC.ren, AV.cl, AC.cl, eq_self, List.all_cons, List.all_nil, AV.eqv, AC.eqv, eqvl, eqvt, Sl.eqv, List.map_append, List.length_map, List.length_append, List.length_replicate, List.length_set, List.map_replicate, nilVC, el_22, zr_3, c_spec_l1New, c_spec_l1PickInt, c_spec_l35Refs]
    refine ⟨(X, k, x1.1), [], [2], ?_⟩
    simp only [WL, WNL, swA_new, swA_ne, nest_sw_ne, mapLL, List.mem_cons, Nat.reduceAdd, Nat.reduceLT, Nat.reduceLeDiff, Nat.reduceEqDiff, okU, List.nodup_cons, List.not_mem_nil, toT, toL, toO, keysO, renl, rent, cll, clt, eq_self, AV.eqv, AC.eqv, eqvl, eqvt, Sl.eqv, rowsLe, mapLL, rowsCl, List.map_append, List.length_map, List.length_append, List.length_set, List.map_replicate, rowG, List.getElem?_cons_zero, List.getElem?_cons_succ, List.getElem?_nil, List.append_nil, List.nil_append, List.cons_append, ghosts, St.gh, Option.some.injEq, implies_true, setT, AV.ren, AC.ren, AV.cl, AC.cl, List.replicate_succ, List.replicate_zero, List.nodup_nil, List.length_nil, List.length_cons, List.getD_cons_zero, List.getD_cons_succ, ↓reduceIte, retP]
    simp [hq1, hq2]
theorem any_kn (X : List Int) (p : Nat) : (X.any fun x => decide (x = (p : Int))) = decide ((p : Int) ∈ X) := by
  rw [Bool.eq_iff_iff, List.any_eq_true, decide_eq_true_eq]
  constructor
  · rintro ⟨x, hx, h⟩
    exact of_decide_eq_true h ▸ hx
  · exact fun h => ⟨_, h, decide_eq_true rfl⟩
def c_laws_FnFaults : Contract := ⟨6, fun args M => match args with
  | [.c (.sl a n _)] => .pure (n ≤ 9223372036854775807 ∧ (n ≤ 4294967296 → RowOk UInt8 a n (M a.r))) (Eng.B true)
  | _ => .bad⟩
theorem ok_laws_FnFaults : fnP Try.prog c_laws_FnFaults.f = true ∧ ∀ args M, (c_laws_FnFaults.sp args M).OK Try.prog c_laws_FnFaults.f args M := by
  refine ⟨fp_6, fun args M => ?_⟩
  unfold c_laws_FnFaults
  dsimp only
  split
  case h_2 => trivial
  rename_i a n ca
  rintro ⟨hn, h1⟩
  refine goIn hf_6 rfl (nt := 119) rfl (rs := [.tmp 2]) rfl (C := [c_laws_big, c_spec_DrawFaults, c_impl_Faults, c_impl_FaultsBest, c_impl_FaultsFifo, c_spec_Faults, c_spec_FaultsBest, c_spec_FaultsFifo, c_laws_has]) ⟨(by first | exact .inl ok_laws_big | exact ok_laws_big), (by first | exact .inl ok_spec_DrawFaults | exact ok_spec_DrawFaults), (by first | exact .inl ok_impl_Faults | exact ok_impl_Faults), (by first | exact .inl ok_impl_FaultsBest | exact ok_impl_FaultsBest), (by first | exact .inl ok_impl_FaultsFifo | exact ok_impl_FaultsFifo), (by first | exact .inl ok_spec_Faults | exact ok_spec_Faults), (by first | exact .inl ok_spec_FaultsBest | exact ok_spec_FaultsBest), (by first | exact .inl ok_spec_FaultsFifo | exact ok_spec_FaultsFifo), (by first | exact .inl ok_laws_has | exact ok_laws_has), trivial⟩ (q := fun _ => false) okQ_none mixed (O := fun _ => .nil) (by kernel_rfl) ?_
  by_cases hs : 1048576 < n
  · simp only [↓WP, ↓grdD, ↓grdT, ↓un_dead, ↓binVC, ↓buildVC, ↓sliceVC, WQ, WN, Int.reduceToNat, renl, cll, rent, clt, ↓reduceIte, Nat.reduceLeDiff, Nat.reduceEqDiff, Nat.reduceLT, reduceCtorEq, List.append_nil, Nat.reduceAdd, Nat.reduceSub, Nat.reduceBEq, forall_const, implies_true, cond_true, cond_false, AV.ren, AC.ren, AV.cl, AC.cl, eq_self, List.all_cons, List.all_nil, AV.eqv, AC.eqv, eqvl, eqvt, Sl.eqv, List.map_append, List.length_map, List.length_append, List.length_replicate, List.length_set, List.map_replicate, nilVC, sd_22, c_laws_big, c_spec_DrawFaults, c_impl_Faults, c_impl_FaultsBest, c_impl_FaultsFifo, c_spec_Faults, c_spec_FaultsBest, c_spec_FaultsFifo, c_laws_has, decide_eq_true hs]
  · have ha := h1 (by omega)
    simp only [↓WP, ↓grdD, ↓grdT, ↓un_dead, ↓binVC, ↓buildVC, ↓sliceVC, WQ, WN, Int.reduceToNat, renl, cll, rent, clt, ↓reduceIte, Nat.reduceLeDiff, Nat.reduceEqDiff, Nat.reduceLT, reduceCtorEq, List.append_nil, Nat.reduceAdd, Nat.reduceSub, Nat.reduceBEq, forall_const, implies_true, cond_true, cond_false, AV.ren, AC.ren, AV.cl, AC.cl, eq_self, List.all_cons, List.all_nil, AV.eqv, AC.eqv, eqvl, eqvt, Sl.eqv, List.map_append, List.length_map, List.length_append, List.length_replicate, List.length_set, List.map_replicate, nilVC, sd_22, c_laws_big, c_spec_DrawFaults, c_impl_Faults, c_impl_FaultsBest, c_impl_FaultsFifo, c_spec_Faults, c_spec_FaultsBest, c_spec_FaultsFifo, c_laws_has, decide_eq_false hs, ha]
    rintro ⟨X, k, m⟩ ⟨x1, x2⟩
    dsimp only at x1 x2
    obtain ⟨f1, f2, f3, f4⟩ := faults_law X m
    have ra := cntF_range true v0 X m
    have rb := cntF_range false (vicB X) X m
    have rf := cntF_range false v0 X m
    obtain ⟨A, hA⟩ : ∃ A, cntF true v0 X m = A := ⟨_, rfl⟩
    obtain ⟨Bq, hB⟩ : ∃ B, cntF false (vicB X) X m = B := ⟨_, rfl⟩
    obtain ⟨Fq, hF⟩ : ∃ F, cntF false v0 X m = F := ⟨_, rfl⟩
    rw [hA, hB] at f1
    rw [hB, hF] at f2
    rw [hA, hB, hF] at f3 f4
    rw [hA] at ra
    rw [hB] at rb
    rw [hF] at rf
    have d1 : decide (A < Bq) = false := decide_eq_false (by omega)
    have d2 : decide (Fq < Bq) = false := decide_eq_false (by omega)
    simp only [hA, hB, hF, d1, d2, decide_true, Bool.not_true, Bool.or_false, Bool.not_false, Bool.false_eq_true, false_implies, true_and, forall_const]
    have hX : X.length ≤ 4294967296 ∧ (X.length = 0 ∨ True) := ⟨by omega, .inr trivial⟩
    repeat' (first | exact hX | exact ⟨hX, x2⟩ | (refine And.intro (by first | exact hX | exact ⟨hX, x2⟩ | exact fun _ => hX) ?_) | intro _)
    refine loopI (J := {i : Nat // i ≤ 100}) (fun i => ⟨slots 119 [(3, .c (.sl ⟨.loc 0, 0, 0, 0⟩ X.length k)), (4, I m), (5, I A), (6, I Bq), (7, I Fq), (8, I (kn X i.1 : Nat)), (9, I (i.1 : Nat))], M, [], [rowG true 3 k X]⟩) (fun i => 100 - i.1) ⟨0, Nat.zero_le _⟩ (Le_intro [0] (by simp only [WL, WNL, swA_new, swA_ne, nest_sw_ne, mapLL, List.mem_cons, Nat.reduceAdd, Nat.reduceLT, Nat.reduceLeDiff, Nat.reduceEqDiff, okU, List.nodup_cons, List.not_mem_nil, toT, toL, toO, keysO, renl, rent, cll, clt, eq_self, AV.eqv, AC.eqv, eqvl, eqvt, Sl.eqv, rowsLe, mapLL, rowsCl, List.map_append, List.length_map, List.length_append, List.length_set, List.map_replicate, rowG, List.getElem?_cons_zero, List.getElem?_cons_succ, List.getElem?_nil, List.append_nil, List.nil_append, List.cons_append, ghosts, St.gh, Option.some.injEq, implies_true, setT, AV.ren, AC.ren, AV.cl, AC.cl, List.replicate_succ, List.replicate_zero, List.nodup_nil, List.length_nil, List.length_cons, List.getD_cons_zero, List.getD_cons_succ, ↓reduceIte, kn]; try simp)) ?_
    rintro ⟨i, hi⟩
    have hw := wS (i := i) (by omega)
    have hkl : kn X i ≤ i := by
      unfold kn
      exact Nat.le_trans List.countP_le_length (by simp)
    have hwk := wS (i := kn X i) (by omega)
    rcases Nat.lt_or_ge i 100 with hlt | hge
    · have hd : decide ((i : Int) ≤ 99) = true := decide_eq_true (by omega)
      have hks := kn_succ X i
      by_cases hm : (i : Int) ∈ X
      · rw [if_pos hm] at hks
        have ha2 : (X.any fun x => decide (x = (i : Int))) = true := by rw [any_kn]; exact decide_eq_true hm
        simp only [↓WP, ↓grdD, ↓grdT, ↓un_dead, ↓binVC, ↓buildVC, ↓sliceVC, WQ, WN, Int.reduceToNat, renl, cll, rent, clt, ↓reduceIte, Nat.reduceLeDiff, Nat.reduceEqDiff, Nat.reduceLT, reduceCtorEq, List.append_nil, Nat.reduceAdd, Nat.reduceSub, Nat.reduceBEq, forall_const, implies_true, cond_true, cond_false, AV.ren, AC.ren, AV.cl, AC.cl, eq_self, List.all_cons, List.all_nil, AV.eqv, AC.eqv, eqvl, eqvt, Sl.eqv, List.map_append, List.length_map, List.length_append, List.length_replicate, List.length_set, List.map_replicate, nilVC, sd_22, c_laws_big, c_spec_DrawFaults, c_impl_Faults, c_impl_FaultsBest, c_impl_FaultsFifo, c_spec_Faults, c_spec_FaultsBest, c_spec_FaultsFifo, c_laws_has, hd, ha2, hw, hwk]
        exact ⟨hX, ⟨i + 1, hlt⟩, Le_intro [0] (by simp only [WL, WNL, swA_new, swA_ne, nest_sw_ne, mapLL, List.mem_cons, Nat.reduceAdd, Nat.reduceLT, Nat.reduceLeDiff, Nat.reduceEqDiff, okU, List.nodup_cons, List.not_mem_nil, toT, toL, toO, keysO, renl, rent, cll, clt, eq_self, AV.eqv, AC.eqv, eqvl, eqvt, Sl.eqv, rowsLe, mapLL, rowsCl, List.map_append, List.length_map, List.length_append, List.length_set, List.map_replicate, rowG, List.getElem?_cons_zero, List.getElem?_cons_succ, List.getElem?_nil, List.append_nil, List.nil_append, List.cons_append, ghosts, St.gh, Option.some.injEq, implies_true, setT, AV.ren, AC.ren, AV.cl, AC.cl, List.replicate_succ, List.replicate_zero, List.nodup_nil, List.length_nil, List.length_cons, List.getD_cons_zero, List.getD_cons_succ, ↓reduceIte, hks]; try simp), by show 100 - (i + 1) < 100 - i; omega⟩
      · rw [if_neg hm, Nat.add_zero] at hks
        have ha2 : (X.any fun x => decide (x = (i : Int))) = false := by rw [any_kn]; exact decide_eq_false hm
        simp only [↓WP, ↓grdD, ↓grdT, ↓un_dead, ↓binVC, ↓buildVC, ↓sliceVC, WQ, WN, Int.reduceToNat, renl, cll, rent, clt, ↓reduceIte, Nat.reduceLeDiff, Nat.reduceEqDiff, Nat.reduceLT, reduceCtorEq, List.append_nil, Nat.reduceAdd, Nat.reduceSub, Nat.reduceBEq, forall_const, implies_true, cond_true, cond_false, AV.ren, AC.ren, AV.cl, AC.cl, eq_self, List.all_cons, List.all_nil, AV.eqv, AC.eqv, eqvl, eqvt, Sl.eqv, List.map_append, List.length_map, List.length_append, List.length_replicate, List.length_set, List.map_replicate, nilVC, sd_22, c_laws_big, c_spec_DrawFaults, c_impl_Faults, c_impl_FaultsBest, c_impl_FaultsFifo, c_spec_Faults, c_spec_FaultsBest, c_spec_FaultsFifo, c_laws_has, hd, ha2, hw]
        exact ⟨hX, ⟨i + 1, hlt⟩, Le_intro [0] (by simp only [WL, WNL, swA_new, swA_ne, nest_sw_ne, mapLL, List.mem_cons, Nat.reduceAdd, Nat.reduceLT, Nat.reduceLeDiff, Nat.reduceEqDiff, okU, List.nodup_cons, List.not_mem_nil, toT, toL, toO, keysO, renl, rent, cll, clt, eq_self, AV.eqv, AC.eqv, eqvl, eqvt, Sl.eqv, rowsLe, mapLL, rowsCl, List.map_append, List.length_map, List.length_append, List.length_set, List.map_replicate, rowG, List.getElem?_cons_zero, List.getElem?_cons_succ, List.getElem?_nil, List.append_nil, List.nil_append, List.cons_append, ghosts, St.gh, Option.some.injEq, implies_true, setT, AV.ren, AC.ren, AV.cl, AC.cl, List.replicate_succ, List.replicate_zero, List.nodup_nil, List.length_nil, List.length_cons, List.getD_cons_zero, List.getD_cons_succ, ↓reduceIte, hks]; try simp), by show 100 - (i + 1) < 100 - i; omega⟩
    · obtain rfl : i = 100 := by omega
      have hd : decide (((100 : Nat) : Int) ≤ 99) = false := by decide
      obtain ⟨kk, hkk⟩ : ∃ kk, kn X 100 = kk := ⟨_, rfl⟩
      rw [hkk] at f4
      by_cases h0 : A = 0
      · obtain ⟨b0, c0⟩ := f3 h0
        simp only [↓WP, ↓grdD, ↓grdT, ↓un_dead, ↓binVC, ↓buildVC, ↓sliceVC, WQ, WN, Int.reduceToNat, renl, cll, rent, clt, ↓reduceIte, Nat.reduceLeDiff, Nat.reduceEqDiff, Nat.reduceLT, reduceCtorEq, List.append_nil, Nat.reduceAdd, Nat.reduceSub, Nat.reduceBEq, forall_const, implies_true, cond_true, cond_false, AV.ren, AC.ren, AV.cl, AC.cl, eq_self, List.all_cons, List.all_nil, AV.eqv, AC.eqv, eqvl, eqvt, Sl.eqv, List.map_append, List.length_map, List.length_append, List.length_replicate, List.length_set, List.map_replicate, nilVC, sd_22, c_laws_big, c_spec_DrawFaults, c_impl_Faults, c_impl_FaultsBest, c_impl_FaultsFifo, c_spec_Faults, c_spec_FaultsBest, c_spec_FaultsFifo, c_laws_has, hd, decide_eq_true h0, decide_eq_true b0, decide_eq_true c0]
      · obtain ⟨n1, n2, n3, n4, n5⟩ := f4 h0
        have e0 : decide (A = 0) = false := decide_eq_false h0
        have wm : IntKind.i64.wrap (m + 1) = m + 1 := w64 (by omega) (by omega)
        have e5 : decide (Bq ≥ (kk : Int)) = true := decide_eq_true n3
        have e6 : decide (A ≤ (X.length : Int)) = true := decide_eq_true n4
        have fin : (decide (m < (kk : Int)) || (decide (A = (kk : Int)) && decide (Fq = (kk : Int)) && decide (Bq = (kk : Int)))) = true := by
          by_cases hk : m < kk
          · simp [hk]
          · obtain ⟨q1, q2, q3⟩ := n5 hk
            simp [q1, q2, q3]
        by_cases h20 : m < 20
        · obtain ⟨n6, n7⟩ := n2 h20
          have e1 : decide (cntF true v0 X (m + 1) > A) = false := decide_eq_false (by omega)
          have e2 : decide (cntF false (vicB X) X (m + 1) > Bq) = false := decide_eq_false (by omega)
          simp only [↓WP, ↓grdD, ↓grdT, ↓un_dead, ↓binVC, ↓buildVC, ↓sliceVC, WQ, WN, Int.reduceToNat, renl, cll, rent, clt, ↓reduceIte, Nat.reduceLeDiff, Nat.reduceEqDiff, Nat.reduceLT, reduceCtorEq, List.append_nil, Nat.reduceAdd, Nat.reduceSub, Nat.reduceBEq, forall_const, implies_true, cond_true, cond_false, AV.ren, AC.ren, AV.cl, AC.cl, eq_self, List.all_cons, List.all_nil, AV.eqv, AC.eqv, eqvl, eqvt, Sl.eqv, List.map_append, List.length_map, List.length_append, List.length_replicate, List.length_set, List.map_replicate, nilVC, sd_22, c_laws_big, c_spec_DrawFaults, c_impl_Faults, c_impl_FaultsBest, c_impl_FaultsFifo, c_spec_Faults, c_spec_FaultsBest, c_spec_FaultsFifo, c_laws_has, hd, e0, wm, hkk, decide_eq_true h20, e1, e2, e5, e6]
          exact ⟨hX, ⟨hX, x2⟩, fin⟩
        · simp only [↓WP, ↓grdD, ↓grdT, ↓un_dead, ↓binVC, ↓buildVC, ↓sliceVC, WQ, WN, Int.reduceToNat, renl, cll, rent, clt, ↓reduceIte, Nat.reduceLeDiff, Nat.reduceEqDiff, Nat.reduceLT, reduceCtorEq, List.append_nil, Nat.reduceAdd, Nat.reduceSub, Nat.reduceBEq, forall_const, implies_true, cond_true, cond_false, AV.ren, AC.ren, AV.cl, AC.cl, eq_self, List.all_cons, List.all_nil, AV.eqv, AC.eqv, eqvl, eqvt, Sl.eqv, List.map_append, List.length_map, List.length_append, List.length_replicate, List.length_set, List.map_replicate, nilVC, sd_22, c_laws_big, c_spec_DrawFaults, c_impl_Faults, c_impl_FaultsBest, c_impl_FaultsFifo, c_spec_Faults, c_spec_FaultsBest, c_spec_FaultsFifo, c_laws_has, hd, e0, wm, hkk, decide_eq_false h20, e5, e6]
          exact fin
end Go.Eng.T
