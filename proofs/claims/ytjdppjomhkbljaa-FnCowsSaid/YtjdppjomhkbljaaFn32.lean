/- cow: the law FnCows. -/
import Derived.Test.YtjdppjomhkbljaaFn31
set_option linter.unusedVariables false
set_option linter.unusedSimpArgs false
set_option linter.unusedSectionVars false
namespace Go.Eng.T
open Go.Proofs
open Cel (enc dec)
set_option maxRecDepth 100000
set_option maxHeartbeats 8000000
def c_laws_big : Contract := ⟨34, fun args M => match args with
  | [.c (.sl _ n _)] => .pure True (Eng.B (decide (1048576 < n)))
  | _ => .bad⟩
theorem ok_laws_big : fnP Try.prog c_laws_big.f = true ∧ ∀ args M, (c_laws_big.sp args M).OK Try.prog c_laws_big.f args M := by
  refine ⟨fp_34, fun args M => ?_⟩
  unfold c_laws_big
  dsimp only
  split
  case h_2 => trivial
  rename_i _ n _
  intro _
  refine goIn hf_34 rfl (nt := 6) rfl (rs := [.tmp 2]) rfl (C := []) trivial (q := fun _ => false) okQ_none mixed (O := fun _ => .nil) (by kernel_rfl) ?_
  simp only [↓WP, ↓grdD, ↓grdT, ↓un_dead, ↓binVC, ↓buildVC, ↓sliceVC, WQ, WN, Int.reduceToNat, renl, cll, rent, clt, ↓reduceIte, Nat.reduceLeDiff, Nat.reduceEqDiff, Nat.reduceLT, reduceCtorEq, List.append_nil, Nat.reduceAdd, Nat.reduceSub, Nat.reduceBEq, forall_const, implies_true, cond_true, cond_false, AV.ren, AC.ren, AV.cl, AC.cl, eq_self, List.all_cons, List.all_nil, AV.eqv, AC.eqv, eqvl, eqvt, Sl.eqv, List.map_append, List.length_map, List.length_append, List.length_replicate, List.length_set, List.map_replicate, nilVC, sd_45]
  simp
  omega
theorem q_laws_big : Quiet c_laws_big := by
  intro args M
  unfold c_laws_big
  dsimp only
  split <;> first | trivial | (intro _; rfl)
def c_laws_sameInts : Contract := ⟨38, fun args M => match args with
  | [.c (.sl a n _), .c (.sl b m _)] => .pure (RowOk Int a n (M a.r) ∧ RowOk Int b m (M b.r)) (Eng.B (decide (row Int a n (M a.r) = row Int b m (M b.r))))
  | _ => .bad⟩
theorem ok_laws_sameInts : fnP Try.prog c_laws_sameInts.f = true ∧ ∀ args M, (c_laws_sameInts.sp args M).OK Try.prog c_laws_sameInts.f args M := by
  refine ⟨fp_38, fun args M => ?_⟩
  unfold c_laws_sameInts
  dsimp only
  split
  case h_2 => trivial
  rename_i a n ca b m cb
  rintro ⟨ha, hb⟩
  obtain ⟨hs, X, hX, rfl, hat⟩ := ha.x
  obtain ⟨hs', Y, hY, rfl, hbt⟩ := hb.x
  rw [hX, hY]
  refine goIn hf_38 rfl (nt := 26) rfl (rs := [.tmp 4]) rfl (C := []) trivial (q := fun f => [].contains f) trivial mixed (O := ots [(6, otl [0, 1, 2, 3, 4, 5, 6, 7, 8] .nil)]) (by kernel_rfl) ?_
  simp only [↓WP, ↓grdD, ↓grdT, ↓un_dead, ↓binVC, ↓buildVC, ↓sliceVC, WQ, WN, Int.reduceToNat, renl, cll, rent, clt, ↓reduceIte, Nat.reduceLeDiff, Nat.reduceEqDiff, Nat.reduceLT, reduceCtorEq, List.append_nil, Nat.reduceAdd, Nat.reduceSub, Nat.reduceBEq, forall_const, implies_true, cond_true, cond_false, AV.ren, AC.ren, AV.cl, AC.cl, eq_self, List.all_cons, List.all_nil, AV.eqv, AC.eqv, eqvl, eqvt, Sl.eqv, List.map_append, List.length_map, List.length_append, List.length_replicate, List.length_set, List.map_replicate, nilVC, sd_23, el_23, sz_3]
  refine ⟨fun h => ?_, fun h => ?_⟩
  · have : X ≠ Y := by rintro rfl; simp at h
    simp [this]
  · have hl : X.length = Y.length := by simp at h; omega
    refine loopI (J := {i : Nat // i ≤ X.length ∧ X.take i = Y.take i}) (fun i => ⟨slots 26 [(0, .c (.sl a.up X.length ca)), (1, .c (.sl b.up Y.length cb)), (5, I i.1)], M, [], []⟩) (fun i => X.length - i.1) ⟨0, by omega, rfl⟩ (Le_intro [] (by simp [WL, WNL, swA_new, swA_ne, nest_sw_ne, mapLL, List.mem_cons, Nat.reduceAdd, Nat.reduceLT, Nat.reduceLeDiff, Nat.reduceEqDiff, okU, List.nodup_cons, List.not_mem_nil, toT, toL, toO, keysO, renl, rent, cll, clt, eq_self, AV.eqv, AC.eqv, eqvl, eqvt, Sl.eqv, rowsLe, mapLL, rowsCl, List.map_append, List.length_map, List.length_append, List.length_set, List.map_replicate, rowG, List.getElem?_cons_zero, List.getElem?_cons_succ, List.getElem?_nil, List.append_nil, List.nil_append, List.cons_append, ghosts, St.gh, Option.some.injEq, implies_true, setT, AV.ren, AC.ren, AV.cl, AC.cl, List.replicate_succ, List.replicate_zero, List.nodup_nil, List.length_nil, List.length_cons, List.getD_cons_zero, List.getD_cons_succ, ↓reduceIte])) ?_
    rintro ⟨i, hi, he⟩
    have hw := wS (i := i) (by omega)
    rcases Nat.lt_or_ge i X.length with hlt | hge
    · obtain ⟨own, ty, cnt, cap, len, get, hM, hf, hic, hkn, hget⟩ := hat (by omega)
      obtain ⟨own', ty', cnt', cap', len', get', hM', hf', hic', hkn', hget'⟩ := hbt (by omega)
      simp only [↓WP, ↓grdD, ↓grdT, ↓un_dead, ↓binVC, ↓buildVC, ↓sliceVC, WQ, WN, Int.reduceToNat, renl, cll, rent, clt, ↓reduceIte, Nat.reduceLeDiff, Nat.reduceEqDiff, Nat.reduceLT, reduceCtorEq, List.append_nil, Nat.reduceAdd, Nat.reduceSub, Nat.reduceBEq, forall_const, implies_true, cond_true, cond_false, AV.ren, AC.ren, AV.cl, AC.cl, eq_self, List.all_cons, List.all_nil, AV.eqv, AC.eqv, eqvl, eqvt, Sl.eqv, List.map_append, List.length_map, List.length_append, List.length_replicate, List.length_set, List.map_replicate, nilVC, sd_23, el_23, sz_3, dlt hlt, hw, hM, hf, hget i hlt, hM', hf', hget' i (by omega)]
      repeat refine ⟨by omega, ?_⟩
      refine ⟨fun h1 => ?_, fun h1 => ?_⟩
      · have := ne_of_getD (X := X) (Y := Y) (i := i) (by simpa using h1)
        simp [this]
      · exact ⟨⟨i + 1, hlt, eq_step he hlt (by omega) (by simpa using h1)⟩, Le_intro [] (by simp [WL, WNL, swA_new, swA_ne, nest_sw_ne, mapLL, List.mem_cons, Nat.reduceAdd, Nat.reduceLT, Nat.reduceLeDiff, Nat.reduceEqDiff, okU, List.nodup_cons, List.not_mem_nil, toT, toL, toO, keysO, renl, rent, cll, clt, eq_self, AV.eqv, AC.eqv, eqvl, eqvt, Sl.eqv, rowsLe, mapLL, rowsCl, List.map_append, List.length_map, List.length_append, List.length_set, List.map_replicate, rowG, List.getElem?_cons_zero, List.getElem?_cons_succ, List.getElem?_nil, List.append_nil, List.nil_append, List.cons_append, ghosts, St.gh, Option.some.injEq, implies_true, setT, AV.ren, AC.ren, AV.cl, AC.cl, List.replicate_succ, List.replicate_zero, List.nodup_nil, List.length_nil, List.length_cons, List.getD_cons_zero, List.getD_cons_succ, ↓reduceIte]), by show X.length - (i + 1) < X.length - i; omega⟩
    · obtain rfl : i = X.length := by omega
      simp only [↓WP, ↓grdD, ↓grdT, ↓un_dead, ↓binVC, ↓buildVC, ↓sliceVC, WQ, WN, Int.reduceToNat, renl, cll, rent, clt, ↓reduceIte, Nat.reduceLeDiff, Nat.reduceEqDiff, Nat.reduceLT, reduceCtorEq, List.append_nil, Nat.reduceAdd, Nat.reduceSub, Nat.reduceBEq, forall_const, implies_true, cond_true, cond_false, AV.ren, AC.ren, AV.cl, AC.cl, eq_self, List.all_cons, List.all_nil, AV.eqv, AC.eqv, eqvl, eqvt, Sl.eqv, List.map_append, List.length_map, List.length_append, List.length_replicate, List.length_set, List.map_replicate, nilVC, sd_23, el_23, sz_3, dge hge, hw]
      simp [eq_of_take hl he]
theorem q_laws_sameInts : Quiet c_laws_sameInts := by
  intro args M
  unfold c_laws_sameInts
  dsimp only
  split <;> first | trivial | (intro _; rfl)
def c_laws_boolInt : Contract := ⟨39, fun args M => match args with
  | [.c (.bool b)] => .pure True (I (if b = true then 1 else 0))
  | _ => .bad⟩
theorem ok_laws_boolInt : fnP Try.prog c_laws_boolInt.f = true ∧ ∀ args M, (c_laws_boolInt.sp args M).OK Try.prog c_laws_boolInt.f args M := by
  refine ⟨fp_39, fun args M => ?_⟩
  unfold c_laws_boolInt
  dsimp only
  split
  case h_2 => trivial
  rename_i b
  intro _
  refine goIn hf_39 rfl (nt := 4) rfl (rs := [.tmp 2]) rfl (C := []) trivial (q := fun _ => false) okQ_none mixed (O := fun _ => .nil) (by kernel_rfl) ?_
  cases b <;> simp only [↓WP, ↓grdD, ↓grdT, ↓un_dead, ↓binVC, ↓buildVC, ↓sliceVC, WQ, WN, Int.reduceToNat, renl, cll, rent, clt, ↓reduceIte, Nat.reduceLeDiff, Nat.reduceEqDiff, Nat.reduceLT, reduceCtorEq, List.append_nil, Nat.reduceAdd, Nat.reduceSub, Nat.reduceBEq, forall_const, implies_true, cond_true, cond_false, AV.ren, AC.ren, AV.cl, AC.cl, eq_self, List.all_cons, List.all_nil, AV.eqv, AC.eqv, eqvl, eqvt, Sl.eqv, List.map_append, List.length_map, List.length_append, List.length_replicate, List.length_set, List.map_replicate, nilVC, ] <;> simp
theorem q_laws_boolInt : Quiet c_laws_boolInt := by
  intro args M
  unfold c_laws_boolInt
  dsimp only
  split <;> first | trivial | (intro _; rfl)
theorem q_spec_CowOk : Quiet c_spec_CowOk := by
  intro args M
  unfold c_spec_CowOk
  dsimp only
  split <;> first | trivial | (intro _; rfl)
def c_laws_FnCows : Contract := ⟨12, fun args M => match args with
  | [.c (.sl a n _)] => .pure (n ≤ 9223372036854775807 ∧ (n ≤ 4294967296 → RowOk UInt8 a n (M a.r))) (Eng.B true)
  | _ => .bad⟩
theorem ok_laws_FnCows : fnP Try.prog c_laws_FnCows.f = true ∧ ∀ args M, (c_laws_FnCows.sp args M).OK Try.prog c_laws_FnCows.f args M := by
  refine ⟨fp_12, fun args M => ?_⟩
  unfold c_laws_FnCows
  dsimp only
  split
  case h_2 => trivial
  rename_i a n ca
  rintro ⟨hn, h1⟩
  refine goIn hf_12 rfl (nt := 122) rfl (rs := [.tmp 2]) rfl (C := [c_laws_big, c_spec_DrawCowWrite, c_impl_CowWrite, c_spec_CowWrite, c_spec_DrawCowGrow, c_impl_CowGrow, c_spec_CowGrow, c_spec_CowOk, c_impl_CowRead, c_laws_sameInts, c_spec_CowUsed, c_laws_boolInt]) ⟨(by first | exact .inl ok_laws_big | exact ok_laws_big), (by first | exact .inl ok_spec_DrawCowWrite | exact ok_spec_DrawCowWrite), (by first | exact .inl ok_impl_CowWrite | exact ok_impl_CowWrite), (by first | exact .inl ok_spec_CowWrite | exact ok_spec_CowWrite), (by first | exact .inl ok_spec_DrawCowGrow | exact ok_spec_DrawCowGrow), (by first | exact .inl ok_impl_CowGrow | exact ok_impl_CowGrow), (by first | exact .inl ok_spec_CowGrow | exact ok_spec_CowGrow), (by first | exact .inl ok_spec_CowOk | exact ok_spec_CowOk), (by first | exact .inl ok_impl_CowRead | exact ok_impl_CowRead), (by first | exact .inl ok_laws_sameInts | exact ok_laws_sameInts), (by first | exact .inl ok_spec_CowUsed | exact ok_spec_CowUsed), (by first | exact .inl ok_laws_boolInt | exact ok_laws_boolInt), trivial⟩ (q := fun f => [19, 38, 22, 39].contains f) ⟨fun h => absurd h (by decide), fun h => absurd h (by decide), fun h => absurd h (by decide), fun h => absurd h (by decide), fun h => absurd h (by decide), fun h => absurd h (by decide), fun h => absurd h (by decide), fun _ => q_spec_CowOk, fun h => absurd h (by decide), fun _ => q_laws_sameInts, fun _ => q_spec_CowUsed, fun _ => q_laws_boolInt, trivial⟩ mixed (O := ots [(14, otl [0, 1, 2, 3, 4, 5, 6, 7, 8, 9, 10, 11, 12, 13, 14, 15, 16, 17, 18, 19, 20, 21, 22, 23, 24, 25, 26, 27, 28, 29, 31, 33, 30, 32, 34, 35, 36, 37, 38, 39] .nil)]) (by kernel_rfl) ?_
  by_cases hs : 1048576 < n
  · simp only [↓WP, ↓grdD, ↓grdT, ↓un_dead, ↓binVC, ↓buildVC, ↓sliceVC, WQ, WN, Int.reduceToNat, renl, cll, rent, clt, ↓reduceIte, Nat.reduceLeDiff, Nat.reduceEqDiff, Nat.reduceLT, reduceCtorEq, List.append_nil, Nat.reduceAdd, Nat.reduceSub, Nat.reduceBEq, forall_const, implies_true, cond_true, cond_false, AV.ren, AC.ren, AV.cl, AC.cl, eq_self, List.all_cons, List.all_nil, AV.eqv, AC.eqv, eqvl, eqvt, Sl.eqv, List.map_append, List.length_map, List.length_append, List.length_replicate, List.length_set, List.map_replicate, nilVC, zr_25, sz_25, bt_4, fl_25_1, sz_23, sd_23, c_laws_big, c_spec_DrawCowWrite, c_impl_CowWrite, c_spec_CowWrite, c_spec_DrawCowGrow, c_impl_CowGrow, c_spec_CowGrow, c_spec_CowOk, c_impl_CowRead, c_laws_sameInts, c_spec_CowUsed, c_laws_boolInt, decide_eq_true hs]
  · have ha := h1 (by omega)
    simp (config := { maxSteps := 1000000 }) only [↓WP, ↓grdD, ↓grdT, ↓un_dead, ↓binVC, ↓buildVC, ↓sliceVC, WQ, WN, Int.reduceToNat, renl, cll, rent, clt, ↓reduceIte, Nat.reduceLeDiff, Nat.reduceEqDiff, Nat.reduceLT, reduceCtorEq, List.append_nil, Nat.reduceAdd, Nat.reduceSub, Nat.reduceBEq, forall_const, implies_true, cond_true, cond_false, AV.ren, AC.ren, AV.cl, AC.cl, eq_self, List.all_cons, List.all_nil, AV.eqv, AC.eqv, eqvl, eqvt, Sl.eqv, List.map_append, List.length_map, List.length_append, List.length_replicate, List.length_set, List.map_replicate, nilVC, zr_25, sz_25, bt_4, fl_25_1, sz_23, sd_23, c_laws_big, c_spec_DrawCowWrite, c_impl_CowWrite, c_spec_CowWrite, c_spec_DrawCowGrow, c_impl_CowGrow, c_spec_CowGrow, c_spec_CowOk, c_impl_CowRead, c_laws_sameInts, c_spec_CowUsed, c_laws_boolInt, decide_eq_false hs, ha]
    rintro ⟨⟨X, R, Z⟩, ⟨pF, F, pR, pZ, G⟩, s, ad, w⟩ ⟨⟨l1, l2, l3⟩, ⟨⟨u1, hF, hFo⟩, u2, u3, u4, u5, u6, hG, hGo⟩⟩
    dsimp only at l1 l2 l3 u1 hF hFo u2 u3 u4 u5 u6 hG hGo ⊢
    have hFl : F.length = X.length := by rw [← hF]; simp
    have hGl : G.length = Z.length := by rw [← hG]; simp
    have hex : ∃ O : CowV × Bool, O = writeO X R Z s ad w := ⟨writeO X R Z s ad w, rfl⟩
    obtain ⟨⟨⟨A, B, C⟩, is⟩, hO⟩ := hex
    have hem := Classical.em (cowOk X R Z)
    simp (config := { maxSteps := 1000000 }) only [↓WP, ↓grdD, ↓grdT, ↓un_dead, ↓binVC, ↓buildVC, ↓sliceVC, WQ, WN, Int.reduceToNat, renl, cll, rent, clt, ↓reduceIte, Nat.reduceLeDiff, Nat.reduceEqDiff, Nat.reduceLT, reduceCtorEq, List.append_nil, Nat.reduceAdd, Nat.reduceSub, Nat.reduceBEq, forall_const, implies_true, cond_true, cond_false, AV.ren, AC.ren, AV.cl, AC.cl, eq_self, List.all_cons, List.all_nil, AV.eqv, AC.eqv, eqvl, eqvt, Sl.eqv, List.map_append, List.length_map, List.length_append, List.length_replicate, List.length_set, List.map_replicate, nilVC, zr_25, sz_25, bt_4, fl_25_1, sz_23, sd_23, c_laws_big, c_spec_DrawCowWrite, c_impl_CowWrite, c_spec_CowWrite, c_spec_DrawCowGrow, c_impl_CowGrow, c_spec_CowGrow, c_spec_CowOk, c_impl_CowRead, c_laws_sameInts, c_spec_CowUsed, c_laws_boolInt, row2_fam 0 1 F hFo, Row2Ok_fam 0 1 F hFo, row2_fam 3 4 G hGo, Row2Ok_fam 3 4 G hGo, hF, hG, hFl, hGl, ← hO]
    have hRc : (R.length ≤ 4294967296 ∧ (R.length = 0 ∨ True)) ∧ R.length ≤ pR := ⟨⟨by omega, .inr trivial⟩, u2⟩
    refine ⟨hRc, ?_⟩
    rintro ⟨pF1, F1, pR1, pZ1, G1⟩ ⟨⟨v1, hF1, hFo1⟩, v2, v3, v4, v5, v6, hG1, hGo1⟩
    dsimp only at v1 hF1 hFo1 v2 v3 v4 v5 v6 hG1 hGo1
    refine ⟨hRc, ?_⟩
    rintro ⟨pFs, Fs, pRs, pZs, Gs⟩ _
    rintro ⟨⟨X2, R2, Z2⟩, ⟨pF2, F2, pR2, pZ2, G2⟩, n2⟩ ⟨⟨m1, m2, m3⟩, ⟨⟨t1, hF2, hFo2⟩, t2, t3, t4, t5, t6, hG2, hGo2⟩⟩
    dsimp only at m1 m2 m3 t1 hF2 hFo2 t2 t3 t4 t5 t6 hG2 hGo2 ⊢
    have hFl1 : F1.length = A.length := by rw [← hF1]; simp
    have hGl1 : G1.length = C.length := by rw [← hG1]; simp
    have hFl2 : F2.length = X2.length := by rw [← hF2]; simp
    have hGl2 : G2.length = Z2.length := by rw [← hG2]; simp
    have hem2 := Classical.em (cowOk X2 R2 Z2)
    have hub : 0 ≤ usedO X2 R2 Z2 ∧ usedO X2 R2 Z2 ≤ 12 := by
      unfold usedO
      split
      · have := List.countP_le_length (p := fun r : Int => decide (0 < r)) (l := R2)
        omega
      · omega
    have hRc2 : (R2.length ≤ 4294967296 ∧ (R2.length = 0 ∨ True)) ∧ R2.length ≤ pR2 := ⟨⟨by omega, .inr trivial⟩, t2⟩
    have hbb : ∀ b : Bool, (b != b) = false := by decide
    have hgu := fun h => grow_used (X := X2) (R := R2) (Z := Z2) h n2
    have hgo := fun h => grow_ok (X := X2) (R := R2) (Z := Z2) h n2
    have hwo := fun h => write_ok (X := X) (R := R) (Z := Z) h s ad w
    have hwr := fun h hs => write_read (X := X) (R := R) (Z := Z) h (s := s) (ad := ad) (w := w) hs
    have hwn := fun h hs => write_no (X := X) (R := R) (Z := Z) h (s := s) (ad := ad) (w := w) hs
    rw [← hO] at hwo hwr hwn
    have hex2 : ∃ Q : CowV × Bool, Q = growO X2 R2 Z2 n2 := ⟨growO X2 R2 Z2 n2, rfl⟩
    obtain ⟨Q, hQ⟩ := hex2
    rw [← hQ] at hgu hgo
    obtain ⟨⟨Y1, Y2, Y3⟩, grew⟩ := Q
    dsimp only at hwo hwr hwn hgu hgo
    rcases hem with hok | hok
    · have hokA := hwo hok
      have hBl : B.length = 12 := hokA.1.2.1
      rcases hem2 with hok2 | hok2
      · have hokY := hgo hok2
        cases is
        · have e := hwn hok rfl
          injection e with e1 e2
          injection e2 with e2 e3
          subst e1 e2 e3
          cases grew
          all_goals simp (config := { maxSteps := 1000000 }) only [↓WP, ↓grdD, ↓grdT, ↓un_dead, ↓binVC, ↓buildVC, ↓sliceVC, WQ, WN, Int.reduceToNat, renl, cll, rent, clt, ↓reduceIte, Nat.reduceLeDiff, Nat.reduceEqDiff, Nat.reduceLT, reduceCtorEq, List.append_nil, Nat.reduceAdd, Nat.reduceSub, Nat.reduceBEq, forall_const, implies_true, cond_true, cond_false, AV.ren, AC.ren, AV.cl, AC.cl, eq_self, List.all_cons, List.all_nil, AV.eqv, AC.eqv, eqvl, eqvt, Sl.eqv, List.map_append, List.length_map, List.length_append, List.length_replicate, List.length_set, List.map_replicate, nilVC, zr_25, sz_25, bt_4, fl_25_1, sz_23, sd_23, c_laws_big, c_spec_DrawCowWrite, c_impl_CowWrite, c_spec_CowWrite, c_spec_DrawCowGrow, c_impl_CowGrow, c_spec_CowGrow, c_spec_CowOk, c_impl_CowRead, c_laws_sameInts, c_spec_CowUsed, c_laws_boolInt, ↓WP, ↓grdD, ↓grdT, ↓un_dead, ↓binVC, ↓buildVC, ↓sliceVC, WQ, WN, Int.reduceToNat, renl, cll, rent, clt, ↓reduceIte, Nat.reduceLeDiff, Nat.reduceEqDiff, Nat.reduceLT, reduceCtorEq, List.append_nil, Nat.reduceAdd, Nat.reduceSub, Nat.reduceBEq, forall_const, implies_true, cond_true, cond_false, AV.ren, AC.ren, AV.cl, AC.cl, eq_self, List.all_cons, List.all_nil, AV.eqv, AC.eqv, eqvl, eqvt, Sl.eqv, List.map_append, List.length_map, List.length_append, List.length_replicate, List.length_set, List.map_replicate, nilVC, zr_25, sz_25, bt_4, fl_25_1, sz_23, sd_23, c_laws_big, c_spec_DrawCowWrite, c_impl_CowWrite, c_spec_CowWrite, c_spec_DrawCowGrow, c_impl_CowGrow, c_spec_CowGrow, c_spec_CowOk, c_impl_CowRead, c_laws_sameInts, c_spec_CowUsed, c_laws_boolInt, row2_fam 0 1 F hFo, Row2Ok_fam 0 1 F hFo, row2_fam 3 4 G hGo, Row2Ok_fam 3 4 G hGo, hF, hG, hFl, hGl, row2_fam 6 7 F1 hFo1, Row2Ok_fam 6 7 F1 hFo1, row2_fam 9 10 G1 hGo1, Row2Ok_fam 9 10 G1 hGo1, hF1, hG1, hFl1, hGl1, row2_fam 18 19 F2 hFo2, Row2Ok_fam 18 19 F2 hFo2, row2_fam 21 22 G2 hGo2, Row2Ok_fam 21 22 G2 hGo2, hF2, hG2, hFl2, hGl2, ← hQ, hbb, decide_eq_true hok, decide_eq_true hok2, decide_true]
          all_goals
            refine ⟨hRc2, ?_⟩
            rintro ⟨pF3, F3, pR3, pZ3, G3⟩ ⟨⟨y1, hF3, hFo3⟩, y2, y3, y4, y5, y6, hG3, hGo3⟩
            dsimp only at y1 hF3 hFo3 y2 y3 y4 y5 y6 hG3 hGo3
            refine ⟨hRc2, ?_⟩
            rintro ⟨pFt, Ft, pRt, pZt, Gt⟩ _
            have hFl3 : F3.length = Y1.length := by rw [← hF3]; simp
            have hGl3 : G3.length = Y3.length := by rw [← hG3]; simp
            have hYl : Y2.length = 12 := hokY.1.2.1
            have hgu3 := hgu hok2
            simp (config := { maxSteps := 1000000 }) only [↓WP, ↓grdD, ↓grdT, ↓un_dead, ↓binVC, ↓buildVC, ↓sliceVC, WQ, WN, Int.reduceToNat, renl, cll, rent, clt, ↓reduceIte, Nat.reduceLeDiff, Nat.reduceEqDiff, Nat.reduceLT, reduceCtorEq, List.append_nil, Nat.reduceAdd, Nat.reduceSub, Nat.reduceBEq, forall_const, implies_true, cond_true, cond_false, AV.ren, AC.ren, AV.cl, AC.cl, eq_self, List.all_cons, List.all_nil, AV.eqv, AC.eqv, eqvl, eqvt, Sl.eqv, List.map_append, List.length_map, List.length_append, List.length_replicate, List.length_set, List.map_replicate, nilVC, zr_25, sz_25, bt_4, fl_25_1, sz_23, sd_23, c_laws_big, c_spec_DrawCowWrite, c_impl_CowWrite, c_spec_CowWrite, c_spec_DrawCowGrow, c_impl_CowGrow, c_spec_CowGrow, c_spec_CowOk, c_impl_CowRead, c_laws_sameInts, c_spec_CowUsed, c_laws_boolInt, row2_fam 0 1 F hFo, Row2Ok_fam 0 1 F hFo, row2_fam 3 4 G hGo, Row2Ok_fam 3 4 G hGo, hF, hG, hFl, hGl, row2_fam 6 7 F1 hFo1, Row2Ok_fam 6 7 F1 hFo1, row2_fam 9 10 G1 hGo1, Row2Ok_fam 9 10 G1 hGo1, hF1, hG1, hFl1, hGl1, row2_fam 18 19 F2 hFo2, Row2Ok_fam 18 19 F2 hFo2, row2_fam 21 22 G2 hGo2, Row2Ok_fam 21 22 G2 hGo2, hF2, hG2, hFl2, hGl2, ← hQ, hbb, row2_fam 24 25 F3 hFo3, Row2Ok_fam 24 25 F3 hFo3, row2_fam 27 28 G3 hGo3, Row2Ok_fam 27 28 G3 hGo3, hF3, hG3, hFl3, hGl3, decide_eq_true hok, decide_eq_true hok2, decide_true]
            simp only [if_true, Bool.false_eq_true, if_false] at hgu3
            rw [w64 (by omega) (by omega)]
            simp [l2, hBl, m2, hYl, hgu3]
        · have hrd := hwr hok rfl
          cases grew
          all_goals simp (config := { maxSteps := 1000000 }) only [↓WP, ↓grdD, ↓grdT, ↓un_dead, ↓binVC, ↓buildVC, ↓sliceVC, WQ, WN, Int.reduceToNat, renl, cll, rent, clt, ↓reduceIte, Nat.reduceLeDiff, Nat.reduceEqDiff, Nat.reduceLT, reduceCtorEq, List.append_nil, Nat.reduceAdd, Nat.reduceSub, Nat.reduceBEq, forall_const, implies_true, cond_true, cond_false, AV.ren, AC.ren, AV.cl, AC.cl, eq_self, List.all_cons, List.all_nil, AV.eqv, AC.eqv, eqvl, eqvt, Sl.eqv, List.map_append, List.length_map, List.length_append, List.length_replicate, List.length_set, List.map_replicate, nilVC, zr_25, sz_25, bt_4, fl_25_1, sz_23, sd_23, c_laws_big, c_spec_DrawCowWrite, c_impl_CowWrite, c_spec_CowWrite, c_spec_DrawCowGrow, c_impl_CowGrow, c_spec_CowGrow, c_spec_CowOk, c_impl_CowRead, c_laws_sameInts, c_spec_CowUsed, c_laws_boolInt, ↓WP, ↓grdD, ↓grdT, ↓un_dead, ↓binVC, ↓buildVC, ↓sliceVC, WQ, WN, Int.reduceToNat, renl, cll, rent, clt, ↓reduceIte, Nat.reduceLeDiff, Nat.reduceEqDiff, Nat.reduceLT, reduceCtorEq, List.append_nil, Nat.reduceAdd, Nat.reduceSub, Nat.reduceBEq, forall_const, implies_true, cond_true, cond_false, AV.ren, AC.ren, AV.cl, AC.cl, eq_self, List.all_cons, List.all_nil, AV.eqv, AC.eqv, eqvl, eqvt, Sl.eqv, List.map_append, List.length_map, List.length_append, List.length_replicate, List.length_set, List.map_replicate, nilVC, zr_25, sz_25, bt_4, fl_25_1, sz_23, sd_23, c_laws_big, c_spec_DrawCowWrite, c_impl_CowWrite, c_spec_CowWrite, c_spec_DrawCowGrow, c_impl_CowGrow, c_spec_CowGrow, c_spec_CowOk, c_impl_CowRead, c_laws_sameInts, c_spec_CowUsed, c_laws_boolInt, row2_fam 0 1 F hFo, Row2Ok_fam 0 1 F hFo, row2_fam 3 4 G hGo, Row2Ok_fam 3 4 G hGo, hF, hG, hFl, hGl, row2_fam 6 7 F1 hFo1, Row2Ok_fam 6 7 F1 hFo1, row2_fam 9 10 G1 hGo1, Row2Ok_fam 9 10 G1 hGo1, hF1, hG1, hFl1, hGl1, row2_fam 18 19 F2 hFo2, Row2Ok_fam 18 19 F2 hFo2, row2_fam 21 22 G2 hGo2, Row2Ok_fam 21 22 G2 hGo2, hF2, hG2, hFl2, hGl2, ← hQ, hbb, decide_eq_true hok, decide_eq_true hokA, decide_eq_true hok2, hrd, decide_true]
          all_goals
            refine ⟨hRc2, ?_⟩
            rintro ⟨pF3, F3, pR3, pZ3, G3⟩ ⟨⟨y1, hF3, hFo3⟩, y2, y3, y4, y5, y6, hG3, hGo3⟩
            dsimp only at y1 hF3 hFo3 y2 y3 y4 y5 y6 hG3 hGo3
            refine ⟨hRc2, ?_⟩
            rintro ⟨pFt, Ft, pRt, pZt, Gt⟩ _
            have hFl3 : F3.length = Y1.length := by rw [← hF3]; simp
            have hGl3 : G3.length = Y3.length := by rw [← hG3]; simp
            have hYl : Y2.length = 12 := hokY.1.2.1
            have hgu3 := hgu hok2
            simp (config := { maxSteps := 1000000 }) only [↓WP, ↓grdD, ↓grdT, ↓un_dead, ↓binVC, ↓buildVC, ↓sliceVC, WQ, WN, Int.reduceToNat, renl, cll, rent, clt, ↓reduceIte, Nat.reduceLeDiff, Nat.reduceEqDiff, Nat.reduceLT, reduceCtorEq, List.append_nil, Nat.reduceAdd, Nat.reduceSub, Nat.reduceBEq, forall_const, implies_true, cond_true, cond_false, AV.ren, AC.ren, AV.cl, AC.cl, eq_self, List.all_cons, List.all_nil, AV.eqv, AC.eqv, eqvl, eqvt, Sl.eqv, List.map_append, List.length_map, List.length_append, List.length_replicate, List.length_set, List.map_replicate, nilVC, zr_25, sz_25, bt_4, fl_25_1, sz_23, sd_23, c_laws_big, c_spec_DrawCowWrite, c_impl_CowWrite, c_spec_CowWrite, c_spec_DrawCowGrow, c_impl_CowGrow, c_spec_CowGrow, c_spec_CowOk, c_impl_CowRead, c_laws_sameInts, c_spec_CowUsed, c_laws_boolInt, row2_fam 0 1 F hFo, Row2Ok_fam 0 1 F hFo, row2_fam 3 4 G hGo, Row2Ok_fam 3 4 G hGo, hF, hG, hFl, hGl, row2_fam 6 7 F1 hFo1, Row2Ok_fam 6 7 F1 hFo1, row2_fam 9 10 G1 hGo1, Row2Ok_fam 9 10 G1 hGo1, hF1, hG1, hFl1, hGl1, row2_fam 18 19 F2 hFo2, Row2Ok_fam 18 19 F2 hFo2, row2_fam 21 22 G2 hGo2, Row2Ok_fam 21 22 G2 hGo2, hF2, hG2, hFl2, hGl2, ← hQ, hbb, row2_fam 24 25 F3 hFo3, Row2Ok_fam 24 25 F3 hFo3, row2_fam 27 28 G3 hGo3, Row2Ok_fam 27 28 G3 hGo3, hF3, hG3, hFl3, hGl3, decide_eq_true hok, decide_eq_true hok2, decide_true, hrd, decide_eq_true hokA]
            simp only [if_true, Bool.false_eq_true, if_false] at hgu3
            rw [w64 (by omega) (by omega)]
            simp [l2, hBl, m2, hYl, hgu3]
      · cases is
        · have e := hwn hok rfl
          injection e with e1 e2
          injection e2 with e2 e3
          subst e1 e2 e3
          cases grew
          all_goals simp (config := { maxSteps := 1000000 }) only [↓WP, ↓grdD, ↓grdT, ↓un_dead, ↓binVC, ↓buildVC, ↓sliceVC, WQ, WN, Int.reduceToNat, renl, cll, rent, clt, ↓reduceIte, Nat.reduceLeDiff, Nat.reduceEqDiff, Nat.reduceLT, reduceCtorEq, List.append_nil, Nat.reduceAdd, Nat.reduceSub, Nat.reduceBEq, forall_const, implies_true, cond_true, cond_false, AV.ren, AC.ren, AV.cl, AC.cl, eq_self, List.all_cons, List.all_nil, AV.eqv, AC.eqv, eqvl, eqvt, Sl.eqv, List.map_append, List.length_map, List.length_append, List.length_replicate, List.length_set, List.map_replicate, nilVC, zr_25, sz_25, bt_4, fl_25_1, sz_23, sd_23, c_laws_big, c_spec_DrawCowWrite, c_impl_CowWrite, c_spec_CowWrite, c_spec_DrawCowGrow, c_impl_CowGrow, c_spec_CowGrow, c_spec_CowOk, c_impl_CowRead, c_laws_sameInts, c_spec_CowUsed, c_laws_boolInt, ↓WP, ↓grdD, ↓grdT, ↓un_dead, ↓binVC, ↓buildVC, ↓sliceVC, WQ, WN, Int.reduceToNat, renl, cll, rent, clt, ↓reduceIte, Nat.reduceLeDiff, Nat.reduceEqDiff, Nat.reduceLT, reduceCtorEq, List.append_nil, Nat.reduceAdd, Nat.reduceSub, Nat.reduceBEq, forall_const, implies_true, cond_true, cond_false, AV.ren, AC.ren, AV.cl, AC.cl, eq_self, List.all_cons, List.all_nil, AV.eqv, AC.eqv, eqvl, eqvt, Sl.eqv, List.map_append, List.length_map, List.length_append, List.length_replicate, List.length_set, List.map_replicate, nilVC, zr_25, sz_25, bt_4, fl_25_1, sz_23, sd_23, c_laws_big, c_spec_DrawCowWrite, c_impl_CowWrite, c_spec_CowWrite, c_spec_DrawCowGrow, c_impl_CowGrow, c_spec_CowGrow, c_spec_CowOk, c_impl_CowRead, c_laws_sameInts, c_spec_CowUsed, c_laws_boolInt, row2_fam 0 1 F hFo, Row2Ok_fam 0 1 F hFo, row2_fam 3 4 G hGo, Row2Ok_fam 3 4 G hGo, hF, hG, hFl, hGl, row2_fam 6 7 F1 hFo1, Row2Ok_fam 6 7 F1 hFo1, row2_fam 9 10 G1 hGo1, Row2Ok_fam 9 10 G1 hGo1, hF1, hG1, hFl1, hGl1, row2_fam 18 19 F2 hFo2, Row2Ok_fam 18 19 F2 hFo2, row2_fam 21 22 G2 hGo2, Row2Ok_fam 21 22 G2 hGo2, hF2, hG2, hFl2, hGl2, ← hQ, hbb, decide_eq_true hok, decide_eq_false hok2, decide_true]
          all_goals
            refine ⟨hRc2, fun _ _ => ⟨hRc2, fun _ _ => ?_⟩⟩
            simp [l2, hBl, m2]
        · have hrd := hwr hok rfl
          cases grew
          all_goals simp (config := { maxSteps := 1000000 }) only [↓WP, ↓grdD, ↓grdT, ↓un_dead, ↓binVC, ↓buildVC, ↓sliceVC, WQ, WN, Int.reduceToNat, renl, cll, rent, clt, ↓reduceIte, Nat.reduceLeDiff, Nat.reduceEqDiff, Nat.reduceLT, reduceCtorEq, List.append_nil, Nat.reduceAdd, Nat.reduceSub, Nat.reduceBEq, forall_const, implies_true, cond_true, cond_false, AV.ren, AC.ren, AV.cl, AC.cl, eq_self, List.all_cons, List.all_nil, AV.eqv, AC.eqv, eqvl, eqvt, Sl.eqv, List.map_append, List.length_map, List.length_append, List.length_replicate, List.length_set, List.map_replicate, nilVC, zr_25, sz_25, bt_4, fl_25_1, sz_23, sd_23, c_laws_big, c_spec_DrawCowWrite, c_impl_CowWrite, c_spec_CowWrite, c_spec_DrawCowGrow, c_impl_CowGrow, c_spec_CowGrow, c_spec_CowOk, c_impl_CowRead, c_laws_sameInts, c_spec_CowUsed, c_laws_boolInt, ↓WP, ↓grdD, ↓grdT, ↓un_dead, ↓binVC, ↓buildVC, ↓sliceVC, WQ, WN, Int.reduceToNat, renl, cll, rent, clt, ↓reduceIte, Nat.reduceLeDiff, Nat.reduceEqDiff, Nat.reduceLT, reduceCtorEq, List.append_nil, Nat.reduceAdd, Nat.reduceSub, Nat.reduceBEq, forall_const, implies_true, cond_true, cond_false, AV.ren, AC.ren, AV.cl, AC.cl, eq_self, List.all_cons, List.all_nil, AV.eqv, AC.eqv, eqvl, eqvt, Sl.eqv, List.map_append, List.length_map, List.length_append, List.length_replicate, List.length_set, List.map_replicate, nilVC, zr_25, sz_25, bt_4, fl_25_1, sz_23, sd_23, c_laws_big, c_spec_DrawCowWrite, c_impl_CowWrite, c_spec_CowWrite, c_spec_DrawCowGrow, c_impl_CowGrow, c_spec_CowGrow, c_spec_CowOk, c_impl_CowRead, c_laws_sameInts, c_spec_CowUsed, c_laws_boolInt, row2_fam 0 1 F hFo, Row2Ok_fam 0 1 F hFo, row2_fam 3 4 G hGo, Row2Ok_fam 3 4 G hGo, hF, hG, hFl, hGl, row2_fam 6 7 F1 hFo1, Row2Ok_fam 6 7 F1 hFo1, row2_fam 9 10 G1 hGo1, Row2Ok_fam 9 10 G1 hGo1, hF1, hG1, hFl1, hGl1, row2_fam 18 19 F2 hFo2, Row2Ok_fam 18 19 F2 hFo2, row2_fam 21 22 G2 hGo2, Row2Ok_fam 21 22 G2 hGo2, hF2, hG2, hFl2, hGl2, ← hQ, hbb, decide_eq_true hok, decide_eq_true hokA, decide_eq_false hok2, hrd, decide_true]
          all_goals
            refine ⟨hRc2, fun _ _ => ⟨hRc2, fun _ _ => ?_⟩⟩
            simp [l2, hBl, m2]
    · have hn : ((A, B, C), is) = ((([], [], []), false) : CowV × Bool) := by rw [hO]; unfold writeO; rw [if_neg hok]
      injection hn with hn1 hn2
      injection hn1 with hn1 hn3
      injection hn3 with hn3 hn4
      subst hn1 hn3 hn4 hn2
      cases grew
      all_goals simp (config := { maxSteps := 1000000 }) only [↓WP, ↓grdD, ↓grdT, ↓un_dead, ↓binVC, ↓buildVC, ↓sliceVC, WQ, WN, Int.reduceToNat, renl, cll, rent, clt, ↓reduceIte, Nat.reduceLeDiff, Nat.reduceEqDiff, Nat.reduceLT, reduceCtorEq, List.append_nil, Nat.reduceAdd, Nat.reduceSub, Nat.reduceBEq, forall_const, implies_true, cond_true, cond_false, AV.ren, AC.ren, AV.cl, AC.cl, eq_self, List.all_cons, List.all_nil, AV.eqv, AC.eqv, eqvl, eqvt, Sl.eqv, List.map_append, List.length_map, List.length_append, List.length_replicate, List.length_set, List.map_replicate, nilVC, zr_25, sz_25, bt_4, fl_25_1, sz_23, sd_23, c_laws_big, c_spec_DrawCowWrite, c_impl_CowWrite, c_spec_CowWrite, c_spec_DrawCowGrow, c_impl_CowGrow, c_spec_CowGrow, c_spec_CowOk, c_impl_CowRead, c_laws_sameInts, c_spec_CowUsed, c_laws_boolInt, row2_fam 0 1 F hFo, Row2Ok_fam 0 1 F hFo, row2_fam 3 4 G hGo, Row2Ok_fam 3 4 G hGo, hF, hG, hFl, hGl, row2_fam 6 7 F1 hFo1, Row2Ok_fam 6 7 F1 hFo1, row2_fam 9 10 G1 hGo1, Row2Ok_fam 9 10 G1 hGo1, hF1, hG1, hFl1, hGl1, row2_fam 18 19 F2 hFo2, Row2Ok_fam 18 19 F2 hFo2, row2_fam 21 22 G2 hGo2, Row2Ok_fam 21 22 G2 hGo2, hF2, hG2, hFl2, hGl2, ← hQ, hbb, decide_eq_false hok]
      all_goals exact ⟨hRc2, fun _ _ => ⟨hRc2, fun _ _ => ⟨⟨by omega, .inr trivial⟩, by decide⟩⟩⟩
end Go.Eng.T
