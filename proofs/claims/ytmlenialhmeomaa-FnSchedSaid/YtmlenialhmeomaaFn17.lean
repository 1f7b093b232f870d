/- sched: the law FnSched. -/
import Derived.Test.YtmlenialhmeomaaFn16
set_option linter.unusedVariables false
set_option linter.unusedSimpArgs false
set_option linter.unusedSectionVars false
namespace Go.Eng.T
open Go.Proofs
open Cel (enc dec)
set_option maxRecDepth 100000
set_option maxHeartbeats 8000000
def c_laws_boolInt : Contract := ⟨28, fun args M => match args with
  | [.c (.bool b)] => .pure True (I (if b = true then 1 else 0))
  | _ => .bad⟩
theorem ok_laws_boolInt : fnP Try.prog c_laws_boolInt.f = true ∧ ∀ args M, (c_laws_boolInt.sp args M).OK Try.prog c_laws_boolInt.f args M := by
  refine ⟨fp_28, fun args M => ?_⟩
  unfold c_laws_boolInt
  dsimp only
  split
  case h_2 => trivial
  rename_i b
  intro _
  refine goIn hf_28 rfl (nt := 4) rfl (rs := [.tmp 2]) rfl (C := []) trivial (q := fun _ => false) okQ_none mixed (O := fun _ => .nil) (by kernel_rfl) ?_
  cases b <;> simp only [↓WP, ↓grdD, ↓grdT, ↓un_dead, ↓binVC, ↓buildVC, ↓sliceVC, WQ, WN, Int.reduceToNat, renl, cll, rent, clt, ↓reduceIte, Nat.reduceLeDiff, Nat.reduceEqDiff, Nat.reduceLT, reduceCtorEq, List.append_nil, Nat.reduceAdd, Nat.reduceSub, Nat.reduceBEq, forall_const, implies_true, cond_true, cond_false, AV.ren, AC.ren, AV.cl, AC.cl, eq_self, List.all_cons, List.all_nil, AV.eqv, AC.eqv, eqvl, eqvt, Sl.eqv, List.map_append, List.length_map, List.length_append, List.length_replicate, List.length_set, List.map_replicate, nilVC, ] <;> simp
theorem q_laws_boolInt : Quiet c_laws_boolInt := by
  intro args M
  unfold c_laws_boolInt
  dsimp only
  split <;> first | trivial | (intro _; rfl)
theorem q_impl_SchedAdd : Quiet c_impl_SchedAdd := by
  intro args M
  unfold c_impl_SchedAdd
  dsimp only
  split <;> first | trivial | (intro _; rfl)
def bmp (W : List Int) : Nat → List Int
  | 0 => W
  | k + 1 => (bmp W k).set (k + 1) ((bmp W k).getD (k + 1) default + 1)
theorem bmp_len (W : List Int) : ∀ k, (bmp W k).length = W.length
  | 0 => rfl
  | k + 1 => by rw [bmp, List.length_set, bmp_len W k]
theorem bmp_get {W : List Int} {j : Nat} (hj : j + 1 < W.length) : ∀ k, (bmp W k).getD (j + 1) default = W.getD (j + 1) default + if j < k then 1 else 0
  | 0 => by simp [bmp]
  | k + 1 => by
    have ih := bmp_get hj k
    rw [bmp]
    by_cases e : k = j
    · subst e
      rw [getD_set_self (by rw [bmp_len]; exact hj), ih, if_neg (by omega), if_pos (by omega)]
      omega
    · rw [getD_set_ne (by omega), ih]
      by_cases h : j < k
      · rw [if_pos h, if_pos (by omega)]
      · rw [if_neg h, if_neg (by omega)]
def c_laws_FnSched : Contract := ⟨8, fun args M => match args with
  | [.c (.sl a n _)] => .pure (n ≤ 9223372036854775807 ∧ (n ≤ 4294967296 → RowOk UInt8 a n (M a.r))) (Eng.B true)
  | _ => .bad⟩
theorem ok_laws_FnSched : fnP Try.prog c_laws_FnSched.f = true ∧ ∀ args M, (c_laws_FnSched.sp args M).OK Try.prog c_laws_FnSched.f args M := by
  refine ⟨fp_8, fun args M => ?_⟩
  unfold c_laws_FnSched
  dsimp only
  split
  case h_2 => trivial
  rename_i a n ca
  rintro ⟨hn, h1⟩
  refine goIn hf_8 rfl (nt := 200) rfl (rs := [.tmp 2]) rfl (C := [c_laws_big, c_laws_at, c_impl_SchedAdd, c_impl_SchedBound, c_impl_SchedNext, c_spec_SchedOk, c_spec_SchedBound, c_spec_DrawSchedDrop, c_impl_SchedDrop, c_spec_SchedDrop, c_spec_DrawSchedAdd, c_spec_SchedAdd, c_laws_boolInt]) ⟨(by first | exact .inl ok_laws_big | exact ok_laws_big), (by first | exact .inl ok_laws_at | exact ok_laws_at), (by first | exact .inl ok_impl_SchedAdd | exact ok_impl_SchedAdd), (by first | exact .inl ok_impl_SchedBound | exact ok_impl_SchedBound), (by first | exact .inl ok_impl_SchedNext | exact ok_impl_SchedNext), (by first | exact .inl ok_spec_SchedOk | exact ok_spec_SchedOk), (by first | exact .inl ok_spec_SchedBound | exact ok_spec_SchedBound), (by first | exact .inl ok_spec_DrawSchedDrop | exact ok_spec_DrawSchedDrop), (by first | exact .inl ok_impl_SchedDrop | exact ok_impl_SchedDrop), (by first | exact .inl ok_spec_SchedDrop | exact ok_spec_SchedDrop), (by first | exact .inl ok_spec_DrawSchedAdd | exact ok_spec_DrawSchedAdd), (by first | exact .inl ok_spec_SchedAdd | exact ok_spec_SchedAdd), (by first | exact .inl ok_laws_boolInt | exact ok_laws_boolInt), trivial⟩ (q := fun f => [25, 23, 10, 28].contains f) ⟨fun h => absurd h (by decide), fun _ => q_laws_at, fun _ => q_impl_SchedAdd, fun h => absurd h (by decide), fun h => absurd h (by decide), fun _ => q_spec_SchedOk, fun h => absurd h (by decide), fun h => absurd h (by decide), fun h => absurd h (by decide), fun h => absurd h (by decide), fun h => absurd h (by decide), fun h => absurd h (by decide), fun _ => q_laws_boolInt, trivial⟩ mixed (O := ots [(7, otl [0, 1, 2, 3, 4, 5] (.alt 6 (otl [7] (.alt 8 (otl [9, 10, 11, 12, 13, 14] .nil) (otl [12, 8, 9, 10, 11, 13, 14] .nil))) (otl [12, 6, 7, 8, 9, 10, 11, 13, 14] .nil))), (36, otl [0, 1, 2, 3, 4, 5, 6, 7, 8, 9, 10, 11, 12, 13, 14, 15, 16, 17, 18, 19, 20, 21, 22, 23, 24, 25, 26, 27, 28, 29, 30, 31, 32, 33, 34, 35, 36, 37, 38, 39, 40, 41, 42, 43, 44, 45, 46] .nil)]) (by kernel_rfl) ?_
  by_cases hs : 1048576 < n
  · simp only [↓WP, ↓grdD, ↓grdT, ↓un_dead, ↓binVC, ↓buildVC, ↓sliceVC, WQ, WN, Int.reduceToNat, renl, cll, rent, clt, ↓reduceIte, Nat.reduceLeDiff, Nat.reduceEqDiff, Nat.reduceLT, reduceCtorEq, List.append_nil, Nat.reduceAdd, Nat.reduceSub, Nat.reduceBEq, forall_const, implies_true, cond_true, cond_false, AV.ren, AC.ren, AV.cl, AC.cl, eq_self, List.all_cons, List.all_nil, AV.eqv, AC.eqv, eqvl, eqvt, Sl.eqv, List.map_append, List.length_map, List.length_append, List.length_replicate, List.length_set, List.map_replicate, nilVC, zr_29, fs_29, sz_29, el_45, zr_3, fl_29_0, sz_27, sd_27, sz_3, bt_4, c_laws_big, c_laws_at, c_impl_SchedAdd, c_impl_SchedBound, c_impl_SchedNext, c_spec_SchedOk, c_spec_SchedBound, c_spec_DrawSchedDrop, c_impl_SchedDrop, c_spec_SchedDrop, c_spec_DrawSchedAdd, c_spec_SchedAdd, c_laws_boolInt, decide_eq_true hs]
  · have ha := h1 (by omega)
    obtain ⟨L, hL⟩ : ∃ L, L = row UInt8 a n (M a.r) := ⟨_, rfl⟩
    simp only [↓WP, ↓grdD, ↓grdT, ↓un_dead, ↓binVC, ↓buildVC, ↓sliceVC, WQ, WN, Int.reduceToNat, renl, cll, rent, clt, ↓reduceIte, Nat.reduceLeDiff, Nat.reduceEqDiff, Nat.reduceLT, reduceCtorEq, List.append_nil, Nat.reduceAdd, Nat.reduceSub, Nat.reduceBEq, forall_const, implies_true, cond_true, cond_false, AV.ren, AC.ren, AV.cl, AC.cl, eq_self, List.all_cons, List.all_nil, AV.eqv, AC.eqv, eqvl, eqvt, Sl.eqv, List.map_append, List.length_map, List.length_append, List.length_replicate, List.length_set, List.map_replicate, nilVC, zr_29, fs_29, sz_29, el_45, zr_3, fl_29_0, sz_27, sd_27, sz_3, bt_4, c_laws_big, c_laws_at, c_impl_SchedAdd, c_impl_SchedBound, c_impl_SchedNext, c_spec_SchedOk, c_spec_SchedBound, c_spec_DrawSchedDrop, c_impl_SchedDrop, c_spec_SchedDrop, c_spec_DrawSchedAdd, c_spec_SchedAdd, c_laws_boolInt, decide_eq_false hs, ha]
    have c0 := atO_mod L (i := 0) (k := 8) (by omega) (by omega)
    have w0 : IntKind.i64.wrap ((atO L 0).tmod 8) = (atO L 0).tmod 8 := w64 (by omega) (by omega)
    obtain ⟨N, hN, hN1⟩ : ∃ N : Nat, 1 + (atO L 0).tmod 8 = N ∧ 1 ≤ N ∧ N ≤ 8 := ⟨(1 + (atO L 0).tmod 8).toNat, by omega, by omega⟩
    have w1 : IntKind.i64.wrap (1 + (atO L 0).tmod 8) = N := by rw [hN]; exact w64 (by omega) (by omega)
    refine loopI (J := {q : Nat × List T3 × Nat // q.1 ≤ N ∧ uok q.2.1 q.1 ∧ q.2.1.length ≤ q.2.2}) (fun q => ⟨slots 200 [(0, .c (.sl a.up n ca)), (3, .c (.ptr ⟨.loc 0, 0, 0, 0⟩)), (4, I (q.1.1 : Nat))], M, [], [.box 29 [.sl ⟨.loc 1, 0, 0, 0⟩ q.1.2.1.length q.1.2.2, .int .i64 0], rowG true 53 q.1.2.2 q.1.2.1]⟩) (fun q => N - q.1.1) ⟨(0, [], 0), Nat.zero_le _, uok_zero, Nat.le_refl _⟩ (Le.trans (Le_gh _ [(53, 3)]) (Le_intro [0, 1] (by simp only [WL, WNL, swA_new, swA_ne, nest_sw_ne, mapLL, List.mem_cons, Nat.reduceAdd, Nat.reduceLT, Nat.reduceLeDiff, Nat.reduceEqDiff, okU, List.nodup_cons, List.not_mem_nil, toT, toL, toO, keysO, renl, rent, cll, clt, eq_self, AV.eqv, AC.eqv, eqvl, eqvt, Sl.eqv, rowsLe, mapLL, rowsCl, List.map_append, List.length_map, List.length_append, List.length_set, List.map_replicate, rowG, List.getElem?_cons_zero, List.getElem?_cons_succ, List.getElem?_nil, List.append_nil, List.nil_append, List.cons_append, ghosts, St.gh, Option.some.injEq, implies_true, setT, AV.ren, AC.ren, AV.cl, AC.cl, List.replicate_succ, List.replicate_zero, List.nodup_nil, List.length_nil, List.length_cons, List.getD_cons_zero, List.getD_cons_succ, ↓reduceIte]; try simp))) ?_
    rintro ⟨⟨i, X, cap⟩, hi, hu, hcap⟩
    dsimp only at hi hu hcap
    have hw := wS (i := i) (by omega)
    have hX8 := hu.2.1.1
    have hw2 : IntKind.i64.wrap (1 + (i : Int)) = ((i + 1 : Nat) : Int) := by rw [w64 (by omega) (by omega)]; omega
    rcases Nat.lt_or_ge i N with hlt | hge
    · have hid : decide ((i : Int) < (N : Int)) = true := decide_eq_true (by omega)
      obtain ⟨v, hv, hv9⟩ : ∃ v : Int, (atO L ((i + 1 : Nat) : Int)).tmod 10 = v ∧ 0 ≤ v ∧ v ≤ 9 := by
        have := atO_mod L (i := ((i + 1 : Nat) : Int)) (k := 10) (by omega) (by omega)
        exact ⟨_, rfl, by omega⟩
      obtain ⟨e1, e2⟩ := uok_add hu (by omega) hv9
      simp only [↓WP, ↓grdD, ↓grdT, ↓un_dead, ↓binVC, ↓buildVC, ↓sliceVC, WQ, WN, Int.reduceToNat, renl, cll, rent, clt, ↓reduceIte, Nat.reduceLeDiff, Nat.reduceEqDiff, Nat.reduceLT, reduceCtorEq, List.append_nil, Nat.reduceAdd, Nat.reduceSub, Nat.reduceBEq, forall_const, implies_true, cond_true, cond_false, AV.ren, AC.ren, AV.cl, AC.cl, eq_self, List.all_cons, List.all_nil, AV.eqv, AC.eqv, eqvl, eqvt, Sl.eqv, List.map_append, List.length_map, List.length_append, List.length_replicate, List.length_set, List.map_replicate, nilVC, zr_29, fs_29, sz_29, el_45, zr_3, fl_29_0, sz_27, sd_27, sz_3, bt_4, c_laws_big, c_laws_at, c_impl_SchedAdd, c_impl_SchedBound, c_impl_SchedNext, c_spec_SchedOk, c_spec_SchedBound, c_spec_DrawSchedDrop, c_impl_SchedDrop, c_spec_SchedDrop, c_spec_DrawSchedAdd, c_spec_SchedAdd, c_laws_boolInt, ha, ← hL, w0, w1, hid, hw2, hv, e1, hasRow_rows]
      repeat' (first | (refine And.intro (by first | omega | exact .inr trivial | exact ⟨by omega, .inr trivial⟩) ?_) | with_reducible refine And.intro ?_ ?_ | intro _)
      all_goals try omega
      all_goals try exact .inr trivial
      all_goals
        rename_i k hk
        refine ⟨⟨(i + 1, X ++ [(((i + 1 : Nat) : Int), v, 0)], k), hlt, e2, by simp; omega⟩, ?_, by show N - (i + 1) < N - i; omega⟩
        first
          | (refine Le_intro [0, 3] ?_; simp only [WL, WNL, swA_new, swA_ne, nest_sw_ne, mapLL, List.mem_cons, Nat.reduceAdd, Nat.reduceLT, Nat.reduceLeDiff, Nat.reduceEqDiff, okU, List.nodup_cons, List.not_mem_nil, toT, toL, toO, keysO, renl, rent, cll, clt, eq_self, AV.eqv, AC.eqv, eqvl, eqvt, Sl.eqv, rowsLe, mapLL, rowsCl, List.map_append, List.length_map, List.length_append, List.length_set, List.map_replicate, rowG, List.getElem?_cons_zero, List.getElem?_cons_succ, List.getElem?_nil, List.append_nil, List.nil_append, List.cons_append, ghosts, St.gh, Option.some.injEq, implies_true, setT, AV.ren, AC.ren, AV.cl, AC.cl, List.replicate_succ, List.replicate_zero, List.nodup_nil, List.length_nil, List.length_cons, List.getD_cons_zero, List.getD_cons_succ, ↓reduceIte, hw, List.map_append, List.map_cons, List.map_nil, List.length_append, List.length_cons, List.length_nil]; (try simp); done)
          | (refine Le_intro [0, 2] ?_; simp only [WL, WNL, swA_new, swA_ne, nest_sw_ne, mapLL, List.mem_cons, Nat.reduceAdd, Nat.reduceLT, Nat.reduceLeDiff, Nat.reduceEqDiff, okU, List.nodup_cons, List.not_mem_nil, toT, toL, toO, keysO, renl, rent, cll, clt, eq_self, AV.eqv, AC.eqv, eqvl, eqvt, Sl.eqv, rowsLe, mapLL, rowsCl, List.map_append, List.length_map, List.length_append, List.length_set, List.map_replicate, rowG, List.getElem?_cons_zero, List.getElem?_cons_succ, List.getElem?_nil, List.append_nil, List.nil_append, List.cons_append, ghosts, St.gh, Option.some.injEq, implies_true, setT, AV.ren, AC.ren, AV.cl, AC.cl, List.replicate_succ, List.replicate_zero, List.nodup_nil, List.length_nil, List.length_cons, List.getD_cons_zero, List.getD_cons_succ, ↓reduceIte, hw, List.map_append, List.map_cons, List.map_nil, List.length_append, List.length_cons, List.length_nil]; (try simp); done)
    · obtain rfl : i = N := by omega
      have hid : decide ((i : Int) < (i : Int)) = false := by simp
      have hok0 := uok_wok hu (by omega)
      have hXl : X.length = i := hu.1
      have hbd : boundOf X 0 = 10 + 2 * (X.length : Int) := if_pos ⟨hu.2.1, by omega⟩
      obtain ⟨bd, hbde⟩ : ∃ bd, 10 + 2 * (X.length : Int) = bd := ⟨_, rfl⟩
      rw [hbde] at hbd
      have hae2 : allEnc Int ((List.replicate 20 (0 : Int)).map enc) := by rw [allEnc_enc]; trivial
      simp only [↓WP, ↓grdD, ↓grdT, ↓un_dead, ↓binVC, ↓buildVC, ↓sliceVC, WQ, WN, Int.reduceToNat, renl, cll, rent, clt, ↓reduceIte, Nat.reduceLeDiff, Nat.reduceEqDiff, Nat.reduceLT, reduceCtorEq, List.append_nil, Nat.reduceAdd, Nat.reduceSub, Nat.reduceBEq, forall_const, implies_true, cond_true, cond_false, AV.ren, AC.ren, AV.cl, AC.cl, eq_self, List.all_cons, List.all_nil, AV.eqv, AC.eqv, eqvl, eqvt, Sl.eqv, List.map_append, List.length_map, List.length_append, List.length_replicate, List.length_set, List.map_replicate, nilVC, zr_29, fs_29, sz_29, el_45, zr_3, fl_29_0, sz_27, sd_27, sz_3, bt_4, c_laws_big, c_laws_at, c_impl_SchedAdd, c_impl_SchedBound, c_impl_SchedNext, c_spec_SchedOk, c_spec_SchedBound, c_spec_DrawSchedDrop, c_impl_SchedDrop, c_spec_SchedDrop, c_spec_DrawSchedAdd, c_spec_SchedAdd, c_laws_boolInt, ha, ← hL, w0, w1, hid, hbd]
      refine ⟨by omega, by omega, by omega, ⟨by omega, .inr trivial⟩, ?_⟩
      refine loopI (J := {q : Nat × List T3 × List Int × Nat // q.1 ≤ 60 ∧ wok q.2.1 q.2.2.1 q.1 ∧ q.2.1.length = i ∧ q.2.1.length ≤ q.2.2.2}) (fun q => ⟨slots 200 [(0, .c (.sl a.up n ca)), (3, .c (.ptr ⟨.loc 0, 0, 0, 0⟩)), (7, .c (.sl ⟨.loc 2, 0, 0, 0⟩ 20 20)), (8, I bd), (9, I (q.1.1 : Nat))], M, [], [.box 29 [.sl ⟨.loc 1, 0, 0, 0⟩ q.1.2.1.length q.1.2.2.2, .int .i64 (q.1.1 : Nat)], rowG true 53 q.1.2.2.2 q.1.2.1, rowG true 3 20 q.1.2.2.1]⟩) (fun q => 60 - q.1.1) ⟨(0, X, List.replicate 20 0, cap), Nat.zero_le _, hok0, hXl, hcap⟩ (Le_intro [0, 1, 2] (by simp only [WL, WNL, swA_new, swA_ne, nest_sw_ne, mapLL, List.mem_cons, Nat.reduceAdd, Nat.reduceLT, Nat.reduceLeDiff, Nat.reduceEqDiff, okU, List.nodup_cons, List.not_mem_nil, toT, toL, toO, keysO, renl, rent, cll, clt, eq_self, AV.eqv, AC.eqv, eqvl, eqvt, Sl.eqv, rowsLe, mapLL, rowsCl, List.map_append, List.length_map, List.length_append, List.length_set, List.map_replicate, rowG, List.getElem?_cons_zero, List.getElem?_cons_succ, List.getElem?_nil, List.append_nil, List.nil_append, List.cons_append, ghosts, St.gh, Option.some.injEq, implies_true, setT, AV.ren, AC.ren, AV.cl, AC.cl, List.replicate_succ, List.replicate_zero, List.nodup_nil, List.length_nil, List.length_cons, List.getD_cons_zero, List.getD_cons_succ, ↓reduceIte]; try simp)) ?_
      rintro ⟨⟨r, Y, V, c⟩, hr, hwk, hYl, hYc⟩
      dsimp only at hr hwk hYl hYc
      have hwr := wS (i := r) (by omega)
      have hVl : V.length = 20 := hwk.1
      have hYok : schedOk Y (r : Int) := hwk.2.2.1
      rcases Nat.lt_or_ge r 60 with hrl | hrg
      · have hrd : decide ((r : Int) < 60) = true := decide_eq_true (by omega)
        obtain ⟨b, hb⟩ : ∃ b, b = bestOf Y Y.length := ⟨_, rfl⟩
        have hb0 := bestOf_le Y Y.length (by omega) (Nat.le_refl _)
        obtain ⟨n1, n2, n3⟩ := wok_next (W' := (bmp V Y.length).set (bestOf Y Y.length + 1) 0) hwk hrl (by rw [List.length_set, bmp_len]; exact hVl) (fun j hj => by
          by_cases e : j = bestOf Y Y.length
          · subst e
            rw [if_pos rfl, getD_set_self (by rw [bmp_len]; omega)]
          · rw [if_neg e, getD_set_ne (by omega), bmp_get (by omega), if_pos hj])
        rw [← hb] at n1 n2 n3
        have hbdY : boundOf Y (r : Int) = bd := by rw [← hbde, hXl, ← hYl]; exact if_pos ⟨hYok, by omega⟩
        have hYn : (nextL Y b).length = Y.length := nextL_length Y b
        have hok2 : decide (schedOk (nextL Y b) ((r + 1 : Nat) : Int)) = true := decide_eq_true n3.2.2.1
        have d1 : decide (((b + 1 : Nat) : Int) < 1) = false := decide_eq_false (by omega)
        have d2 : decide ((Y.length : Int) < ((b + 1 : Nat) : Int)) = false := decide_eq_false (by omega)
        have hbb : ∀ z : Int, decide (z = z) = true := fun z => by simp
        have hYb : Y.length ≤ 8 := hYok.1
        simp only [↓WP, ↓grdD, ↓grdT, ↓un_dead, ↓binVC, ↓buildVC, ↓sliceVC, WQ, WN, Int.reduceToNat, renl, cll, rent, clt, ↓reduceIte, Nat.reduceLeDiff, Nat.reduceEqDiff, Nat.reduceLT, reduceCtorEq, List.append_nil, Nat.reduceAdd, Nat.reduceSub, Nat.reduceBEq, forall_const, implies_true, cond_true, cond_false, AV.ren, AC.ren, AV.cl, AC.cl, eq_self, List.all_cons, List.all_nil, AV.eqv, AC.eqv, eqvl, eqvt, Sl.eqv, List.map_append, List.length_map, List.length_append, List.length_replicate, List.length_set, List.map_replicate, nilVC, zr_29, fs_29, sz_29, el_45, zr_3, fl_29_0, sz_27, sd_27, sz_3, bt_4, c_laws_big, c_laws_at, c_impl_SchedAdd, c_impl_SchedBound, c_impl_SchedNext, c_spec_SchedOk, c_spec_SchedBound, c_spec_DrawSchedDrop, c_impl_SchedDrop, c_spec_SchedDrop, c_spec_DrawSchedAdd, c_spec_SchedAdd, c_laws_boolInt, hrd, n1, hYn, d1, d2, hok2, hbdY, decide_true, Bool.not_true, Bool.false_eq_true]
        refine ⟨⟨⟨by omega, .inr trivial⟩, hYc⟩, fun k2 hk2 => ⟨⟨by omega, .inr trivial⟩, ⟨by omega, .inr trivial⟩, ?_⟩⟩
        refine loopI (J := {j : Nat // j ≤ Y.length}) (fun j => ⟨slots 200 [(0, .c (.sl a.up n ca)), (3, .c (.ptr ⟨.loc 0, 0, 0, 0⟩)), (7, .c (.sl ⟨.loc 2, 0, 0, 0⟩ 20 20)), (8, I bd), (9, I (r : Nat)), (10, .c (.ptr ⟨.loc 4, 0, 0, 0⟩)), (11, I (b + 1 : Nat)), (12, I (j.1 + 1 : Nat))], M, [], [.box 29 [.sl ⟨.loc 1, 0, 0, 0⟩ Y.length c, .int .i64 (r : Nat)], rowG true 53 c Y, rowG true 3 20 (bmp V j.1), rowG true 53 k2 (nextL Y b), .box 29 [.sl ⟨.loc 3, 0, 0, 0⟩ Y.length k2, .int .i64 (r + 1 : Nat)]]⟩) (fun j => Y.length - j.1) ⟨0, Nat.zero_le _⟩ (Le_intro [0, 1, 2, 3, 4] (by simp only [WL, WNL, swA_new, swA_ne, nest_sw_ne, mapLL, List.mem_cons, Nat.reduceAdd, Nat.reduceLT, Nat.reduceLeDiff, Nat.reduceEqDiff, okU, List.nodup_cons, List.not_mem_nil, toT, toL, toO, keysO, renl, rent, cll, clt, eq_self, AV.eqv, AC.eqv, eqvl, eqvt, Sl.eqv, rowsLe, mapLL, rowsCl, List.map_append, List.length_map, List.length_append, List.length_set, List.map_replicate, rowG, List.getElem?_cons_zero, List.getElem?_cons_succ, List.getElem?_nil, List.append_nil, List.nil_append, List.cons_append, ghosts, St.gh, Option.some.injEq, implies_true, setT, AV.ren, AC.ren, AV.cl, AC.cl, List.replicate_succ, List.replicate_zero, List.nodup_nil, List.length_nil, List.length_cons, List.getD_cons_zero, List.getD_cons_succ, ↓reduceIte, bmp]; try simp)) ?_
        rintro ⟨j, hj⟩
        have hwj := wS (i := j + 1) (by omega)
        rcases Nat.lt_or_ge j Y.length with hjl | hjg
        · have hjd : decide (((j + 1 : Nat) : Int) ≤ (Y.length : Int)) = true := decide_eq_true (by omega)
          obtain ⟨v, hv⟩ : ∃ v, v = (bmp V j).getD (j + 1) default := ⟨_, rfl⟩
          have hgv : (List.map enc (bmp V j)).getD (j + 1) [] = [AC.int .i64 v] := by rw [getD_enc _ _ (by rw [bmp_len]; omega), ← hv]; rfl
          have hv9 : 0 ≤ v ∧ v ≤ 61 := by
            have := bmp_get (W := V) (j := j) (by omega) j
            rw [← hv, if_neg (by omega)] at this
            have h3 := hwk.2.2.2 j hjl
            have h4 := (hYok.2.2 j hjl).2.2.1
            omega
          have hvw : IntKind.i64.wrap (v + 1) = v + 1 := w64 (by omega) (by omega)
          have hset : (List.map enc (bmp V j)).set (j + 1) [AC.int .i64 (v + 1)] = List.map enc (bmp V (j + 1)) := by
            rw [bmp, ← hv, List.map_set]; rfl
          simp only [↓WP, ↓grdD, ↓grdT, ↓un_dead, ↓binVC, ↓buildVC, ↓sliceVC, WQ, WN, Int.reduceToNat, renl, cll, rent, clt, ↓reduceIte, Nat.reduceLeDiff, Nat.reduceEqDiff, Nat.reduceLT, reduceCtorEq, List.append_nil, Nat.reduceAdd, Nat.reduceSub, Nat.reduceBEq, forall_const, implies_true, cond_true, cond_false, AV.ren, AC.ren, AV.cl, AC.cl, eq_self, List.all_cons, List.all_nil, AV.eqv, AC.eqv, eqvl, eqvt, Sl.eqv, List.map_append, List.length_map, List.length_append, List.length_replicate, List.length_set, List.map_replicate, nilVC, zr_29, fs_29, sz_29, el_45, zr_3, fl_29_0, sz_27, sd_27, sz_3, bt_4, c_laws_big, c_laws_at, c_impl_SchedAdd, c_impl_SchedBound, c_impl_SchedNext, c_spec_SchedOk, c_spec_SchedBound, c_spec_DrawSchedDrop, c_impl_SchedDrop, c_spec_SchedDrop, c_spec_DrawSchedAdd, c_spec_SchedAdd, c_laws_boolInt, hjd, hgv, hvw, hwj]
          repeat' (first | (refine And.intro (by omega) ?_) | with_reducible refine And.intro ?_ ?_ | intro _)
          all_goals try (rw [bmp_len]; omega)
          all_goals try omega
          exact ⟨⟨j + 1, by omega⟩, Le_intro [0, 1, 2, 3, 4] (by simp only [WL, WNL, swA_new, swA_ne, nest_sw_ne, mapLL, List.mem_cons, Nat.reduceAdd, Nat.reduceLT, Nat.reduceLeDiff, Nat.reduceEqDiff, okU, List.nodup_cons, List.not_mem_nil, toT, toL, toO, keysO, renl, rent, cll, clt, eq_self, AV.eqv, AC.eqv, eqvl, eqvt, Sl.eqv, rowsLe, mapLL, rowsCl, List.map_append, List.length_map, List.length_append, List.length_set, List.map_replicate, rowG, List.getElem?_cons_zero, List.getElem?_cons_succ, List.getElem?_nil, List.append_nil, List.nil_append, List.cons_append, ghosts, St.gh, Option.some.injEq, implies_true, setT, AV.ren, AC.ren, AV.cl, AC.cl, List.replicate_succ, List.replicate_zero, List.nodup_nil, List.length_nil, List.length_cons, List.getD_cons_zero, List.getD_cons_succ, ↓reduceIte, hset]; try simp), by show Y.length - (j + 1) < Y.length - j; omega⟩
        · obtain rfl : j = Y.length := by omega
          have hjd : decide (((Y.length + 1 : Nat) : Int) ≤ (Y.length : Int)) = false := decide_eq_false (by omega)
          simp only [↓WP, ↓grdD, ↓grdT, ↓un_dead, ↓binVC, ↓buildVC, ↓sliceVC, WQ, WN, Int.reduceToNat, renl, cll, rent, clt, ↓reduceIte, Nat.reduceLeDiff, Nat.reduceEqDiff, Nat.reduceLT, reduceCtorEq, List.append_nil, Nat.reduceAdd, Nat.reduceSub, Nat.reduceBEq, forall_const, implies_true, cond_true, cond_false, AV.ren, AC.ren, AV.cl, AC.cl, eq_self, List.all_cons, List.all_nil, AV.eqv, AC.eqv, eqvl, eqvt, Sl.eqv, List.map_append, List.length_map, List.length_append, List.length_replicate, List.length_set, List.map_replicate, nilVC, zr_29, fs_29, sz_29, el_45, zr_3, fl_29_0, sz_27, sd_27, sz_3, bt_4, c_laws_big, c_laws_at, c_impl_SchedAdd, c_impl_SchedBound, c_impl_SchedNext, c_spec_SchedOk, c_spec_SchedBound, c_spec_DrawSchedDrop, c_impl_SchedDrop, c_spec_SchedDrop, c_spec_DrawSchedAdd, c_spec_SchedAdd, c_laws_boolInt, hjd]
          obtain ⟨V2, hV2⟩ : ∃ V2, V2 = (bmp V Y.length).set (b + 1) 0 := ⟨_, rfl⟩
          rw [← hV2] at n3
          have hV2l : V2.length = 20 := n3.1
          refine ⟨by omega, by rw [bmp_len]; omega, ?_⟩
          refine loopI (J := {j : Nat // j ≤ Y.length}) (fun j => ⟨slots 200 [(0, .c (.sl a.up n ca)), (3, .c (.ptr ⟨.loc 0, 0, 0, 0⟩)), (7, .c (.sl ⟨.loc 2, 0, 0, 0⟩ 20 20)), (8, I bd), (9, I (r : Nat)), (10, .c (.ptr ⟨.loc 4, 0, 0, 0⟩)), (11, I (b + 1 : Nat)), (13, I (j.1 + 1 : Nat))], M, [], [.box 29 [.sl ⟨.loc 1, 0, 0, 0⟩ Y.length c, .int .i64 (r : Nat)], rowG true 53 c Y, rowG true 3 20 V2, rowG true 53 k2 (nextL Y b), .box 29 [.sl ⟨.loc 3, 0, 0, 0⟩ Y.length k2, .int .i64 (r + 1 : Nat)]]⟩) (fun j => Y.length - j.1) ⟨0, Nat.zero_le _⟩ (Le_intro [0, 1, 2, 3, 4] (by simp only [WL, WNL, swA_new, swA_ne, nest_sw_ne, mapLL, List.mem_cons, Nat.reduceAdd, Nat.reduceLT, Nat.reduceLeDiff, Nat.reduceEqDiff, okU, List.nodup_cons, List.not_mem_nil, toT, toL, toO, keysO, renl, rent, cll, clt, eq_self, AV.eqv, AC.eqv, eqvl, eqvt, Sl.eqv, rowsLe, mapLL, rowsCl, List.map_append, List.length_map, List.length_append, List.length_set, List.map_replicate, rowG, List.getElem?_cons_zero, List.getElem?_cons_succ, List.getElem?_nil, List.append_nil, List.nil_append, List.cons_append, ghosts, St.gh, Option.some.injEq, implies_true, setT, AV.ren, AC.ren, AV.cl, AC.cl, List.replicate_succ, List.replicate_zero, List.nodup_nil, List.length_nil, List.length_cons, List.getD_cons_zero, List.getD_cons_succ, ↓reduceIte, hV2, List.map_set, enc_int]; try simp)) ?_
          rintro ⟨m, hm⟩
          have hwm := wS (i := m + 1) (by omega)
          rcases Nat.lt_or_ge m Y.length with hml | hmg
          · have hmd : decide (((m + 1 : Nat) : Int) ≤ (Y.length : Int)) = true := decide_eq_true (by omega)
            have hwb := wok_bound n3 (j := m) (by rw [hYn]; exact hml)
            rw [hYn] at hwb
            have hgv : (List.map enc V2).getD (m + 1) [] = [AC.int .i64 (V2.getD (m + 1) default)] := by rw [getD_enc _ _ (by omega)]; rfl
            have hbd2 : decide (bd < V2.getD (m + 1) default) = false := decide_eq_false (by omega)
            simp only [↓WP, ↓grdD, ↓grdT, ↓un_dead, ↓binVC, ↓buildVC, ↓sliceVC, WQ, WN, Int.reduceToNat, renl, cll, rent, clt, ↓reduceIte, Nat.reduceLeDiff, Nat.reduceEqDiff, Nat.reduceLT, reduceCtorEq, List.append_nil, Nat.reduceAdd, Nat.reduceSub, Nat.reduceBEq, forall_const, implies_true, cond_true, cond_false, AV.ren, AC.ren, AV.cl, AC.cl, eq_self, List.all_cons, List.all_nil, AV.eqv, AC.eqv, eqvl, eqvt, Sl.eqv, List.map_append, List.length_map, List.length_append, List.length_replicate, List.length_set, List.map_replicate, nilVC, zr_29, fs_29, sz_29, el_45, zr_3, fl_29_0, sz_27, sd_27, sz_3, bt_4, c_laws_big, c_laws_at, c_impl_SchedAdd, c_impl_SchedBound, c_impl_SchedNext, c_spec_SchedOk, c_spec_SchedBound, c_spec_DrawSchedDrop, c_impl_SchedDrop, c_spec_SchedDrop, c_spec_DrawSchedAdd, c_spec_SchedAdd, c_laws_boolInt, hmd, hgv, hbd2, hwm]
            repeat' (first | (refine And.intro (by omega) ?_) | with_reducible refine And.intro ?_ ?_ | intro _)
            all_goals try omega
            exact ⟨⟨m + 1, by omega⟩, Le_intro [0, 1, 2, 3, 4] (by simp only [WL, WNL, swA_new, swA_ne, nest_sw_ne, mapLL, List.mem_cons, Nat.reduceAdd, Nat.reduceLT, Nat.reduceLeDiff, Nat.reduceEqDiff, okU, List.nodup_cons, List.not_mem_nil, toT, toL, toO, keysO, renl, rent, cll, clt, eq_self, AV.eqv, AC.eqv, eqvl, eqvt, Sl.eqv, rowsLe, mapLL, rowsCl, List.map_append, List.length_map, List.length_append, List.length_set, List.map_replicate, rowG, List.getElem?_cons_zero, List.getElem?_cons_succ, List.getElem?_nil, List.append_nil, List.nil_append, List.cons_append, ghosts, St.gh, Option.some.injEq, implies_true, setT, AV.ren, AC.ren, AV.cl, AC.cl, List.replicate_succ, List.replicate_zero, List.nodup_nil, List.length_nil, List.length_cons, List.getD_cons_zero, List.getD_cons_succ, ↓reduceIte]; try simp), by show Y.length - (m + 1) < Y.length - m; omega⟩
          · obtain rfl : m = Y.length := by omega
            simp only [↓WP, ↓grdD, ↓grdT, ↓un_dead, ↓binVC, ↓buildVC, ↓sliceVC, WQ, WN, Int.reduceToNat, renl, cll, rent, clt, ↓reduceIte, Nat.reduceLeDiff, Nat.reduceEqDiff, Nat.reduceLT, reduceCtorEq, List.append_nil, Nat.reduceAdd, Nat.reduceSub, Nat.reduceBEq, forall_const, implies_true, cond_true, cond_false, AV.ren, AC.ren, AV.cl, AC.cl, eq_self, List.all_cons, List.all_nil, AV.eqv, AC.eqv, eqvl, eqvt, Sl.eqv, List.map_append, List.length_map, List.length_append, List.length_replicate, List.length_set, List.map_replicate, nilVC, zr_29, fs_29, sz_29, el_45, zr_3, fl_29_0, sz_27, sd_27, sz_3, bt_4, c_laws_big, c_laws_at, c_impl_SchedAdd, c_impl_SchedBound, c_impl_SchedNext, c_spec_SchedOk, c_spec_SchedBound, c_spec_DrawSchedDrop, c_impl_SchedDrop, c_spec_SchedDrop, c_spec_DrawSchedAdd, c_spec_SchedAdd, c_laws_boolInt, hjd, hwr]
            exact ⟨⟨(r + 1, nextL Y b, V2, k2), by show r + 1 ≤ 60; omega, n3, by dsimp only; omega, by dsimp only; omega⟩, Le_intro [0, 3, 2] (by simp only [WL, WNL, swA_new, swA_ne, nest_sw_ne, mapLL, List.mem_cons, Nat.reduceAdd, Nat.reduceLT, Nat.reduceLeDiff, Nat.reduceEqDiff, okU, List.nodup_cons, List.not_mem_nil, toT, toL, toO, keysO, renl, rent, cll, clt, eq_self, AV.eqv, AC.eqv, eqvl, eqvt, Sl.eqv, rowsLe, mapLL, rowsCl, List.map_append, List.length_map, List.length_append, List.length_set, List.map_replicate, rowG, List.getElem?_cons_zero, List.getElem?_cons_succ, List.getElem?_nil, List.append_nil, List.nil_append, List.cons_append, ghosts, St.gh, Option.some.injEq, implies_true, setT, AV.ren, AC.ren, AV.cl, AC.cl, List.replicate_succ, List.replicate_zero, List.nodup_nil, List.length_nil, List.length_cons, List.getD_cons_zero, List.getD_cons_succ, ↓reduceIte, hYn]; try simp), by show 60 - (r + 1) < 60 - r; omega⟩
      · obtain rfl : r = 60 := by omega
        have hrd : decide (((60 : Nat) : Int) < 60) = false := by decide
        simp only [↓WP, ↓grdD, ↓grdT, ↓un_dead, ↓binVC, ↓buildVC, ↓sliceVC, WQ, WN, Int.reduceToNat, renl, cll, rent, clt, ↓reduceIte, Nat.reduceLeDiff, Nat.reduceEqDiff, Nat.reduceLT, reduceCtorEq, List.append_nil, Nat.reduceAdd, Nat.reduceSub, Nat.reduceBEq, forall_const, implies_true, cond_true, cond_false, AV.ren, AC.ren, AV.cl, AC.cl, eq_self, List.all_cons, List.all_nil, AV.eqv, AC.eqv, eqvl, eqvt, Sl.eqv, List.map_append, List.length_map, List.length_append, List.length_replicate, List.length_set, List.map_replicate, nilVC, zr_29, fs_29, sz_29, el_45, zr_3, fl_29_0, sz_27, sd_27, sz_3, bt_4, c_laws_big, c_laws_at, c_impl_SchedAdd, c_impl_SchedBound, c_impl_SchedNext, c_spec_SchedOk, c_spec_SchedBound, c_spec_DrawSchedDrop, c_impl_SchedDrop, c_spec_SchedDrop, c_spec_DrawSchedAdd, c_spec_SchedAdd, c_laws_boolInt, hrd, ha]
        rintro ⟨⟨Z, tz, cz⟩, vz⟩ ⟨z1, z2⟩
        dsimp only at z1 z2
        obtain ⟨O, hO⟩ : ∃ O, dropOf Z tz vz = O := ⟨_, rfl⟩
        have hdl := fun h : schedOk Z tz => drop_len h vz
        have hOl := dropOf_len Z tz vz
        rw [hO] at hdl hOl
        simp only [hO]
        refine ⟨⟨⟨by omega, .inr trivial⟩, z1⟩, fun d1 hd1 => ⟨⟨⟨by omega, .inr trivial⟩, z1⟩, fun d2 hd2 => ?_⟩⟩
        rintro ⟨⟨Q, tq, cq⟩, iq, vq⟩ ⟨q1, q2⟩
        dsimp only at q1 q2
        have hao := fun h : schedOk Q tq => add_ok h iq vq
        have hat : schedOk Q tq → (addOf Q tq iq vq).2.1 = tq := fun h => by
          unfold addOf
          rw [if_pos h]
          split <;> rfl
        have hO2l := addOf_len Q tq iq vq
        obtain ⟨O2, hO2⟩ : ∃ O2, addOf Q tq iq vq = O2 := ⟨_, rfl⟩
        rw [hO2] at hao hat hO2l
        simp only [hO2]
        refine ⟨⟨⟨by omega, .inr trivial⟩, q1, by rw [hasRow_rows]; exact ⟨rfl, rfl, Nat.zero_lt_one, Nat.zero_le _⟩⟩, fun d3 hd3 => ⟨⟨⟨by omega, .inr trivial⟩, q1⟩, fun d4 hd4 => ?_⟩⟩
        refine ⟨fun _ => ⟨by omega, .inr trivial⟩, fun _ => ⟨by omega, .inr trivial⟩, fun _ => ⟨by omega, .inr trivial⟩, ?_⟩
        rw [show (O.snd.snd == O.snd.snd && O2.snd.snd == O2.snd.snd) = true from by simp]
        simp only [Bool.true_and, Bool.and_eq_true, Bool.or_eq_true, Bool.not_eq_true', decide_eq_false_iff_not, decide_eq_true_eq]
        constructor
        · by_cases h : schedOk Z tz
          · right
            rw [hdl h]
            split
            · rw [w64 (by omega) (by omega)]
            · rw [w64 (by omega) (by omega)]
          · exact .inl h
        · by_cases h : schedOk Q tq
          · right
            obtain ⟨h1, h2⟩ := hao h
            rw [hat h]
            refine ⟨h1, ?_⟩
            rw [h2]
            split
            · rw [w64 (by omega) (by omega)]
            · rw [w64 (by omega) (by omega)]
          · exact .inl h
end Go.Eng.T
