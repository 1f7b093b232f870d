/- faults: what FnFaults says, in plain terms; pages that are drawn. -/
import Derived.Test.YtgbbegbepbniiaaFn7
import Derived.Test.YtgbbegbepbniiaaFn6
set_option linter.unusedVariables false
set_option linter.unusedSimpArgs false
set_option linter.unusedSectionVars false
namespace Go.Eng.T
open Go.Proofs
open Cel (enc dec)
set_option maxRecDepth 100000
set_option maxHeartbeats 8000000
theorem kn_pos {X : List Int} {p : Int} (h : p ∈ X) (hp : 0 ≤ p ∧ p ≤ 99) : 0 < kn X 100 := by
  unfold kn
  rw [List.countP_pos_iff]
  exact ⟨p.toNat, List.mem_range.2 (by omega), decide_eq_true (by rw [Int.toNat_of_nonneg hp.1]; exact h)⟩
theorem faults_law (X : List Int) (n : Int) :
    cntF false (vicB X) X n ≤ cntF true v0 X n ∧ cntF false (vicB X) X n ≤ cntF false v0 X n ∧ (cntF true v0 X n = 0 → cntF false (vicB X) X n = 0 ∧ cntF false v0 X n = 0) ∧
    (cntF true v0 X n ≠ 0 → (1 ≤ n ∧ n ≤ 20) ∧ (n < 20 → cntF true v0 X (n + 1) ≤ cntF true v0 X n ∧ cntF false (vicB X) X (n + 1) ≤ cntF false (vicB X) X n) ∧ (kn X 100 : Int) ≤ cntF false (vicB X) X n ∧ cntF true v0 X n ≤ X.length ∧
      (¬ n < kn X 100 → cntF true v0 X n = kn X 100 ∧ cntF false v0 X n = kn X 100 ∧ cntF false (vicB X) X n = kn X 100)) := by
  by_cases hok : faultsOk X n
  · obtain ⟨hl, hn, hX⟩ := hok
    have hok : faultsOk X n := ⟨hl, hn, hX⟩
    obtain ⟨f, rfl⟩ : ∃ f : Nat, n = f := ⟨n.toNat, by omega⟩
    have hf : 1 ≤ f := by omega
    have hvB : ∀ l i, 1 ≤ l.length → vicB X l i < l.length := fun l i h => vicB_lt X l i h
    have hv0 : ∀ l i, 1 ≤ l.length → v0 l i < l.length := fun l i h => h
    have e1 : cntF true v0 X f = runN true v0 f X X.length := if_pos hok
    have e2 : cntF false v0 X f = runN false v0 f X X.length := if_pos hok
    have e3 : cntF false (vicB X) X f = runN false (vicB X) f X X.length := if_pos hok
    have l1 := best_le hf (run_way (rc := true) (X := X) hf (Nat.le_refl f) hv0)
    have l2 := best_le hf (run_way (rc := false) (X := X) hf (Nat.le_refl f) hv0)
    have k1 := kinds_le (rc := true) (f := f) (X := X) (by omega) hv0 X.length (Nat.le_refl _)
    have k3 := kinds_le (rc := false) (f := f) (X := X) (by omega) hvB X.length (Nat.le_refl _)
    rw [List.take_length] at k1 k3
    have r1 := runN_le (rc := true) (vic := v0) (f := f) (X := X) X.length
    rw [e1, e2, e3]
    refine ⟨by omega, by omega, fun h0 => ?_, fun h0 => ⟨hn, fun h20 => ?_, by omega, by omega, fun hk => ?_⟩⟩
    · have hX0 : X.length = 0 := by
        rcases Nat.eq_zero_or_pos X.length with h | h
        · exact h
        · have := kn_pos (getD_mem h) (hX 0 h)
          omega
      have r2 := runN_le (rc := false) (vic := v0) (f := f) (X := X) X.length
      omega
    · have hok2 : faultsOk X ((f : Int) + 1) := ⟨hl, by omega, hX⟩
      have e4 : cntF true v0 X ((f : Int) + 1) = runN true v0 (f + 1 : Nat) X X.length := if_pos hok2
      have e5 : cntF false (vicB X) X ((f : Int) + 1) = runN false (vicB X) (f + 1 : Nat) X X.length := if_pos hok2
      rw [e4, e5]
      have a1 := (lru_inv (X := X) hf X.length).1
      have a2 := best_le (f := f + 1) (by omega) (run_way (rc := false) (X := X) hf (Nat.le_succ f) hvB)
      exact ⟨by exact_mod_cast a1, by exact_mod_cast a2⟩
    · have q1 := (kinds_eq (rc := true) (vic := v0) (f := f) hX (by omega) X.length (Nat.le_refl _)).1
      have q2 := (kinds_eq (rc := false) (vic := v0) (f := f) hX (by omega) X.length (Nat.le_refl _)).1
      have q3 := (kinds_eq (rc := false) (vic := vicB X) (f := f) hX (by omega) X.length (Nat.le_refl _)).1
      rw [List.take_length] at q1 q2 q3
      omega
  · have e1 : cntF true v0 X n = 0 := if_neg hok
    have e2 : cntF false v0 X n = 0 := if_neg hok
    have e3 : cntF false (vicB X) X n = 0 := if_neg hok
    rw [e1, e2, e3]
    exact ⟨Int.le_refl _, Int.le_refl _, fun _ => ⟨rfl, rfl⟩, fun h => absurd rfl h⟩
def c_laws_big : Contract := ⟨17, fun args M => match args with
  | [.c (.sl _ n _)] => .pure True (Eng.B (decide (1048576 < n)))
  | _ => .bad⟩
theorem ok_laws_big : fnP Try.prog c_laws_big.f = true ∧ ∀ args M, (c_laws_big.sp args M).OK Try.prog c_laws_big.f args M := by
  refine ⟨fp_17, fun args M => ?_⟩
  unfold c_laws_big
  dsimp only
  split
  case h_2 => trivial
  rename_i _ n _
  intro _
  refine goIn hf_17 rfl (nt := 6) rfl (rs := [.tmp 2]) rfl (C := []) trivial (q := fun _ => false) okQ_none mixed (O := fun _ => .nil) (by kernel_rfl) ?_
  simp only [↓WP, ↓grdD, ↓grdT, ↓un_dead, ↓binVC, ↓buildVC, ↓sliceVC, WQ, WN, Int.reduceToNat, renl, cll, rent, clt, ↓reduceIte, Nat.reduceLeDiff, Nat.reduceEqDiff, Nat.reduceLT, reduceCtorEq, List.append_nil, Nat.reduceAdd, Nat.reduceSub, Nat.reduceBEq, forall_const, implies_true, cond_true, cond_false, AV.ren, AC.ren, AV.cl, AC.cl, eq_self, List.all_cons, List.all_nil, AV.eqv, AC.eqv, eqvl, eqvt, Sl.eqv, List.map_append, List.length_map, List.length_append, List.length_replicate, List.length_set, List.map_replicate, nilVC, sd_27]
  simp
  omega
theorem q_laws_big : Quiet c_laws_big := by
  intro args M
  unfold c_laws_big
  dsimp only
  split <;> first | trivial | (intro _; rfl)
def c_laws_has : Contract := ⟨19, fun args M => match args with
  | [.c (.sl a n _), .c (.int .i64 v)] => .pure (RowOk Int a n (M a.r)) (Eng.B ((row Int a n (M a.r)).any fun x => decide (x = v)))
  | _ => .bad⟩
theorem ok_laws_has : fnP Try.prog c_laws_has.f = true ∧ ∀ args M, (c_laws_has.sp args M).OK Try.prog c_laws_has.f args M := by
  refine ⟨fp_19, fun args M => ?_⟩
  unfold c_laws_has
  dsimp only
  split
  case h_2 => trivial
  rename_i a n ca v
  intro ha
  obtain ⟨hs, X, hX, rfl, hat⟩ := ha.x
  rw [hX]
  refine goIn hf_19 rfl (nt := 18) rfl (rs := [.tmp 4]) rfl (C := []) trivial (q := fun _ => false) okQ_none mixed (O := fun _ => .nil) (by kernel_rfl) ?_
  simp only [↓WP, ↓grdD, ↓grdT, ↓un_dead, ↓binVC, ↓buildVC, ↓sliceVC, WQ, WN, Int.reduceToNat, renl, cll, rent, clt, ↓reduceIte, Nat.reduceLeDiff, Nat.reduceEqDiff, Nat.reduceLT, reduceCtorEq, List.append_nil, Nat.reduceAdd, Nat.reduceSub, Nat.reduceBEq, forall_const, implies_true, cond_true, cond_false, AV.ren, AC.ren, AV.cl, AC.cl, eq_self, List.all_cons, List.all_nil, AV.eqv, AC.eqv, eqvl, eqvt, Sl.eqv, List.map_append, List.length_map, List.length_append, List.length_replicate, List.length_set, List.map_replicate, nilVC, sd_22, el_22, sz_3]
  refine loopI (J := {i : Nat // i ≤ X.length ∧ clear (fun x => decide (x = v)) X i}) (fun i => ⟨slots 18 [(0, .c (.sl a.up X.length ca)), (1, I v), (5, I i.1)], M, [], []⟩) (fun i => X.length - i.1) ⟨0, by omega, clear_zero _ _⟩ (Le_intro [] (by simp [WL, WNL, swA_new, swA_ne, nest_sw_ne, mapLL, List.mem_cons, Nat.reduceAdd, Nat.reduceLT, Nat.reduceLeDiff, Nat.reduceEqDiff, okU, List.nodup_cons, List.not_mem_nil, toT, toL, toO, keysO, renl, rent, cll, clt, eq_self, AV.eqv, AC.eqv, eqvl, eqvt, Sl.eqv, rowsLe, mapLL, rowsCl, List.map_append, List.length_map, List.length_append, List.length_set, List.map_replicate, rowG, List.getElem?_cons_zero, List.getElem?_cons_succ, List.getElem?_nil, List.append_nil, List.nil_append, List.cons_append, ghosts, St.gh, Option.some.injEq, implies_true, setT, AV.ren, AC.ren, AV.cl, AC.cl, List.replicate_succ, List.replicate_zero, List.nodup_nil, List.length_nil, List.length_cons, List.getD_cons_zero, List.getD_cons_succ, ↓reduceIte])) ?_
  rintro ⟨i, hi, he⟩
  have hw := wS (i := i) (by omega)
  rcases Nat.lt_or_ge i X.length with hlt | hge
  · obtain ⟨own, ty, cnt, cap, len, get, hM, hf, hic, hkn, hget⟩ := hat (by omega)
    simp only [↓WP, ↓grdD, ↓grdT, ↓un_dead, ↓binVC, ↓buildVC, ↓sliceVC, WQ, WN, Int.reduceToNat, renl, cll, rent, clt, ↓reduceIte, Nat.reduceLeDiff, Nat.reduceEqDiff, Nat.reduceLT, reduceCtorEq, List.append_nil, Nat.reduceAdd, Nat.reduceSub, Nat.reduceBEq, forall_const, implies_true, cond_true, cond_false, AV.ren, AC.ren, AV.cl, AC.cl, eq_self, List.all_cons, List.all_nil, AV.eqv, AC.eqv, eqvl, eqvt, Sl.eqv, List.map_append, List.length_map, List.length_append, List.length_replicate, List.length_set, List.map_replicate, nilVC, sd_22, el_22, sz_3, dlt hlt, hw, hM, hf, hget i hlt]
    repeat refine ⟨by omega, ?_⟩
    refine ⟨fun h1 => ?_, fun h1 => ?_⟩
    · have h1 : X.getD i default = v := (of_decide_eq_true h1)
      have := hit_any (p := fun x => decide (x = v)) hlt (decide_eq_true h1)
      simp [this]
    · have h1 : ¬ X.getD i default = v := fun e => of_decide_eq_false h1 e
      exact ⟨⟨i + 1, hlt, clear_succ he (decide_eq_false h1)⟩, Le_intro [] (by simp [WL, WNL, swA_new, swA_ne, nest_sw_ne, mapLL, List.mem_cons, Nat.reduceAdd, Nat.reduceLT, Nat.reduceLeDiff, Nat.reduceEqDiff, okU, List.nodup_cons, List.not_mem_nil, toT, toL, toO, keysO, renl, rent, cll, clt, eq_self, AV.eqv, AC.eqv, eqvl, eqvt, Sl.eqv, rowsLe, mapLL, rowsCl, List.map_append, List.length_map, List.length_append, List.length_set, List.map_replicate, rowG, List.getElem?_cons_zero, List.getElem?_cons_succ, List.getElem?_nil, List.append_nil, List.nil_append, List.cons_append, ghosts, St.gh, Option.some.injEq, implies_true, setT, AV.ren, AC.ren, AV.cl, AC.cl, List.replicate_succ, List.replicate_zero, List.nodup_nil, List.length_nil, List.length_cons, List.getD_cons_zero, List.getD_cons_succ, ↓reduceIte]), by show X.length - (i + 1) < X.length - i; omega⟩
  · obtain rfl : i = X.length := by omega
    simp only [↓WP, ↓grdD, ↓grdT, ↓un_dead, ↓binVC, ↓buildVC, ↓sliceVC, WQ, WN, Int.reduceToNat, renl, cll, rent, clt, ↓reduceIte, Nat.reduceLeDiff, Nat.reduceEqDiff, Nat.reduceLT, reduceCtorEq, List.append_nil, Nat.reduceAdd, Nat.reduceSub, Nat.reduceBEq, forall_const, implies_true, cond_true, cond_false, AV.ren, AC.ren, AV.cl, AC.cl, eq_self, List.all_cons, List.all_nil, AV.eqv, AC.eqv, eqvl, eqvt, Sl.eqv, List.map_append, List.length_map, List.length_append, List.length_replicate, List.length_set, List.map_replicate, nilVC, sd_22, el_22, sz_3, dge hge, hw]
    have := clear_any he
    simp [this]
theorem q_laws_has : Quiet c_laws_has := by
  intro args M
  unfold c_laws_has
  dsimp only
  split <;> first | trivial | (intro _; rfl)
def c_spec_l1New : Contract := ⟨37, fun args M => match args with
  | [.c (.sl a n c)] => .eff (RowOk UInt8 a n (M a.r)) Int (fun _ => True) (fun _ => .c (.ptr ⟨.loc 0, 0, 0, 0⟩)) (fun h => [.box 48 [.sl a.up n c, .int .i64 0, .int .i64 h]]) (fun _ => [])
  | _ => .bad⟩
theorem ok_spec_l1New : fnP Try.prog c_spec_l1New.f = true ∧ ∀ args M, (c_spec_l1New.sp args M).OK Try.prog c_spec_l1New.f args M := by
  refine ⟨fp_37, fun args M => ?_⟩
  unfold c_spec_l1New
  dsimp only
  split
  case h_2 => trivial
  rename_i a n ca
  intro ha
  obtain ⟨hs, X, hX, rfl, hat⟩ := ha.x
  refine goIn hf_37 rfl (nt := 32) rfl (rs := [.tmp 2]) rfl (C := []) trivial (q := fun _ => false) okQ_none mixed (O := fun _ => .nil) (by kernel_rfl) ?_
  simp only [↓WP, ↓grdD, ↓grdT, ↓un_dead, ↓binVC, ↓buildVC, ↓sliceVC, WQ, WN, Int.reduceToNat, renl, cll, rent, clt, ↓reduceIte, Nat.reduceLeDiff, Nat.reduceEqDiff, Nat.reduceLT, reduceCtorEq, List.append_nil, Nat.reduceAdd, Nat.reduceSub, Nat.reduceBEq, forall_const, implies_true, cond_true, cond_false, AV.ren, AC.ren, AV.cl, AC.cl, eq_self, List.all_cons, List.all_nil, AV.eqv, AC.eqv, eqvl, eqvt, Sl.eqv, List.map_append, List.length_map, List.length_append, List.length_replicate, List.length_set, List.map_replicate, nilVC, sd_27, el_27, sz_5, cv_5_3, zr_48, fs_48]
  refine loopI (J := {p : Nat × Int // p.1 ≤ X.length}) (fun p => ⟨slots 32 [(0, .c (.sl a.up X.length ca)), (3, I p.1.2), (4, I p.1.1)], M, [], []⟩) (fun p => X.length - p.1.1) ⟨(0, IntKind.i64.wrap (10101 + X.length)), by simp⟩ (Le_intro [] (by simp [WL, WNL, swA_new, swA_ne, nest_sw_ne, mapLL, List.mem_cons, Nat.reduceAdd, Nat.reduceLT, Nat.reduceLeDiff, Nat.reduceEqDiff, okU, List.nodup_cons, List.not_mem_nil, toT, toL, toO, keysO, renl, rent, cll, clt, eq_self, AV.eqv, AC.eqv, eqvl, eqvt, Sl.eqv, rowsLe, mapLL, rowsCl, List.map_append, List.length_map, List.length_append, List.length_set, List.map_replicate, rowG, List.getElem?_cons_zero, List.getElem?_cons_succ, List.getElem?_nil, List.append_nil, List.nil_append, List.cons_append, ghosts, St.gh, Option.some.injEq, implies_true, setT, AV.ren, AC.ren, AV.cl, AC.cl, List.replicate_succ, List.replicate_zero, List.nodup_nil, List.length_nil, List.length_cons, List.getD_cons_zero, List.getD_cons_succ, ↓reduceIte])) ?_
  rintro ⟨⟨i, h⟩, hi⟩
  dsimp only at hi
  have hw := wS (i := i) (by omega)
  rcases Nat.lt_or_ge i X.length with hlt | hge
  · obtain ⟨own, ty, cnt, cap, len, get, hM, hf, hic, hkn, hget⟩ := hat (by omega)
    simp only [↓WP, ↓grdD, ↓grdT, ↓un_dead, ↓binVC, ↓buildVC, ↓sliceVC, WQ, WN, Int.reduceToNat, renl, cll, rent, clt, ↓reduceIte, Nat.reduceLeDiff, Nat.reduceEqDiff, Nat.reduceLT, reduceCtorEq, List.append_nil, Nat.reduceAdd, Nat.reduceSub, Nat.reduceBEq, forall_const, implies_true, cond_true, cond_false, AV.ren, AC.ren, AV.cl, AC.cl, eq_self, List.all_cons, List.all_nil, AV.eqv, AC.eqv, eqvl, eqvt, Sl.eqv, List.map_append, List.length_map, List.length_append, List.length_replicate, List.length_set, List.map_replicate, nilVC, sd_27, el_27, sz_5, cv_5_3, zr_48, fs_48, dlt hlt, hw, hM, hf, hget i hlt]
    refine ⟨fun h1 => ?_, fun h1 => ?_⟩
    · repeat refine ⟨by omega, ?_⟩
      refine ⟨⟨(i + 1, ?h), hlt⟩, Le_intro [] ?g, by show X.length - (i + 1) < X.length - i; omega⟩
      case g =>
        simp [WL, WNL, swA_new, swA_ne, nest_sw_ne, mapLL, List.mem_cons, Nat.reduceAdd, Nat.reduceLT, Nat.reduceLeDiff, Nat.reduceEqDiff, okU, List.nodup_cons, List.not_mem_nil, toT, toL, toO, keysO, renl, rent, cll, clt, eq_self, AV.eqv, AC.eqv, eqvl, eqvt, Sl.eqv, rowsLe, mapLL, rowsCl, List.map_append, List.length_map, List.length_append, List.length_set, List.map_replicate, rowG, List.getElem?_cons_zero, List.getElem?_cons_succ, List.getElem?_nil, List.append_nil, List.nil_append, List.cons_append, ghosts, St.gh, Option.some.injEq, implies_true, setT, AV.ren, AC.ren, AV.cl, AC.cl, List.replicate_succ, List.replicate_zero, List.nodup_nil, List.length_nil, List.length_cons, List.getD_cons_zero, List.getD_cons_succ, ↓reduceIte]
        rfl
    · refine end_ret ?_
      simp only [↓WP, ↓grdD, ↓grdT, ↓un_dead, ↓binVC, ↓buildVC, ↓sliceVC, WQ, WN, Int.reduceToNat, renl, cll, rent, clt, ↓reduceIte, Nat.reduceLeDiff, Nat.reduceEqDiff, Nat.reduceLT, reduceCtorEq, List.append_nil, Nat.reduceAdd, Nat.reduceSub, Nat.reduceBEq, forall_const, implies_true, cond_true, cond_false, AV.ren, AC.ren, AV.cl, AC.cl, eq_self, List.all_cons, List.all_nil, AV.eqv, AC.eqv, eqvl, eqvt, Sl.eqv, List.map_append, List.length_map, List.length_append, List.length_replicate, List.length_set, List.map_replicate, nilVC, sd_27, el_27, sz_5, cv_5_3, zr_48, fs_48]
      refine ⟨h, [], [0], ?_⟩
      simp [WL, WNL, swA_new, swA_ne, nest_sw_ne, mapLL, List.mem_cons, Nat.reduceAdd, Nat.reduceLT, Nat.reduceLeDiff, Nat.reduceEqDiff, okU, List.nodup_cons, List.not_mem_nil, toT, toL, toO, keysO, renl, rent, cll, clt, eq_self, AV.eqv, AC.eqv, eqvl, eqvt, Sl.eqv, rowsLe, mapLL, rowsCl, List.map_append, List.length_map, List.length_append, List.length_set, List.map_replicate, rowG, List.getElem?_cons_zero, List.getElem?_cons_succ, List.getElem?_nil, List.append_nil, List.nil_append, List.cons_append, ghosts, St.gh, Option.some.injEq, implies_true, setT, AV.ren, AC.ren, AV.cl, AC.cl, List.replicate_succ, List.replicate_zero, List.nodup_nil, List.length_nil, List.length_cons, List.getD_cons_zero, List.getD_cons_succ, ↓reduceIte, retP]
  · obtain rfl : i = X.length := by omega
    simp only [↓WP, ↓grdD, ↓grdT, ↓un_dead, ↓binVC, ↓buildVC, ↓sliceVC, WQ, WN, Int.reduceToNat, renl, cll, rent, clt, ↓reduceIte, Nat.reduceLeDiff, Nat.reduceEqDiff, Nat.reduceLT, reduceCtorEq, List.append_nil, Nat.reduceAdd, Nat.reduceSub, Nat.reduceBEq, forall_const, implies_true, cond_true, cond_false, AV.ren, AC.ren, AV.cl, AC.cl, eq_self, List.all_cons, List.all_nil, AV.eqv, AC.eqv, eqvl, eqvt, Sl.eqv, List.map_append, List.length_map, List.length_append, List.length_replicate, List.length_set, List.map_replicate, nilVC, sd_27, el_27, sz_5, cv_5_3, zr_48, fs_48, dge hge, hw]
    refine end_ret ?_
    simp only [↓WP, ↓grdD, ↓grdT, ↓un_dead, ↓binVC, ↓buildVC, ↓sliceVC, WQ, WN, Int.reduceToNat, renl, cll, rent, clt, ↓reduceIte, Nat.reduceLeDiff, Nat.reduceEqDiff, Nat.reduceLT, reduceCtorEq, List.append_nil, Nat.reduceAdd, Nat.reduceSub, Nat.reduceBEq, forall_const, implies_true, cond_true, cond_false, AV.ren, AC.ren, AV.cl, AC.cl, eq_self, List.all_cons, List.all_nil, AV.eqv, AC.eqv, eqvl, eqvt, Sl.eqv, List.map_append, List.length_map, List.length_append, List.length_replicate, List.length_set, List.map_replicate, nilVC, sd_27, el_27, sz_5, cv_5_3, zr_48, fs_48]
    refine ⟨h, [], [0], ?_⟩
    simp [WL, WNL, swA_new, swA_ne, nest_sw_ne, mapLL, List.mem_cons, Nat.reduceAdd, Nat.reduceLT, Nat.reduceLeDiff, Nat.reduceEqDiff, okU, List.nodup_cons, List.not_mem_nil, toT, toL, toO, keysO, renl, rent, cll, clt, eq_self, AV.eqv, AC.eqv, eqvl, eqvt, Sl.eqv, rowsLe, mapLL, rowsCl, List.map_append, List.length_map, List.length_append, List.length_set, List.map_replicate, rowG, List.getElem?_cons_zero, List.getElem?_cons_succ, List.getElem?_nil, List.append_nil, List.nil_append, List.cons_append, ghosts, St.gh, Option.some.injEq, implies_true, setT, AV.ren, AC.ren, AV.cl, AC.cl, List.replicate_succ, List.replicate_zero, List.nodup_nil, List.length_nil, List.length_cons, List.getD_cons_zero, List.getD_cons_succ, ↓reduceIte, retP]
theorem q_spec_l1New : Quiet c_spec_l1New := by
  intro args M
  unfold c_spec_l1New
  dsimp only
  split <;> first | trivial | (intro _; rfl)
def c_spec_l1Byte : Contract := ⟨54, fun args M => match args with
  | [.c (.ptr a)] => curK a (M a.r) fun r t b n c p _ => .eff (CurOk b n p (M b.r)) (Int × Int × Int) (fun q => (0 ≤ q.1 ∧ q.1 ≤ 255) ∧ 0 ≤ q.2.1 ∧ q.2.1 ≤ n) (fun q => I q.1) (fun _ => []) (fun q => [(r, .box t [.sl b.up n c, .int .i64 q.2.1, .int .i64 q.2.2])])
  | _ => .bad⟩
theorem ok_spec_l1Byte : fnP Try.prog c_spec_l1Byte.f = true ∧ ∀ args M, (c_spec_l1Byte.sp args M).OK Try.prog c_spec_l1Byte.f args M := by
  refine ⟨fp_54, fun args M => ?_⟩
  unfold c_spec_l1Byte
  dsimp only
  split
  case h_2 => trivial
  rename_i a
  refine curK_cases ?_
  rintro r t b n c p h rfl hr
  rintro ⟨hb, hp0, hpn⟩
  obtain ⟨hs, X, hX, rfl, hat⟩ := hb.x
  dsimp only at hr
  refine goIn hf_54 rfl (nt := 58) rfl (rs := [.tmp 2]) rfl (C := []) trivial (q := fun f => [].contains f) trivial mixed (O := ots [(2, otl [0, 1, 2, 3, 4, 5, 6, 7, 8, 9, 10, 11, 12] .nil), (3, otl [0, 1, 2, 3, 4, 5, 6, 7, 8, 9] .nil), (4, otl [0, 1, 2, 3, 4, 5, 6, 7, 8, 9, 10, 11, 12, 13, 14] .nil)]) (by kernel_rfl) ?_
  by_cases hp : p < X.length
  · obtain ⟨own, ty, cnt, cap, len, get, hM, hf, hic, hkn, hget⟩ := hat (by omega)
    have hne : ¬ r = b.r := by rintro rfl; rw [hr] at hM; cases hM
    simp only [↓WP, ↓grdD, ↓grdT, ↓un_dead, ↓binVC, ↓buildVC, ↓sliceVC, WQ, WN, Int.reduceToNat, renl, cll, rent, clt, ↓reduceIte, Nat.reduceLeDiff, Nat.reduceEqDiff, Nat.reduceLT, reduceCtorEq, List.append_nil, Nat.reduceAdd, Nat.reduceSub, Nat.reduceBEq, forall_const, implies_true, cond_true, cond_false, AV.ren, AC.ren, AV.cl, AC.cl, eq_self, List.all_cons, List.all_nil, AV.eqv, AC.eqv, eqvl, eqvt, Sl.eqv, List.map_append, List.length_map, List.length_append, List.length_replicate, List.length_set, List.map_replicate, nilVC, fl_48_2, sz_3, fl_48_1, fl_48_0, sz_27, sd_27, el_27, sz_5, cv_5_3, hr, hM, hf, if_neg hne, decide_eq_true hp, hget p.toNat (by omega), w64 (n := p + 1) (by omega) (by omega)]
    repeat refine ⟨by omega, ?_⟩
    refine end_ret ?_
    simp only [↓WP, ↓grdD, ↓grdT, ↓un_dead, ↓binVC, ↓buildVC, ↓sliceVC, WQ, WN, Int.reduceToNat, renl, cll, rent, clt, ↓reduceIte, Nat.reduceLeDiff, Nat.reduceEqDiff, Nat.reduceLT, reduceCtorEq, List.append_nil, Nat.reduceAdd, Nat.reduceSub, Nat.reduceBEq, forall_const, implies_true, cond_true, cond_false, AV.ren, AC.ren, AV.cl, AC.cl, eq_self, List.all_cons, List.all_nil, AV.eqv, AC.eqv, eqvl, eqvt, Sl.eqv, List.map_append, List.length_map, List.length_append, List.length_replicate, List.length_set, List.map_replicate, nilVC, fl_48_2, sz_3, fl_48_1, fl_48_0, sz_27, sd_27, el_27, sz_5, cv_5_3]
    apply Exists.intro (Prod.mk _ (Prod.mk _ _))
    refine ⟨[], [], ?c1, ⟨rfl, List.nodup_nil, trivial, ?k1, ?o1⟩, ⟨?e1, trivial⟩, ?u1⟩
    case e1 => exact ⟨rfl, rfl⟩
    case o1 =>
      simp only [WL, WNL, swA_new, swA_ne, nest_sw_ne, mapLL, List.mem_cons, Nat.reduceAdd, Nat.reduceLT, Nat.reduceLeDiff, Nat.reduceEqDiff, okU, List.nodup_cons, List.not_mem_nil, toT, toL, toO, keysO, renl, rent, cll, clt, eq_self, AV.eqv, AC.eqv, eqvl, eqvt, Sl.eqv, rowsLe, mapLL, rowsCl, List.map_append, List.length_map, List.length_append, List.length_set, List.map_replicate, rowG, List.getElem?_cons_zero, List.getElem?_cons_succ, List.getElem?_nil, List.append_nil, List.nil_append, List.cons_append, ghosts, St.gh, Option.some.injEq, implies_true, setT, AV.ren, AC.ren, AV.cl, AC.cl, List.replicate_succ, List.replicate_zero, List.nodup_nil, List.length_nil, List.length_cons, List.getD_cons_zero, List.getD_cons_succ, ↓reduceIte]
      exact ⟨rfl, rfl⟩
    case k1 => simp [WL, WNL, swA_new, swA_ne, nest_sw_ne, mapLL, List.mem_cons, Nat.reduceAdd, Nat.reduceLT, Nat.reduceLeDiff, Nat.reduceEqDiff, okU, List.nodup_cons, List.not_mem_nil, toT, toL, toO, keysO, renl, rent, cll, clt, eq_self, AV.eqv, AC.eqv, eqvl, eqvt, Sl.eqv, rowsLe, mapLL, rowsCl, List.map_append, List.length_map, List.length_append, List.length_set, List.map_replicate, rowG, List.getElem?_cons_zero, List.getElem?_cons_succ, List.getElem?_nil, List.append_nil, List.nil_append, List.cons_append, ghosts, St.gh, Option.some.injEq, implies_true, setT, AV.ren, AC.ren, AV.cl, AC.cl, List.replicate_succ, List.replicate_zero, List.nodup_nil, List.length_nil, List.length_cons, List.getD_cons_zero, List.getD_cons_succ, ↓reduceIte]
    case u1 => simp [okU, hr]
    case c1 => exact ⟨and_byte _, (by omega : 0 ≤ p + 1), (by omega : p + 1 ≤ X.length)⟩
  · simp only [↓WP, ↓grdD, ↓grdT, ↓un_dead, ↓binVC, ↓buildVC, ↓sliceVC, WQ, WN, Int.reduceToNat, renl, cll, rent, clt, ↓reduceIte, Nat.reduceLeDiff, Nat.reduceEqDiff, Nat.reduceLT, reduceCtorEq, List.append_nil, Nat.reduceAdd, Nat.reduceSub, Nat.reduceBEq, forall_const, implies_true, cond_true, cond_false, AV.ren, AC.ren, AV.cl, AC.cl, eq_self, List.all_cons, List.all_nil, AV.eqv, AC.eqv, eqvl, eqvt, Sl.eqv, List.map_append, List.length_map, List.length_append, List.length_replicate, List.length_set, List.map_replicate, nilVC, fl_48_2, sz_3, fl_48_1, fl_48_0, sz_27, sd_27, el_27, sz_5, cv_5_3, hr, decide_eq_false hp]
    repeat refine ⟨by omega, ?_⟩
    refine end_ret ?_
    simp only [↓WP, ↓grdD, ↓grdT, ↓un_dead, ↓binVC, ↓buildVC, ↓sliceVC, WQ, WN, Int.reduceToNat, renl, cll, rent, clt, ↓reduceIte, Nat.reduceLeDiff, Nat.reduceEqDiff, Nat.reduceLT, reduceCtorEq, List.append_nil, Nat.reduceAdd, Nat.reduceSub, Nat.reduceBEq, forall_const, implies_true, cond_true, cond_false, AV.ren, AC.ren, AV.cl, AC.cl, eq_self, List.all_cons, List.all_nil, AV.eqv, AC.eqv, eqvl, eqvt, Sl.eqv, List.map_append, List.length_map, List.length_append, List.length_replicate, List.length_set, List.map_replicate, nilVC, fl_48_2, sz_3, fl_48_1, fl_48_0, sz_27, sd_27, el_27, sz_5, cv_5_3]
    apply Exists.intro (Prod.mk _ (Prod.mk _ _))
    refine ⟨[], [], ?c2, ⟨rfl, List.nodup_nil, trivial, ?k2, ?o2⟩, ⟨?e2, trivial⟩, ?u2⟩
    case e2 => exact ⟨rfl, rfl⟩
    case o2 =>
      simp only [WL, WNL, swA_new, swA_ne, nest_sw_ne, mapLL, List.mem_cons, Nat.reduceAdd, Nat.reduceLT, Nat.reduceLeDiff, Nat.reduceEqDiff, okU, List.nodup_cons, List.not_mem_nil, toT, toL, toO, keysO, renl, rent, cll, clt, eq_self, AV.eqv, AC.eqv, eqvl, eqvt, Sl.eqv, rowsLe, mapLL, rowsCl, List.map_append, List.length_map, List.length_append, List.length_set, List.map_replicate, rowG, List.getElem?_cons_zero, List.getElem?_cons_succ, List.getElem?_nil, List.append_nil, List.nil_append, List.cons_append, ghosts, St.gh, Option.some.injEq, implies_true, setT, AV.ren, AC.ren, AV.cl, AC.cl, List.replicate_succ, List.replicate_zero, List.nodup_nil, List.length_nil, List.length_cons, List.getD_cons_zero, List.getD_cons_succ, ↓reduceIte]
      exact ⟨rfl, rfl⟩
    case k2 => simp [WL, WNL, swA_new, swA_ne, nest_sw_ne, mapLL, List.mem_cons, Nat.reduceAdd, Nat.reduceLT, Nat.reduceLeDiff, Nat.reduceEqDiff, okU, List.nodup_cons, List.not_mem_nil, toT, toL, toO, keysO, renl, rent, cll, clt, eq_self, AV.eqv, AC.eqv, eqvl, eqvt, Sl.eqv, rowsLe, mapLL, rowsCl, List.map_append, List.length_map, List.length_append, List.length_set, List.map_replicate, rowG, List.getElem?_cons_zero, List.getElem?_cons_succ, List.getElem?_nil, List.append_nil, List.nil_append, List.cons_append, ghosts, St.gh, Option.some.injEq, implies_true, setT, AV.ren, AC.ren, AV.cl, AC.cl, List.replicate_succ, List.replicate_zero, List.nodup_nil, List.length_nil, List.length_cons, List.getD_cons_zero, List.getD_cons_succ, ↓reduceIte]
    case u2 => simp [okU, hr]
    case c2 => exact ⟨and_byte _, hp0, hpn⟩
def c_spec_l1Below : Contract := ⟨45, fun args M => match args with
  | [.c (.ptr a), .c (.int .i64 k)] => curK a (M a.r) fun r t b n c p _ => .eff (CurOk b n p (M b.r)) (Int × Int × Int) (fun q => ((k ≤ 0 → q.1 = 0) ∧ (0 < k → 0 ≤ q.1 ∧ q.1 < k)) ∧ 0 ≤ q.2.1 ∧ q.2.1 ≤ n) (fun q => I q.1) (fun _ => []) (fun q => [(r, .box t [.sl b.up n c, .int .i64 q.2.1, .int .i64 q.2.2])])
  | _ => .bad⟩
theorem ok_spec_l1Below : fnP Try.prog c_spec_l1Below.f = true ∧ ∀ args M, (c_spec_l1Below.sp args M).OK Try.prog c_spec_l1Below.f args M := by
  refine ⟨fp_45, fun args M => ?_⟩
  unfold c_spec_l1Below
  dsimp only
  split
  case h_2 => trivial
  rename_i a k
  refine curK_cases ?_
  rintro r t b n c p h rfl hr
  rintro ⟨hb, hp0, hpn⟩
  dsimp only at hr
  have hal := cur_alias hb hr
  refine goIn hf_45 rfl (nt := 37) rfl (rs := [.tmp 4]) rfl (C := [c_spec_l1Byte]) ⟨(by first | exact .inl ok_spec_l1Byte | exact ok_spec_l1Byte), trivial⟩ (q := fun _ => false) okQ_none mixed (O := fun _ => .nil) (by kernel_rfl) ?_
  rcases Int.lt_or_le 0 k with h0 | h0
  · rcases Int.lt_or_le 256 k with h1 | h1
    · simp only [↓WP, ↓grdD, ↓grdT, ↓un_dead, ↓binVC, ↓buildVC, ↓sliceVC, WQ, WN, Int.reduceToNat, renl, cll, rent, clt, ↓reduceIte, Nat.reduceLeDiff, Nat.reduceEqDiff, Nat.reduceLT, reduceCtorEq, List.append_nil, Nat.reduceAdd, Nat.reduceSub, Nat.reduceBEq, forall_const, implies_true, cond_true, cond_false, AV.ren, AC.ren, AV.cl, AC.cl, eq_self, List.all_cons, List.all_nil, AV.eqv, AC.eqv, eqvl, eqvt, Sl.eqv, List.map_append, List.length_map, List.length_append, List.length_replicate, List.length_set, List.map_replicate, nilVC, c_spec_l1Byte, hr, hb, hal, decide_eq_false (Int.not_le.2 h0), decide_eq_false (Int.not_le.2 h1)]
      refine ⟨⟨hp0, hpn⟩, ?_⟩
      rintro ⟨x1, p1, k1⟩ ⟨e1, f1⟩
      refine ⟨f1, ?_⟩
      rintro ⟨x2, p2, k2⟩ ⟨e2, f2⟩
      refine ⟨f2, ?_⟩
      rintro ⟨x3, p3, k3⟩ ⟨e3, f3⟩
      refine ⟨f3, ?_⟩
      rintro ⟨x4, p4, k4⟩ ⟨e4, f4⟩
      dsimp only at e1 f1 e2 f2 e3 f3 e4 f4
      refine ⟨by omega, ?_⟩
      rw [w64 (n := x1 * 16777216) (by omega) (by omega), w64 (n := x2 * 65536) (by omega) (by omega), w64 (n := x3 * 256) (by omega) (by omega), w64 (n := x1 * 16777216 + x2 * 65536) (by omega) (by omega), w64 (n := x1 * 16777216 + x2 * 65536 + x3 * 256) (by omega) (by omega), w64 (n := x1 * 16777216 + x2 * 65536 + x3 * 256 + x4) (by omega) (by omega)]
      refine end_ret ?_
      simp only [↓WP, ↓grdD, ↓grdT, ↓un_dead, ↓binVC, ↓buildVC, ↓sliceVC, WQ, WN, Int.reduceToNat, renl, cll, rent, clt, ↓reduceIte, Nat.reduceLeDiff, Nat.reduceEqDiff, Nat.reduceLT, reduceCtorEq, List.append_nil, Nat.reduceAdd, Nat.reduceSub, Nat.reduceBEq, forall_const, implies_true, cond_true, cond_false, AV.ren, AC.ren, AV.cl, AC.cl, eq_self, List.all_cons, List.all_nil, AV.eqv, AC.eqv, eqvl, eqvt, Sl.eqv, List.map_append, List.length_map, List.length_append, List.length_replicate, List.length_set, List.map_replicate, nilVC, c_spec_l1Byte]
      apply Exists.intro (Prod.mk _ (Prod.mk _ _))
      refine ⟨[], [], ?c1, ⟨rfl, List.nodup_nil, trivial, ?k1, ?o1⟩, ⟨?e1, trivial⟩, ?u1⟩
      case e1 => exact ⟨rfl, rfl⟩
      case o1 =>
        simp only [WL, WNL, swA_new, swA_ne, nest_sw_ne, mapLL, List.mem_cons, Nat.reduceAdd, Nat.reduceLT, Nat.reduceLeDiff, Nat.reduceEqDiff, okU, List.nodup_cons, List.not_mem_nil, toT, toL, toO, keysO, renl, rent, cll, clt, eq_self, AV.eqv, AC.eqv, eqvl, eqvt, Sl.eqv, rowsLe, mapLL, rowsCl, List.map_append, List.length_map, List.length_append, List.length_set, List.map_replicate, rowG, List.getElem?_cons_zero, List.getElem?_cons_succ, List.getElem?_nil, List.append_nil, List.nil_append, List.cons_append, ghosts, St.gh, Option.some.injEq, implies_true, setT, AV.ren, AC.ren, AV.cl, AC.cl, List.replicate_succ, List.replicate_zero, List.nodup_nil, List.length_nil, List.length_cons, List.getD_cons_zero, List.getD_cons_succ, ↓reduceIte, hr]
        exact ⟨rfl, rfl⟩
      case k1 => simp [WL, WNL, swA_new, swA_ne, nest_sw_ne, mapLL, List.mem_cons, Nat.reduceAdd, Nat.reduceLT, Nat.reduceLeDiff, Nat.reduceEqDiff, okU, List.nodup_cons, List.not_mem_nil, toT, toL, toO, keysO, renl, rent, cll, clt, eq_self, AV.eqv, AC.eqv, eqvl, eqvt, Sl.eqv, rowsLe, mapLL, rowsCl, List.map_append, List.length_map, List.length_append, List.length_set, List.map_replicate, rowG, List.getElem?_cons_zero, List.getElem?_cons_succ, List.getElem?_nil, List.append_nil, List.nil_append, List.cons_append, ghosts, St.gh, Option.some.injEq, implies_true, setT, AV.ren, AC.ren, AV.cl, AC.cl, List.replicate_succ, List.replicate_zero, List.nodup_nil, List.length_nil, List.length_cons, List.getD_cons_zero, List.getD_cons_succ, ↓reduceIte]
      case u1 => simp [okU, hr]
      case c1 => exact ⟨⟨fun h => absurd h (by omega), fun _ => tmod_range (by omega) h0⟩, f4⟩
    · simp only [↓WP, ↓grdD, ↓grdT, ↓un_dead, ↓binVC, ↓buildVC, ↓sliceVC, WQ, WN, Int.reduceToNat, renl, cll, rent, clt, ↓reduceIte, Nat.reduceLeDiff, Nat.reduceEqDiff, Nat.reduceLT, reduceCtorEq, List.append_nil, Nat.reduceAdd, Nat.reduceSub, Nat.reduceBEq, forall_const, implies_true, cond_true, cond_false, AV.ren, AC.ren, AV.cl, AC.cl, eq_self, List.all_cons, List.all_nil, AV.eqv, AC.eqv, eqvl, eqvt, Sl.eqv, List.map_append, List.length_map, List.length_append, List.length_replicate, List.length_set, List.map_replicate, nilVC, c_spec_l1Byte, hr, hb, hal, decide_eq_false (Int.not_le.2 h0), decide_eq_true h1]
      refine ⟨⟨hp0, hpn⟩, ?_⟩
      rintro ⟨x1, p1, k1⟩ ⟨e1, f1⟩
      dsimp only at e1 f1
      refine ⟨by omega, ?_⟩
      refine end_ret ?_
      simp only [↓WP, ↓grdD, ↓grdT, ↓un_dead, ↓binVC, ↓buildVC, ↓sliceVC, WQ, WN, Int.reduceToNat, renl, cll, rent, clt, ↓reduceIte, Nat.reduceLeDiff, Nat.reduceEqDiff, Nat.reduceLT, reduceCtorEq, List.append_nil, Nat.reduceAdd, Nat.reduceSub, Nat.reduceBEq, forall_const, implies_true, cond_true, cond_false, AV.ren, AC.ren, AV.cl, AC.cl, eq_self, List.all_cons, List.all_nil, AV.eqv, AC.eqv, eqvl, eqvt, Sl.eqv, List.map_append, List.length_map, List.length_append, List.length_replicate, List.length_set, List.map_replicate, nilVC, c_spec_l1Byte]
      apply Exists.intro (Prod.mk _ (Prod.mk _ _))
      refine ⟨[], [], ?c2, ⟨rfl, List.nodup_nil, trivial, ?k2, ?o2⟩, ⟨?e2, trivial⟩, ?u2⟩
      case e2 => exact ⟨rfl, rfl⟩
      case o2 =>
        simp only [WL, WNL, swA_new, swA_ne, nest_sw_ne, mapLL, List.mem_cons, Nat.reduceAdd, Nat.reduceLT, Nat.reduceLeDiff, Nat.reduceEqDiff, okU, List.nodup_cons, List.not_mem_nil, toT, toL, toO, keysO, renl, rent, cll, clt, eq_self, AV.eqv, AC.eqv, eqvl, eqvt, Sl.eqv, rowsLe, mapLL, rowsCl, List.map_append, List.length_map, List.length_append, List.length_set, List.map_replicate, rowG, List.getElem?_cons_zero, List.getElem?_cons_succ, List.getElem?_nil, List.append_nil, List.nil_append, List.cons_append, ghosts, St.gh, Option.some.injEq, implies_true, setT, AV.ren, AC.ren, AV.cl, AC.cl, List.replicate_succ, List.replicate_zero, List.nodup_nil, List.length_nil, List.length_cons, List.getD_cons_zero, List.getD_cons_succ, ↓reduceIte, hr]
        exact ⟨rfl, rfl⟩
      case k2 => simp [WL, WNL, swA_new, swA_ne, nest_sw_ne, mapLL, List.mem_cons, Nat.reduceAdd, Nat.reduceLT, Nat.reduceLeDiff, Nat.reduceEqDiff, okU, List.nodup_cons, List.not_mem_nil, toT, toL, toO, keysO, renl, rent, cll, clt, eq_self, AV.eqv, AC.eqv, eqvl, eqvt, Sl.eqv, rowsLe, mapLL, rowsCl, List.map_append, List.length_map, List.length_append, List.length_set, List.map_replicate, rowG, List.getElem?_cons_zero, List.getElem?_cons_succ, List.getElem?_nil, List.append_nil, List.nil_append, List.cons_append, ghosts, St.gh, Option.some.injEq, implies_true, setT, AV.ren, AC.ren, AV.cl, AC.cl, List.replicate_succ, List.replicate_zero, List.nodup_nil, List.length_nil, List.length_cons, List.getD_cons_zero, List.getD_cons_succ, ↓reduceIte]
      case u2 => simp [okU, hr]
      case c2 => exact ⟨⟨fun h => absurd h (by omega), fun _ => tmod_range (by omega) h0⟩, f1⟩
  · simp only [↓WP, ↓grdD, ↓grdT, ↓un_dead, ↓binVC, ↓buildVC, ↓sliceVC, WQ, WN, Int.reduceToNat, renl, cll, rent, clt, ↓reduceIte, Nat.reduceLeDiff, Nat.reduceEqDiff, Nat.reduceLT, reduceCtorEq, List.append_nil, Nat.reduceAdd, Nat.reduceSub, Nat.reduceBEq, forall_const, implies_true, cond_true, cond_false, AV.ren, AC.ren, AV.cl, AC.cl, eq_self, List.all_cons, List.all_nil, AV.eqv, AC.eqv, eqvl, eqvt, Sl.eqv, List.map_append, List.length_map, List.length_append, List.length_replicate, List.length_set, List.map_replicate, nilVC, c_spec_l1Byte, hr, decide_eq_true h0]
    refine end_ret ?_
    simp only [↓WP, ↓grdD, ↓grdT, ↓un_dead, ↓binVC, ↓buildVC, ↓sliceVC, WQ, WN, Int.reduceToNat, renl, cll, rent, clt, ↓reduceIte, Nat.reduceLeDiff, Nat.reduceEqDiff, Nat.reduceLT, reduceCtorEq, List.append_nil, Nat.reduceAdd, Nat.reduceSub, Nat.reduceBEq, forall_const, implies_true, cond_true, cond_false, AV.ren, AC.ren, AV.cl, AC.cl, eq_self, List.all_cons, List.all_nil, AV.eqv, AC.eqv, eqvl, eqvt, Sl.eqv, List.map_append, List.length_map, List.length_append, List.length_replicate, List.length_set, List.map_replicate, nilVC, c_spec_l1Byte]
    apply Exists.intro (Prod.mk _ (Prod.mk _ _))
    refine ⟨[], [], ?c3, ⟨rfl, List.nodup_nil, trivial, ?k3, ?o3⟩, ⟨?e3, trivial⟩, ?u3⟩
    case e3 => exact ⟨rfl, rfl⟩
    case o3 =>
      simp only [WL, WNL, swA_new, swA_ne, nest_sw_ne, mapLL, List.mem_cons, Nat.reduceAdd, Nat.reduceLT, Nat.reduceLeDiff, Nat.reduceEqDiff, okU, List.nodup_cons, List.not_mem_nil, toT, toL, toO, keysO, renl, rent, cll, clt, eq_self, AV.eqv, AC.eqv, eqvl, eqvt, Sl.eqv, rowsLe, mapLL, rowsCl, List.map_append, List.length_map, List.length_append, List.length_set, List.map_replicate, rowG, List.getElem?_cons_zero, List.getElem?_cons_succ, List.getElem?_nil, List.append_nil, List.nil_append, List.cons_append, ghosts, St.gh, Option.some.injEq, implies_true, setT, AV.ren, AC.ren, AV.cl, AC.cl, List.replicate_succ, List.replicate_zero, List.nodup_nil, List.length_nil, List.length_cons, List.getD_cons_zero, List.getD_cons_succ, ↓reduceIte, hr]
      exact ⟨rfl, rfl⟩
    case k3 => simp [WL, WNL, swA_new, swA_ne, nest_sw_ne, mapLL, List.mem_cons, Nat.reduceAdd, Nat.reduceLT, Nat.reduceLeDiff, Nat.reduceEqDiff, okU, List.nodup_cons, List.not_mem_nil, toT, toL, toO, keysO, renl, rent, cll, clt, eq_self, AV.eqv, AC.eqv, eqvl, eqvt, Sl.eqv, rowsLe, mapLL, rowsCl, List.map_append, List.length_map, List.length_append, List.length_set, List.map_replicate, rowG, List.getElem?_cons_zero, List.getElem?_cons_succ, List.getElem?_nil, List.append_nil, List.nil_append, List.cons_append, ghosts, St.gh, Option.some.injEq, implies_true, setT, AV.ren, AC.ren, AV.cl, AC.cl, List.replicate_succ, List.replicate_zero, List.nodup_nil, List.length_nil, List.length_cons, List.getD_cons_zero, List.getD_cons_succ, ↓reduceIte]
    case u3 => simp [okU, hr]
    case c3 => exact ⟨⟨fun _ => rfl, fun h => absurd h (by omega)⟩, hp0, hpn⟩
def c_spec_l1Once : Contract := ⟨49, fun args M => match args with
  | [.c (.ptr a), .c (.int .i64 _)] => curK a (M a.r) fun r t b n c p _ => .eff (CurOk b n p (M b.r)) (Bool × Int × Int) (fun q => 0 ≤ q.2.1 ∧ q.2.1 ≤ n) (fun q => Eng.B q.1) (fun _ => []) (fun q => [(r, .box t [.sl b.up n c, .int .i64 q.2.1, .int .i64 q.2.2])])
  | _ => .bad⟩
theorem ok_spec_l1Once : fnP Try.prog c_spec_l1Once.f = true ∧ ∀ args M, (c_spec_l1Once.sp args M).OK Try.prog c_spec_l1Once.f args M := by
  refine ⟨fp_49, fun args M => ?_⟩
  unfold c_spec_l1Once
  dsimp only
  split
  case h_2 => trivial
  rename_i a k
  refine curK_cases ?_
  rintro r t b n c p h rfl hr
  rintro ⟨hb, hp0, hpn⟩
  dsimp only at hr
  have hal := cur_alias hb hr
  refine goIn hf_49 rfl (nt := 9) rfl (rs := [.tmp 4]) rfl (C := [c_spec_l1Below]) ⟨(by first | exact .inl ok_spec_l1Below | exact ok_spec_l1Below), trivial⟩ (q := fun _ => false) okQ_none mixed (O := fun _ => .nil) (by kernel_rfl) ?_
  simp only [↓WP, ↓grdD, ↓grdT, ↓un_dead, ↓binVC, ↓buildVC, ↓sliceVC, WQ, WN, Int.reduceToNat, renl, cll, rent, clt, ↓reduceIte, Nat.reduceLeDiff, Nat.reduceEqDiff, Nat.reduceLT, reduceCtorEq, List.append_nil, Nat.reduceAdd, Nat.reduceSub, Nat.reduceBEq, forall_const, implies_true, cond_true, cond_false, AV.ren, AC.ren, AV.cl, AC.cl, eq_self, List.all_cons, List.all_nil, AV.eqv, AC.eqv, eqvl, eqvt, Sl.eqv, List.map_append, List.length_map, List.length_append, List.length_replicate, List.length_set, List.map_replicate, nilVC, c_spec_l1Below, hr, hb, hal]
  refine ⟨⟨hp0, hpn⟩, ?_⟩
  rintro ⟨x1, p1, k1⟩ ⟨e1, f1⟩
  dsimp only at e1 f1
  refine end_ret ?_
  simp only [↓WP, ↓grdD, ↓grdT, ↓un_dead, ↓binVC, ↓buildVC, ↓sliceVC, WQ, WN, Int.reduceToNat, renl, cll, rent, clt, ↓reduceIte, Nat.reduceLeDiff, Nat.reduceEqDiff, Nat.reduceLT, reduceCtorEq, List.append_nil, Nat.reduceAdd, Nat.reduceSub, Nat.reduceBEq, forall_const, implies_true, cond_true, cond_false, AV.ren, AC.ren, AV.cl, AC.cl, eq_self, List.all_cons, List.all_nil, AV.eqv, AC.eqv, eqvl, eqvt, Sl.eqv, List.map_append, List.length_map, List.length_append, List.length_replicate, List.length_set, List.map_replicate, nilVC, c_spec_l1Below]
  apply Exists.intro (Prod.mk _ (Prod.mk _ _))
  refine ⟨[], [], ?c1, ⟨rfl, List.nodup_nil, trivial, ?k1, ?o1⟩, ⟨?e1, trivial⟩, ?u1⟩
  case e1 => exact rfl
  case o1 =>
    simp only [WL, WNL, swA_new, swA_ne, nest_sw_ne, mapLL, List.mem_cons, Nat.reduceAdd, Nat.reduceLT, Nat.reduceLeDiff, Nat.reduceEqDiff, okU, List.nodup_cons, List.not_mem_nil, toT, toL, toO, keysO, renl, rent, cll, clt, eq_self, AV.eqv, AC.eqv, eqvl, eqvt, Sl.eqv, rowsLe, mapLL, rowsCl, List.map_append, List.length_map, List.length_append, List.length_set, List.map_replicate, rowG, List.getElem?_cons_zero, List.getElem?_cons_succ, List.getElem?_nil, List.append_nil, List.nil_append, List.cons_append, ghosts, St.gh, Option.some.injEq, implies_true, setT, AV.ren, AC.ren, AV.cl, AC.cl, List.replicate_succ, List.replicate_zero, List.nodup_nil, List.length_nil, List.length_cons, List.getD_cons_zero, List.getD_cons_succ, ↓reduceIte, hr]
    exact ⟨rfl, rfl⟩
  case k1 => simp [WL, WNL, swA_new, swA_ne, nest_sw_ne, mapLL, List.mem_cons, Nat.reduceAdd, Nat.reduceLT, Nat.reduceLeDiff, Nat.reduceEqDiff, okU, List.nodup_cons, List.not_mem_nil, toT, toL, toO, keysO, renl, rent, cll, clt, eq_self, AV.eqv, AC.eqv, eqvl, eqvt, Sl.eqv, rowsLe, mapLL, rowsCl, List.map_append, List.length_map, List.length_append, List.length_set, List.map_replicate, rowG, List.getElem?_cons_zero, List.getElem?_cons_succ, List.getElem?_nil, List.append_nil, List.nil_append, List.cons_append, ghosts, St.gh, Option.some.injEq, implies_true, setT, AV.ren, AC.ren, AV.cl, AC.cl, List.replicate_succ, List.replicate_zero, List.nodup_nil, List.length_nil, List.length_cons, List.getD_cons_zero, List.getD_cons_succ, ↓reduceIte]
  case u1 => simp [okU, hr]
  case c1 => exact f1
def c_spec_l1PickInt : Contract := ⟨38, fun args M => match args with
  | [.c (.ptr a), .c (.sl l m _)] => curK a (M a.r) fun r t b n c p _ => .eff (CurOk b n p (M b.r) ∧ RowOk Int l m (M l.r) ∧ 0 < m) (Int × Int × Int) (fun q => q.1 ∈ row Int l m (M l.r) ∧ 0 ≤ q.2.1 ∧ q.2.1 ≤ n) (fun q => I q.1) (fun _ => []) (fun q => [(r, .box t [.sl b.up n c, .int .i64 q.2.1, .int .i64 q.2.2])])
  | _ => .bad⟩
theorem ok_spec_l1PickInt : fnP Try.prog c_spec_l1PickInt.f = true ∧ ∀ args M, (c_spec_l1PickInt.sp args M).OK Try.prog c_spec_l1PickInt.f args M := by
  refine ⟨fp_38, fun args M => ?_⟩
  unfold c_spec_l1PickInt
  dsimp only
  split
  case h_2 => trivial
  rename_i a l m c'
  refine curK_cases ?_
  rintro r t b n c p h rfl hr
  rintro ⟨⟨hb, hp0, hpn⟩, hl, h0⟩
  dsimp only at hr
  have hal := cur_alias hb hr
  obtain ⟨hs, X, hX, rfl, hat⟩ := hl.x
  rw [hX]
  obtain ⟨own, ty, cnt, cap, len, get, hM, hf, hic, hkn, hget⟩ := hat (by omega)
  have hne : ¬ r = l.r := by rintro rfl; rw [hr] at hM; cases hM
  refine goIn hf_38 rfl (nt := 12) rfl (rs := [.tmp 4]) rfl (C := [c_spec_l1Below]) ⟨(by first | exact .inl ok_spec_l1Below | exact ok_spec_l1Below), trivial⟩ (q := fun _ => false) okQ_none mixed (O := fun _ => .nil) (by kernel_rfl) ?_
  simp only [↓WP, ↓grdD, ↓grdT, ↓un_dead, ↓binVC, ↓buildVC, ↓sliceVC, WQ, WN, Int.reduceToNat, renl, cll, rent, clt, ↓reduceIte, Nat.reduceLeDiff, Nat.reduceEqDiff, Nat.reduceLT, reduceCtorEq, List.append_nil, Nat.reduceAdd, Nat.reduceSub, Nat.reduceBEq, forall_const, implies_true, cond_true, cond_false, AV.ren, AC.ren, AV.cl, AC.cl, eq_self, List.all_cons, List.all_nil, AV.eqv, AC.eqv, eqvl, eqvt, Sl.eqv, List.map_append, List.length_map, List.length_append, List.length_replicate, List.length_set, List.map_replicate, nilVC, sd_22, el_22, sz_3, c_spec_l1Below, hr, hb, hal, hM, if_neg hne]
  refine ⟨⟨hp0, hpn⟩, ?_⟩
  rintro ⟨x1, p1, k1⟩ ⟨⟨_, e1⟩, f1⟩
  dsimp only at e1 f1
  obtain ⟨e0, e1⟩ := e1 (by omega)
  simp only [↓WP, ↓grdD, ↓grdT, ↓un_dead, ↓binVC, ↓buildVC, ↓sliceVC, WQ, WN, Int.reduceToNat, renl, cll, rent, clt, ↓reduceIte, Nat.reduceLeDiff, Nat.reduceEqDiff, Nat.reduceLT, reduceCtorEq, List.append_nil, Nat.reduceAdd, Nat.reduceSub, Nat.reduceBEq, forall_const, implies_true, cond_true, cond_false, AV.ren, AC.ren, AV.cl, AC.cl, eq_self, List.all_cons, List.all_nil, AV.eqv, AC.eqv, eqvl, eqvt, Sl.eqv, List.map_append, List.length_map, List.length_append, List.length_replicate, List.length_set, List.map_replicate, nilVC, sd_22, el_22, sz_3, c_spec_l1Below, hf, hget x1.toNat (by omega)]
  repeat refine ⟨by omega, ?_⟩
  refine end_ret ?_
  simp only [↓WP, ↓grdD, ↓grdT, ↓un_dead, ↓binVC, ↓buildVC, ↓sliceVC, WQ, WN, Int.reduceToNat, renl, cll, rent, clt, ↓reduceIte, Nat.reduceLeDiff, Nat.reduceEqDiff, Nat.reduceLT, reduceCtorEq, List.append_nil, Nat.reduceAdd, Nat.reduceSub, Nat.reduceBEq, forall_const, implies_true, cond_true, cond_false, AV.ren, AC.ren, AV.cl, AC.cl, eq_self, List.all_cons, List.all_nil, AV.eqv, AC.eqv, eqvl, eqvt, Sl.eqv, List.map_append, List.length_map, List.length_append, List.length_replicate, List.length_set, List.map_replicate, nilVC, sd_22, el_22, sz_3, c_spec_l1Below]
  apply Exists.intro (Prod.mk _ (Prod.mk _ _))
  refine ⟨[], [], ?c1, ⟨rfl, List.nodup_nil, trivial, ?k1, ?o1⟩, ⟨?e1, trivial⟩, ?u1⟩
  case e1 => exact ⟨rfl, rfl⟩
  case o1 =>
    simp only [WL, WNL, swA_new, swA_ne, nest_sw_ne, mapLL, List.mem_cons, Nat.reduceAdd, Nat.reduceLT, Nat.reduceLeDiff, Nat.reduceEqDiff, okU, List.nodup_cons, List.not_mem_nil, toT, toL, toO, keysO, renl, rent, cll, clt, eq_self, AV.eqv, AC.eqv, eqvl, eqvt, Sl.eqv, rowsLe, mapLL, rowsCl, List.map_append, List.length_map, List.length_append, List.length_set, List.map_replicate, rowG, List.getElem?_cons_zero, List.getElem?_cons_succ, List.getElem?_nil, List.append_nil, List.nil_append, List.cons_append, ghosts, St.gh, Option.some.injEq, implies_true, setT, AV.ren, AC.ren, AV.cl, AC.cl, List.replicate_succ, List.replicate_zero, List.nodup_nil, List.length_nil, List.length_cons, List.getD_cons_zero, List.getD_cons_succ, ↓reduceIte, hr]
    exact ⟨rfl, rfl⟩
  case k1 => simp [WL, WNL, swA_new, swA_ne, nest_sw_ne, mapLL, List.mem_cons, Nat.reduceAdd, Nat.reduceLT, Nat.reduceLeDiff, Nat.reduceEqDiff, okU, List.nodup_cons, List.not_mem_nil, toT, toL, toO, keysO, renl, rent, cll, clt, eq_self, AV.eqv, AC.eqv, eqvl, eqvt, Sl.eqv, rowsLe, mapLL, rowsCl, List.map_append, List.length_map, List.length_append, List.length_set, List.map_replicate, rowG, List.getElem?_cons_zero, List.getElem?_cons_succ, List.getElem?_nil, List.append_nil, List.nil_append, List.cons_append, ghosts, St.gh, Option.some.injEq, implies_true, setT, AV.ren, AC.ren, AV.cl, AC.cl, List.replicate_succ, List.replicate_zero, List.nodup_nil, List.length_nil, List.length_cons, List.getD_cons_zero, List.getD_cons_succ, ↓reduceIte]
  case u1 => simp [okU, hr]
  case c1 => exact ⟨getD_mem (i := x1.toNat) (by omega), f1⟩
def c_spec_l35Refs : Contract := ⟨39, fun args M => match args with
  | [.c (.ptr a)] => curK a (M a.r) fun r t b n c p _ => .eff (CurOk b n p (M b.r)) (List Int × Nat × Int × Int) (fun q => (q.1.length ≤ 41 ∧ q.1.length ≤ q.2.1) ∧ 0 ≤ q.2.2.1 ∧ q.2.2.1 ≤ n) (fun q => .c (.sl ⟨.loc 0, 0, 0, 0⟩ q.1.length q.2.1)) (fun q => [rowG true 3 q.2.1 q.1]) (fun q => [(r, .box t [.sl b.up n c, .int .i64 q.2.2.1, .int .i64 q.2.2.2])])
  | _ => .bad⟩
theorem ok_spec_l35Refs : fnP Try.prog c_spec_l35Refs.f = true ∧ ∀ args M, (c_spec_l35Refs.sp args M).OK Try.prog c_spec_l35Refs.f args M := by
  refine ⟨fp_39, fun args M => ?_⟩
  unfold c_spec_l35Refs
  dsimp only
  split
  case h_2 => trivial
  rename_i a
  refine curK_cases ?_
  rintro r t b n c p h rfl hr
  rintro ⟨hb, hp0, hpn⟩
  dsimp only at hr
  have hal := cur_alias hb hr
  refine goIn hf_39 rfl (nt := 26) rfl (rs := [.tmp 2]) rfl (C := [c_spec_l1Below, c_spec_l1Once, c_spec_l1PickInt]) ⟨(by first | exact .inl ok_spec_l1Below | exact ok_spec_l1Below), (by first | exact .inl ok_spec_l1Once | exact ok_spec_l1Once), (by first | exact .inl ok_spec_l1PickInt | exact ok_spec_l1PickInt), trivial⟩ (q := fun _ => false) okQ_none mixed (O := fun _ => .nil) (by kernel_rfl) ?_
  simp only [↓WP, ↓grdD, ↓grdT, ↓un_dead, ↓binVC, ↓buildVC, ↓sliceVC, WQ, WN, Int.reduceToNat, renl, cll, rent, clt, ↓reduceIte, Nat.reduceLeDiff, Nat.reduceEqDiff, Nat.reduceLT, reduceCtorEq, List.append_nil, Nat.reduceAdd, Nat.reduceSub, Nat.reduceBEq, forall_const, implies_true, cond_true, cond_false, AV.ren, AC.ren, AV.cl, AC.cl, eq_self, List.all_cons, List.all_nil, AV.eqv, AC.eqv, eqvl, eqvt, Sl.eqv, List.map_append, List.length_map, List.length_append, List.length_replicate, List.length_set, List.map_replicate, nilVC, el_22, zr_3, c_spec_l1Below, c_spec_l1Once, c_spec_l1PickInt, hr, hb, hal]
  refine ⟨by omega, ⟨hp0, hpn⟩, ?_⟩
  rintro ⟨x, p1, z1⟩ ⟨⟨hx1, hx2⟩, f1, f2⟩
  dsimp only at hx1 hx2 f1 f2
  refine loopI (J := {q : Int × List Int × Nat × Int × Int // (0 ≤ q.1 ∧ q.2.1.length + q.1 ≤ 40) ∧ q.2.1.length ≤ q.2.2.1 ∧ 0 ≤ q.2.2.2.1 ∧ q.2.2.2.1 ≤ n}) (fun q => ⟨slots 26 [(0, .c (.ptr ⟨r.out, 0, 0, 0⟩)), (3, .c (.sl ⟨.loc 0, 0, 0, 0⟩ q.1.2.1.length q.1.2.2.1)), (4, I q.1.1)], M, [(r, .box t [.sl b.up n c, .int .i64 q.1.2.2.2.1, .int .i64 q.1.2.2.2.2])], [rowG true 3 q.1.2.2.1 q.1.2.1]⟩) (fun q => q.1.1.toNat) ⟨(x, [], 0, p1, z1), by simp; omega, by simp, f1, f2⟩ (Le.trans (Le_gh _ [(3, 1)]) (Le_intro [0] (by simp only [WL, WNL, swA_new, swA_ne, nest_sw_ne, mapLL, List.mem_cons, Nat.reduceAdd, Nat.reduceLT, Nat.reduceLeDiff, Nat.reduceEqDiff, okU, List.nodup_cons, List.not_mem_nil, toT, toL, toO, keysO, renl, rent, cll, clt, eq_self, AV.eqv, AC.eqv, eqvl, eqvt, Sl.eqv, rowsLe, mapLL, rowsCl, List.map_append, List.length_map, List.length_append, List.length_set, List.map_replicate, rowG, List.getElem?_cons_zero, List.getElem?_cons_succ, List.getElem?_nil, List.append_nil, List.nil_append, List.cons_append, ghosts, St.gh, Option.some.injEq, implies_true, setT, AV.ren, AC.ren, AV.cl, AC.cl, List.replicate_succ, List.replicate_zero, List.nodup_nil, List.length_nil, List.length_cons, List.getD_cons_zero, List.getD_cons_succ, ↓reduceIte]; try simp))) ?_
  rintro ⟨⟨x, X, cap, p2, z2⟩, ⟨g0, g1⟩, g2, hq0, hqn⟩
  dsimp only at g0 g1 g2 hq0 hqn
  rcases Int.lt_or_le 0 x with hlt | hge
  · have hl : decide (x > 0) = true := decide_eq_true hlt
    have hwx : IntKind.i64.wrap (x - 1) = x - 1 := w64 (by omega) (by omega)
    simp only [↓WP, ↓grdD, ↓grdT, ↓un_dead, ↓binVC, ↓buildVC, ↓sliceVC, WQ, WN, Int.reduceToNat, renl, cll, rent, clt, ↓reduceIte, Nat.reduceLeDiff, Nat.reduceEqDiff, Nat.reduceLT, reduceCtorEq, List.append_nil, Nat.reduceAdd, Nat.reduceSub, Nat.reduceBEq, forall_const, implies_true, cond_true, cond_false, AV.ren, AC.ren, AV.cl, AC.cl, eq_self, List.all_cons, List.all_nil, AV.eqv, AC.eqv, eqvl, eqvt, Sl.eqv, List.map_append, List.length_map, List.length_append, List.length_replicate, List.length_set, List.map_replicate, nilVC, el_22, zr_3, c_spec_l1Below, c_spec_l1Once, c_spec_l1PickInt, hl, hr, hb, hal, hwx]
    repeat' (first | with_reducible refine And.intro ?_ ?_ | intro _)
    all_goals try omega
    all_goals try exact .inr trivial
    all_goals try exact .inl trivial
    all_goals first
      | (rename_i d hd b0 kk b1 b2; refine ⟨⟨(x - 1, X ++ [d.1], kk, d.2.1, d.2.2), ⟨by show 0 ≤ x - 1; omega, by show ((X ++ [d.1]).length : Int) + (x - 1) ≤ 40; simp; omega⟩, by show (X ++ [d.1]).length ≤ kk; simp; omega, hd.2.1, hd.2.2⟩, Le_intro [2] ?_, by show (x - 1).toNat < x.toNat; omega⟩; simp only [WL, WNL, swA_new, swA_ne, nest_sw_ne, mapLL, List.mem_cons, Nat.reduceAdd, Nat.reduceLT, Nat.reduceLeDiff, Nat.reduceEqDiff, okU, List.nodup_cons, List.not_mem_nil, toT, toL, toO, keysO, renl, rent, cll, clt, eq_self, AV.eqv, AC.eqv, eqvl, eqvt, Sl.eqv, rowsLe, mapLL, rowsCl, List.map_append, List.length_map, List.length_append, List.length_set, List.map_replicate, rowG, List.getElem?_cons_zero, List.getElem?_cons_succ, List.getElem?_nil, List.append_nil, List.nil_append, List.cons_append, ghosts, St.gh, Option.some.injEq, implies_true, setT, AV.ren, AC.ren, AV.cl, AC.cl, List.replicate_succ, List.replicate_zero, List.nodup_nil, List.length_nil, List.length_cons, List.getD_cons_zero, List.getD_cons_succ, ↓reduceIte, List.length_append, List.length_cons, List.length_nil, List.map_append, List.map_cons, List.map_nil]; (try simp); done)
      | (rename_i d hd b1; refine ⟨⟨(x - 1, X ++ [d.1], cap, d.2.1, d.2.2), ⟨by show 0 ≤ x - 1; omega, by show ((X ++ [d.1]).length : Int) + (x - 1) ≤ 40; simp; omega⟩, by show (X ++ [d.1]).length ≤ cap; simp; omega, hd.2.1, hd.2.2⟩, Le_intro [0] ?_, by show (x - 1).toNat < x.toNat; omega⟩; simp only [WL, WNL, swA_new, swA_ne, nest_sw_ne, mapLL, List.mem_cons, Nat.reduceAdd, Nat.reduceLT, Nat.reduceLeDiff, Nat.reduceEqDiff, okU, List.nodup_cons, List.not_mem_nil, toT, toL, toO, keysO, renl, rent, cll, clt, eq_self, AV.eqv, AC.eqv, eqvl, eqvt, Sl.eqv, rowsLe, mapLL, rowsCl, List.map_append, List.length_map, List.length_append, List.length_set, List.map_replicate, rowG, List.getElem?_cons_zero, List.getElem?_cons_succ, List.getElem?_nil, List.append_nil, List.nil_append, List.cons_append, ghosts, St.gh, Option.some.injEq, implies_true, setT, AV.ren, AC.ren, AV.cl, AC.cl, List.replicate_succ, List.replicate_zero, List.nodup_nil, List.length_nil, List.length_cons, List.getD_cons_zero, List.getD_cons_succ, ↓reduceIte, List.length_append, List.length_cons, List.length_nil, List.map_append, List.map_cons, List.map_nil]; (try simp); done)
  · have hl : decide (x > 0) = false := decide_eq_false (by omega)
    simp only [↓WP, ↓grdD, ↓grdT, ↓un_dead, ↓binVC, ↓buildVC, ↓sliceVC, WQ, WN, Int.reduceToNat, renl, cll, rent, clt, ↓reduceIte, Nat.reduceLeDiff, Nat.reduceEqDiff, Nat.reduceLT, reduceCtorEq, List.append_nil, Nat.reduceAdd, Nat.reduceSub, Nat.reduceBEq, forall_const, implies_true, cond_true, cond_false, AV.ren, AC.ren, AV.cl, AC.cl, eq_self, List.all_cons, List.all_nil, AV.eqv, AC.eqv, eqvl, eqvt, Sl.eqv, List.map_append, List.length_map, List.length_append, List.length_replicate, List.length_set, List.map_replicate, nilVC, el_22, zr_3, c_spec_l1Below, c_spec_l1Once, c_spec_l1PickInt, hl, hr, hb, hal]
    repeat' (first | with_reducible refine And.intro ?_ ?_ | intro _)
    all_goals try omega
    all_goals try exact .inr trivial
    all_goals try exact .inl trivial
    all_goals try (refine .inr ?_; intro cs hcs; simp only [List.mem_cons, List.not_mem_nil, or_false] at hcs; rcases hcs with rfl | rfl | rfl <;> rfl)
    all_goals first
      | (rename_i pb hpb e0 d hd b0 kk b1 b2; refine end_ret ?_; simp only [↓WP, ↓grdD, ↓grdT, ↓un_dead, ↓binVC, ↓buildVC, ↓sliceVC, WQ, WN, Int.reduceToNat, renl, cll, rent, clt, ↓reduceIte, Nat.reduceLeDiff, Nat.reduceEqDiff, Nat.reduceLT, reduceCtorEq, List.append_nil, Nat.reduceAdd, Nat.reduceSub, Nat.reduceBEq, forall_const, implies_true, cond_true, cond_false, AV.ren, AC.ren, AV.cl, AC.cl, eq_self, List.all_cons, List.all_nil, AV.eqv, AC.eqv, eqvl, eqvt, Sl.eqv, List.map_append, List.length_map, List.length_append, List.length_replicate, List.length_set, List.map_replicate, nilVC, el_22, zr_3, c_spec_l1Below, c_spec_l1Once, c_spec_l1PickInt]; refine ⟨(X ++ [d.1], kk, d.2.1, d.2.2), [], [3], ?_⟩; simp only [WL, WNL, swA_new, swA_ne, nest_sw_ne, mapLL, List.mem_cons, Nat.reduceAdd, Nat.reduceLT, Nat.reduceLeDiff, Nat.reduceEqDiff, okU, List.nodup_cons, List.not_mem_nil, toT, toL, toO, keysO, renl, rent, cll, clt, eq_self, AV.eqv, AC.eqv, eqvl, eqvt, Sl.eqv, rowsLe, mapLL, rowsCl, List.map_append, List.length_map, List.length_append, List.length_set, List.map_replicate, rowG, List.getElem?_cons_zero, List.getElem?_cons_succ, List.getElem?_nil, List.append_nil, List.nil_append, List.cons_append, ghosts, St.gh, Option.some.injEq, implies_true, setT, AV.ren, AC.ren, AV.cl, AC.cl, List.replicate_succ, List.replicate_zero, List.nodup_nil, List.length_nil, List.length_cons, List.getD_cons_zero, List.getD_cons_succ, ↓reduceIte, retP, hr, List.length_append, List.length_cons, List.length_nil, List.map_append, List.map_cons, List.map_nil]; simp [okU, hr]; omega)
      | (rename_i pb hpb e0 d hd b1; refine end_ret ?_; simp only [↓WP, ↓grdD, ↓grdT, ↓un_dead, ↓binVC, ↓buildVC, ↓sliceVC, WQ, WN, Int.reduceToNat, renl, cll, rent, clt, ↓reduceIte, Nat.reduceLeDiff, Nat.reduceEqDiff, Nat.reduceLT, reduceCtorEq, List.append_nil, Nat.reduceAdd, Nat.reduceSub, Nat.reduceBEq, forall_const, implies_true, cond_true, cond_false, AV.ren, AC.ren, AV.cl, AC.cl, eq_self, List.all_cons, List.all_nil, AV.eqv, AC.eqv, eqvl, eqvt, Sl.eqv, List.map_append, List.length_map, List.length_append, List.length_replicate, List.length_set, List.map_replicate, nilVC, el_22, zr_3, c_spec_l1Below, c_spec_l1Once, c_spec_l1PickInt]; refine ⟨(X ++ [d.1], cap, d.2.1, d.2.2), [], [0], ?_⟩; simp only [WL, WNL, swA_new, swA_ne, nest_sw_ne, mapLL, List.mem_cons, Nat.reduceAdd, Nat.reduceLT, Nat.reduceLeDiff, Nat.reduceEqDiff, okU, List.nodup_cons, List.not_mem_nil, toT, toL, toO, keysO, renl, rent, cll, clt, eq_self, AV.eqv, AC.eqv, eqvl, eqvt, Sl.eqv, rowsLe, mapLL, rowsCl, List.map_append, List.length_map, List.length_append, List.length_set, List.map_replicate, rowG, List.getElem?_cons_zero, List.getElem?_cons_succ, List.getElem?_nil, List.append_nil, List.nil_append, List.cons_append, ghosts, St.gh, Option.some.injEq, implies_true, setT, AV.ren, AC.ren, AV.cl, AC.cl, List.replicate_succ, List.replicate_zero, List.nodup_nil, List.length_nil, List.length_cons, List.getD_cons_zero, List.getD_cons_succ, ↓reduceIte, retP, hr, List.length_append, List.length_cons, List.length_nil, List.map_append, List.map_cons, List.map_nil]; simp [okU, hr]; omega)
      | (rename_i pb hpb e0; refine end_ret ?_; simp only [↓WP, ↓grdD, ↓grdT, ↓un_dead, ↓binVC, ↓buildVC, ↓sliceVC, WQ, WN, Int.reduceToNat, renl, cll, rent, clt, ↓reduceIte, Nat.reduceLeDiff, Nat.reduceEqDiff, Nat.reduceLT, reduceCtorEq, List.append_nil, Nat.reduceAdd, Nat.reduceSub, Nat.reduceBEq, forall_const, implies_true, cond_true, cond_false, AV.ren, AC.ren, AV.cl, AC.cl, eq_self, List.all_cons, List.all_nil, AV.eqv, AC.eqv, eqvl, eqvt, Sl.eqv, List.map_append, List.length_map, List.length_append, List.length_replicate, List.length_set, List.map_replicate, nilVC, el_22, zr_3, c_spec_l1Below, c_spec_l1Once, c_spec_l1PickInt]; refine ⟨(X, cap, pb.2.1, pb.2.2), [], [0], ?_⟩; simp only [WL, WNL, swA_new, swA_ne, nest_sw_ne, mapLL, List.mem_cons, Nat.reduceAdd, Nat.reduceLT, Nat.reduceLeDiff, Nat.reduceEqDiff, okU, List.nodup_cons, List.not_mem_nil, toT, toL, toO, keysO, renl, rent, cll, clt, eq_self, AV.eqv, AC.eqv, eqvl, eqvt, Sl.eqv, rowsLe, mapLL, rowsCl, List.map_append, List.length_map, List.length_append, List.length_set, List.map_replicate, rowG, List.getElem?_cons_zero, List.getElem?_cons_succ, List.getElem?_nil, List.append_nil, List.nil_append, List.cons_append, ghosts, St.gh, Option.some.injEq, implies_true, setT, AV.ren, AC.ren, AV.cl, AC.cl, List.replicate_succ, List.replicate_zero, List.nodup_nil, List.length_nil, List.length_cons, List.getD_cons_zero, List.getD_cons_succ, ↓reduceIte, retP, hr, List.length_append, List.length_cons, List.length_nil, List.map_append, List.map_cons, List.map_nil]; simp [okU, hr]; omega)
      | trace_state
end Go.Eng.T
