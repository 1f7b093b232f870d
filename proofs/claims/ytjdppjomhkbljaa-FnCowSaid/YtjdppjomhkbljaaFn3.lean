/- cow: a Cow copied, measured, compared, marked. -/
import Derived.Test.YtjdppjomhkbljaaFn2
set_option linter.unusedVariables false
set_option linter.unusedSimpArgs false
set_option linter.unusedSectionVars false
namespace Go.Eng
open Cel (enc dec)
/-- rows that may be none -/
def nestZ (a : AA) (n : Nat) (M : RId → Option Rg) (K : List RId → (Int → List (RId × Rg)) → Nat → Spec) : Spec :=
  if n = 0 then K [] (fun _ => []) 0 else nestK Int a n M fun q t F => K [q] (fun k => [(q, .rows true t 1 (mems (markF k F)))]) (tot (F.map (·.2)))
theorem nestZ_pos {a : AA} {n : Nat} {M : RId → Option Rg} {K : List RId → (Int → List (RId × Rg)) → Nat → Spec} (h : (n = 0) = False) :
    nestZ a n M K = nestK Int a n M fun q t F => K [q] (fun k => [(q, .rows true t 1 (mems (markF k F)))]) (tot (F.map (·.2))) := if_neg (by rw [h]; exact not_false)
theorem nestZ_zero {a : AA} {n : Nat} {M : RId → Option Rg} {K : List RId → (Int → List (RId × Rg)) → Nat → Spec} (h : (n = 0) = True) :
    nestZ a n M K = K [] (fun _ => []) 0 := if_pos (by rw [h]; trivial)
theorem nestK_def {a : AA} {n : Nat} {M : RId → Option Rg} {K : RId → TypeId → List (Nat × List Int) → Spec} : nestK Int a n M K = (K (famR a (M a.r)) (famT (M (famR a (M a.r)))) (famF Int (M (famR a (M a.r))))).and
    (nestAt (M a.r) (famR a (M a.r)) (famF Int (M (famR a (M a.r)))) ∧ M (famR a (M a.r)) = some (.rows true (famT (M (famR a (M a.r)))) (Cel.sz Int) (mems (famF Int (M (famR a (M a.r)))))) ∧ (famF Int (M (famR a (M a.r)))).length = n ∧ famOk (famF Int (M (famR a (M a.r)))) ∧ a.i = 0 ∧ a.k = 0 ∧ a.f = 0) := Eq.trans rfl rfl
def szC (L1 : List Nat) (n1 n2 : Nat) (L3 : List Nat) (n3 : Nat) (l : Int) : Int :=
  if szN L1 n1 l < 0 then -1 else if szN L1 n1 l < n2 then -1 else if szN L3 n3 (szN L1 n1 l - n2) < 0 then -1 else szN L3 n3 (szN L1 n1 l - n2)
theorem szC_ok {L1 : List Nat} {n1 n2 : Nat} {L3 : List Nat} {n3 : Nat} {l : Int} (h0 : 0 ≤ l) (h : ¬ szC L1 n1 n2 L3 n3 l < 0) : (n1 : Int) ≤ l ∧ (∀ x ∈ L1, (x : Int) ≤ l) ∧ (n2 : Int) ≤ l ∧ (n3 : Int) ≤ l ∧ ∀ x ∈ L3, (x : Int) ≤ l := by
  unfold szC at h
  obtain ⟨a1, a2, a3⟩ := szN_range (X := L1) (n := n1) h0
  split at h
  · omega
  · rename_i h1
    split at h
    · omega
    · rename_i h2
      obtain ⟨b1, b2, b3⟩ := szN_range (X := L3) (n := n3) (l := szN L1 n1 l - n2) (by omega)
      split at h
      · omega
      · rename_i h3
        obtain ⟨c1, c2⟩ := a3 (by omega)
        obtain ⟨d1, d2⟩ := b3 (by omega)
        exact ⟨c1, c2, by omega, by omega, fun x hx => by have := d2 x hx; omega⟩
end Go.Eng
namespace Go.Eng.T
open Go.Proofs
open Cel (enc dec)
set_option maxRecDepth 100000
set_option maxHeartbeats 4000000
def c_laws_toCow : Contract := ⟨20, fun args M => match args with
  | [.agg [.sl a1 n1 _, .sl a2 n2 _, .sl a3 n3 _]] => .eff (Row2Ok Int a1 n1 M ∧ RowOk Int a2 n2 (M a2.r) ∧ Row2Ok Int a3 n3 M) Unit (fun _ => True) (fun _ => .agg [.sl ⟨.loc 0, 0, 0, 0⟩ n1 n1, .sl ⟨.loc 2, 0, 0, 0⟩ n2 n2, .sl ⟨.loc 3, 0, 0, 0⟩ n3 n3]) (fun _ => [.rows true 23 1 [(n1, nestC (.loc 1) (own1 (row2 Int a1 n1 M)))], .rows true 3 1 (mems (own1 (row2 Int a1 n1 M))), rowG true 3 n2 (row Int a2 n2 (M a2.r)), .rows true 23 1 [(n3, nestC (.loc 4) (own1 (row2 Int a3 n3 M)))], .rows true 3 1 (mems (own1 (row2 Int a3 n3 M)))]) (fun _ => [])
  | _ => .bad⟩
theorem ok_laws_toCow : fnP Try.prog c_laws_toCow.f = true ∧ ∀ args M, (c_laws_toCow.sp args M).OK Try.prog c_laws_toCow.f args M := by
  refine ⟨fp_20, fun args M => ?_⟩
  unfold c_laws_toCow
  dsimp only
  split
  case h_2 => trivial
  rename_i a1 n1 c1 a2 n2 c2 a3 n3 c3
  rintro ⟨h1, h2, h3⟩
  refine goIn hf_20 rfl (nt := 17) rfl (rs := [.cell 2 25]) rfl (C := [c_laws_toIntSS, c_laws_toIntS]) ⟨(by first | exact .inl ok_laws_toIntSS | exact ok_laws_toIntSS), (by first | exact .inl ok_laws_toIntS | exact ok_laws_toIntS), trivial⟩ (q := fun _ => false) okQ_none mixed (O := fun _ => .nil) (by kernel_rfl) ?_
  simp only [↓WP, ↓grdD, ↓grdT, ↓un_dead, ↓binVC, ↓buildVC, ↓sliceVC, WQ, WN, Int.reduceToNat, renl, cll, rent, clt, ↓reduceIte, Nat.reduceLeDiff, Nat.reduceEqDiff, Nat.reduceLT, reduceCtorEq, List.append_nil, Nat.reduceAdd, Nat.reduceSub, Nat.reduceBEq, forall_const, implies_true, cond_true, cond_false, AV.ren, AC.ren, AV.cl, AC.cl, eq_self, List.all_cons, List.all_nil, AV.eqv, AC.eqv, eqvl, eqvt, Sl.eqv, List.map_append, List.length_map, List.length_append, List.length_replicate, List.length_set, List.map_replicate, nilVC, zr_25, fl_30_0, sz_22, fl_25_0, fl_30_1, sz_23, fl_25_1, fl_30_2, fl_25_2, sz_25, c_laws_toIntSS, c_laws_toIntS, Row2Ok_upE h1, row2_upE h1, Row2Ok_upE h3, row2_upE h3]
  refine ⟨h2, end_ret ?_⟩
  simp only [↓WP, ↓grdD, ↓grdT, ↓un_dead, ↓binVC, ↓buildVC, ↓sliceVC, WQ, WN, Int.reduceToNat, renl, cll, rent, clt, ↓reduceIte, Nat.reduceLeDiff, Nat.reduceEqDiff, Nat.reduceLT, reduceCtorEq, List.append_nil, Nat.reduceAdd, Nat.reduceSub, Nat.reduceBEq, forall_const, implies_true, cond_true, cond_false, AV.ren, AC.ren, AV.cl, AC.cl, eq_self, List.all_cons, List.all_nil, AV.eqv, AC.eqv, eqvl, eqvt, Sl.eqv, List.map_append, List.length_map, List.length_append, List.length_replicate, List.length_set, List.map_replicate, nilVC, zr_25, fl_30_0, sz_22, fl_25_0, fl_30_1, sz_23, fl_25_1, fl_30_2, fl_25_2, sz_25, c_laws_toIntSS, c_laws_toIntS]
  refine ⟨(), [], [3, 4, 5, 6, 7], ?_⟩
  simp only [WL, WNL, swA_new, swA_ne, nest_sw_ne, mapLL, List.mem_cons, Nat.reduceAdd, Nat.reduceLT, Nat.reduceLeDiff, Nat.reduceEqDiff, okU, List.nodup_cons, List.not_mem_nil, toT, toL, toO, keysO, renl, rent, cll, clt, eq_self, AV.eqv, AC.eqv, eqvl, eqvt, Sl.eqv, rowsLe, mapLL, rowsCl, List.map_append, List.length_map, List.length_append, List.length_set, List.map_replicate, rowG, List.getElem?_cons_zero, List.getElem?_cons_succ, List.getElem?_nil, List.append_nil, List.nil_append, List.cons_append, ghosts, St.gh, Option.some.injEq, implies_true, setT, AV.ren, AC.ren, AV.cl, AC.cl, List.replicate_succ, List.replicate_zero, List.nodup_nil, List.length_nil, List.length_cons, List.getD_cons_zero, List.getD_cons_succ, ↓reduceIte, retP]
  try simp
theorem q_laws_toCow : Quiet c_laws_toCow := by
  intro args M
  unfold c_laws_toCow
  dsimp only
  split <;> first | trivial | (intro _; rfl)
def c_laws_szCow : Contract := ⟨18, fun args M => match args with
  | [.agg [.sl a1 n1 _, .sl a2 n2 _, .sl a3 n3 _], .c (.int .i64 left)] => .pure (0 ≤ left ∧ left ≤ 1048576 ∧ (n1 ≤ 9223372036854775807 ∧ n2 ≤ 9223372036854775807 ∧ n3 ≤ 9223372036854775807) ∧ (n1 ≤ 1048576 → Row2W a1 n1 (M a1.r)) ∧ (n3 ≤ 1048576 → Row2W a3 n3 (M a3.r))) (I (szC (lens2 a1 n1 (M a1.r)) n1 n2 (lens2 a3 n3 (M a3.r)) n3 left))
  | _ => .bad⟩
theorem ok_laws_szCow : fnP Try.prog c_laws_szCow.f = true ∧ ∀ args M, (c_laws_szCow.sp args M).OK Try.prog c_laws_szCow.f args M := by
  refine ⟨fp_18, fun args M => ?_⟩
  unfold c_laws_szCow
  dsimp only
  split
  case h_2 => trivial
  rename_i a1 n1 c1 a2 n2 c2 a3 n3 c3 left
  rintro ⟨h0, h1, ⟨g1, g2, g3⟩, h2, h3⟩
  obtain ⟨L1, hL1⟩ : ∃ L, lens2 a1 n1 (M a1.r) = L := ⟨_, rfl⟩
  obtain ⟨L3, hL3⟩ : ∃ L, lens2 a3 n3 (M a3.r) = L := ⟨_, rfl⟩
  rw [hL1, hL3]
  refine goIn hf_18 rfl (nt := 24) rfl (rs := [.tmp 4]) rfl (C := [c_laws_szIntSS, c_laws_szIntS]) ⟨(by first | exact .inl ok_laws_szIntSS | exact ok_laws_szIntSS), (by first | exact .inl ok_laws_szIntS | exact ok_laws_szIntS), trivial⟩ (q := fun _ => false) okQ_none mixed (O := fun _ => .nil) (by kernel_rfl) ?_
  obtain ⟨r1, r2, _⟩ := szN_range (X := L1) (n := n1) h0
  by_cases b1 : szN L1 n1 left < 0
  · have hv : szC L1 n1 n2 L3 n3 left = -1 := if_pos b1
    rw [hv]
    simp only [↓WP, ↓grdD, ↓grdT, ↓un_dead, ↓binVC, ↓buildVC, ↓sliceVC, WQ, WN, Int.reduceToNat, renl, cll, rent, clt, ↓reduceIte, Nat.reduceLeDiff, Nat.reduceEqDiff, Nat.reduceLT, reduceCtorEq, List.append_nil, Nat.reduceAdd, Nat.reduceSub, Nat.reduceBEq, forall_const, implies_true, cond_true, cond_false, AV.ren, AC.ren, AV.cl, AC.cl, eq_self, List.all_cons, List.all_nil, AV.eqv, AC.eqv, eqvl, eqvt, Sl.eqv, List.map_append, List.length_map, List.length_append, List.length_replicate, List.length_set, List.map_replicate, nilVC, fl_30_0, sz_22, fl_30_1, sz_23, fl_30_2, c_laws_szIntSS, c_laws_szIntS, hL1, hL3, decide_eq_true b1]
    repeat' (first | with_reducible refine And.intro ?_ ?_)
    all_goals first | assumption | omega | rfl | (simp; done)
  · by_cases b2 : szN L1 n1 left < n2
    · have hv : szC L1 n1 n2 L3 n3 left = -1 := by rw [szC, if_neg b1, if_pos b2]
      have hb2 : (szN L1 n1 left < (n2 : Int)) = True := eq_true b2
      rw [hv]
      simp only [↓WP, ↓grdD, ↓grdT, ↓un_dead, ↓binVC, ↓buildVC, ↓sliceVC, WQ, WN, Int.reduceToNat, renl, cll, rent, clt, ↓reduceIte, Nat.reduceLeDiff, Nat.reduceEqDiff, Nat.reduceLT, reduceCtorEq, List.append_nil, Nat.reduceAdd, Nat.reduceSub, Nat.reduceBEq, forall_const, implies_true, cond_true, cond_false, AV.ren, AC.ren, AV.cl, AC.cl, eq_self, List.all_cons, List.all_nil, AV.eqv, AC.eqv, eqvl, eqvt, Sl.eqv, List.map_append, List.length_map, List.length_append, List.length_replicate, List.length_set, List.map_replicate, nilVC, fl_30_0, sz_22, fl_30_1, sz_23, fl_30_2, c_laws_szIntSS, c_laws_szIntS, hL1, hL3, decide_eq_false b1, hb2]
      repeat' (first | with_reducible refine And.intro ?_ ?_)
      all_goals first | assumption | omega | rfl | (simp; done)
    · obtain ⟨r3, r4, _⟩ := szN_range (X := L3) (n := n3) (l := szN L1 n1 left - n2) (by omega)
      have hb2 : (szN L1 n1 left < (n2 : Int)) = False := eq_false b2
      have hd : decide (szN L1 n1 left - (n2 : Int) < 0) = false := by simp only [decide_eq_false_iff_not]; omega
      by_cases b3 : szN L3 n3 (szN L1 n1 left - n2) < 0
      · have hv : szC L1 n1 n2 L3 n3 left = -1 := by rw [szC, if_neg b1, if_neg b2, if_pos b3]
        rw [hv]
        simp only [↓WP, ↓grdD, ↓grdT, ↓un_dead, ↓binVC, ↓buildVC, ↓sliceVC, WQ, WN, Int.reduceToNat, renl, cll, rent, clt, ↓reduceIte, Nat.reduceLeDiff, Nat.reduceEqDiff, Nat.reduceLT, reduceCtorEq, List.append_nil, Nat.reduceAdd, Nat.reduceSub, Nat.reduceBEq, forall_const, implies_true, cond_true, cond_false, AV.ren, AC.ren, AV.cl, AC.cl, eq_self, List.all_cons, List.all_nil, AV.eqv, AC.eqv, eqvl, eqvt, Sl.eqv, List.map_append, List.length_map, List.length_append, List.length_replicate, List.length_set, List.map_replicate, nilVC, fl_30_0, sz_22, fl_30_1, sz_23, fl_30_2, c_laws_szIntSS, c_laws_szIntS, hL1, hL3, decide_eq_false b1, hb2, hd, decide_eq_true b3]
        repeat' (first | with_reducible refine And.intro ?_ ?_)
        all_goals first | assumption | omega | rfl | (simp; done)
      · have hv : szC L1 n1 n2 L3 n3 left = szN L3 n3 (szN L1 n1 left - n2) := by rw [szC, if_neg b1, if_neg b2, if_neg b3]
        rw [hv]
        simp only [↓WP, ↓grdD, ↓grdT, ↓un_dead, ↓binVC, ↓buildVC, ↓sliceVC, WQ, WN, Int.reduceToNat, renl, cll, rent, clt, ↓reduceIte, Nat.reduceLeDiff, Nat.reduceEqDiff, Nat.reduceLT, reduceCtorEq, List.append_nil, Nat.reduceAdd, Nat.reduceSub, Nat.reduceBEq, forall_const, implies_true, cond_true, cond_false, AV.ren, AC.ren, AV.cl, AC.cl, eq_self, List.all_cons, List.all_nil, AV.eqv, AC.eqv, eqvl, eqvt, Sl.eqv, List.map_append, List.length_map, List.length_append, List.length_replicate, List.length_set, List.map_replicate, nilVC, fl_30_0, sz_22, fl_30_1, sz_23, fl_30_2, c_laws_szIntSS, c_laws_szIntS, hL1, hL3, decide_eq_false b1, hb2, hd, decide_eq_false b3]
        repeat' (first | with_reducible refine And.intro ?_ ?_)
        all_goals first | assumption | omega | rfl | (simp; done)
theorem q_laws_szCow : Quiet c_laws_szCow := by
  intro args M
  unfold c_laws_szCow
  dsimp only
  split <;> first | trivial | (intro _; rfl)
def c_laws_eqCow : Contract := ⟨15, fun args M => match args with
  | [.agg [.sl a1 n1 _, .sl a2 n2 _, .sl a3 n3 _], .agg [.sl b1 m1 _, .sl b2 m2 _, .sl b3 m3 _]] => .pure ((Row2Ok Int a1 n1 M ∧ RowOk Int a2 n2 (M a2.r) ∧ Row2Ok Int a3 n3 M) ∧ (Row2Ok Int b1 m1 M ∧ RowOk Int b2 m2 (M b2.r) ∧ Row2Ok Int b3 m3 M)) (Eng.B (decide (row2 Int a1 n1 M = row2 Int b1 m1 M ∧ row Int a2 n2 (M a2.r) = row Int b2 m2 (M b2.r) ∧ row2 Int a3 n3 M = row2 Int b3 m3 M)))
  | _ => .bad⟩
theorem ok_laws_eqCow : fnP Try.prog c_laws_eqCow.f = true ∧ ∀ args M, (c_laws_eqCow.sp args M).OK Try.prog c_laws_eqCow.f args M := by
  refine ⟨fp_15, fun args M => ?_⟩
  unfold c_laws_eqCow
  dsimp only
  split
  case h_2 => trivial
  rename_i a1 n1 c1 a2 n2 c2 a3 n3 c3 b1 m1 d1 b2 m2 d2 b3 m3 d3
  rintro ⟨⟨h1, h2, h3⟩, g1, g2, g3⟩
  refine goIn hf_15 rfl (nt := 23) rfl (rs := [.tmp 4]) rfl (C := [c_laws_eqIntSS, c_laws_eqIntS]) ⟨(by first | exact .inl ok_laws_eqIntSS | exact ok_laws_eqIntSS), (by first | exact .inl ok_laws_eqIntS | exact ok_laws_eqIntS), trivial⟩ (q := fun _ => false) okQ_none mixed (O := fun _ => .nil) (by kernel_rfl) ?_
  by_cases e1 : row2 Int a1 n1 M = row2 Int b1 m1 M
  · by_cases e2 : row Int a2 n2 (M a2.r) = row Int b2 m2 (M b2.r)
    · by_cases e3 : row2 Int a3 n3 M = row2 Int b3 m3 M
      · simp only [↓WP, ↓grdD, ↓grdT, ↓un_dead, ↓binVC, ↓buildVC, ↓sliceVC, WQ, WN, Int.reduceToNat, renl, cll, rent, clt, ↓reduceIte, Nat.reduceLeDiff, Nat.reduceEqDiff, Nat.reduceLT, reduceCtorEq, List.append_nil, Nat.reduceAdd, Nat.reduceSub, Nat.reduceBEq, forall_const, implies_true, cond_true, cond_false, AV.ren, AC.ren, AV.cl, AC.cl, eq_self, List.all_cons, List.all_nil, AV.eqv, AC.eqv, eqvl, eqvt, Sl.eqv, List.map_append, List.length_map, List.length_append, List.length_replicate, List.length_set, List.map_replicate, nilVC, fl_25_0, sz_22, fl_25_1, sz_23, fl_25_2, c_laws_eqIntSS, c_laws_eqIntS, Row2Ok_upE h1, row2_upE h1, Row2Ok_upE h3, row2_upE h3, Row2Ok_upE g1, row2_upE g1, Row2Ok_upE g3, row2_upE g3, e1, e2, e3]
        simp [h2, g2]
      · simp only [↓WP, ↓grdD, ↓grdT, ↓un_dead, ↓binVC, ↓buildVC, ↓sliceVC, WQ, WN, Int.reduceToNat, renl, cll, rent, clt, ↓reduceIte, Nat.reduceLeDiff, Nat.reduceEqDiff, Nat.reduceLT, reduceCtorEq, List.append_nil, Nat.reduceAdd, Nat.reduceSub, Nat.reduceBEq, forall_const, implies_true, cond_true, cond_false, AV.ren, AC.ren, AV.cl, AC.cl, eq_self, List.all_cons, List.all_nil, AV.eqv, AC.eqv, eqvl, eqvt, Sl.eqv, List.map_append, List.length_map, List.length_append, List.length_replicate, List.length_set, List.map_replicate, nilVC, fl_25_0, sz_22, fl_25_1, sz_23, fl_25_2, c_laws_eqIntSS, c_laws_eqIntS, Row2Ok_upE h1, row2_upE h1, Row2Ok_upE h3, row2_upE h3, Row2Ok_upE g1, row2_upE g1, Row2Ok_upE g3, row2_upE g3, e1, e2, e3, decide_false]
        simp [h2, g2]
    · simp only [↓WP, ↓grdD, ↓grdT, ↓un_dead, ↓binVC, ↓buildVC, ↓sliceVC, WQ, WN, Int.reduceToNat, renl, cll, rent, clt, ↓reduceIte, Nat.reduceLeDiff, Nat.reduceEqDiff, Nat.reduceLT, reduceCtorEq, List.append_nil, Nat.reduceAdd, Nat.reduceSub, Nat.reduceBEq, forall_const, implies_true, cond_true, cond_false, AV.ren, AC.ren, AV.cl, AC.cl, eq_self, List.all_cons, List.all_nil, AV.eqv, AC.eqv, eqvl, eqvt, Sl.eqv, List.map_append, List.length_map, List.length_append, List.length_replicate, List.length_set, List.map_replicate, nilVC, fl_25_0, sz_22, fl_25_1, sz_23, fl_25_2, c_laws_eqIntSS, c_laws_eqIntS, Row2Ok_upE h1, row2_upE h1, Row2Ok_upE h3, row2_upE h3, Row2Ok_upE g1, row2_upE g1, Row2Ok_upE g3, row2_upE g3, e1, e2, decide_false]
      simp [h2, g2]
  · simp only [↓WP, ↓grdD, ↓grdT, ↓un_dead, ↓binVC, ↓buildVC, ↓sliceVC, WQ, WN, Int.reduceToNat, renl, cll, rent, clt, ↓reduceIte, Nat.reduceLeDiff, Nat.reduceEqDiff, Nat.reduceLT, reduceCtorEq, List.append_nil, Nat.reduceAdd, Nat.reduceSub, Nat.reduceBEq, forall_const, implies_true, cond_true, cond_false, AV.ren, AC.ren, AV.cl, AC.cl, eq_self, List.all_cons, List.all_nil, AV.eqv, AC.eqv, eqvl, eqvt, Sl.eqv, List.map_append, List.length_map, List.length_append, List.length_replicate, List.length_set, List.map_replicate, nilVC, fl_25_0, sz_22, fl_25_1, sz_23, fl_25_2, c_laws_eqIntSS, c_laws_eqIntS, Row2Ok_upE h1, row2_upE h1, Row2Ok_upE h3, row2_upE h3, Row2Ok_upE g1, row2_upE g1, Row2Ok_upE g3, row2_upE g3, e1, decide_false]
    simp
theorem q_laws_eqCow : Quiet c_laws_eqCow := by
  intro args M
  unfold c_laws_eqCow
  dsimp only
  split <;> first | trivial | (intro _; rfl)
def c_laws_heldCow : Contract := ⟨17, fun args M => match args with
  | [.agg [.sl a1 n1 _, .sl a2 n2 _, .sl a3 n3 _], .c (.int .i64 k)] => .pure ((Row2Ok Int a1 n1 M ∧ RowOk Int a2 n2 (M a2.r) ∧ Row2Ok Int a3 n3 M) ∧ 0 ≤ k ∧ k + tot (row2 Int a1 n1 M) + n2 + tot (row2 Int a3 n3 M) ≤ 4611686018427387904) (I (if row2 Int a1 n1 M = mark2 k (row2 Int a1 n1 M) then (if row Int a2 n2 (M a2.r) = mark1 (k + tot (row2 Int a1 n1 M)) n2 then (if row2 Int a3 n3 M = mark2 (k + tot (row2 Int a1 n1 M) + n2) (row2 Int a3 n3 M) then k + tot (row2 Int a1 n1 M) + n2 + tot (row2 Int a3 n3 M) else -1) else -1) else -1))
  | _ => .bad⟩
theorem ok_laws_heldCow : fnP Try.prog c_laws_heldCow.f = true ∧ ∀ args M, (c_laws_heldCow.sp args M).OK Try.prog c_laws_heldCow.f args M := by
  refine ⟨fp_17, fun args M => ?_⟩
  unfold c_laws_heldCow
  dsimp only
  split
  case h_2 => trivial
  rename_i a1 n1 c1 a2 n2 c2 a3 n3 c3 k
  rintro ⟨⟨h1, h2, h3⟩, k0, k1⟩
  refine goIn hf_17 rfl (nt := 24) rfl (rs := [.tmp 4]) rfl (C := [c_laws_heldIntSS, c_laws_heldIntS]) ⟨(by first | exact .inl ok_laws_heldIntSS | exact ok_laws_heldIntSS), (by first | exact .inl ok_laws_heldIntS | exact ok_laws_heldIntS), trivial⟩ (q := fun _ => false) okQ_none mixed (O := fun _ => .nil) (by kernel_rfl) ?_
  by_cases e1 : row2 Int a1 n1 M = mark2 k (row2 Int a1 n1 M)
  · have d1 : decide (k + (tot (row2 Int a1 n1 M) : Int) < 0) = false := by simp only [decide_eq_false_iff_not]; omega
    by_cases e2 : row Int a2 n2 (M a2.r) = mark1 (k + tot (row2 Int a1 n1 M)) n2
    · have d2 : decide (k + (tot (row2 Int a1 n1 M) : Int) + n2 < 0) = false := by simp only [decide_eq_false_iff_not]; omega
      by_cases e3 : row2 Int a3 n3 M = mark2 (k + tot (row2 Int a1 n1 M) + n2) (row2 Int a3 n3 M)
      · have d3 : decide (k + (tot (row2 Int a1 n1 M) : Int) + n2 + tot (row2 Int a3 n3 M) < 0) = false := by simp only [decide_eq_false_iff_not]; omega
        simp only [if_pos e1, if_pos e2, if_pos e3]
        simp only [↓WP, ↓grdD, ↓grdT, ↓un_dead, ↓binVC, ↓buildVC, ↓sliceVC, WQ, WN, Int.reduceToNat, renl, cll, rent, clt, ↓reduceIte, Nat.reduceLeDiff, Nat.reduceEqDiff, Nat.reduceLT, reduceCtorEq, List.append_nil, Nat.reduceAdd, Nat.reduceSub, Nat.reduceBEq, forall_const, implies_true, cond_true, cond_false, AV.ren, AC.ren, AV.cl, AC.cl, eq_self, List.all_cons, List.all_nil, AV.eqv, AC.eqv, eqvl, eqvt, Sl.eqv, List.map_append, List.length_map, List.length_append, List.length_replicate, List.length_set, List.map_replicate, nilVC, fl_25_0, sz_22, fl_25_1, sz_23, fl_25_2, c_laws_heldIntSS, c_laws_heldIntS, Row2Ok_upE h1, row2_upE h1, Row2Ok_upE h3, row2_upE h3, if_pos e1, if_pos e2, if_pos e3, d1, d2, d3]
        repeat' (first | with_reducible refine And.intro ?_ ?_)
        all_goals first | assumption | omega | rfl | (simp; done)
      · simp only [if_pos e1, if_pos e2, if_neg e3]
        simp only [↓WP, ↓grdD, ↓grdT, ↓un_dead, ↓binVC, ↓buildVC, ↓sliceVC, WQ, WN, Int.reduceToNat, renl, cll, rent, clt, ↓reduceIte, Nat.reduceLeDiff, Nat.reduceEqDiff, Nat.reduceLT, reduceCtorEq, List.append_nil, Nat.reduceAdd, Nat.reduceSub, Nat.reduceBEq, forall_const, implies_true, cond_true, cond_false, AV.ren, AC.ren, AV.cl, AC.cl, eq_self, List.all_cons, List.all_nil, AV.eqv, AC.eqv, eqvl, eqvt, Sl.eqv, List.map_append, List.length_map, List.length_append, List.length_replicate, List.length_set, List.map_replicate, nilVC, fl_25_0, sz_22, fl_25_1, sz_23, fl_25_2, c_laws_heldIntSS, c_laws_heldIntS, Row2Ok_upE h1, row2_upE h1, Row2Ok_upE h3, row2_upE h3, if_pos e1, if_pos e2, if_neg e3, d1, d2]
        repeat' (first | with_reducible refine And.intro ?_ ?_)
        all_goals first | assumption | omega | rfl | (simp; done)
    · simp only [if_pos e1, if_neg e2]
      simp only [↓WP, ↓grdD, ↓grdT, ↓un_dead, ↓binVC, ↓buildVC, ↓sliceVC, WQ, WN, Int.reduceToNat, renl, cll, rent, clt, ↓reduceIte, Nat.reduceLeDiff, Nat.reduceEqDiff, Nat.reduceLT, reduceCtorEq, List.append_nil, Nat.reduceAdd, Nat.reduceSub, Nat.reduceBEq, forall_const, implies_true, cond_true, cond_false, AV.ren, AC.ren, AV.cl, AC.cl, eq_self, List.all_cons, List.all_nil, AV.eqv, AC.eqv, eqvl, eqvt, Sl.eqv, List.map_append, List.length_map, List.length_append, List.length_replicate, List.length_set, List.map_replicate, nilVC, fl_25_0, sz_22, fl_25_1, sz_23, fl_25_2, c_laws_heldIntSS, c_laws_heldIntS, Row2Ok_upE h1, row2_upE h1, Row2Ok_upE h3, row2_upE h3, if_pos e1, if_neg e2, d1]
      repeat' (first | with_reducible refine And.intro ?_ ?_)
      all_goals first | assumption | omega | rfl | (simp; done)
  · simp only [if_neg e1]
    simp only [↓WP, ↓grdD, ↓grdT, ↓un_dead, ↓binVC, ↓buildVC, ↓sliceVC, WQ, WN, Int.reduceToNat, renl, cll, rent, clt, ↓reduceIte, Nat.reduceLeDiff, Nat.reduceEqDiff, Nat.reduceLT, reduceCtorEq, List.append_nil, Nat.reduceAdd, Nat.reduceSub, Nat.reduceBEq, forall_const, implies_true, cond_true, cond_false, AV.ren, AC.ren, AV.cl, AC.cl, eq_self, List.all_cons, List.all_nil, AV.eqv, AC.eqv, eqvl, eqvt, Sl.eqv, List.map_append, List.length_map, List.length_append, List.length_replicate, List.length_set, List.map_replicate, nilVC, fl_25_0, sz_22, fl_25_1, sz_23, fl_25_2, c_laws_heldIntSS, c_laws_heldIntS, Row2Ok_upE h1, row2_upE h1, Row2Ok_upE h3, row2_upE h3, if_neg e1]
    repeat' (first | with_reducible refine And.intro ?_ ?_)
    all_goals first | assumption | omega | rfl | (simp; done)
theorem q_laws_heldCow : Quiet c_laws_heldCow := by
  intro args M
  unfold c_laws_heldCow
  dsimp only
  split <;> first | trivial | (intro _; rfl)
end Go.Eng.T
