/- cow: copies. -/
import Derived.Test.YtjdppjomhkbljaaFn10
set_option linter.unusedVariables false
set_option linter.unusedSimpArgs false
set_option linter.unusedSectionVars false
namespace Go.Eng
open Cel (enc dec)
section
variable {α : Type}
/-- n rows, the first of them G, the others not there yet -/
def pad (n : Nat) (G : List (Nat × List α)) : List (Nat × List α) := G ++ List.replicate (n - G.length) (0, [])
theorem pad_length {n : Nat} {G : List (Nat × List α)} (h : G.length ≤ n) : (pad n G).length = n := by simp [pad]; omega
theorem pad_nil {n : Nat} : pad n ([] : List (Nat × List α)) = List.replicate n (0, []) := by simp [pad]
theorem pad_all {n : Nat} {G : List (Nat × List α)} (h : G.length = n) : pad n G = G := by simp [pad, h]
theorem pad_set {n i : Nat} {G : List (Nat × List α)} (x : Nat × List α) (hi : G.length = i) (h : i < n) : (pad n G).set i x = pad n (G ++ [x]) := by
  subst hi
  unfold pad
  rw [List.set_append_right _ _ (Nat.le_refl _), Nat.sub_self, show n - G.length = (n - (G ++ [x]).length) + 1 by simp; omega, List.replicate_succ, List.set_cons_zero, List.append_assoc]
  rfl
theorem pad_zero {n i : Nat} {G : List (Nat × List α)} (hi : G.length = i) (h : i < n) : pad n (G ++ [(0, [])]) = pad n G := by
  subst hi
  unfold pad
  rw [show n - G.length = (n - (G ++ [((0 : Nat), ([] : List α))]).length) + 1 by simp; omega, List.replicate_succ, List.append_assoc]
  rfl
theorem nest_app {j i0 j2 : Nat} (hne : j ≠ j2) {G : List (Nat × List α)} {l c : Nat} {X : List α} (hl : X.length = l) (hi : G.length = i0) :
    (nestC (.loc j) G ++ [[AC.sl ⟨.loc j2, 0, 0, 0⟩ l c]]).map (swl j i0 j2) = nestC (.loc j) (G ++ [(c, X)]) := by
  subst hi hl
  rw [List.map_append]
  have h1 : (nestC (.loc j) G).map (swl j G.length j2) = nestC (.loc j) G := nest_map _ _ _ _ fun i l c hi => by
    have : i ≠ G.length := by omega
    simp [swl, AC.sw, swA, sw, this, hne]
  rw [h1]
  refine List.ext_getElem? fun k => ?_
  rw [nest_getq]
  rcases Nat.lt_trichotomy k G.length with h | h | h
  · rw [List.getElem?_append_left (by rw [nest_len]; exact h), List.getElem?_append_left h, nest_getq]
  · subst h
    rw [List.getElem?_append_right (by rw [nest_len]; omega), List.getElem?_append_right (by omega), nest_len]
    simp [swl, AC.sw, swA, sw, Ne.symm hne]
  · rw [List.getElem?_eq_none (by simp [nest_len]; omega), List.getElem?_eq_none (by simp; omega)]
    rfl
theorem eqvL_append : ∀ {A B C : List (List AC)}, eqvL B C → eqvL (A ++ B) (A ++ C)
  | [], _, _, h => h
  | a :: A, _, _, h => ⟨eqvl_refl a, eqvL_append h⟩
theorem nest_app0 {q : RId} {G : List (Nat × List α)} : eqvL (nestC q G ++ [[AC.sl ⟨.nil, 0, 0, 0⟩ 0 0]]) (nestC q (G ++ [((0 : Nat), ([] : List α))])) := by
  have e : nestC q (G ++ [((0 : Nat), ([] : List α))]) = nestC q G ++ [[AC.sl ⟨q, G.length, 0, 0⟩ 0 0]] := by
    refine List.ext_getElem? fun k => ?_
    rw [nest_getq]
    rcases Nat.lt_trichotomy k G.length with h | h | h
    · rw [List.getElem?_append_left h, List.getElem?_append_left (by rw [nest_len]; exact h), nest_getq]
    · subst h
      rw [List.getElem?_append_right (by omega), List.getElem?_append_right (by rw [nest_len]; omega), nest_len]
      simp
    · rw [List.getElem?_eq_none (by simp; omega), List.getElem?_eq_none (by simp [nest_len]; omega)]
      rfl
  rw [e]
  exact eqvL_append ⟨⟨⟨rfl, rfl, .inl rfl⟩, trivial⟩, trivial⟩
end
/-- a list of rows, so far -/
def FamTo (X : List (List Int)) (i : Nat) (G : List (Nat × List Int)) : Prop := G.length = i ∧ G.map (·.2) = X.take i ∧ ∀ p ∈ G, p.2.length ≤ 4294967296 ∧ p.2.length ≤ p.1
theorem FamTo.nil (X : List (List Int)) : FamTo X 0 [] := ⟨rfl, by simp, fun p hp => by cases hp⟩
theorem FamTo.step {X : List (List Int)} {i k : Nat} {G : List (Nat × List Int)} (h : FamTo X i G) (hi : i < X.length) (h1 : (X.getD i default).length ≤ 4294967296) (h2 : (X.getD i default).length ≤ k) : FamTo X (i + 1) (G ++ [(k, X.getD i default)]) := by
  obtain ⟨e1, e2, e3⟩ := h
  refine ⟨by simp [e1], ?_, fun p hp => ?_⟩
  · rw [List.map_append, e2, take_step X i default hi]; rfl
  · rcases List.mem_append.1 hp with h | h
    · exact e3 p h
    · rw [List.mem_singleton] at h; subst h; exact ⟨h1, h2⟩
theorem FamTo.all {X : List (List Int)} {G : List (Nat × List Int)} (h : FamTo X X.length G) (hs : X.length ≤ 4294967296) : G.length = X.length ∧ G.map (·.2) = X ∧ famOk G :=
  ⟨h.1, by rw [h.2.1, List.take_length], by rw [famOk, h.1]; exact ⟨hs, h.2.2⟩⟩
/-- what is known of a Cow of one's own -/
def CowC (X : List (List Int)) (R : List Int) (Z : List (List Int)) (p : Nat × List (Nat × List Int) × Nat × Nat × List (Nat × List Int)) : Prop :=
  (X.length ≤ p.1 ∧ p.2.1.map (·.2) = X ∧ famOk p.2.1) ∧ R.length ≤ p.2.2.1 ∧ X.length ≤ 4294967296 ∧ R.length ≤ 4294967296 ∧ Z.length ≤ 4294967296 ∧ (Z.length ≤ p.2.2.2.1 ∧ p.2.2.2.2.map (·.2) = Z ∧ famOk p.2.2.2.2)
end Go.Eng
namespace Go.Eng.T
open Go.Proofs
open Cel (enc dec)
set_option maxRecDepth 100000
set_option maxHeartbeats 4000000
def c_impl_cloneLists : Contract := ⟨76, fun args M => match args with
  | [.c (.sl a n _)] => .eff (Row2Ok Int a n M) (Nat × List (Nat × List Int)) (fun p => n ≤ p.1 ∧ p.2.map (·.2) = row2 Int a n M ∧ famOk p.2) (fun p => .c (.sl ⟨.loc 0, 0, 0, 0⟩ n p.1)) (fun p => [.rows true 23 1 [(p.1, nestC (.loc 1) p.2)], .rows true 3 1 (mems p.2)]) (fun _ => [])
  | _ => .bad⟩
theorem ok_impl_cloneLists : fnP Try.prog c_impl_cloneLists.f = true ∧ ∀ args M, (c_impl_cloneLists.sp args M).OK Try.prog c_impl_cloneLists.f args M := by
  refine ⟨fp_76, fun args M => ?_⟩
  unfold c_impl_cloneLists
  dsimp only
  split
  case h_2 => trivial
  rename_i a n ca
  intro hrow
  obtain ⟨hs, X, hX, rfl, hat⟩ := hrow.x
  rw [hX]
  refine goIn hf_76 rfl (nt := 19) rfl (rs := [.tmp 2]) rfl (C := [c_slices_Clone_int]) ⟨(by first | exact .inl ok_slices_Clone_int | exact ok_slices_Clone_int), trivial⟩ (q := fun _ => false) okQ_none mixed (O := fun _ => .nil) (by kernel_rfl) ?_
  simp only [↓WP, ↓grdD, ↓grdT, ↓un_dead, ↓binVC, ↓buildVC, ↓sliceVC, WQ, WN, Int.reduceToNat, renl, cll, rent, clt, ↓reduceIte, Nat.reduceLeDiff, Nat.reduceEqDiff, Nat.reduceLT, reduceCtorEq, List.append_nil, Nat.reduceAdd, Nat.reduceSub, Nat.reduceBEq, forall_const, implies_true, cond_true, cond_false, AV.ren, AC.ren, AV.cl, AC.cl, eq_self, List.all_cons, List.all_nil, AV.eqv, AC.eqv, eqvl, eqvt, Sl.eqv, List.map_append, List.length_map, List.length_append, List.length_replicate, List.length_set, List.map_replicate, nilVC, sd_22, el_22, sz_23, zr_23, c_slices_Clone_int]
  refine loopI (J := {p : Nat × Nat × List (Nat × List Int) // p.1 ≤ X.length ∧ p.1 ≤ p.2.1 ∧ FamTo X p.1 p.2.2}) (fun p => ⟨slots 19 [(3, .c (.sl ⟨.loc 0, 0, 0, 0⟩ p.1.1 p.1.2.1)), (6, .c (.sl a.up X.length ca)), (7, I X.length), (8, I p.1.1)], M, [], [.rows true 23 1 [(p.1.2.1, nestC (.loc 1) p.1.2.2)], .rows true 3 1 (mems (pad X.length p.1.2.2))]⟩) (fun p => X.length - p.1.1) ⟨(0, 0, []), by omega, Nat.le_refl _, FamTo.nil X⟩
    (Le.trans (Le_gh _ [(23, 1)]) (Le.trans (Le_fam 3 1 X.length) (Le_intro [0, 1] (by simp only [WL, WNL, swA_new, swA_ne, nest_sw_ne, mapLL, List.mem_cons, Nat.reduceAdd, Nat.reduceLT, Nat.reduceLeDiff, Nat.reduceEqDiff, okU, List.nodup_cons, List.not_mem_nil, toT, toL, toO, keysO, renl, rent, cll, clt, eq_self, AV.eqv, AC.eqv, eqvl, eqvt, Sl.eqv, rowsLe, mapLL, rowsCl, List.map_append, List.length_map, List.length_append, List.length_set, List.map_replicate, rowG, List.getElem?_cons_zero, List.getElem?_cons_succ, List.getElem?_nil, List.append_nil, List.nil_append, List.cons_append, ghosts, St.gh, Option.some.injEq, implies_true, setT, AV.ren, AC.ren, AV.cl, AC.cl, List.replicate_succ, List.replicate_zero, List.nodup_nil, List.length_nil, List.length_cons, List.getD_cons_zero, List.getD_cons_succ, ↓reduceIte, pad_nil, mems_rep, nest_nil]; try simp)))) ?_
  rintro ⟨⟨i, cp, G⟩, hi, hcp, hG⟩
  dsimp only at hi hcp hG
  have hw := wS (i := i) (by omega)
  have hGl := hG.1
  rcases Nat.lt_or_ge i X.length with hlt | hge
  · obtain ⟨own, ty, cnt, cap, len, get, b, c, hM, hf, hic, hkn, hget⟩ := hat (by omega)
    obtain ⟨g1, g2, g3, g4⟩ := hget i hlt
    simp only [↓WP, ↓grdD, ↓grdT, ↓un_dead, ↓binVC, ↓buildVC, ↓sliceVC, WQ, WN, Int.reduceToNat, renl, cll, rent, clt, ↓reduceIte, Nat.reduceLeDiff, Nat.reduceEqDiff, Nat.reduceLT, reduceCtorEq, List.append_nil, Nat.reduceAdd, Nat.reduceSub, Nat.reduceBEq, forall_const, implies_true, cond_true, cond_false, AV.ren, AC.ren, AV.cl, AC.cl, eq_self, List.all_cons, List.all_nil, AV.eqv, AC.eqv, eqvl, eqvt, Sl.eqv, List.map_append, List.length_map, List.length_append, List.length_replicate, List.length_set, List.map_replicate, nilVC, sd_22, el_22, sz_23, zr_23, c_slices_Clone_int, dlt hlt, hw, hM, hf, g1, g3, g4, hGl]
    have hpl : (pad X.length G).length = X.length := pad_length (by omega)
    repeat' (first | with_reducible refine And.intro ?_ ?_ | intro _)
    all_goals try omega
    all_goals try exact .inr trivial
    · rename_i k hk hin
      refine ⟨⟨(i + 1, cp, G ++ [(k, X.getD i default)]), hlt, hin, hG.step hlt g3.1 hk⟩, Le.trans (Le_swap (j := 1) (j2 := 2) (i0 := i) true 3 1 (mems (pad X.length G)) (by decide) rfl rfl (by rw [mems_len, hpl]; exact hlt)) (Le_intro [0, 1] ?_), by show X.length - (i + 1) < X.length - i; omega⟩
      simp only [WL, WNL, swA_new, swA_ne, nest_sw_ne, mapLL, List.mem_cons, Nat.reduceAdd, Nat.reduceLT, Nat.reduceLeDiff, Nat.reduceEqDiff, okU, List.nodup_cons, List.not_mem_nil, toT, toL, toO, keysO, renl, rent, cll, clt, eq_self, AV.eqv, AC.eqv, eqvl, eqvt, Sl.eqv, rowsLe, mapLL, rowsCl, List.map_append, List.length_map, List.length_append, List.length_set, List.map_replicate, rowG, List.getElem?_cons_zero, List.getElem?_cons_succ, List.getElem?_nil, List.append_nil, List.nil_append, List.cons_append, ghosts, St.gh, Option.some.injEq, implies_true, setT, AV.ren, AC.ren, AV.cl, AC.cl, List.replicate_succ, List.replicate_zero, List.nodup_nil, List.length_nil, List.length_cons, List.getD_cons_zero, List.getD_cons_succ, ↓reduceIte, nest_app (j := 1) (j2 := 2) (X := X.getD i default) (by decide) rfl hGl, pad_set (k, X.getD i default) hGl hlt]
      try simp
    · rename_i k hk hin c2 hc2 _
      refine ⟨⟨(i + 1, c2, G ++ [(k, X.getD i default)]), hlt, hc2, hG.step hlt g3.1 hk⟩, Le.trans (Le_swap (j := 1) (j2 := 2) (i0 := i) true 3 1 (mems (pad X.length G)) (by decide) rfl rfl (by rw [mems_len, hpl]; exact hlt)) (Le_intro [4, 1] ?_), by show X.length - (i + 1) < X.length - i; omega⟩
      simp only [WL, WNL, swA_new, swA_ne, nest_sw_ne, mapLL, List.mem_cons, Nat.reduceAdd, Nat.reduceLT, Nat.reduceLeDiff, Nat.reduceEqDiff, okU, List.nodup_cons, List.not_mem_nil, toT, toL, toO, keysO, renl, rent, cll, clt, eq_self, AV.eqv, AC.eqv, eqvl, eqvt, Sl.eqv, rowsLe, mapLL, rowsCl, List.map_append, List.length_map, List.length_append, List.length_set, List.map_replicate, rowG, List.getElem?_cons_zero, List.getElem?_cons_succ, List.getElem?_nil, List.append_nil, List.nil_append, List.cons_append, ghosts, St.gh, Option.some.injEq, implies_true, setT, AV.ren, AC.ren, AV.cl, AC.cl, List.replicate_succ, List.replicate_zero, List.nodup_nil, List.length_nil, List.length_cons, List.getD_cons_zero, List.getD_cons_succ, ↓reduceIte, nest_app (j := 1) (j2 := 2) (X := X.getD i default) (by decide) rfl hGl, pad_set (k, X.getD i default) hGl hlt]
      try simp
  · obtain rfl : i = X.length := by omega
    simp only [↓WP, ↓grdD, ↓grdT, ↓un_dead, ↓binVC, ↓buildVC, ↓sliceVC, WQ, WN, Int.reduceToNat, renl, cll, rent, clt, ↓reduceIte, Nat.reduceLeDiff, Nat.reduceEqDiff, Nat.reduceLT, reduceCtorEq, List.append_nil, Nat.reduceAdd, Nat.reduceSub, Nat.reduceBEq, forall_const, implies_true, cond_true, cond_false, AV.ren, AC.ren, AV.cl, AC.cl, eq_self, List.all_cons, List.all_nil, AV.eqv, AC.eqv, eqvl, eqvt, Sl.eqv, List.map_append, List.length_map, List.length_append, List.length_replicate, List.length_set, List.map_replicate, nilVC, sd_22, el_22, sz_23, zr_23, c_slices_Clone_int, dge hge, hw]
    obtain ⟨q1, q2, q3⟩ := hG.all hs
    refine end_ret ?_
    simp only [↓WP, ↓grdD, ↓grdT, ↓un_dead, ↓binVC, ↓buildVC, ↓sliceVC, WQ, WN, Int.reduceToNat, renl, cll, rent, clt, ↓reduceIte, Nat.reduceLeDiff, Nat.reduceEqDiff, Nat.reduceLT, reduceCtorEq, List.append_nil, Nat.reduceAdd, Nat.reduceSub, Nat.reduceBEq, forall_const, implies_true, cond_true, cond_false, AV.ren, AC.ren, AV.cl, AC.cl, eq_self, List.all_cons, List.all_nil, AV.eqv, AC.eqv, eqvl, eqvt, Sl.eqv, List.map_append, List.length_map, List.length_append, List.length_replicate, List.length_set, List.map_replicate, nilVC, sd_22, el_22, sz_23, zr_23, c_slices_Clone_int]
    refine ⟨(cp, G), [], [0, 1], ?_⟩
    simp only [WL, WNL, swA_new, swA_ne, nest_sw_ne, mapLL, List.mem_cons, Nat.reduceAdd, Nat.reduceLT, Nat.reduceLeDiff, Nat.reduceEqDiff, okU, List.nodup_cons, List.not_mem_nil, toT, toL, toO, keysO, renl, rent, cll, clt, eq_self, AV.eqv, AC.eqv, eqvl, eqvt, Sl.eqv, rowsLe, mapLL, rowsCl, List.map_append, List.length_map, List.length_append, List.length_set, List.map_replicate, rowG, List.getElem?_cons_zero, List.getElem?_cons_succ, List.getElem?_nil, List.append_nil, List.nil_append, List.cons_append, ghosts, St.gh, Option.some.injEq, implies_true, setT, AV.ren, AC.ren, AV.cl, AC.cl, List.replicate_succ, List.replicate_zero, List.nodup_nil, List.length_nil, List.length_cons, List.getD_cons_zero, List.getD_cons_succ, ↓reduceIte, retP, pad_all q1]
    simp [hcp, q2, q3]
theorem q_impl_cloneLists : Quiet c_impl_cloneLists := by
  intro args M
  unfold c_impl_cloneLists
  dsimp only
  split <;> first | trivial | (intro _; rfl)
def c_impl_cloneCow : Contract := ⟨62, fun args M => match args with
  | [.agg [.sl a1 n1 _, .sl a2 n2 c2, .sl a3 n3 _]] => .eff ((Row2Ok Int a1 n1 M ∧ RowOk Int a2 n2 (M a2.r) ∧ Row2Ok Int a3 n3 M) ∧ n2 ≤ c2) (Nat × List (Nat × List Int) × Nat × Nat × List (Nat × List Int)) (fun p => CowC (row2 Int a1 n1 M) (row Int a2 n2 (M a2.r)) (row2 Int a3 n3 M) p) (fun p => .agg [.sl ⟨.loc 0, 0, 0, 0⟩ n1 p.1, .sl ⟨.loc 2, 0, 0, 0⟩ n2 p.2.2.1, .sl ⟨.loc 3, 0, 0, 0⟩ n3 p.2.2.2.1]) (fun p => [.rows true 23 1 [(p.1, nestC (.loc 1) p.2.1)], .rows true 3 1 (mems p.2.1), rowG true 3 p.2.2.1 (row Int a2 n2 (M a2.r)), .rows true 23 1 [(p.2.2.2.1, nestC (.loc 4) p.2.2.2.2)], .rows true 3 1 (mems p.2.2.2.2)]) (fun _ => [])
  | _ => .bad⟩
theorem ok_impl_cloneCow : fnP Try.prog c_impl_cloneCow.f = true ∧ ∀ args M, (c_impl_cloneCow.sp args M).OK Try.prog c_impl_cloneCow.f args M := by
  refine ⟨fp_62, fun args M => ?_⟩
  unfold c_impl_cloneCow
  dsimp only
  split
  case h_2 => trivial
  rename_i a1 n1 c1 a2 n2 c2 a3 n3 c3
  rintro ⟨⟨h1, h2, h3⟩, hc2⟩
  obtain ⟨s1, X, hX, rfl, t1⟩ := h1.x
  obtain ⟨s2, R, hR, rfl, t2⟩ := h2.x
  obtain ⟨s3, Z, hZ, rfl, t3⟩ := h3.x
  rw [hX, hR, hZ]
  refine goIn hf_62 rfl (nt := 13) rfl (rs := [.cell 2 25]) rfl (C := [c_impl_cloneLists, c_slices_Clone_int]) ⟨(by first | exact .inl ok_impl_cloneLists | exact ok_impl_cloneLists), (by first | exact .inl ok_slices_Clone_int | exact ok_slices_Clone_int), trivial⟩ (q := fun f => [76, 64].contains f) ⟨fun _ => q_impl_cloneLists, fun _ => q_slices_Clone_int, trivial⟩ mixed (O := ots [(1, otl [0, 1, 3, 4, 6, 7, 2, 5, 8, 9, 10] .nil)]) (by kernel_rfl) ?_
  simp only [↓WP, ↓grdD, ↓grdT, ↓un_dead, ↓binVC, ↓buildVC, ↓sliceVC, WQ, WN, Int.reduceToNat, renl, cll, rent, clt, ↓reduceIte, Nat.reduceLeDiff, Nat.reduceEqDiff, Nat.reduceLT, reduceCtorEq, List.append_nil, Nat.reduceAdd, Nat.reduceSub, Nat.reduceBEq, forall_const, implies_true, cond_true, cond_false, AV.ren, AC.ren, AV.cl, AC.cl, eq_self, List.all_cons, List.all_nil, AV.eqv, AC.eqv, eqvl, eqvt, Sl.eqv, List.map_append, List.length_map, List.length_append, List.length_replicate, List.length_set, List.map_replicate, nilVC, zr_25, fl_25_0, sz_22, fl_25_1, sz_23, fl_25_2, fs_25, sz_25, c_impl_cloneLists, c_slices_Clone_int, Row2Ok_upE h1, row2_upE h1, hX, Row2Ok_upE h3, row2_upE h3, hZ, hR]
  repeat' (first | with_reducible refine And.intro ?_ ?_ | intro _)
  all_goals try assumption
  rename_i p hp k hk q hq
  obtain ⟨p1, F⟩ := p
  obtain ⟨q1, G⟩ := q
  refine end_ret ?_
  simp only [↓WP, ↓grdD, ↓grdT, ↓un_dead, ↓binVC, ↓buildVC, ↓sliceVC, WQ, WN, Int.reduceToNat, renl, cll, rent, clt, ↓reduceIte, Nat.reduceLeDiff, Nat.reduceEqDiff, Nat.reduceLT, reduceCtorEq, List.append_nil, Nat.reduceAdd, Nat.reduceSub, Nat.reduceBEq, forall_const, implies_true, cond_true, cond_false, AV.ren, AC.ren, AV.cl, AC.cl, eq_self, List.all_cons, List.all_nil, AV.eqv, AC.eqv, eqvl, eqvt, Sl.eqv, List.map_append, List.length_map, List.length_append, List.length_replicate, List.length_set, List.map_replicate, nilVC, zr_25, fl_25_0, sz_22, fl_25_1, sz_23, fl_25_2, fs_25, sz_25, c_impl_cloneLists, c_slices_Clone_int]
  refine ⟨(p1, F, k, q1, G), [], [2, 3, 4, 5, 6], ?_⟩
  simp only [WL, WNL, swA_new, swA_ne, nest_sw_ne, mapLL, List.mem_cons, Nat.reduceAdd, Nat.reduceLT, Nat.reduceLeDiff, Nat.reduceEqDiff, okU, List.nodup_cons, List.not_mem_nil, toT, toL, toO, keysO, renl, rent, cll, clt, eq_self, AV.eqv, AC.eqv, eqvl, eqvt, Sl.eqv, rowsLe, mapLL, rowsCl, List.map_append, List.length_map, List.length_append, List.length_set, List.map_replicate, rowG, List.getElem?_cons_zero, List.getElem?_cons_succ, List.getElem?_nil, List.append_nil, List.nil_append, List.cons_append, ghosts, St.gh, Option.some.injEq, implies_true, setT, AV.ren, AC.ren, AV.cl, AC.cl, List.replicate_succ, List.replicate_zero, List.nodup_nil, List.length_nil, List.length_cons, List.getD_cons_zero, List.getD_cons_succ, ↓reduceIte, retP]
  simp [CowC, hp.1, hp.2.1, hp.2.2, hq.1, hq.2.1, hq.2.2, hk, s1, s2, s3]
end Go.Eng.T
