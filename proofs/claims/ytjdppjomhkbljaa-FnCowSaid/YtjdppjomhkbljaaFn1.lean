/- cow: plain functions; rows of rows copied. -/
import Derived.Test.YtjdppjomhkbljaaTab
set_option linter.unusedVariables false
set_option linter.unusedSimpArgs false
set_option linter.unusedSectionVars false
namespace Go.Eng
open Cel (enc dec)
section
variable {α : Type}
/-- rows, each with no more room than it takes -/
def own1 (X : List (List α)) : List (Nat × List α) := X.map fun l => (l.length, l)
theorem own1_length (X : List (List α)) : (own1 X).length = X.length := by simp [own1]
theorem own1_get {X : List (List α)} {i : Nat} (h : i < X.length) : (own1 X).getD i default = ((X.getD i default).length, X.getD i default) := getD_map (f := fun l : List α => (l.length, l)) h
theorem own1_snd (X : List (List α)) : (own1 X).map (·.2) = X := by simp [own1, Function.comp_def]
/-- how many elements rows have -/
def tot : List (List α) → Nat
  | [] => 0
  | l :: r => l.length + tot r
theorem tot_append : ∀ (X Y : List (List α)), tot (X ++ Y) = tot X + tot Y
  | [], Y => by simp [tot]
  | l :: r, Y => by simp [tot, tot_append r Y]; omega
theorem tot_step {X : List (List α)} {i : Nat} (h : i < X.length) : tot (X.take (i + 1)) = tot (X.take i) + (X.getD i default).length := by
  rw [take_step X i default h, tot_append]; simp [tot]
theorem tot_take {X : List (List α)} {i : Nat} : tot (X.take i) ≤ tot X := by
  have := tot_append (X.take i) (X.drop i)
  rw [List.take_append_drop] at this
  omega
end
/-- marks in rows -/
def mark2 : Int → List (List Int) → List (List Int)
  | _, [] => []
  | k, l :: r => mark1 k l.length :: mark2 (k + l.length) r
theorem mark2_length : ∀ (k : Int) (X : List (List Int)), (mark2 k X).length = X.length
  | _, [] => rfl
  | k, l :: r => by simp [mark2, mark2_length _ r]
theorem mark2_get : ∀ {X : List (List Int)} (k : Int) {i : Nat}, i < X.length → (mark2 k X).getD i default = mark1 (k + tot (X.take i)) (X.getD i default).length
  | [], _, i, h => by simp at h
  | l :: r, k, 0, _ => by simp [mark2, tot]
  | l :: r, k, i + 1, h => by
    have := mark2_get (X := r) (k + l.length) (i := i) (by simpa using h)
    simp only [mark2, List.getD_cons_succ, List.take_succ_cons, tot]
    rw [this]
    congr 1
    omega
def szL : List Nat → Int → Int
  | [], l => l
  | m :: r, l => if l < m then -1 else szL r (l - m)
theorem szL_step {Ls : List Nat} {i : Nat} {l : Int} (h : i < Ls.length) : szL (Ls.drop i) l = if l < Ls.getD i 0 then -1 else szL (Ls.drop (i + 1)) (l - Ls.getD i 0) := by
  rw [List.drop_eq_getElem_cons h, szL, List.getD_eq_getElem?_getD, List.getElem?_eq_getElem h]; rfl
theorem szL_range : ∀ (X : List Nat) (l : Int), 0 ≤ l → -1 ≤ szL X l ∧ szL X l ≤ l ∧ (0 ≤ szL X l → ∀ x ∈ X, (x : Int) ≤ l)
  | [], l, h => ⟨by unfold szL; omega, by unfold szL; omega, fun _ x hx => by cases hx⟩
  | s :: r, l, h => by
    unfold szL
    split
    · exact ⟨by omega, by omega, fun h => absurd h (by omega)⟩
    · obtain ⟨h1, h2, h3⟩ := szL_range r (l - s) (by omega)
      refine ⟨h1, by omega, fun h4 x hx => ?_⟩
      rcases List.mem_cons.1 hx with rfl | hx
      · omega
      · have := h3 h4 x hx; omega
def szN (Ls : List Nat) (n : Nat) (l : Int) : Int := if l < n then -1 else szL Ls (l - n)
theorem szN_range {X : List Nat} {n : Nat} {l : Int} (h : 0 ≤ l) : -1 ≤ szN X n l ∧ szN X n l ≤ l ∧ (0 ≤ szN X n l → (n : Int) ≤ l ∧ ∀ x ∈ X, (x : Int) ≤ l) := by
  unfold szN
  split
  · exact ⟨by omega, by omega, fun h => absurd h (by omega)⟩
  · obtain ⟨h1, h2, h3⟩ := szL_range X (l - n) (by omega)
    exact ⟨h1, by omega, fun h4 => ⟨by omega, fun x hx => by have := h3 h4 x hx; omega⟩⟩
end Go.Eng
namespace Go.Eng.T
open Go.Proofs
open Cel (enc dec)
set_option maxRecDepth 100000
set_option maxHeartbeats 4000000
def c_laws_toIntS : Contract := ⟨50, fun args M => match args with
  | [.c (.sl a n _)] => .eff (RowOk Int a n (M a.r)) Unit (fun _ => True) (fun _ => .c (.sl ⟨.loc 0, 0, 0, 0⟩ n n)) (fun _ => [rowG true 3 n (row Int a n (M a.r))]) (fun _ => [])
  | _ => .bad⟩
theorem ok_laws_toIntS : fnP Try.prog c_laws_toIntS.f = true ∧ ∀ args M, (c_laws_toIntS.sp args M).OK Try.prog c_laws_toIntS.f args M := by
  refine ⟨fp_50, fun args M => ?_⟩
  unfold c_laws_toIntS
  dsimp only
  split
  case h_2 => trivial
  rename_i a n c
  intro hrow
  obtain ⟨hs, X, hX, rfl, hat⟩ := hrow.x
  rw [hX]
  refine goIn hf_50 rfl (nt := 22) rfl (rs := [.tmp 2]) rfl (C := []) trivial (q := fun _ => false) okQ_none mixed (O := fun _ => .nil) (by kernel_rfl) ?_
  simp only [↓WP, ↓grdD, ↓grdT, ↓un_dead, ↓binVC, ↓buildVC, ↓sliceVC, WQ, WN, Int.reduceToNat, renl, cll, rent, clt, ↓reduceIte, Nat.reduceLeDiff, Nat.reduceEqDiff, Nat.reduceLT, reduceCtorEq, List.append_nil, Nat.reduceAdd, Nat.reduceSub, Nat.reduceBEq, forall_const, implies_true, cond_true, cond_false, AV.ren, AC.ren, AV.cl, AC.cl, eq_self, List.all_cons, List.all_nil, AV.eqv, AC.eqv, eqvl, eqvt, Sl.eqv, List.map_append, List.length_map, List.length_append, List.length_replicate, List.length_set, List.map_replicate, nilVC, sd_23, el_23, zr_3, sz_3]
  refine ⟨by omega, ?_⟩
  refine loopI (J := {i : Nat // i ≤ X.length}) (fun i => ⟨slots 22 [(0, .c (.sl a.up X.length c)), (3, .c (.sl ⟨.loc 0, 0, 0, 0⟩ X.length X.length)), (4, I i.1)], M, [], [rowG true 3 X.length (fill X i.1 0)]⟩) (fun i => X.length - i.1) ⟨0, by omega⟩ (Le_intro [0] (by simp [WL, WNL, swA_new, swA_ne, nest_sw_ne, mapLL, List.mem_cons, Nat.reduceAdd, Nat.reduceLT, Nat.reduceLeDiff, Nat.reduceEqDiff, okU, List.nodup_cons, List.not_mem_nil, toT, toL, toO, keysO, renl, rent, cll, clt, eq_self, AV.eqv, AC.eqv, eqvl, eqvt, Sl.eqv, rowsLe, mapLL, rowsCl, List.map_append, List.length_map, List.length_append, List.length_set, List.map_replicate, rowG, List.getElem?_cons_zero, List.getElem?_cons_succ, List.getElem?_nil, List.append_nil, List.nil_append, List.cons_append, ghosts, St.gh, Option.some.injEq, implies_true, setT, AV.ren, AC.ren, AV.cl, AC.cl, List.replicate_succ, List.replicate_zero, List.nodup_nil, List.length_nil, List.length_cons, List.getD_cons_zero, List.getD_cons_succ, ↓reduceIte, fill_zero])) ?_
  rintro ⟨i, hi⟩
  have hw := wS (i := i) (by omega)
  rcases Nat.lt_or_ge i X.length with hlt | hge
  · obtain ⟨own, ty, cnt, cap, len, get, hM, hf, hic, hkn, hget⟩ := hat (by omega)
    simp only [↓WP, ↓grdD, ↓grdT, ↓un_dead, ↓binVC, ↓buildVC, ↓sliceVC, WQ, WN, Int.reduceToNat, renl, cll, rent, clt, ↓reduceIte, Nat.reduceLeDiff, Nat.reduceEqDiff, Nat.reduceLT, reduceCtorEq, List.append_nil, Nat.reduceAdd, Nat.reduceSub, Nat.reduceBEq, forall_const, implies_true, cond_true, cond_false, AV.ren, AC.ren, AV.cl, AC.cl, eq_self, List.all_cons, List.all_nil, AV.eqv, AC.eqv, eqvl, eqvt, Sl.eqv, List.map_append, List.length_map, List.length_append, List.length_replicate, List.length_set, List.map_replicate, nilVC, sd_23, el_23, zr_3, sz_3, dlt hlt, hw, hM, hf, hget i hlt, fill_length]
    repeat refine ⟨by omega, ?_⟩
    refine ⟨⟨i + 1, hlt⟩, Le_intro [0] ?_, by show X.length - (i + 1) < X.length - i; omega⟩
    simp only [WL, WNL, swA_new, swA_ne, nest_sw_ne, mapLL, List.mem_cons, Nat.reduceAdd, Nat.reduceLT, Nat.reduceLeDiff, Nat.reduceEqDiff, okU, List.nodup_cons, List.not_mem_nil, toT, toL, toO, keysO, renl, rent, cll, clt, eq_self, AV.eqv, AC.eqv, eqvl, eqvt, Sl.eqv, rowsLe, mapLL, rowsCl, List.map_append, List.length_map, List.length_append, List.length_set, List.map_replicate, rowG, List.getElem?_cons_zero, List.getElem?_cons_succ, List.getElem?_nil, List.append_nil, List.nil_append, List.cons_append, ghosts, St.gh, Option.some.injEq, implies_true, setT, AV.ren, AC.ren, AV.cl, AC.cl, List.replicate_succ, List.replicate_zero, List.nodup_nil, List.length_nil, List.length_cons, List.getD_cons_zero, List.getD_cons_succ, ↓reduceIte, ← fill_set X i 0 default hlt, List.map_set]
    try simp
  · obtain rfl : i = X.length := by omega
    simp only [↓WP, ↓grdD, ↓grdT, ↓un_dead, ↓binVC, ↓buildVC, ↓sliceVC, WQ, WN, Int.reduceToNat, renl, cll, rent, clt, ↓reduceIte, Nat.reduceLeDiff, Nat.reduceEqDiff, Nat.reduceLT, reduceCtorEq, List.append_nil, Nat.reduceAdd, Nat.reduceSub, Nat.reduceBEq, forall_const, implies_true, cond_true, cond_false, AV.ren, AC.ren, AV.cl, AC.cl, eq_self, List.all_cons, List.all_nil, AV.eqv, AC.eqv, eqvl, eqvt, Sl.eqv, List.map_append, List.length_map, List.length_append, List.length_replicate, List.length_set, List.map_replicate, nilVC, sd_23, el_23, zr_3, sz_3, dge hge, hw]
    refine end_ret ?_
    simp only [↓WP, ↓grdD, ↓grdT, ↓un_dead, ↓binVC, ↓buildVC, ↓sliceVC, WQ, WN, Int.reduceToNat, renl, cll, rent, clt, ↓reduceIte, Nat.reduceLeDiff, Nat.reduceEqDiff, Nat.reduceLT, reduceCtorEq, List.append_nil, Nat.reduceAdd, Nat.reduceSub, Nat.reduceBEq, forall_const, implies_true, cond_true, cond_false, AV.ren, AC.ren, AV.cl, AC.cl, eq_self, List.all_cons, List.all_nil, AV.eqv, AC.eqv, eqvl, eqvt, Sl.eqv, List.map_append, List.length_map, List.length_append, List.length_replicate, List.length_set, List.map_replicate, nilVC, sd_23, el_23, zr_3, sz_3]
    refine ⟨(), [], [0], ?_⟩
    simp only [WL, WNL, swA_new, swA_ne, nest_sw_ne, mapLL, List.mem_cons, Nat.reduceAdd, Nat.reduceLT, Nat.reduceLeDiff, Nat.reduceEqDiff, okU, List.nodup_cons, List.not_mem_nil, toT, toL, toO, keysO, renl, rent, cll, clt, eq_self, AV.eqv, AC.eqv, eqvl, eqvt, Sl.eqv, rowsLe, mapLL, rowsCl, List.map_append, List.length_map, List.length_append, List.length_set, List.map_replicate, rowG, List.getElem?_cons_zero, List.getElem?_cons_succ, List.getElem?_nil, List.append_nil, List.nil_append, List.cons_append, ghosts, St.gh, Option.some.injEq, implies_true, setT, AV.ren, AC.ren, AV.cl, AC.cl, List.replicate_succ, List.replicate_zero, List.nodup_nil, List.length_nil, List.length_cons, List.getD_cons_zero, List.getD_cons_succ, ↓reduceIte, retP, fill_all]
    try simp
theorem q_laws_toIntS : Quiet c_laws_toIntS := by
  intro args M
  unfold c_laws_toIntS
  dsimp only
  split <;> first | trivial | (intro _; rfl)
def c_laws_toIntSS : Contract := ⟨49, fun args M => match args with
  | [.c (.sl a n _)] => .eff (Row2Ok Int a n M) Unit (fun _ => True) (fun _ => .c (.sl ⟨.loc 0, 0, 0, 0⟩ n n)) (fun _ => [.rows true 23 1 [(n, nestC (.loc 1) (own1 (row2 Int a n M)))], .rows true 3 1 (mems (own1 (row2 Int a n M)))]) (fun _ => [])
  | _ => .bad⟩
theorem ok_laws_toIntSS : fnP Try.prog c_laws_toIntSS.f = true ∧ ∀ args M, (c_laws_toIntSS.sp args M).OK Try.prog c_laws_toIntSS.f args M := by
  refine ⟨fp_49, fun args M => ?_⟩
  unfold c_laws_toIntSS
  dsimp only
  split
  case h_2 => trivial
  rename_i a n c
  intro hrow
  obtain ⟨hs, X, hX, rfl, hat⟩ := hrow.x
  rw [hX]
  refine goIn hf_49 rfl (nt := 23) rfl (rs := [.tmp 2]) rfl (C := [c_laws_toIntS]) ⟨(by first | exact .inl ok_laws_toIntS | exact ok_laws_toIntS), trivial⟩ (q := fun _ => false) okQ_none mixed (O := fun _ => .nil) (by kernel_rfl) ?_
  simp only [↓WP, ↓grdD, ↓grdT, ↓un_dead, ↓binVC, ↓buildVC, ↓sliceVC, WQ, WN, Int.reduceToNat, renl, cll, rent, clt, ↓reduceIte, Nat.reduceLeDiff, Nat.reduceEqDiff, Nat.reduceLT, reduceCtorEq, List.append_nil, Nat.reduceAdd, Nat.reduceSub, Nat.reduceBEq, forall_const, implies_true, cond_true, cond_false, AV.ren, AC.ren, AV.cl, AC.cl, eq_self, List.all_cons, List.all_nil, AV.eqv, AC.eqv, eqvl, eqvt, Sl.eqv, List.map_append, List.length_map, List.length_append, List.length_replicate, List.length_set, List.map_replicate, nilVC, sd_22, el_22, zr_23, sz_23, c_laws_toIntS]
  refine ⟨by omega, ?_⟩
  refine loopI (J := {i : Nat // i ≤ X.length}) (fun i => ⟨slots 23 [(0, .c (.sl a.up X.length c)), (3, .c (.sl ⟨.loc 0, 0, 0, 0⟩ X.length X.length)), (4, I i.1)], M, [], [.rows true 23 1 [(X.length, nestC (.loc 1) (fill (own1 X) i.1 (0, [])))], .rows true 3 1 (mems (fill (own1 X) i.1 (0, [])))]⟩) (fun i => X.length - i.1) ⟨0, by omega⟩
    (Le.trans (Le_fam 3 1 X.length) (Le.trans (Le_eqv (j := 0) true 23 1 (nestC (.loc 1) (List.replicate X.length ((0 : Nat), ([] : List Int)))) rfl nest_rep) (Le_intro [0, 1] (by simp only [WL, WNL, swA_new, swA_ne, nest_sw_ne, mapLL, List.mem_cons, Nat.reduceAdd, Nat.reduceLT, Nat.reduceLeDiff, Nat.reduceEqDiff, okU, List.nodup_cons, List.not_mem_nil, toT, toL, toO, keysO, renl, rent, cll, clt, eq_self, AV.eqv, AC.eqv, eqvl, eqvt, Sl.eqv, rowsLe, mapLL, rowsCl, List.map_append, List.length_map, List.length_append, List.length_set, List.map_replicate, rowG, List.getElem?_cons_zero, List.getElem?_cons_succ, List.getElem?_nil, List.append_nil, List.nil_append, List.cons_append, ghosts, St.gh, Option.some.injEq, implies_true, setT, AV.ren, AC.ren, AV.cl, AC.cl, List.replicate_succ, List.replicate_zero, List.nodup_nil, List.length_nil, List.length_cons, List.getD_cons_zero, List.getD_cons_succ, ↓reduceIte, fill_zero, own1_length, mems_rep]; try simp)))) ?_
  rintro ⟨i, hi⟩
  have hw := wS (i := i) (by omega)
  rcases Nat.lt_or_ge i X.length with hlt | hge
  · obtain ⟨own, ty, cnt, cap, len, get, b, cc, hM, hf, hic, hkn, hget⟩ := hat (by omega)
    obtain ⟨g1, g2, g3, g4⟩ := hget i hlt
    have hl : (fill (own1 X) i (0, [])).length = X.length := by rw [fill_length, own1_length]
    have hfs := fill_set (own1 X) i (0, []) default (by rw [own1_length]; exact hlt)
    rw [own1_get hlt] at hfs
    simp only [↓WP, ↓grdD, ↓grdT, ↓un_dead, ↓binVC, ↓buildVC, ↓sliceVC, WQ, WN, Int.reduceToNat, renl, cll, rent, clt, ↓reduceIte, Nat.reduceLeDiff, Nat.reduceEqDiff, Nat.reduceLT, reduceCtorEq, List.append_nil, Nat.reduceAdd, Nat.reduceSub, Nat.reduceBEq, forall_const, implies_true, cond_true, cond_false, AV.ren, AC.ren, AV.cl, AC.cl, eq_self, List.all_cons, List.all_nil, AV.eqv, AC.eqv, eqvl, eqvt, Sl.eqv, List.map_append, List.length_map, List.length_append, List.length_replicate, List.length_set, List.map_replicate, nilVC, sd_22, el_22, zr_23, sz_23, c_laws_toIntS, dlt hlt, hw, hM, hf, g1, g3, g4, hl]
    repeat refine ⟨by omega, ?_⟩
    refine ⟨⟨i + 1, hlt⟩, Le.trans (Le_swap (j := 1) (j2 := 2) (i0 := i) true 3 1 (mems (fill (own1 X) i (0, []))) (by decide) rfl rfl (by rw [mems_len, hl]; exact hlt)) (Le_intro [0, 1] ?_), by show X.length - (i + 1) < X.length - i; omega⟩
    simp only [WL, WNL, swA_new, swA_ne, nest_sw_ne, mapLL, List.mem_cons, Nat.reduceAdd, Nat.reduceLT, Nat.reduceLeDiff, Nat.reduceEqDiff, okU, List.nodup_cons, List.not_mem_nil, toT, toL, toO, keysO, renl, rent, cll, clt, eq_self, AV.eqv, AC.eqv, eqvl, eqvt, Sl.eqv, rowsLe, mapLL, rowsCl, List.map_append, List.length_map, List.length_append, List.length_set, List.map_replicate, rowG, List.getElem?_cons_zero, List.getElem?_cons_succ, List.getElem?_nil, List.append_nil, List.nil_append, List.cons_append, ghosts, St.gh, Option.some.injEq, implies_true, setT, AV.ren, AC.ren, AV.cl, AC.cl, List.replicate_succ, List.replicate_zero, List.nodup_nil, List.length_nil, List.length_cons, List.getD_cons_zero, List.getD_cons_succ, ↓reduceIte, nest_sw_set (j := 1) (j2 := 2) (by decide) (X := X.getD i default) rfl, hfs]
  · obtain rfl : i = X.length := by omega
    simp only [↓WP, ↓grdD, ↓grdT, ↓un_dead, ↓binVC, ↓buildVC, ↓sliceVC, WQ, WN, Int.reduceToNat, renl, cll, rent, clt, ↓reduceIte, Nat.reduceLeDiff, Nat.reduceEqDiff, Nat.reduceLT, reduceCtorEq, List.append_nil, Nat.reduceAdd, Nat.reduceSub, Nat.reduceBEq, forall_const, implies_true, cond_true, cond_false, AV.ren, AC.ren, AV.cl, AC.cl, eq_self, List.all_cons, List.all_nil, AV.eqv, AC.eqv, eqvl, eqvt, Sl.eqv, List.map_append, List.length_map, List.length_append, List.length_replicate, List.length_set, List.map_replicate, nilVC, sd_22, el_22, zr_23, sz_23, c_laws_toIntS, dge hge, hw]
    have hfa : fill (own1 X) X.length (0, []) = own1 X := by have := fill_all (own1 X) (0, []); rwa [own1_length] at this
    refine end_ret ?_
    simp only [↓WP, ↓grdD, ↓grdT, ↓un_dead, ↓binVC, ↓buildVC, ↓sliceVC, WQ, WN, Int.reduceToNat, renl, cll, rent, clt, ↓reduceIte, Nat.reduceLeDiff, Nat.reduceEqDiff, Nat.reduceLT, reduceCtorEq, List.append_nil, Nat.reduceAdd, Nat.reduceSub, Nat.reduceBEq, forall_const, implies_true, cond_true, cond_false, AV.ren, AC.ren, AV.cl, AC.cl, eq_self, List.all_cons, List.all_nil, AV.eqv, AC.eqv, eqvl, eqvt, Sl.eqv, List.map_append, List.length_map, List.length_append, List.length_replicate, List.length_set, List.map_replicate, nilVC, sd_22, el_22, zr_23, sz_23, c_laws_toIntS]
    refine ⟨(), [], [0, 1], ?_⟩
    simp only [WL, WNL, swA_new, swA_ne, nest_sw_ne, mapLL, List.mem_cons, Nat.reduceAdd, Nat.reduceLT, Nat.reduceLeDiff, Nat.reduceEqDiff, okU, List.nodup_cons, List.not_mem_nil, toT, toL, toO, keysO, renl, rent, cll, clt, eq_self, AV.eqv, AC.eqv, eqvl, eqvt, Sl.eqv, rowsLe, mapLL, rowsCl, List.map_append, List.length_map, List.length_append, List.length_set, List.map_replicate, rowG, List.getElem?_cons_zero, List.getElem?_cons_succ, List.getElem?_nil, List.append_nil, List.nil_append, List.cons_append, ghosts, St.gh, Option.some.injEq, implies_true, setT, AV.ren, AC.ren, AV.cl, AC.cl, List.replicate_succ, List.replicate_zero, List.nodup_nil, List.length_nil, List.length_cons, List.getD_cons_zero, List.getD_cons_succ, ↓reduceIte, retP, hfa]
    try simp
theorem q_laws_toIntSS : Quiet c_laws_toIntSS := by
  intro args M
  unfold c_laws_toIntSS
  dsimp only
  split <;> first | trivial | (intro _; rfl)
def c_laws_szIntS : Contract := ⟨47, fun args M => match args with
  | [.c (.sl _ n _), .c (.int .i64 left)] => .pure (0 ≤ left ∧ left ≤ 1048576 ∧ n ≤ 9223372036854775807) (I (if left < n then -1 else left - n))
  | _ => .bad⟩
theorem ok_laws_szIntS : fnP Try.prog c_laws_szIntS.f = true ∧ ∀ args M, (c_laws_szIntS.sp args M).OK Try.prog c_laws_szIntS.f args M := by
  refine ⟨fp_47, fun args M => ?_⟩
  unfold c_laws_szIntS
  dsimp only
  split
  case h_2 => trivial
  rename_i _ n _ left
  rintro ⟨h1, h2, h3⟩
  refine goIn hf_47 rfl (nt := 12) rfl (rs := [.tmp 4]) rfl (C := []) trivial (q := fun _ => false) okQ_none mixed (O := fun _ => .nil) (by kernel_rfl) ?_
  simp only [↓WP, ↓grdD, ↓grdT, ↓un_dead, ↓binVC, ↓buildVC, ↓sliceVC, WQ, WN, Int.reduceToNat, renl, cll, rent, clt, ↓reduceIte, Nat.reduceLeDiff, Nat.reduceEqDiff, Nat.reduceLT, reduceCtorEq, List.append_nil, Nat.reduceAdd, Nat.reduceSub, Nat.reduceBEq, forall_const, implies_true, cond_true, cond_false, AV.ren, AC.ren, AV.cl, AC.cl, eq_self, List.all_cons, List.all_nil, AV.eqv, AC.eqv, eqvl, eqvt, Sl.eqv, List.map_append, List.length_map, List.length_append, List.length_replicate, List.length_set, List.map_replicate, nilVC, sd_23]
  rw [w64 (by omega) (by omega)]
  by_cases h : left < n
  · simp [h]; omega
  · simp [h]; omega
theorem q_laws_szIntS : Quiet c_laws_szIntS := by
  intro args M
  unfold c_laws_szIntS
  dsimp only
  split <;> first | trivial | (intro _; rfl)
def c_laws_eqIntS : Contract := ⟨41, fun args M => match args with
  | [.c (.sl a n _), .c (.sl b m _)] => .pure (RowOk Int a n (M a.r) ∧ RowOk Int b m (M b.r)) (Eng.B (decide (row Int a n (M a.r) = row Int b m (M b.r))))
  | _ => .bad⟩
theorem ok_laws_eqIntS : fnP Try.prog c_laws_eqIntS.f = true ∧ ∀ args M, (c_laws_eqIntS.sp args M).OK Try.prog c_laws_eqIntS.f args M := by
  refine ⟨fp_41, fun args M => ?_⟩
  unfold c_laws_eqIntS
  dsimp only
  split
  case h_2 => trivial
  rename_i a n ca b m cb
  rintro ⟨ha, hb⟩
  obtain ⟨hs, X, hX, rfl, hat⟩ := ha.x
  obtain ⟨hs', Y, hY, rfl, hbt⟩ := hb.x
  rw [hX, hY]
  refine goIn hf_41 rfl (nt := 26) rfl (rs := [.tmp 4]) rfl (C := []) trivial (q := fun f => [].contains f) trivial mixed (O := ots [(6, otl [0, 1, 2, 3, 4, 5, 6, 7, 8] .nil)]) (by kernel_rfl) ?_
  simp only [↓WP, ↓grdD, ↓grdT, ↓un_dead, ↓binVC, ↓buildVC, ↓sliceVC, WQ, WN, Int.reduceToNat, renl, cll, rent, clt, ↓reduceIte, Nat.reduceLeDiff, Nat.reduceEqDiff, Nat.reduceLT, reduceCtorEq, List.append_nil, Nat.reduceAdd, Nat.reduceSub, Nat.reduceBEq, forall_const, implies_true, cond_true, cond_false, AV.ren, AC.ren, AV.cl, AC.cl, eq_self, List.all_cons, List.all_nil, AV.eqv, AC.eqv, eqvl, eqvt, Sl.eqv, List.map_append, List.length_map, List.length_append, List.length_replicate, List.length_set, List.map_replicate, nilVC, sd_23, el_23, sz_3]
  refine ⟨fun h => ?_, fun h => ?_⟩
  · have : X ≠ Y := by rintro rfl; simp at h
    simp [this]
  · have hl : X.length = Y.length := by simp at h; omega
    refine loopI (J := {i : Nat // i ≤ X.length ∧ X.take i = Y.take i}) (fun i => ⟨slots 26 [(0, .c (.sl a.up X.length ca)), (1, .c (.sl b.up Y.length cb)), (5, I i.1)], M, [], []⟩) (fun i => X.length - i.1) ⟨0, by omega, rfl⟩ (Le_intro [] (by simp [WL, WNL, swA_new, swA_ne, nest_sw_ne, mapLL, List.mem_cons, Nat.reduceAdd, Nat.reduceLT, Nat.reduceLeDiff, Nat.reduceEqDiff, okU, List.nodup_cons, List.not_mem_nil, toT, toL, toO, keysO, renl, rent, cll, clt, eq_self, AV.eqv, AC.eqv, eqvl, eqvt, Sl.eqv, rowsLe, mapLL, rowsCl, List.map_append, List.length_map, List.length_append, List.length_set, List.map_replicate, rowG, List.getElem?_cons_zero, List.getElem?_cons_succ, List.getElem?_nil, List.append_nil, List.nil_append, List.cons_append, ghosts, St.gh, Option.some.injEq, implies_true, setT, AV.ren, AC.ren, AV.cl, AC.cl, List.replicate_succ, List.replicate_zero, List.nodup_nil, List.length_nil, List.length_cons, List.getD_cons_zero, List.getD_cons_succ, ↓reduceIte])) ?_
    rintro ⟨i, hi, he⟩
    have hw := wS (i := i) (by omega)
    rcases Nat.lt_or_ge i X.length with hlt | hge
    · obtain ⟨own, ty, cnt, cap, len, get, hM, hf, hic, hkn, hget⟩ := hat (by omega)
      obtain ⟨own', ty', cnt', cap', len', get', hM', hf', hic', hkn', hget'⟩ := hbt (by omega)
      simp only [↓WP, ↓grdD, ↓grdT, ↓un_dead, ↓binVC, ↓buildVC, ↓sliceVC, WQ, WN, Int.reduceToNat, renl, cll, rent, clt, ↓reduceIte, Nat.reduceLeDiff, Nat.reduceEqDiff, Nat.reduceLT, reduceCtorEq, List.append_nil, Nat.reduceAdd, Nat.reduceSub, Nat.reduceBEq, forall_const, implies_true, cond_true, cond_false, AV.ren, AC.ren, AV.cl, AC.cl, eq_self, List.all_cons, List.all_nil, AV.eqv, AC.eqv, eqvl, eqvt, Sl.eqv, List.map_append, List.length_map, List.length_append, List.length_replicate, List.length_set, List.map_replicate, nilVC, sd_23, el_23, sz_3, dlt hlt, hw, hM, hf, hget i hlt, hM', hf', hget' i (by omega)]
      repeat refine ⟨by omega, ?_⟩
      refine ⟨fun h1 => ?_, fun h1 => ?_⟩
      · have := ne_of_getD (X := X) (Y := Y) (i := i) (by simpa using h1)
        simp [this]
      · exact ⟨⟨i + 1, hlt, eq_step he hlt (by omega) (by simpa using h1)⟩, Le_intro [] (by simp [WL, WNL, swA_new, swA_ne, nest_sw_ne, mapLL, List.mem_cons, Nat.reduceAdd, Nat.reduceLT, Nat.reduceLeDiff, Nat.reduceEqDiff, okU, List.nodup_cons, List.not_mem_nil, toT, toL, toO, keysO, renl, rent, cll, clt, eq_self, AV.eqv, AC.eqv, eqvl, eqvt, Sl.eqv, rowsLe, mapLL, rowsCl, List.map_append, List.length_map, List.length_append, List.length_set, List.map_replicate, rowG, List.getElem?_cons_zero, List.getElem?_cons_succ, List.getElem?_nil, List.append_nil, List.nil_append, List.cons_append, ghosts, St.gh, Option.some.injEq, implies_true, setT, AV.ren, AC.ren, AV.cl, AC.cl, List.replicate_succ, List.replicate_zero, List.nodup_nil, List.length_nil, List.length_cons, List.getD_cons_zero, List.getD_cons_succ, ↓reduceIte]), by show X.length - (i + 1) < X.length - i; omega⟩
    · obtain rfl : i = X.length := by omega
      simp only [↓WP, ↓grdD, ↓grdT, ↓un_dead, ↓binVC, ↓buildVC, ↓sliceVC, WQ, WN, Int.reduceToNat, renl, cll, rent, clt, ↓reduceIte, Nat.reduceLeDiff, Nat.reduceEqDiff, Nat.reduceLT, reduceCtorEq, List.append_nil, Nat.reduceAdd, Nat.reduceSub, Nat.reduceBEq, forall_const, implies_true, cond_true, cond_false, AV.ren, AC.ren, AV.cl, AC.cl, eq_self, List.all_cons, List.all_nil, AV.eqv, AC.eqv, eqvl, eqvt, Sl.eqv, List.map_append, List.length_map, List.length_append, List.length_replicate, List.length_set, List.map_replicate, nilVC, sd_23, el_23, sz_3, dge hge, hw]
      simp [eq_of_take hl he]
theorem q_laws_eqIntS : Quiet c_laws_eqIntS := by
  intro args M
  unfold c_laws_eqIntS
  dsimp only
  split <;> first | trivial | (intro _; rfl)
def c_laws_heldIntS : Contract := ⟨45, fun args M => match args with
  | [.c (.sl a n _), .c (.int .i64 k)] => .pure (RowOk Int a n (M a.r) ∧ 0 ≤ k ∧ k ≤ 4611686018427387904) (I (if row Int a n (M a.r) = mark1 k n then k + n else -1))
  | _ => .bad⟩
theorem ok_laws_heldIntS : fnP Try.prog c_laws_heldIntS.f = true ∧ ∀ args M, (c_laws_heldIntS.sp args M).OK Try.prog c_laws_heldIntS.f args M := by
  refine ⟨fp_45, fun args M => ?_⟩
  unfold c_laws_heldIntS
  dsimp only
  split
  case h_2 => trivial
  rename_i a n ca k
  rintro ⟨hrow, h1, h2⟩
  obtain ⟨hs, X, hX, rfl, hat⟩ := hrow.x
  rw [hX]
  refine goIn hf_45 rfl (nt := 21) rfl (rs := [.tmp 4]) rfl (C := []) trivial (q := fun _ => false) okQ_none mixed (O := fun _ => .nil) (by kernel_rfl) ?_
  simp only [↓WP, ↓grdD, ↓grdT, ↓un_dead, ↓binVC, ↓buildVC, ↓sliceVC, WQ, WN, Int.reduceToNat, renl, cll, rent, clt, ↓reduceIte, Nat.reduceLeDiff, Nat.reduceEqDiff, Nat.reduceLT, reduceCtorEq, List.append_nil, Nat.reduceAdd, Nat.reduceSub, Nat.reduceBEq, forall_const, implies_true, cond_true, cond_false, AV.ren, AC.ren, AV.cl, AC.cl, eq_self, List.all_cons, List.all_nil, AV.eqv, AC.eqv, eqvl, eqvt, Sl.eqv, List.map_append, List.length_map, List.length_append, List.length_replicate, List.length_set, List.map_replicate, nilVC, sd_23, el_23, sz_3]
  refine loopI (J := {i : Nat // i ≤ X.length ∧ X.take i = (mark1 k X.length).take i}) (fun i => ⟨slots 21 [(0, .c (.sl a.up X.length ca)), (1, I (k + (i.1 : Int))), (5, I i.1)], M, [], []⟩) (fun i => X.length - i.1) ⟨0, by omega, rfl⟩ (Le_intro [] (by simp [WL, WNL, swA_new, swA_ne, nest_sw_ne, mapLL, List.mem_cons, Nat.reduceAdd, Nat.reduceLT, Nat.reduceLeDiff, Nat.reduceEqDiff, okU, List.nodup_cons, List.not_mem_nil, toT, toL, toO, keysO, renl, rent, cll, clt, eq_self, AV.eqv, AC.eqv, eqvl, eqvt, Sl.eqv, rowsLe, mapLL, rowsCl, List.map_append, List.length_map, List.length_append, List.length_set, List.map_replicate, rowG, List.getElem?_cons_zero, List.getElem?_cons_succ, List.getElem?_nil, List.append_nil, List.nil_append, List.cons_append, ghosts, St.gh, Option.some.injEq, implies_true, setT, AV.ren, AC.ren, AV.cl, AC.cl, List.replicate_succ, List.replicate_zero, List.nodup_nil, List.length_nil, List.length_cons, List.getD_cons_zero, List.getD_cons_succ, ↓reduceIte])) ?_
  rintro ⟨i, hi, he⟩
  have hw := wS (i := i) (by omega)
  rcases Nat.lt_or_ge i X.length with hlt | hge
  · obtain ⟨own, ty, cnt, cap, len, get, hM, hf, hic, hkn, hget⟩ := hat (by omega)
    have w1 : IntKind.i64.wrap (k + (i : Int) + 1) = k + ((i + 1 : Nat) : Int) := by rw [w64 (by omega) (by omega)]; omega
    have hm := mark1_get k hlt
    simp only [↓WP, ↓grdD, ↓grdT, ↓un_dead, ↓binVC, ↓buildVC, ↓sliceVC, WQ, WN, Int.reduceToNat, renl, cll, rent, clt, ↓reduceIte, Nat.reduceLeDiff, Nat.reduceEqDiff, Nat.reduceLT, reduceCtorEq, List.append_nil, Nat.reduceAdd, Nat.reduceSub, Nat.reduceBEq, forall_const, implies_true, cond_true, cond_false, AV.ren, AC.ren, AV.cl, AC.cl, eq_self, List.all_cons, List.all_nil, AV.eqv, AC.eqv, eqvl, eqvt, Sl.eqv, List.map_append, List.length_map, List.length_append, List.length_replicate, List.length_set, List.map_replicate, nilVC, sd_23, el_23, sz_3, dlt hlt, hw, hM, hf, hget i hlt, w1]
    simp only [WB, eq_self]
    repeat refine ⟨by omega, ?_⟩
    refine ⟨fun h => ?_, fun h => ?_⟩
    · rw [if_neg fun e => h (by rw [← hm, ← e])]
    · exact ⟨⟨i + 1, hlt, eq_step he hlt (by rw [mark1_length]; exact hlt) (by rw [hm]; simpa using h)⟩, Le_intro [] (by simp [WL, WNL, swA_new, swA_ne, nest_sw_ne, mapLL, List.mem_cons, Nat.reduceAdd, Nat.reduceLT, Nat.reduceLeDiff, Nat.reduceEqDiff, okU, List.nodup_cons, List.not_mem_nil, toT, toL, toO, keysO, renl, rent, cll, clt, eq_self, AV.eqv, AC.eqv, eqvl, eqvt, Sl.eqv, rowsLe, mapLL, rowsCl, List.map_append, List.length_map, List.length_append, List.length_set, List.map_replicate, rowG, List.getElem?_cons_zero, List.getElem?_cons_succ, List.getElem?_nil, List.append_nil, List.nil_append, List.cons_append, ghosts, St.gh, Option.some.injEq, implies_true, setT, AV.ren, AC.ren, AV.cl, AC.cl, List.replicate_succ, List.replicate_zero, List.nodup_nil, List.length_nil, List.length_cons, List.getD_cons_zero, List.getD_cons_succ, ↓reduceIte]), by show X.length - (i + 1) < X.length - i; omega⟩
  · obtain rfl : i = X.length := by omega
    simp only [↓WP, ↓grdD, ↓grdT, ↓un_dead, ↓binVC, ↓buildVC, ↓sliceVC, WQ, WN, Int.reduceToNat, renl, cll, rent, clt, ↓reduceIte, Nat.reduceLeDiff, Nat.reduceEqDiff, Nat.reduceLT, reduceCtorEq, List.append_nil, Nat.reduceAdd, Nat.reduceSub, Nat.reduceBEq, forall_const, implies_true, cond_true, cond_false, AV.ren, AC.ren, AV.cl, AC.cl, eq_self, List.all_cons, List.all_nil, AV.eqv, AC.eqv, eqvl, eqvt, Sl.eqv, List.map_append, List.length_map, List.length_append, List.length_replicate, List.length_set, List.map_replicate, nilVC, sd_23, el_23, sz_3, dge hge, hw]
    rw [if_pos (eq_of_take (by rw [mark1_length]) he)]
theorem q_laws_heldIntS : Quiet c_laws_heldIntS := by
  intro args M
  unfold c_laws_heldIntS
  dsimp only
  split <;> first | trivial | (intro _; rfl)
def c_laws_markIntS : Contract := ⟨43, fun args M => match args with
  | [.c (.sl a n _), .c (.int .i64 k)] => specF Int a n (M a.r) fun X G => .eff (0 ≤ k ∧ k ≤ 4611686018427387904) Unit (fun _ => True) (fun _ => I (k + n)) (fun _ => []) (fun _ => [(a.r, G (mark1 k n))])
  | _ => .bad⟩
theorem ok_laws_markIntS : fnP Try.prog c_laws_markIntS.f = true ∧ ∀ args M, (c_laws_markIntS.sp args M).OK Try.prog c_laws_markIntS.f args M := by
  refine ⟨fp_43, fun args M => ?_⟩
  unfold c_laws_markIntS
  dsimp only
  split
  case h_2 => trivial
  rename_i a n ca k
  refine specF_cases fun ty cnt cap len get X hM hX hlen hs hi0 hln hget hk0 hf0 => ?_
  rintro ⟨h1, h2⟩
  subst hlen
  refine goIn hf_43 rfl (nt := 19) rfl (rs := [.tmp 4]) rfl (C := []) trivial (q := fun _ => false) okQ_none mixed (O := fun _ => .nil) (by kernel_rfl) ?_
  simp only [↓WP, ↓grdD, ↓grdT, ↓un_dead, ↓binVC, ↓buildVC, ↓sliceVC, WQ, WN, Int.reduceToNat, renl, cll, rent, clt, ↓reduceIte, Nat.reduceLeDiff, Nat.reduceEqDiff, Nat.reduceLT, reduceCtorEq, List.append_nil, Nat.reduceAdd, Nat.reduceSub, Nat.reduceBEq, forall_const, implies_true, cond_true, cond_false, AV.ren, AC.ren, AV.cl, AC.cl, eq_self, List.all_cons, List.all_nil, AV.eqv, AC.eqv, eqvl, eqvt, Sl.eqv, List.map_append, List.length_map, List.length_append, List.length_replicate, List.length_set, List.map_replicate, nilVC, sd_23, el_23, sz_3]
  have hle := memU_le (ty := ty) (s := 1) (cnt := cnt) (cap := cap) hln hget
  refine loopI (J := {i : Nat // i ≤ X.length}) (fun i => ⟨slots 19 [(0, .c (.sl a.up X.length ca)), (1, I (k + (i.1 : Int))), (5, I i.1)], M, [(a.r, .rows true ty 1 ((memU cnt cap len get).set a.i (cap a.i, (over (mark1 k X.length) X i.1).map enc)))], []⟩) (fun i => X.length - i.1) ⟨0, by omega⟩ (Le_intro [] (by simp only [WL, WNL, swA_new, swA_ne, nest_sw_ne, mapLL, List.mem_cons, Nat.reduceAdd, Nat.reduceLT, Nat.reduceLeDiff, Nat.reduceEqDiff, okU, List.nodup_cons, List.not_mem_nil, toT, toL, toO, keysO, renl, rent, cll, clt, eq_self, AV.eqv, AC.eqv, eqvl, eqvt, Sl.eqv, rowsLe, mapLL, rowsCl, List.map_append, List.length_map, List.length_append, List.length_set, List.map_replicate, rowG, List.getElem?_cons_zero, List.getElem?_cons_succ, List.getElem?_nil, List.append_nil, List.nil_append, List.cons_append, ghosts, St.gh, Option.some.injEq, implies_true, setT, AV.ren, AC.ren, AV.cl, AC.cl, List.replicate_succ, List.replicate_zero, List.nodup_nil, List.length_nil, List.length_cons, List.getD_cons_zero, List.getD_cons_succ, ↓reduceIte, hM, over_zero, memU_ren, memU_cl, hle, up_arr]; simp)) ?_
  rintro ⟨i, hi⟩
  have hw := wS (i := i) (by omega)
  have hol : (over (mark1 k X.length) X i).length = X.length := over_length _ _ _ (mark1_length _ _)
  rcases Nat.lt_or_ge i X.length with hlt | hge
  · have w1 : IntKind.i64.wrap (k + (i : Int) + 1) = k + ((i + 1 : Nat) : Int) := by rw [w64 (by omega) (by omega)]; omega
    simp only [↓WP, ↓grdD, ↓grdT, ↓un_dead, ↓binVC, ↓buildVC, ↓sliceVC, WQ, WN, Int.reduceToNat, renl, cll, rent, clt, ↓reduceIte, Nat.reduceLeDiff, Nat.reduceEqDiff, Nat.reduceLT, reduceCtorEq, List.append_nil, Nat.reduceAdd, Nat.reduceSub, Nat.reduceBEq, forall_const, implies_true, cond_true, cond_false, AV.ren, AC.ren, AV.cl, AC.cl, eq_self, List.all_cons, List.all_nil, AV.eqv, AC.eqv, eqvl, eqvt, Sl.eqv, List.map_append, List.length_map, List.length_append, List.length_replicate, List.length_set, List.map_replicate, nilVC, sd_23, el_23, sz_3, dlt hlt, hw, hM, hol, hk0, hf0, w1, memU_len, memU_self hi0]
    repeat refine ⟨by omega, ?_⟩
    refine ⟨⟨i + 1, hlt⟩, Le_intro [] ?_, by show X.length - (i + 1) < X.length - i; omega⟩
    have hst := over_set (mark1 k X.length) X i default (mark1_length _ _) hlt
    rw [mark1_get k hlt] at hst
    have hme : (List.map enc (over (mark1 k X.length) X i)).set i [AC.int .i64 (k + (i : Int))] = List.map enc (over (mark1 k X.length) X (i + 1)) := by rw [← hst, List.map_set]; rfl
    simp only [WL, WNL, swA_new, swA_ne, nest_sw_ne, mapLL, List.mem_cons, Nat.reduceAdd, Nat.reduceLT, Nat.reduceLeDiff, Nat.reduceEqDiff, okU, List.nodup_cons, List.not_mem_nil, toT, toL, toO, keysO, renl, rent, cll, clt, eq_self, AV.eqv, AC.eqv, eqvl, eqvt, Sl.eqv, rowsLe, mapLL, rowsCl, List.map_append, List.length_map, List.length_append, List.length_set, List.map_replicate, rowG, List.getElem?_cons_zero, List.getElem?_cons_succ, List.getElem?_nil, List.append_nil, List.nil_append, List.cons_append, ghosts, St.gh, Option.some.injEq, implies_true, setT, AV.ren, AC.ren, AV.cl, AC.cl, List.replicate_succ, List.replicate_zero, List.nodup_nil, List.length_nil, List.length_cons, List.getD_cons_zero, List.getD_cons_succ, ↓reduceIte, List.set_set, hme, memU_ren, memU_cl]
    try simp
  · obtain rfl : i = X.length := by omega
    simp only [↓WP, ↓grdD, ↓grdT, ↓un_dead, ↓binVC, ↓buildVC, ↓sliceVC, WQ, WN, Int.reduceToNat, renl, cll, rent, clt, ↓reduceIte, Nat.reduceLeDiff, Nat.reduceEqDiff, Nat.reduceLT, reduceCtorEq, List.append_nil, Nat.reduceAdd, Nat.reduceSub, Nat.reduceBEq, forall_const, implies_true, cond_true, cond_false, AV.ren, AC.ren, AV.cl, AC.cl, eq_self, List.all_cons, List.all_nil, AV.eqv, AC.eqv, eqvl, eqvt, Sl.eqv, List.map_append, List.length_map, List.length_append, List.length_replicate, List.length_set, List.map_replicate, nilVC, sd_23, el_23, sz_3, dge hge, hw]
    refine end_ret ?_
    simp only [↓WP, ↓grdD, ↓grdT, ↓un_dead, ↓binVC, ↓buildVC, ↓sliceVC, WQ, WN, Int.reduceToNat, renl, cll, rent, clt, ↓reduceIte, Nat.reduceLeDiff, Nat.reduceEqDiff, Nat.reduceLT, reduceCtorEq, List.append_nil, Nat.reduceAdd, Nat.reduceSub, Nat.reduceBEq, forall_const, implies_true, cond_true, cond_false, AV.ren, AC.ren, AV.cl, AC.cl, eq_self, List.all_cons, List.all_nil, AV.eqv, AC.eqv, eqvl, eqvt, Sl.eqv, List.map_append, List.length_map, List.length_append, List.length_replicate, List.length_set, List.map_replicate, nilVC, sd_23, el_23, sz_3]
    refine ⟨(), [], [], ?_⟩
    simp only [WL, WNL, swA_new, swA_ne, nest_sw_ne, mapLL, List.mem_cons, Nat.reduceAdd, Nat.reduceLT, Nat.reduceLeDiff, Nat.reduceEqDiff, okU, List.nodup_cons, List.not_mem_nil, toT, toL, toO, keysO, renl, rent, cll, clt, eq_self, AV.eqv, AC.eqv, eqvl, eqvt, Sl.eqv, rowsLe, mapLL, rowsCl, List.map_append, List.length_map, List.length_append, List.length_set, List.map_replicate, rowG, List.getElem?_cons_zero, List.getElem?_cons_succ, List.getElem?_nil, List.append_nil, List.nil_append, List.cons_append, ghosts, St.gh, Option.some.injEq, implies_true, setT, AV.ren, AC.ren, AV.cl, AC.cl, List.replicate_succ, List.replicate_zero, List.nodup_nil, List.length_nil, List.length_cons, List.getD_cons_zero, List.getD_cons_succ, ↓reduceIte, retP, hM, over_all (mark1 k X.length) X (mark1_length _ _), memU_ren, memU_cl]
    simp [okU, hM]
def c_laws_szIntSS : Contract := ⟨46, fun args M => match args with
  | [.c (.sl a n _), .c (.int .i64 left)] => .pure (0 ≤ left ∧ left ≤ 1048576 ∧ n ≤ 9223372036854775807 ∧ (n ≤ 1048576 → Row2W a n (M a.r))) (I (szN (lens2 a n (M a.r)) n left))
  | _ => .bad⟩
theorem ok_laws_szIntSS : fnP Try.prog c_laws_szIntSS.f = true ∧ ∀ args M, (c_laws_szIntSS.sp args M).OK Try.prog c_laws_szIntSS.f args M := by
  refine ⟨fp_46, fun args M => ?_⟩
  unfold c_laws_szIntSS
  dsimp only
  split
  case h_2 => trivial
  rename_i a n c left
  rintro ⟨h1, h2, h3, h4⟩
  refine goIn hf_46 rfl (nt := 27) rfl (rs := [.tmp 4]) rfl (C := [c_laws_szIntS]) ⟨(by first | exact .inl ok_laws_szIntS | exact ok_laws_szIntS), trivial⟩ (q := fun _ => false) okQ_none mixed (O := fun _ => .nil) (by kernel_rfl) ?_
  have hw0 : IntKind.i64.wrap (left - n) = left - n := w64 (by omega) (by omega)
  by_cases hb : left < n
  · have hv : szN (lens2 a n (M a.r)) n left = -1 := if_pos hb
    have hd : decide (left - (n : Int) < 0) = true := by simp only [decide_eq_true_iff]; omega
    rw [hv]
    simp only [↓WP, ↓grdD, ↓grdT, ↓un_dead, ↓binVC, ↓buildVC, ↓sliceVC, WQ, WN, Int.reduceToNat, renl, cll, rent, clt, ↓reduceIte, Nat.reduceLeDiff, Nat.reduceEqDiff, Nat.reduceLT, reduceCtorEq, List.append_nil, Nat.reduceAdd, Nat.reduceSub, Nat.reduceBEq, forall_const, implies_true, cond_true, cond_false, AV.ren, AC.ren, AV.cl, AC.cl, eq_self, List.all_cons, List.all_nil, AV.eqv, AC.eqv, eqvl, eqvt, Sl.eqv, List.map_append, List.length_map, List.length_append, List.length_replicate, List.length_set, List.map_replicate, nilVC, sd_22, el_22, sz_23, c_laws_szIntS, hw0, hd]
    try simp
  · obtain ⟨Ls, hL, hl, hat⟩ := (h4 (by omega)).x
    have hv : szN (lens2 a n (M a.r)) n left = szL Ls (left - n) := by rw [hL]; exact if_neg hb
    have hd : decide (left - (n : Int) < 0) = false := by simp only [decide_eq_false_iff_not]; omega
    rw [hv]
    simp only [↓WP, ↓grdD, ↓grdT, ↓un_dead, ↓binVC, ↓buildVC, ↓sliceVC, WQ, WN, Int.reduceToNat, renl, cll, rent, clt, ↓reduceIte, Nat.reduceLeDiff, Nat.reduceEqDiff, Nat.reduceLT, reduceCtorEq, List.append_nil, Nat.reduceAdd, Nat.reduceSub, Nat.reduceBEq, forall_const, implies_true, cond_true, cond_false, AV.ren, AC.ren, AV.cl, AC.cl, eq_self, List.all_cons, List.all_nil, AV.eqv, AC.eqv, eqvl, eqvt, Sl.eqv, List.map_append, List.length_map, List.length_append, List.length_replicate, List.length_set, List.map_replicate, nilVC, sd_22, el_22, sz_23, c_laws_szIntS, hw0, hd]
    refine loopI (J := {p : Nat × Int // p.1 ≤ n ∧ 0 ≤ p.2 ∧ p.2 ≤ 1048576 ∧ szL Ls (left - n) = szL (Ls.drop p.1) p.2}) (fun p => ⟨slots 27 [(0, .c (.sl a.up n c)), (1, I p.1.2), (5, I p.1.1)], M, [], []⟩) (fun p => n - p.1.1) ⟨(0, left - n), by omega, by show 0 ≤ left - (n : Int); omega, by show left - (n : Int) ≤ 1048576; omega, rfl⟩ (Le_intro [] (by simp [WL, WNL, swA_new, swA_ne, nest_sw_ne, mapLL, List.mem_cons, Nat.reduceAdd, Nat.reduceLT, Nat.reduceLeDiff, Nat.reduceEqDiff, okU, List.nodup_cons, List.not_mem_nil, toT, toL, toO, keysO, renl, rent, cll, clt, eq_self, AV.eqv, AC.eqv, eqvl, eqvt, Sl.eqv, rowsLe, mapLL, rowsCl, List.map_append, List.length_map, List.length_append, List.length_set, List.map_replicate, rowG, List.getElem?_cons_zero, List.getElem?_cons_succ, List.getElem?_nil, List.append_nil, List.nil_append, List.cons_append, ghosts, St.gh, Option.some.injEq, implies_true, setT, AV.ren, AC.ren, AV.cl, AC.cl, List.replicate_succ, List.replicate_zero, List.nodup_nil, List.length_nil, List.length_cons, List.getD_cons_zero, List.getD_cons_succ, ↓reduceIte])) ?_
    rintro ⟨⟨i, l⟩, hi, hl0, hl1, he⟩
    dsimp only at hi hl0 hl1 he
    have hw := wS (i := i) (by omega)
    rcases Nat.lt_or_ge i n with hlt | hge
    · obtain ⟨own, ty, cnt, cap, len, get, b, cc, hM, hf, hic, hkn, hget⟩ := hat (by omega)
      obtain ⟨g1, g2⟩ := hget i hlt
      have hst := szL_step (Ls := Ls) (i := i) (l := l) (by omega)
      simp only [↓WP, ↓grdD, ↓grdT, ↓un_dead, ↓binVC, ↓buildVC, ↓sliceVC, WQ, WN, Int.reduceToNat, renl, cll, rent, clt, ↓reduceIte, Nat.reduceLeDiff, Nat.reduceEqDiff, Nat.reduceLT, reduceCtorEq, List.append_nil, Nat.reduceAdd, Nat.reduceSub, Nat.reduceBEq, forall_const, implies_true, cond_true, cond_false, AV.ren, AC.ren, AV.cl, AC.cl, eq_self, List.all_cons, List.all_nil, AV.eqv, AC.eqv, eqvl, eqvt, Sl.eqv, List.map_append, List.length_map, List.length_append, List.length_replicate, List.length_set, List.map_replicate, nilVC, sd_22, el_22, sz_23, c_laws_szIntS, dlt hlt, hw, hM, hf, g1]
      simp only [WB, eq_self]
      repeat refine ⟨by omega, ?_⟩
      by_cases hb2 : l < Ls.getD i 0
      · rw [if_pos hb2] at hst
        rw [he, hst]
        have hb3 : (l < ((Ls.getD i 0 : Nat) : Int)) = True := eq_true hb2
        simp only [hb3]
        simp
      · rw [if_neg hb2] at hst
        have hb3 : (l < ((Ls.getD i 0 : Nat) : Int)) = False := eq_false hb2
        simp only [hb3, ↓reduceIte]
        repeat' (first | with_reducible refine And.intro ?_ ?_ | intro _)
        all_goals try omega
        exact ⟨⟨(i + 1, l - Ls.getD i 0), hlt, by show 0 ≤ l - ((Ls.getD i 0 : Nat) : Int); omega, by show l - ((Ls.getD i 0 : Nat) : Int) ≤ 1048576; omega, by rw [he, hst]⟩, Le_intro [] (by simp [WL, WNL, swA_new, swA_ne, nest_sw_ne, mapLL, List.mem_cons, Nat.reduceAdd, Nat.reduceLT, Nat.reduceLeDiff, Nat.reduceEqDiff, okU, List.nodup_cons, List.not_mem_nil, toT, toL, toO, keysO, renl, rent, cll, clt, eq_self, AV.eqv, AC.eqv, eqvl, eqvt, Sl.eqv, rowsLe, mapLL, rowsCl, List.map_append, List.length_map, List.length_append, List.length_set, List.map_replicate, rowG, List.getElem?_cons_zero, List.getElem?_cons_succ, List.getElem?_nil, List.append_nil, List.nil_append, List.cons_append, ghosts, St.gh, Option.some.injEq, implies_true, setT, AV.ren, AC.ren, AV.cl, AC.cl, List.replicate_succ, List.replicate_zero, List.nodup_nil, List.length_nil, List.length_cons, List.getD_cons_zero, List.getD_cons_succ, ↓reduceIte]), by show n - (i + 1) < n - i; omega⟩
    · obtain rfl : i = n := by omega
      simp only [↓WP, ↓grdD, ↓grdT, ↓un_dead, ↓binVC, ↓buildVC, ↓sliceVC, WQ, WN, Int.reduceToNat, renl, cll, rent, clt, ↓reduceIte, Nat.reduceLeDiff, Nat.reduceEqDiff, Nat.reduceLT, reduceCtorEq, List.append_nil, Nat.reduceAdd, Nat.reduceSub, Nat.reduceBEq, forall_const, implies_true, cond_true, cond_false, AV.ren, AC.ren, AV.cl, AC.cl, eq_self, List.all_cons, List.all_nil, AV.eqv, AC.eqv, eqvl, eqvt, Sl.eqv, List.map_append, List.length_map, List.length_append, List.length_replicate, List.length_set, List.map_replicate, nilVC, sd_22, el_22, sz_23, c_laws_szIntS, dge hge, hw]
      rw [he, List.drop_eq_nil_of_le (by omega)]
      simp [szL]
theorem q_laws_szIntSS : Quiet c_laws_szIntSS := by
  intro args M
  unfold c_laws_szIntSS
  dsimp only
  split <;> first | trivial | (intro _; rfl)
def c_laws_eqIntSS : Contract := ⟨40, fun args M => match args with
  | [.c (.sl a n _), .c (.sl b m _)] => .pure (Row2Ok Int a n M ∧ Row2Ok Int b m M) (Eng.B (decide (row2 Int a n M = row2 Int b m M)))
  | _ => .bad⟩
theorem ok_laws_eqIntSS : fnP Try.prog c_laws_eqIntSS.f = true ∧ ∀ args M, (c_laws_eqIntSS.sp args M).OK Try.prog c_laws_eqIntSS.f args M := by
  refine ⟨fp_40, fun args M => ?_⟩
  unfold c_laws_eqIntSS
  dsimp only
  split
  case h_2 => trivial
  rename_i a n ca b m cb
  rintro ⟨ha, hb⟩
  obtain ⟨hs, X, hX, rfl, hat⟩ := ha.x
  obtain ⟨hs', Y, hY, rfl, hbt⟩ := hb.x
  rw [hX, hY]
  refine goIn hf_40 rfl (nt := 27) rfl (rs := [.tmp 4]) rfl (C := [c_laws_eqIntS]) ⟨(by first | exact .inl ok_laws_eqIntS | exact ok_laws_eqIntS), trivial⟩ (q := fun f => [41].contains f) ⟨fun _ => q_laws_eqIntS, trivial⟩ mixed (O := ots [(6, otl [0, 1, 2, 3, 4, 5, 6, 7, 8, 9] .nil)]) (by kernel_rfl) ?_
  simp only [↓WP, ↓grdD, ↓grdT, ↓un_dead, ↓binVC, ↓buildVC, ↓sliceVC, WQ, WN, Int.reduceToNat, renl, cll, rent, clt, ↓reduceIte, Nat.reduceLeDiff, Nat.reduceEqDiff, Nat.reduceLT, reduceCtorEq, List.append_nil, Nat.reduceAdd, Nat.reduceSub, Nat.reduceBEq, forall_const, implies_true, cond_true, cond_false, AV.ren, AC.ren, AV.cl, AC.cl, eq_self, List.all_cons, List.all_nil, AV.eqv, AC.eqv, eqvl, eqvt, Sl.eqv, List.map_append, List.length_map, List.length_append, List.length_replicate, List.length_set, List.map_replicate, nilVC, sd_22, el_22, sz_23, c_laws_eqIntS]
  refine ⟨fun h => ?_, fun h => ?_⟩
  · have : X ≠ Y := by rintro rfl; simp at h
    simp [this]
  · have hl : X.length = Y.length := by simp at h; omega
    refine loopI (J := {i : Nat // i ≤ X.length ∧ X.take i = Y.take i}) (fun i => ⟨slots 27 [(0, .c (.sl a.up X.length ca)), (1, .c (.sl b.up Y.length cb)), (5, I i.1)], M, [], []⟩) (fun i => X.length - i.1) ⟨0, by omega, rfl⟩ (Le_intro [] (by simp [WL, WNL, swA_new, swA_ne, nest_sw_ne, mapLL, List.mem_cons, Nat.reduceAdd, Nat.reduceLT, Nat.reduceLeDiff, Nat.reduceEqDiff, okU, List.nodup_cons, List.not_mem_nil, toT, toL, toO, keysO, renl, rent, cll, clt, eq_self, AV.eqv, AC.eqv, eqvl, eqvt, Sl.eqv, rowsLe, mapLL, rowsCl, List.map_append, List.length_map, List.length_append, List.length_set, List.map_replicate, rowG, List.getElem?_cons_zero, List.getElem?_cons_succ, List.getElem?_nil, List.append_nil, List.nil_append, List.cons_append, ghosts, St.gh, Option.some.injEq, implies_true, setT, AV.ren, AC.ren, AV.cl, AC.cl, List.replicate_succ, List.replicate_zero, List.nodup_nil, List.length_nil, List.length_cons, List.getD_cons_zero, List.getD_cons_succ, ↓reduceIte])) ?_
    rintro ⟨i, hi, he⟩
    have hw := wS (i := i) (by omega)
    rcases Nat.lt_or_ge i X.length with hlt | hge
    · obtain ⟨own, ty, cnt, cap, len, get, p, c, hM, hf, hic, hkn, hget⟩ := hat (by omega)
      obtain ⟨own', ty', cnt', cap', len', get', p', c', hM', hf', hic', hkn', hget'⟩ := hbt (by omega)
      obtain ⟨g1, g2, g3, g4⟩ := hget i hlt
      obtain ⟨g1', g2', g3', g4'⟩ := hget' i (by omega)
      simp only [↓WP, ↓grdD, ↓grdT, ↓un_dead, ↓binVC, ↓buildVC, ↓sliceVC, WQ, WN, Int.reduceToNat, renl, cll, rent, clt, ↓reduceIte, Nat.reduceLeDiff, Nat.reduceEqDiff, Nat.reduceLT, reduceCtorEq, List.append_nil, Nat.reduceAdd, Nat.reduceSub, Nat.reduceBEq, forall_const, implies_true, cond_true, cond_false, AV.ren, AC.ren, AV.cl, AC.cl, eq_self, List.all_cons, List.all_nil, AV.eqv, AC.eqv, eqvl, eqvt, Sl.eqv, List.map_append, List.length_map, List.length_append, List.length_replicate, List.length_set, List.map_replicate, nilVC, sd_22, el_22, sz_23, c_laws_eqIntS, dlt hlt, hw, hM, hf, g1, g3, g4, hM', hf', g1', g3', g4']
      repeat refine ⟨by omega, ?_⟩
      refine ⟨fun h1 => ?_, fun h1 => ?_⟩
      · have := ne_of_getD (X := X) (Y := Y) (i := i) (by simpa using h1)
        simp [this]
      · exact ⟨⟨i + 1, hlt, eq_step he hlt (by omega) (by simpa using h1)⟩, Le_intro [] (by simp [WL, WNL, swA_new, swA_ne, nest_sw_ne, mapLL, List.mem_cons, Nat.reduceAdd, Nat.reduceLT, Nat.reduceLeDiff, Nat.reduceEqDiff, okU, List.nodup_cons, List.not_mem_nil, toT, toL, toO, keysO, renl, rent, cll, clt, eq_self, AV.eqv, AC.eqv, eqvl, eqvt, Sl.eqv, rowsLe, mapLL, rowsCl, List.map_append, List.length_map, List.length_append, List.length_set, List.map_replicate, rowG, List.getElem?_cons_zero, List.getElem?_cons_succ, List.getElem?_nil, List.append_nil, List.nil_append, List.cons_append, ghosts, St.gh, Option.some.injEq, implies_true, setT, AV.ren, AC.ren, AV.cl, AC.cl, List.replicate_succ, List.replicate_zero, List.nodup_nil, List.length_nil, List.length_cons, List.getD_cons_zero, List.getD_cons_succ, ↓reduceIte]), by show X.length - (i + 1) < X.length - i; omega⟩
    · obtain rfl : i = X.length := by omega
      simp only [↓WP, ↓grdD, ↓grdT, ↓un_dead, ↓binVC, ↓buildVC, ↓sliceVC, WQ, WN, Int.reduceToNat, renl, cll, rent, clt, ↓reduceIte, Nat.reduceLeDiff, Nat.reduceEqDiff, Nat.reduceLT, reduceCtorEq, List.append_nil, Nat.reduceAdd, Nat.reduceSub, Nat.reduceBEq, forall_const, implies_true, cond_true, cond_false, AV.ren, AC.ren, AV.cl, AC.cl, eq_self, List.all_cons, List.all_nil, AV.eqv, AC.eqv, eqvl, eqvt, Sl.eqv, List.map_append, List.length_map, List.length_append, List.length_replicate, List.length_set, List.map_replicate, nilVC, sd_22, el_22, sz_23, c_laws_eqIntS, dge hge, hw]
      simp [eq_of_take hl he]
theorem q_laws_eqIntSS : Quiet c_laws_eqIntSS := by
  intro args M
  unfold c_laws_eqIntSS
  dsimp only
  split <;> first | trivial | (intro _; rfl)
def c_laws_heldIntSS : Contract := ⟨44, fun args M => match args with
  | [.c (.sl a n _), .c (.int .i64 k)] => .pure (Row2Ok Int a n M ∧ 0 ≤ k ∧ k + tot (row2 Int a n M) ≤ 4611686018427387904) (I (if row2 Int a n M = mark2 k (row2 Int a n M) then k + tot (row2 Int a n M) else -1))
  | _ => .bad⟩
theorem ok_laws_heldIntSS : fnP Try.prog c_laws_heldIntSS.f = true ∧ ∀ args M, (c_laws_heldIntSS.sp args M).OK Try.prog c_laws_heldIntSS.f args M := by
  refine ⟨fp_44, fun args M => ?_⟩
  unfold c_laws_heldIntSS
  dsimp only
  split
  case h_2 => trivial
  rename_i a n ca k
  rintro ⟨hrow, h1, h2⟩
  obtain ⟨hs, X, hX, rfl, hat⟩ := hrow.x
  rw [hX] at h2 ⊢
  refine goIn hf_44 rfl (nt := 21) rfl (rs := [.tmp 4]) rfl (C := [c_laws_heldIntS]) ⟨(by first | exact .inl ok_laws_heldIntS | exact ok_laws_heldIntS), trivial⟩ (q := fun _ => false) okQ_none mixed (O := fun _ => .nil) (by kernel_rfl) ?_
  simp only [↓WP, ↓grdD, ↓grdT, ↓un_dead, ↓binVC, ↓buildVC, ↓sliceVC, WQ, WN, Int.reduceToNat, renl, cll, rent, clt, ↓reduceIte, Nat.reduceLeDiff, Nat.reduceEqDiff, Nat.reduceLT, reduceCtorEq, List.append_nil, Nat.reduceAdd, Nat.reduceSub, Nat.reduceBEq, forall_const, implies_true, cond_true, cond_false, AV.ren, AC.ren, AV.cl, AC.cl, eq_self, List.all_cons, List.all_nil, AV.eqv, AC.eqv, eqvl, eqvt, Sl.eqv, List.map_append, List.length_map, List.length_append, List.length_replicate, List.length_set, List.map_replicate, nilVC, sd_22, el_22, sz_23, c_laws_heldIntS]
  refine loopI (J := {i : Nat // i ≤ X.length ∧ X.take i = (mark2 k X).take i}) (fun i => ⟨slots 21 [(0, .c (.sl a.up X.length ca)), (1, I (k + (tot (X.take i.1) : Int))), (5, I i.1)], M, [], []⟩) (fun i => X.length - i.1) ⟨0, by omega, rfl⟩ (Le_intro [] (by simp [WL, WNL, swA_new, swA_ne, nest_sw_ne, mapLL, List.mem_cons, Nat.reduceAdd, Nat.reduceLT, Nat.reduceLeDiff, Nat.reduceEqDiff, okU, List.nodup_cons, List.not_mem_nil, toT, toL, toO, keysO, renl, rent, cll, clt, eq_self, AV.eqv, AC.eqv, eqvl, eqvt, Sl.eqv, rowsLe, mapLL, rowsCl, List.map_append, List.length_map, List.length_append, List.length_set, List.map_replicate, rowG, List.getElem?_cons_zero, List.getElem?_cons_succ, List.getElem?_nil, List.append_nil, List.nil_append, List.cons_append, ghosts, St.gh, Option.some.injEq, implies_true, setT, AV.ren, AC.ren, AV.cl, AC.cl, List.replicate_succ, List.replicate_zero, List.nodup_nil, List.length_nil, List.length_cons, List.getD_cons_zero, List.getD_cons_succ, ↓reduceIte, tot])) ?_
  rintro ⟨i, hi, he⟩
  have hw := wS (i := i) (by omega)
  rcases Nat.lt_or_ge i X.length with hlt | hge
  · obtain ⟨own, ty, cnt, cap, len, get, p, c, hM, hf, hic, hkn, hget⟩ := hat (by omega)
    obtain ⟨g1, g2, g3, g4⟩ := hget i hlt
    have hm := mark2_get k hlt
    have ht := tot_step (X := X) hlt
    have htl := tot_take (X := X) (i := i + 1)
    have hk0 : 0 ≤ k + (tot (X.take i) : Int) := by omega
    have hk1 : k + (tot (X.take i) : Int) ≤ 4611686018427387904 := by omega
    simp only [↓WP, ↓grdD, ↓grdT, ↓un_dead, ↓binVC, ↓buildVC, ↓sliceVC, WQ, WN, Int.reduceToNat, renl, cll, rent, clt, ↓reduceIte, Nat.reduceLeDiff, Nat.reduceEqDiff, Nat.reduceLT, reduceCtorEq, List.append_nil, Nat.reduceAdd, Nat.reduceSub, Nat.reduceBEq, forall_const, implies_true, cond_true, cond_false, AV.ren, AC.ren, AV.cl, AC.cl, eq_self, List.all_cons, List.all_nil, AV.eqv, AC.eqv, eqvl, eqvt, Sl.eqv, List.map_append, List.length_map, List.length_append, List.length_replicate, List.length_set, List.map_replicate, nilVC, sd_22, el_22, sz_23, c_laws_heldIntS, dlt hlt, hw, hM, hf, g1, g3, g4, hk0, hk1]
    simp only [WB, eq_self]
    repeat refine ⟨by omega, ?_⟩
    by_cases hr : X.getD i default = mark1 (k + (tot (X.take i) : Int)) (X.getD i default).length
    · simp only [if_pos hr]
      refine ⟨fun h => absurd h (by omega), fun _ => ?_⟩
      refine ⟨⟨i + 1, hlt, eq_step he hlt (by rw [mark2_length]; exact hlt) (by rw [hm]; exact hr)⟩, Le_intro [] ?_, by show X.length - (i + 1) < X.length - i; omega⟩
      simp [WL, WNL, swA_new, swA_ne, nest_sw_ne, mapLL, List.mem_cons, Nat.reduceAdd, Nat.reduceLT, Nat.reduceLeDiff, Nat.reduceEqDiff, okU, List.nodup_cons, List.not_mem_nil, toT, toL, toO, keysO, renl, rent, cll, clt, eq_self, AV.eqv, AC.eqv, eqvl, eqvt, Sl.eqv, rowsLe, mapLL, rowsCl, List.map_append, List.length_map, List.length_append, List.length_set, List.map_replicate, rowG, List.getElem?_cons_zero, List.getElem?_cons_succ, List.getElem?_nil, List.append_nil, List.nil_append, List.cons_append, ghosts, St.gh, Option.some.injEq, implies_true, setT, AV.ren, AC.ren, AV.cl, AC.cl, List.replicate_succ, List.replicate_zero, List.nodup_nil, List.length_nil, List.length_cons, List.getD_cons_zero, List.getD_cons_succ, ↓reduceIte, ht]
      omega
    · simp only [if_neg hr]
      refine ⟨fun _ => ?_, fun h => absurd h (by omega)⟩
      rw [if_neg fun e => hr (by rw [← hm, ← e])]
  · obtain rfl : i = X.length := by omega
    simp only [↓WP, ↓grdD, ↓grdT, ↓un_dead, ↓binVC, ↓buildVC, ↓sliceVC, WQ, WN, Int.reduceToNat, renl, cll, rent, clt, ↓reduceIte, Nat.reduceLeDiff, Nat.reduceEqDiff, Nat.reduceLT, reduceCtorEq, List.append_nil, Nat.reduceAdd, Nat.reduceSub, Nat.reduceBEq, forall_const, implies_true, cond_true, cond_false, AV.ren, AC.ren, AV.cl, AC.cl, eq_self, List.all_cons, List.all_nil, AV.eqv, AC.eqv, eqvl, eqvt, Sl.eqv, List.map_append, List.length_map, List.length_append, List.length_replicate, List.length_set, List.map_replicate, nilVC, sd_22, el_22, sz_23, c_laws_heldIntS, dge hge, hw]
    rw [if_pos (eq_of_take (by rw [mark2_length]) he)]
    simp
theorem q_laws_heldIntSS : Quiet c_laws_heldIntSS := by
  intro args M
  unfold c_laws_heldIntSS
  dsimp only
  split <;> first | trivial | (intro _; rfl)
end Go.Eng.T
