/- sig: SigBack, SigNext. -/
import Derived.Test.YtbogabgpchgfpaaFn9
set_option linter.unusedVariables false
set_option linter.unusedSimpArgs false
set_option linter.unusedSectionVars false
namespace Go.Eng.T
open Go.Proofs
open Cel (enc dec)
set_option maxRecDepth 100000
set_option maxHeartbeats 4000000
def backO (P K : List Bool) (D I : List Int) (u : Int) : SO × Bool :=
  if sigOk P K D I u then (if I.length = 0 then ((P, K, D, I, u), false) else ((P, K, D, I.take (I.length - 1), u), true)) else (([], [], [], [], 0), false)
def skip (P K : List Bool) (I : List Int) (i : Nat) : Bool := !P.getD i default || K.getD i default || I.any fun x => decide (x = ((i + 1 : Nat) : Int))
def fst16 (s : Nat → Bool) : Nat → Nat → Option Nat
  | 0, _ => none
  | f + 1, i => if s i = true then fst16 s f (i + 1) else some i
def hitO (P K : List Bool) (D I : List Int) (u : Int) (i : Nat) : SO :=
  if D.getD i default = 0 then (List.replicate 16 false, K, D, [], ((i + 1 : Nat) : Int)) else if D.getD i default = 2 then (P.set i false, K, D, I ++ [((i + 1 : Nat) : Int)], u) else (P.set i false, K, D, I, u)
def nextO (P K : List Bool) (D I : List Int) (u : Int) : SO × Int :=
  if sigOk P K D I u then (match fst16 (skip P K I) 16 0 with
    | some i => (hitO P K D I u i, ((i + 1 : Nat) : Int))
    | none => ((P, K, D, I, u), 0)) else (([], [], [], [], 0), 0)
def c_impl_SigBack : Contract := ⟨24, fun args M => match args with
  | [.agg [.sl a1 n1 c1, .sl a2 n2 c2, .sl a3 n3 c3, .sl a4 n4 c4, .int .i64 u]] => .eff ((RowOk Bool a1 n1 (M a1.r) ∧ RowOk Bool a2 n2 (M a2.r) ∧ RowOk Int a3 n3 (M a3.r) ∧ RowOk Int a4 n4 (M a4.r)) ∧ (n1 ≤ c1 ∧ n2 ≤ c2 ∧ n3 ≤ c3 ∧ n4 ≤ c4)) (Nat × Nat × Nat × Nat) (fun p => (backO (row Bool a1 n1 (M a1.r)) (row Bool a2 n2 (M a2.r)) (row Int a3 n3 (M a3.r)) (row Int a4 n4 (M a4.r)) u).1.1.length ≤ p.1 ∧ (backO (row Bool a1 n1 (M a1.r)) (row Bool a2 n2 (M a2.r)) (row Int a3 n3 (M a3.r)) (row Int a4 n4 (M a4.r)) u).1.2.1.length ≤ p.2.1 ∧ (backO (row Bool a1 n1 (M a1.r)) (row Bool a2 n2 (M a2.r)) (row Int a3 n3 (M a3.r)) (row Int a4 n4 (M a4.r)) u).1.2.2.1.length ≤ p.2.2.1 ∧ (backO (row Bool a1 n1 (M a1.r)) (row Bool a2 n2 (M a2.r)) (row Int a3 n3 (M a3.r)) (row Int a4 n4 (M a4.r)) u).1.2.2.2.1.length ≤ p.2.2.2) (fun p => .tup [(true, [.sl ⟨.loc 0, 0, 0, 0⟩ (backO (row Bool a1 n1 (M a1.r)) (row Bool a2 n2 (M a2.r)) (row Int a3 n3 (M a3.r)) (row Int a4 n4 (M a4.r)) u).1.1.length p.1, .sl ⟨.loc 1, 0, 0, 0⟩ (backO (row Bool a1 n1 (M a1.r)) (row Bool a2 n2 (M a2.r)) (row Int a3 n3 (M a3.r)) (row Int a4 n4 (M a4.r)) u).1.2.1.length p.2.1, .sl ⟨.loc 2, 0, 0, 0⟩ (backO (row Bool a1 n1 (M a1.r)) (row Bool a2 n2 (M a2.r)) (row Int a3 n3 (M a3.r)) (row Int a4 n4 (M a4.r)) u).1.2.2.1.length p.2.2.1, .sl ⟨.loc 3, 0, 0, 0⟩ (backO (row Bool a1 n1 (M a1.r)) (row Bool a2 n2 (M a2.r)) (row Int a3 n3 (M a3.r)) (row Int a4 n4 (M a4.r)) u).1.2.2.2.1.length p.2.2.2, .int .i64 (backO (row Bool a1 n1 (M a1.r)) (row Bool a2 n2 (M a2.r)) (row Int a3 n3 (M a3.r)) (row Int a4 n4 (M a4.r)) u).1.2.2.2.2]), (false, [.bool (backO (row Bool a1 n1 (M a1.r)) (row Bool a2 n2 (M a2.r)) (row Int a3 n3 (M a3.r)) (row Int a4 n4 (M a4.r)) u).2])]) (fun p => [rowG true 4 p.1 (backO (row Bool a1 n1 (M a1.r)) (row Bool a2 n2 (M a2.r)) (row Int a3 n3 (M a3.r)) (row Int a4 n4 (M a4.r)) u).1.1, rowG true 4 p.2.1 (backO (row Bool a1 n1 (M a1.r)) (row Bool a2 n2 (M a2.r)) (row Int a3 n3 (M a3.r)) (row Int a4 n4 (M a4.r)) u).1.2.1, rowG true 3 p.2.2.1 (backO (row Bool a1 n1 (M a1.r)) (row Bool a2 n2 (M a2.r)) (row Int a3 n3 (M a3.r)) (row Int a4 n4 (M a4.r)) u).1.2.2.1, rowG true 3 p.2.2.2 (backO (row Bool a1 n1 (M a1.r)) (row Bool a2 n2 (M a2.r)) (row Int a3 n3 (M a3.r)) (row Int a4 n4 (M a4.r)) u).1.2.2.2.1]) (fun _ => [])
  | _ => .bad⟩
theorem ok_impl_SigBack : fnP Try.prog c_impl_SigBack.f = true ∧ ∀ args M, (c_impl_SigBack.sp args M).OK Try.prog c_impl_SigBack.f args M := by
  refine ⟨fp_24, fun args M => ?_⟩
  unfold c_impl_SigBack
  dsimp only
  split
  case h_2 => trivial
  rename_i a1 n1 c1 a2 n2 c2 a3 n3 c3 a4 n4 c4 u
  rintro ⟨⟨h1, h2, h3, h4⟩, ⟨k1, k2, k3, k4⟩⟩
  obtain ⟨s1, P, hP, rfl, t1⟩ := h1.x
  obtain ⟨s2, K, hK, rfl, t2⟩ := h2.x
  obtain ⟨s3, D, hD, rfl, t3⟩ := h3.x
  obtain ⟨s4, I, hI, rfl, t4⟩ := h4.x
  rw [hP, hK, hD, hI]
  refine goIn hf_24 rfl (nt := 25) rfl (rs := [.cell 2 25, .tmp 3]) rfl (C := [c_impl_SigOk, c_impl_cloneSig]) ⟨(by first | exact .inl ok_impl_SigOk | exact ok_impl_SigOk), (by first | exact .inl ok_impl_cloneSig | exact ok_impl_cloneSig), trivial⟩ (q := fun _ => false) okQ_none mixed (O := fun _ => .nil) (by kernel_rfl) ?_
  by_cases hok : sigOk P K D I u
  · obtain ⟨l1, l2, l3, l4, _⟩ := hok.1
    obtain ⟨own3, ty3, cnt3, cap3, len3, get3, hM3, hf3, hic3, hkn3, hget3⟩ := t3 (by omega)
    by_cases hi0 : I.length = 0
    · have hO : (backO P K D I u) = ((P, K, D, I, u), false) := by rw [backO, if_pos hok, if_pos hi0]
      have hd0 : decide ((I.length : Int) = 0) = true := by simp only [decide_eq_true_iff]; omega
      rw [hO]
      simp only [↓WP, ↓grdD, ↓grdT, ↓un_dead, ↓binVC, ↓buildVC, ↓sliceVC, WQ, WN, Int.reduceToNat, renl, cll, rent, clt, ↓reduceIte, Nat.reduceLeDiff, Nat.reduceEqDiff, Nat.reduceLT, reduceCtorEq, List.append_nil, Nat.reduceAdd, Nat.reduceSub, Nat.reduceBEq, forall_const, implies_true, cond_true, cond_false, AV.ren, AC.ren, AV.cl, AC.cl, eq_self, List.all_cons, List.all_nil, AV.eqv, AC.eqv, eqvl, eqvt, Sl.eqv, List.map_append, List.length_map, List.length_append, List.length_replicate, List.length_set, List.map_replicate, nilVC, zr_25, sz_25, fs_25, fl_25_3, sz_23, sd_23, el_23, c_impl_SigOk, c_impl_cloneSig, hP, hK, hD, hI, decide_eq_true hok, hd0]
      repeat' (first | with_reducible refine And.intro ?_ ?_ | intro _)
      all_goals try omega
      all_goals try assumption
      all_goals
        rename_i p hp
        obtain ⟨p1, p2, p3, p4⟩ := p
        refine end_ret ?_
        simp only [↓WP, ↓grdD, ↓grdT, ↓un_dead, ↓binVC, ↓buildVC, ↓sliceVC, WQ, WN, Int.reduceToNat, renl, cll, rent, clt, ↓reduceIte, Nat.reduceLeDiff, Nat.reduceEqDiff, Nat.reduceLT, reduceCtorEq, List.append_nil, Nat.reduceAdd, Nat.reduceSub, Nat.reduceBEq, forall_const, implies_true, cond_true, cond_false, AV.ren, AC.ren, AV.cl, AC.cl, eq_self, List.all_cons, List.all_nil, AV.eqv, AC.eqv, eqvl, eqvt, Sl.eqv, List.map_append, List.length_map, List.length_append, List.length_replicate, List.length_set, List.map_replicate, nilVC, zr_25, sz_25, fs_25, fl_25_3, sz_23, sd_23, el_23, c_impl_SigOk, c_impl_cloneSig]
        refine ⟨(p1, p2, p3, p4), [], [2, 3, 4, 5], ?_⟩
        simp only [WL, WNL, swA_new, swA_ne, nest_sw_ne, mapLL, List.mem_cons, Nat.reduceAdd, Nat.reduceLT, Nat.reduceLeDiff, Nat.reduceEqDiff, okU, List.nodup_cons, List.not_mem_nil, toT, toL, toO, keysO, renl, rent, cll, clt, eq_self, AV.eqv, AC.eqv, eqvl, eqvt, Sl.eqv, rowsLe, mapLL, rowsCl, List.map_append, List.length_map, List.length_append, List.length_set, List.map_replicate, rowG, List.getElem?_cons_zero, List.getElem?_cons_succ, List.getElem?_nil, List.append_nil, List.nil_append, List.cons_append, ghosts, St.gh, Option.some.injEq, implies_true, setT, AV.ren, AC.ren, AV.cl, AC.cl, List.replicate_succ, List.replicate_zero, List.nodup_nil, List.length_nil, List.length_cons, List.getD_cons_zero, List.getD_cons_succ, ↓reduceIte, retP, List.map_set, List.length_set]
        simp at hp ⊢
        exact hp
    · have hO : (backO P K D I u) = ((P, K, D, I.take (I.length - 1), u), true) := by rw [backO, if_pos hok, if_neg hi0]
      have hd0 : decide ((I.length : Int) = 0) = false := by simp only [decide_eq_false_iff_not]; omega
      have hw : IntKind.i64.wrap ((I.length : Int) - 1) = ((I.length - 1 : Nat) : Int) := by rw [w64 (by omega) (by omega)]; omega
      have htl : (I.take (I.length - 1)).length = I.length - 1 := by simp
      rw [hO]
      simp only [↓WP, ↓grdD, ↓grdT, ↓un_dead, ↓binVC, ↓buildVC, ↓sliceVC, WQ, WN, Int.reduceToNat, renl, cll, rent, clt, ↓reduceIte, Nat.reduceLeDiff, Nat.reduceEqDiff, Nat.reduceLT, reduceCtorEq, List.append_nil, Nat.reduceAdd, Nat.reduceSub, Nat.reduceBEq, forall_const, implies_true, cond_true, cond_false, AV.ren, AC.ren, AV.cl, AC.cl, eq_self, List.all_cons, List.all_nil, AV.eqv, AC.eqv, eqvl, eqvt, Sl.eqv, List.map_append, List.length_map, List.length_append, List.length_replicate, List.length_set, List.map_replicate, nilVC, zr_25, sz_25, fs_25, fl_25_3, sz_23, sd_23, el_23, c_impl_SigOk, c_impl_cloneSig, hP, hK, hD, hI, decide_eq_true hok, hd0, hw, Nat.sub_zero]
      repeat' (first | with_reducible refine And.intro ?_ ?_ | intro _)
      all_goals try omega
      all_goals try assumption
      rename_i p hp
      obtain ⟨p1, p2, p3, p4⟩ := p
      refine end_ret ?_
      simp only [↓WP, ↓grdD, ↓grdT, ↓un_dead, ↓binVC, ↓buildVC, ↓sliceVC, WQ, WN, Int.reduceToNat, renl, cll, rent, clt, ↓reduceIte, Nat.reduceLeDiff, Nat.reduceEqDiff, Nat.reduceLT, reduceCtorEq, List.append_nil, Nat.reduceAdd, Nat.reduceSub, Nat.reduceBEq, forall_const, implies_true, cond_true, cond_false, AV.ren, AC.ren, AV.cl, AC.cl, eq_self, List.all_cons, List.all_nil, AV.eqv, AC.eqv, eqvl, eqvt, Sl.eqv, List.map_append, List.length_map, List.length_append, List.length_replicate, List.length_set, List.map_replicate, nilVC, zr_25, sz_25, fs_25, fl_25_3, sz_23, sd_23, el_23, c_impl_SigOk, c_impl_cloneSig]
      refine ⟨(p1, p2, p3, p4), [], [2, 3, 4, 5], ?_⟩
      simp only [WL, WNL, swA_new, swA_ne, nest_sw_ne, mapLL, List.mem_cons, Nat.reduceAdd, Nat.reduceLT, Nat.reduceLeDiff, Nat.reduceEqDiff, okU, List.nodup_cons, List.not_mem_nil, toT, toL, toO, keysO, renl, rent, cll, clt, eq_self, AV.eqv, AC.eqv, eqvl, eqvt, Sl.eqv, rowsLe, mapLL, rowsCl, List.map_append, List.length_map, List.length_append, List.length_set, List.map_replicate, rowG, List.getElem?_cons_zero, List.getElem?_cons_succ, List.getElem?_nil, List.append_nil, List.nil_append, List.cons_append, ghosts, St.gh, Option.some.injEq, implies_true, setT, AV.ren, AC.ren, AV.cl, AC.cl, List.replicate_succ, List.replicate_zero, List.nodup_nil, List.length_nil, List.length_cons, List.getD_cons_zero, List.getD_cons_succ, ↓reduceIte, retP, htl]
      simp [List.take_prefix] at hp ⊢
      omega
  · have hO : (backO P K D I u) = (([], [], [], [], 0), false) := if_neg hok
    rw [hO]
    simp only [↓WP, ↓grdD, ↓grdT, ↓un_dead, ↓binVC, ↓buildVC, ↓sliceVC, WQ, WN, Int.reduceToNat, renl, cll, rent, clt, ↓reduceIte, Nat.reduceLeDiff, Nat.reduceEqDiff, Nat.reduceLT, reduceCtorEq, List.append_nil, Nat.reduceAdd, Nat.reduceSub, Nat.reduceBEq, forall_const, implies_true, cond_true, cond_false, AV.ren, AC.ren, AV.cl, AC.cl, eq_self, List.all_cons, List.all_nil, AV.eqv, AC.eqv, eqvl, eqvt, Sl.eqv, List.map_append, List.length_map, List.length_append, List.length_replicate, List.length_set, List.map_replicate, nilVC, zr_25, sz_25, fs_25, fl_25_3, sz_23, sd_23, el_23, c_impl_SigOk, c_impl_cloneSig, hP, hK, hD, hI, decide_eq_false hok]
    refine ⟨by first | exact ⟨h1, h2, h3, h4, k4⟩ | exact ⟨⟨h1, h2, h3, h4, k4⟩, x2, x3⟩, end_ret ?_⟩
    simp only [↓WP, ↓grdD, ↓grdT, ↓un_dead, ↓binVC, ↓buildVC, ↓sliceVC, WQ, WN, Int.reduceToNat, renl, cll, rent, clt, ↓reduceIte, Nat.reduceLeDiff, Nat.reduceEqDiff, Nat.reduceLT, reduceCtorEq, List.append_nil, Nat.reduceAdd, Nat.reduceSub, Nat.reduceBEq, forall_const, implies_true, cond_true, cond_false, AV.ren, AC.ren, AV.cl, AC.cl, eq_self, List.all_cons, List.all_nil, AV.eqv, AC.eqv, eqvl, eqvt, Sl.eqv, List.map_append, List.length_map, List.length_append, List.length_replicate, List.length_set, List.map_replicate, nilVC, zr_25, sz_25, fs_25, fl_25_3, sz_23, sd_23, el_23, c_impl_SigOk, c_impl_cloneSig]
    refine ⟨(0, 0, 0, 0), [(4, 1), (4, 1), (3, 1), (3, 1)], [2, 3, 4, 5], ?_⟩
    simp [WL, WNL, swA_new, swA_ne, nest_sw_ne, mapLL, List.mem_cons, Nat.reduceAdd, Nat.reduceLT, Nat.reduceLeDiff, Nat.reduceEqDiff, okU, List.nodup_cons, List.not_mem_nil, toT, toL, toO, keysO, renl, rent, cll, clt, eq_self, AV.eqv, AC.eqv, eqvl, eqvt, Sl.eqv, rowsLe, mapLL, rowsCl, List.map_append, List.length_map, List.length_append, List.length_set, List.map_replicate, rowG, List.getElem?_cons_zero, List.getElem?_cons_succ, List.getElem?_nil, List.append_nil, List.nil_append, List.cons_append, ghosts, St.gh, Option.some.injEq, implies_true, setT, AV.ren, AC.ren, AV.cl, AC.cl, List.replicate_succ, List.replicate_zero, List.nodup_nil, List.length_nil, List.length_cons, List.getD_cons_zero, List.getD_cons_succ, ↓reduceIte, retP]
def c_impl_SigNext : Contract := ⟨30, fun args M => match args with
  | [.agg [.sl a1 n1 c1, .sl a2 n2 c2, .sl a3 n3 c3, .sl a4 n4 c4, .int .i64 u]] => .eff ((RowOk Bool a1 n1 (M a1.r) ∧ RowOk Bool a2 n2 (M a2.r) ∧ RowOk Int a3 n3 (M a3.r) ∧ RowOk Int a4 n4 (M a4.r)) ∧ (n1 ≤ c1 ∧ n2 ≤ c2 ∧ n3 ≤ c3 ∧ n4 ≤ c4)) (Nat × Nat × Nat × Nat) (fun p => (nextO (row Bool a1 n1 (M a1.r)) (row Bool a2 n2 (M a2.r)) (row Int a3 n3 (M a3.r)) (row Int a4 n4 (M a4.r)) u).1.1.length ≤ p.1 ∧ (nextO (row Bool a1 n1 (M a1.r)) (row Bool a2 n2 (M a2.r)) (row Int a3 n3 (M a3.r)) (row Int a4 n4 (M a4.r)) u).1.2.1.length ≤ p.2.1 ∧ (nextO (row Bool a1 n1 (M a1.r)) (row Bool a2 n2 (M a2.r)) (row Int a3 n3 (M a3.r)) (row Int a4 n4 (M a4.r)) u).1.2.2.1.length ≤ p.2.2.1 ∧ (nextO (row Bool a1 n1 (M a1.r)) (row Bool a2 n2 (M a2.r)) (row Int a3 n3 (M a3.r)) (row Int a4 n4 (M a4.r)) u).1.2.2.2.1.length ≤ p.2.2.2) (fun p => .tup [(true, [.sl ⟨.loc 0, 0, 0, 0⟩ (nextO (row Bool a1 n1 (M a1.r)) (row Bool a2 n2 (M a2.r)) (row Int a3 n3 (M a3.r)) (row Int a4 n4 (M a4.r)) u).1.1.length p.1, .sl ⟨.loc 1, 0, 0, 0⟩ (nextO (row Bool a1 n1 (M a1.r)) (row Bool a2 n2 (M a2.r)) (row Int a3 n3 (M a3.r)) (row Int a4 n4 (M a4.r)) u).1.2.1.length p.2.1, .sl ⟨.loc 2, 0, 0, 0⟩ (nextO (row Bool a1 n1 (M a1.r)) (row Bool a2 n2 (M a2.r)) (row Int a3 n3 (M a3.r)) (row Int a4 n4 (M a4.r)) u).1.2.2.1.length p.2.2.1, .sl ⟨.loc 3, 0, 0, 0⟩ (nextO (row Bool a1 n1 (M a1.r)) (row Bool a2 n2 (M a2.r)) (row Int a3 n3 (M a3.r)) (row Int a4 n4 (M a4.r)) u).1.2.2.2.1.length p.2.2.2, .int .i64 (nextO (row Bool a1 n1 (M a1.r)) (row Bool a2 n2 (M a2.r)) (row Int a3 n3 (M a3.r)) (row Int a4 n4 (M a4.r)) u).1.2.2.2.2]), (false, [.int .i64 (nextO (row Bool a1 n1 (M a1.r)) (row Bool a2 n2 (M a2.r)) (row Int a3 n3 (M a3.r)) (row Int a4 n4 (M a4.r)) u).2])]) (fun p => [rowG true 4 p.1 (nextO (row Bool a1 n1 (M a1.r)) (row Bool a2 n2 (M a2.r)) (row Int a3 n3 (M a3.r)) (row Int a4 n4 (M a4.r)) u).1.1, rowG true 4 p.2.1 (nextO (row Bool a1 n1 (M a1.r)) (row Bool a2 n2 (M a2.r)) (row Int a3 n3 (M a3.r)) (row Int a4 n4 (M a4.r)) u).1.2.1, rowG true 3 p.2.2.1 (nextO (row Bool a1 n1 (M a1.r)) (row Bool a2 n2 (M a2.r)) (row Int a3 n3 (M a3.r)) (row Int a4 n4 (M a4.r)) u).1.2.2.1, rowG true 3 p.2.2.2 (nextO (row Bool a1 n1 (M a1.r)) (row Bool a2 n2 (M a2.r)) (row Int a3 n3 (M a3.r)) (row Int a4 n4 (M a4.r)) u).1.2.2.2.1]) (fun _ => [])
  | _ => .bad⟩
theorem ok_impl_SigNext : fnP Try.prog c_impl_SigNext.f = true ∧ ∀ args M, (c_impl_SigNext.sp args M).OK Try.prog c_impl_SigNext.f args M := by
  refine ⟨fp_30, fun args M => ?_⟩
  unfold c_impl_SigNext
  dsimp only
  split
  case h_2 => trivial
  rename_i a1 n1 c1 a2 n2 c2 a3 n3 c3 a4 n4 c4 u
  rintro ⟨⟨h1, h2, h3, h4⟩, ⟨k1, k2, k3, k4⟩⟩
  obtain ⟨s1, P, hP, rfl, t1⟩ := h1.x
  obtain ⟨s2, K, hK, rfl, t2⟩ := h2.x
  obtain ⟨s3, D, hD, rfl, t3⟩ := h3.x
  obtain ⟨s4, I, hI, rfl, t4⟩ := h4.x
  rw [hP, hK, hD, hI]
  refine goIn hf_30 rfl (nt := 66) rfl (rs := [.cell 2 25, .tmp 3]) rfl (C := [c_impl_SigOk, c_impl_cloneSig, c_slices_Contains_int]) ⟨(by first | exact .inl ok_impl_SigOk | exact ok_impl_SigOk), (by first | exact .inl ok_impl_cloneSig | exact ok_impl_cloneSig), (by first | exact .inl ok_slices_Contains_int | exact ok_slices_Contains_int), trivial⟩ (q := fun _ => false) okQ_none mixed (O := fun _ => .nil) (by kernel_rfl) ?_
  by_cases hok : sigOk P K D I u
  · obtain ⟨l1, l2, l3, l4, _⟩ := hok.1
    obtain ⟨own3, ty3, cnt3, cap3, len3, get3, hM3, hf3, hic3, hkn3, hget3⟩ := t3 (by omega)
    obtain ⟨own1, ty1, cnt1, cap1, len1, get1, hM1, hf1, hic1, hkn1, hget1⟩ := t1 (by omega)
    obtain ⟨own2, ty2, cnt2, cap2, len2, get2, hM2, hf2, hic2, hkn2, hget2⟩ := t2 (by omega)
    simp only [↓WP, ↓grdD, ↓grdT, ↓un_dead, ↓binVC, ↓buildVC, ↓sliceVC, WQ, WN, Int.reduceToNat, renl, cll, rent, clt, ↓reduceIte, Nat.reduceLeDiff, Nat.reduceEqDiff, Nat.reduceLT, reduceCtorEq, List.append_nil, Nat.reduceAdd, Nat.reduceSub, Nat.reduceBEq, forall_const, implies_true, cond_true, cond_false, AV.ren, AC.ren, AV.cl, AC.cl, eq_self, List.all_cons, List.all_nil, AV.eqv, AC.eqv, eqvl, eqvt, Sl.eqv, List.map_append, List.length_map, List.length_append, List.length_replicate, List.length_set, List.map_replicate, nilVC, zr_25, sz_25, fs_25, fl_25_0, sz_22, el_22, sz_4, fl_25_1, fl_25_3, sz_23, fl_25_2, el_23, sz_3, fl_25_4, zr_4, zr_3, c_impl_SigOk, c_impl_cloneSig, c_slices_Contains_int, hP, hK, hD, hI, decide_eq_true hok]
    refine ⟨⟨h1, h2, h3, h4, k4⟩, ⟨⟨h1, h2, h3, h4⟩, k1, k2, k3, k4⟩, fun p hp => ?_⟩
    obtain ⟨p1, p2, p3, p4⟩ := p
    dsimp only at hp
    refine loopI (J := {i : Nat // i ≤ 16 ∧ fst16 (skip P K I) 16 0 = fst16 (skip P K I) (16 - i) i}) (fun i => ⟨slots 66 [(1, .c (.ptr ⟨.loc 0, 0, 0, 0⟩)), (2, .c (.ptr ⟨.loc 1, 0, 0, 0⟩)), (4, .c (.ptr ⟨.loc 6, 0, 0, 0⟩)), (5, Eng.I (i.1 + 1 : Nat))], M, [], [.box 25 [.sl a1.up P.length c1, .sl a2.up K.length c2, .sl a3.up D.length c3, .sl a4.up I.length c4, .int .i64 u], .box 25 [.sl ⟨.nil, 0, 0, 0⟩ 0 0, .sl ⟨.nil, 0, 0, 0⟩ 0 0, .sl ⟨.nil, 0, 0, 0⟩ 0 0, .sl ⟨.nil, 0, 0, 0⟩ 0 0, .int .i64 0], rowG true 4 p1 P, rowG true 4 p2 K, rowG true 3 p3 D, rowG true 3 p4 I, .box 25 [.sl ⟨.loc 2, 0, 0, 0⟩ P.length p1, .sl ⟨.loc 3, 0, 0, 0⟩ K.length p2, .sl ⟨.loc 4, 0, 0, 0⟩ D.length p3, .sl ⟨.loc 5, 0, 0, 0⟩ I.length p4, .int .i64 u]]⟩) (fun i => 16 - i.1) ⟨0, by omega, rfl⟩ (Le_intro [0, 1, 2, 3, 4, 5, 6] (by simp only [WL, WNL, swA_new, swA_ne, nest_sw_ne, mapLL, List.mem_cons, Nat.reduceAdd, Nat.reduceLT, Nat.reduceLeDiff, Nat.reduceEqDiff, okU, List.nodup_cons, List.not_mem_nil, toT, toL, toO, keysO, renl, rent, cll, clt, eq_self, AV.eqv, AC.eqv, eqvl, eqvt, Sl.eqv, rowsLe, mapLL, rowsCl, List.map_append, List.length_map, List.length_append, List.length_set, List.map_replicate, rowG, List.getElem?_cons_zero, List.getElem?_cons_succ, List.getElem?_nil, List.append_nil, List.nil_append, List.cons_append, ghosts, St.gh, Option.some.injEq, implies_true, setT, AV.ren, AC.ren, AV.cl, AC.cl, List.replicate_succ, List.replicate_zero, List.nodup_nil, List.length_nil, List.length_cons, List.getD_cons_zero, List.getD_cons_succ, ↓reduceIte]; try simp)) ?_
    rintro ⟨i, hi, he⟩
    have hw := wS (i := i + 1) (by omega)
    have hw1 : IntKind.i64.wrap (((i + 1 : Nat) : Int) - 1) = (i : Int) := by rw [w64 (by omega) (by omega)]; omega
    rcases Nat.lt_or_ge i 16 with hlt | hge
    · have hd : decide (((i + 1 : Nat) : Int) ≤ 16) = true := by simp only [decide_eq_true_iff]; omega
      have hgP : (List.map enc P).getD i [] = enc (P.getD i default) := getD_enc _ _ (by omega)
      have hgK : (List.map enc K).getD i [] = enc (K.getD i default) := getD_enc _ _ (by omega)
      have hgD : (List.map enc D).getD i [] = enc (D.getD i default) := getD_enc _ _ (by omega)
      have hst : (List.map enc P).set i [AC.bool false] = List.map enc (P.set i false) := by rw [List.map_set, enc_bool]
      have hput : putAt (List.map enc I) I.length [[AC.int .i64 ((i + 1 : Nat) : Int)]] = List.map enc I ++ [[AC.int .i64 ((i + 1 : Nat) : Int)]] := putAt_end (by rw [List.length_map])
      have hw16 : 16 - i = (16 - (i + 1)) + 1 := by omega
      by_cases hs : skip P K I i = true
      · have he2 : fst16 (skip P K I) 16 0 = fst16 (skip P K I) (16 - (i + 1)) (i + 1) := by rw [he, hw16, fst16, if_pos hs]
        have hs' : (!P.getD i default || K.getD i default || I.any fun x => decide (x = ((i + 1 : Nat) : Int))) = true := hs
        simp only [↓WP, ↓grdD, ↓grdT, ↓un_dead, ↓binVC, ↓buildVC, ↓sliceVC, WQ, WN, Int.reduceToNat, renl, cll, rent, clt, ↓reduceIte, Nat.reduceLeDiff, Nat.reduceEqDiff, Nat.reduceLT, reduceCtorEq, List.append_nil, Nat.reduceAdd, Nat.reduceSub, Nat.reduceBEq, forall_const, implies_true, cond_true, cond_false, AV.ren, AC.ren, AV.cl, AC.cl, eq_self, List.all_cons, List.all_nil, AV.eqv, AC.eqv, eqvl, eqvt, Sl.eqv, List.map_append, List.length_map, List.length_append, List.length_replicate, List.length_set, List.map_replicate, nilVC, zr_25, sz_25, fs_25, fl_25_0, sz_22, el_22, sz_4, fl_25_1, fl_25_3, sz_23, fl_25_2, el_23, sz_3, fl_25_4, zr_4, zr_3, c_impl_SigOk, c_impl_cloneSig, c_slices_Contains_int, hd, hw, hw1, hM1, hf1, hM2, hf2, hM3, hf3, hget1 i (by omega), hget2 i (by omega), hget3 i (by omega), hI, hs']
        repeat' (first | with_reducible refine And.intro ?_ ?_ | intro _)
        all_goals try omega
        all_goals try assumption
        all_goals try exact .inl trivial
        all_goals try exact .inr trivial
        exact ⟨⟨i + 1, by omega, he2⟩, Le_intro [0, 1, 2, 3, 4, 5, 6] (by simp only [WL, WNL, swA_new, swA_ne, nest_sw_ne, mapLL, List.mem_cons, Nat.reduceAdd, Nat.reduceLT, Nat.reduceLeDiff, Nat.reduceEqDiff, okU, List.nodup_cons, List.not_mem_nil, toT, toL, toO, keysO, renl, rent, cll, clt, eq_self, AV.eqv, AC.eqv, eqvl, eqvt, Sl.eqv, rowsLe, mapLL, rowsCl, List.map_append, List.length_map, List.length_append, List.length_set, List.map_replicate, rowG, List.getElem?_cons_zero, List.getElem?_cons_succ, List.getElem?_nil, List.append_nil, List.nil_append, List.cons_append, ghosts, St.gh, Option.some.injEq, implies_true, setT, AV.ren, AC.ren, AV.cl, AC.cl, List.replicate_succ, List.replicate_zero, List.nodup_nil, List.length_nil, List.length_cons, List.getD_cons_zero, List.getD_cons_succ, ↓reduceIte]; try simp), by show 16 - (i + 1) < 16 - i; omega⟩
      · have he2 : fst16 (skip P K I) 16 0 = some i := by rw [he, hw16, fst16, if_neg hs]
        have hs' : (!P.getD i default || K.getD i default || I.any fun x => decide (x = ((i + 1 : Nat) : Int))) = false := (Bool.not_eq_true _).mp hs
        have hO : nextO P K D I u = (hitO P K D I u i, ((i + 1 : Nat) : Int)) := by rw [nextO, if_pos hok, he2]
        rw [hO]
        by_cases h0 : D.getD i default = 0
        · have hH : hitO P K D I u i = (List.replicate 16 false, K, D, [], ((i + 1 : Nat) : Int)) := if_pos h0
          rw [hH]
          simp only [↓WP, ↓grdD, ↓grdT, ↓un_dead, ↓binVC, ↓buildVC, ↓sliceVC, WQ, WN, Int.reduceToNat, renl, cll, rent, clt, ↓reduceIte, Nat.reduceLeDiff, Nat.reduceEqDiff, Nat.reduceLT, reduceCtorEq, List.append_nil, Nat.reduceAdd, Nat.reduceSub, Nat.reduceBEq, forall_const, implies_true, cond_true, cond_false, AV.ren, AC.ren, AV.cl, AC.cl, eq_self, List.all_cons, List.all_nil, AV.eqv, AC.eqv, eqvl, eqvt, Sl.eqv, List.map_append, List.length_map, List.length_append, List.length_replicate, List.length_set, List.map_replicate, nilVC, zr_25, sz_25, fs_25, fl_25_0, sz_22, el_22, sz_4, fl_25_1, fl_25_3, sz_23, fl_25_2, el_23, sz_3, fl_25_4, zr_4, zr_3, c_impl_SigOk, c_impl_cloneSig, c_slices_Contains_int, hd, hw, hw1, hM1, hf1, hM2, hf2, hM3, hf3, hget1 i (by omega), hget2 i (by omega), hget3 i (by omega), hI, hs', hst, decide_eq_true h0]
          repeat' (first | with_reducible refine And.intro ?_ ?_ | intro _)
          all_goals try omega
          all_goals try assumption
          all_goals try exact .inl trivial
          all_goals try exact .inr trivial
          refine end_ret ?_
          simp only [↓WP, ↓grdD, ↓grdT, ↓un_dead, ↓binVC, ↓buildVC, ↓sliceVC, WQ, WN, Int.reduceToNat, renl, cll, rent, clt, ↓reduceIte, Nat.reduceLeDiff, Nat.reduceEqDiff, Nat.reduceLT, reduceCtorEq, List.append_nil, Nat.reduceAdd, Nat.reduceSub, Nat.reduceBEq, forall_const, implies_true, cond_true, cond_false, AV.ren, AC.ren, AV.cl, AC.cl, eq_self, List.all_cons, List.all_nil, AV.eqv, AC.eqv, eqvl, eqvt, Sl.eqv, List.map_append, List.length_map, List.length_append, List.length_replicate, List.length_set, List.map_replicate, nilVC, zr_25, sz_25, fs_25, fl_25_0, sz_22, el_22, sz_4, fl_25_1, fl_25_3, sz_23, fl_25_2, el_23, sz_3, fl_25_4, zr_4, zr_3, c_impl_SigOk, c_impl_cloneSig, c_slices_Contains_int]
          refine ⟨(16, p2, p3, 0), [(3, 1)], [7, 3, 4, 8], ?_⟩
          simp only [WL, WNL, swA_new, swA_ne, nest_sw_ne, mapLL, List.mem_cons, Nat.reduceAdd, Nat.reduceLT, Nat.reduceLeDiff, Nat.reduceEqDiff, okU, List.nodup_cons, List.not_mem_nil, toT, toL, toO, keysO, renl, rent, cll, clt, eq_self, AV.eqv, AC.eqv, eqvl, eqvt, Sl.eqv, rowsLe, mapLL, rowsCl, List.map_append, List.length_map, List.length_append, List.length_set, List.map_replicate, rowG, List.getElem?_cons_zero, List.getElem?_cons_succ, List.getElem?_nil, List.append_nil, List.nil_append, List.cons_append, ghosts, St.gh, Option.some.injEq, implies_true, setT, AV.ren, AC.ren, AV.cl, AC.cl, List.replicate_succ, List.replicate_zero, List.nodup_nil, List.length_nil, List.length_cons, List.getD_cons_zero, List.getD_cons_succ, ↓reduceIte, retP]
          try simp
          try omega
        · by_cases h2 : D.getD i default = 2
          · have hH : hitO P K D I u i = (P.set i false, K, D, I ++ [((i + 1 : Nat) : Int)], u) := by rw [hitO, if_neg h0, if_pos h2]
            rw [hH]
            simp only [↓WP, ↓grdD, ↓grdT, ↓un_dead, ↓binVC, ↓buildVC, ↓sliceVC, WQ, WN, Int.reduceToNat, renl, cll, rent, clt, ↓reduceIte, Nat.reduceLeDiff, Nat.reduceEqDiff, Nat.reduceLT, reduceCtorEq, List.append_nil, Nat.reduceAdd, Nat.reduceSub, Nat.reduceBEq, forall_const, implies_true, cond_true, cond_false, AV.ren, AC.ren, AV.cl, AC.cl, eq_self, List.all_cons, List.all_nil, AV.eqv, AC.eqv, eqvl, eqvt, Sl.eqv, List.map_append, List.length_map, List.length_append, List.length_replicate, List.length_set, List.map_replicate, nilVC, zr_25, sz_25, fs_25, fl_25_0, sz_22, el_22, sz_4, fl_25_1, fl_25_3, sz_23, fl_25_2, el_23, sz_3, fl_25_4, zr_4, zr_3, c_impl_SigOk, c_impl_cloneSig, c_slices_Contains_int, hd, hw, hw1, hM1, hf1, hM2, hf2, hM3, hf3, hget1 i (by omega), hget2 i (by omega), hget3 i (by omega), hI, hs', hst, decide_eq_false h0, decide_eq_true h2, hput]
            repeat' (first | with_reducible refine And.intro ?_ ?_ | intro _)
            all_goals try omega
            all_goals try assumption
            all_goals try exact .inr trivial
            · refine end_ret ?_
              simp only [↓WP, ↓grdD, ↓grdT, ↓un_dead, ↓binVC, ↓buildVC, ↓sliceVC, WQ, WN, Int.reduceToNat, renl, cll, rent, clt, ↓reduceIte, Nat.reduceLeDiff, Nat.reduceEqDiff, Nat.reduceLT, reduceCtorEq, List.append_nil, Nat.reduceAdd, Nat.reduceSub, Nat.reduceBEq, forall_const, implies_true, cond_true, cond_false, AV.ren, AC.ren, AV.cl, AC.cl, eq_self, List.all_cons, List.all_nil, AV.eqv, AC.eqv, eqvl, eqvt, Sl.eqv, List.map_append, List.length_map, List.length_append, List.length_replicate, List.length_set, List.map_replicate, nilVC, zr_25, sz_25, fs_25, fl_25_0, sz_22, el_22, sz_4, fl_25_1, fl_25_3, sz_23, fl_25_2, el_23, sz_3, fl_25_4, zr_4, zr_3, c_impl_SigOk, c_impl_cloneSig, c_slices_Contains_int]
              refine ⟨(p1, p2, p3, p4), [], [2, 3, 4, 5], ?_⟩
              simp only [WL, WNL, swA_new, swA_ne, nest_sw_ne, mapLL, List.mem_cons, Nat.reduceAdd, Nat.reduceLT, Nat.reduceLeDiff, Nat.reduceEqDiff, okU, List.nodup_cons, List.not_mem_nil, toT, toL, toO, keysO, renl, rent, cll, clt, eq_self, AV.eqv, AC.eqv, eqvl, eqvt, Sl.eqv, rowsLe, mapLL, rowsCl, List.map_append, List.length_map, List.length_append, List.length_set, List.map_replicate, rowG, List.getElem?_cons_zero, List.getElem?_cons_succ, List.getElem?_nil, List.append_nil, List.nil_append, List.cons_append, ghosts, St.gh, Option.some.injEq, implies_true, setT, AV.ren, AC.ren, AV.cl, AC.cl, List.replicate_succ, List.replicate_zero, List.nodup_nil, List.length_nil, List.length_cons, List.getD_cons_zero, List.getD_cons_succ, ↓reduceIte, retP, List.length_set, List.map_set]
              try simp
              try omega
            · rename_i k hk _
              refine end_ret ?_
              simp only [↓WP, ↓grdD, ↓grdT, ↓un_dead, ↓binVC, ↓buildVC, ↓sliceVC, WQ, WN, Int.reduceToNat, renl, cll, rent, clt, ↓reduceIte, Nat.reduceLeDiff, Nat.reduceEqDiff, Nat.reduceLT, reduceCtorEq, List.append_nil, Nat.reduceAdd, Nat.reduceSub, Nat.reduceBEq, forall_const, implies_true, cond_true, cond_false, AV.ren, AC.ren, AV.cl, AC.cl, eq_self, List.all_cons, List.all_nil, AV.eqv, AC.eqv, eqvl, eqvt, Sl.eqv, List.map_append, List.length_map, List.length_append, List.length_replicate, List.length_set, List.map_replicate, nilVC, zr_25, sz_25, fs_25, fl_25_0, sz_22, el_22, sz_4, fl_25_1, fl_25_3, sz_23, fl_25_2, el_23, sz_3, fl_25_4, zr_4, zr_3, c_impl_SigOk, c_impl_cloneSig, c_slices_Contains_int]
              refine ⟨(p1, p2, p3, k), [], [2, 3, 4, 8], ?_⟩
              simp only [WL, WNL, swA_new, swA_ne, nest_sw_ne, mapLL, List.mem_cons, Nat.reduceAdd, Nat.reduceLT, Nat.reduceLeDiff, Nat.reduceEqDiff, okU, List.nodup_cons, List.not_mem_nil, toT, toL, toO, keysO, renl, rent, cll, clt, eq_self, AV.eqv, AC.eqv, eqvl, eqvt, Sl.eqv, rowsLe, mapLL, rowsCl, List.map_append, List.length_map, List.length_append, List.length_set, List.map_replicate, rowG, List.getElem?_cons_zero, List.getElem?_cons_succ, List.getElem?_nil, List.append_nil, List.nil_append, List.cons_append, ghosts, St.gh, Option.some.injEq, implies_true, setT, AV.ren, AC.ren, AV.cl, AC.cl, List.replicate_succ, List.replicate_zero, List.nodup_nil, List.length_nil, List.length_cons, List.getD_cons_zero, List.getD_cons_succ, ↓reduceIte, retP, List.length_set, List.map_set]
              try simp
              try omega
          · have hH : hitO P K D I u i = (P.set i false, K, D, I, u) := by rw [hitO, if_neg h0, if_neg h2]
            rw [hH]
            simp only [↓WP, ↓grdD, ↓grdT, ↓un_dead, ↓binVC, ↓buildVC, ↓sliceVC, WQ, WN, Int.reduceToNat, renl, cll, rent, clt, ↓reduceIte, Nat.reduceLeDiff, Nat.reduceEqDiff, Nat.reduceLT, reduceCtorEq, List.append_nil, Nat.reduceAdd, Nat.reduceSub, Nat.reduceBEq, forall_const, implies_true, cond_true, cond_false, AV.ren, AC.ren, AV.cl, AC.cl, eq_self, List.all_cons, List.all_nil, AV.eqv, AC.eqv, eqvl, eqvt, Sl.eqv, List.map_append, List.length_map, List.length_append, List.length_replicate, List.length_set, List.map_replicate, nilVC, zr_25, sz_25, fs_25, fl_25_0, sz_22, el_22, sz_4, fl_25_1, fl_25_3, sz_23, fl_25_2, el_23, sz_3, fl_25_4, zr_4, zr_3, c_impl_SigOk, c_impl_cloneSig, c_slices_Contains_int, hd, hw, hw1, hM1, hf1, hM2, hf2, hM3, hf3, hget1 i (by omega), hget2 i (by omega), hget3 i (by omega), hI, hs', hst, decide_eq_false h0, decide_eq_false h2]
            repeat' (first | with_reducible refine And.intro ?_ ?_ | intro _)
            all_goals try omega
            all_goals try assumption
            all_goals try exact .inl trivial
            all_goals try exact .inr trivial
            refine end_ret ?_
            simp only [↓WP, ↓grdD, ↓grdT, ↓un_dead, ↓binVC, ↓buildVC, ↓sliceVC, WQ, WN, Int.reduceToNat, renl, cll, rent, clt, ↓reduceIte, Nat.reduceLeDiff, Nat.reduceEqDiff, Nat.reduceLT, reduceCtorEq, List.append_nil, Nat.reduceAdd, Nat.reduceSub, Nat.reduceBEq, forall_const, implies_true, cond_true, cond_false, AV.ren, AC.ren, AV.cl, AC.cl, eq_self, List.all_cons, List.all_nil, AV.eqv, AC.eqv, eqvl, eqvt, Sl.eqv, List.map_append, List.length_map, List.length_append, List.length_replicate, List.length_set, List.map_replicate, nilVC, zr_25, sz_25, fs_25, fl_25_0, sz_22, el_22, sz_4, fl_25_1, fl_25_3, sz_23, fl_25_2, el_23, sz_3, fl_25_4, zr_4, zr_3, c_impl_SigOk, c_impl_cloneSig, c_slices_Contains_int]
            refine ⟨(p1, p2, p3, p4), [], [2, 3, 4, 5], ?_⟩
            simp only [WL, WNL, swA_new, swA_ne, nest_sw_ne, mapLL, List.mem_cons, Nat.reduceAdd, Nat.reduceLT, Nat.reduceLeDiff, Nat.reduceEqDiff, okU, List.nodup_cons, List.not_mem_nil, toT, toL, toO, keysO, renl, rent, cll, clt, eq_self, AV.eqv, AC.eqv, eqvl, eqvt, Sl.eqv, rowsLe, mapLL, rowsCl, List.map_append, List.length_map, List.length_append, List.length_set, List.map_replicate, rowG, List.getElem?_cons_zero, List.getElem?_cons_succ, List.getElem?_nil, List.append_nil, List.nil_append, List.cons_append, ghosts, St.gh, Option.some.injEq, implies_true, setT, AV.ren, AC.ren, AV.cl, AC.cl, List.replicate_succ, List.replicate_zero, List.nodup_nil, List.length_nil, List.length_cons, List.getD_cons_zero, List.getD_cons_succ, ↓reduceIte, retP, List.length_set, List.map_set]
            try simp
            try omega
    · obtain rfl : i = 16 := by omega
      have hd : decide (((16 + 1 : Nat) : Int) ≤ 16) = false := by decide
      have hO : nextO P K D I u = ((P, K, D, I, u), 0) := by rw [nextO, if_pos hok, he]; rfl
      rw [hO]
      simp only [↓WP, ↓grdD, ↓grdT, ↓un_dead, ↓binVC, ↓buildVC, ↓sliceVC, WQ, WN, Int.reduceToNat, renl, cll, rent, clt, ↓reduceIte, Nat.reduceLeDiff, Nat.reduceEqDiff, Nat.reduceLT, reduceCtorEq, List.append_nil, Nat.reduceAdd, Nat.reduceSub, Nat.reduceBEq, forall_const, implies_true, cond_true, cond_false, AV.ren, AC.ren, AV.cl, AC.cl, eq_self, List.all_cons, List.all_nil, AV.eqv, AC.eqv, eqvl, eqvt, Sl.eqv, List.map_append, List.length_map, List.length_append, List.length_replicate, List.length_set, List.map_replicate, nilVC, zr_25, sz_25, fs_25, fl_25_0, sz_22, el_22, sz_4, fl_25_1, fl_25_3, sz_23, fl_25_2, el_23, sz_3, fl_25_4, zr_4, zr_3, c_impl_SigOk, c_impl_cloneSig, c_slices_Contains_int, hd, hw]
      refine end_ret ?_
      simp only [↓WP, ↓grdD, ↓grdT, ↓un_dead, ↓binVC, ↓buildVC, ↓sliceVC, WQ, WN, Int.reduceToNat, renl, cll, rent, clt, ↓reduceIte, Nat.reduceLeDiff, Nat.reduceEqDiff, Nat.reduceLT, reduceCtorEq, List.append_nil, Nat.reduceAdd, Nat.reduceSub, Nat.reduceBEq, forall_const, implies_true, cond_true, cond_false, AV.ren, AC.ren, AV.cl, AC.cl, eq_self, List.all_cons, List.all_nil, AV.eqv, AC.eqv, eqvl, eqvt, Sl.eqv, List.map_append, List.length_map, List.length_append, List.length_replicate, List.length_set, List.map_replicate, nilVC, zr_25, sz_25, fs_25, fl_25_0, sz_22, el_22, sz_4, fl_25_1, fl_25_3, sz_23, fl_25_2, el_23, sz_3, fl_25_4, zr_4, zr_3, c_impl_SigOk, c_impl_cloneSig, c_slices_Contains_int]
      refine ⟨(p1, p2, p3, p4), [], [2, 3, 4, 5], ?_⟩
      simp only [WL, WNL, swA_new, swA_ne, nest_sw_ne, mapLL, List.mem_cons, Nat.reduceAdd, Nat.reduceLT, Nat.reduceLeDiff, Nat.reduceEqDiff, okU, List.nodup_cons, List.not_mem_nil, toT, toL, toO, keysO, renl, rent, cll, clt, eq_self, AV.eqv, AC.eqv, eqvl, eqvt, Sl.eqv, rowsLe, mapLL, rowsCl, List.map_append, List.length_map, List.length_append, List.length_set, List.map_replicate, rowG, List.getElem?_cons_zero, List.getElem?_cons_succ, List.getElem?_nil, List.append_nil, List.nil_append, List.cons_append, ghosts, St.gh, Option.some.injEq, implies_true, setT, AV.ren, AC.ren, AV.cl, AC.cl, List.replicate_succ, List.replicate_zero, List.nodup_nil, List.length_nil, List.length_cons, List.getD_cons_zero, List.getD_cons_succ, ↓reduceIte, retP]
      try simp
      try omega
  · have hO : (nextO P K D I u) = (([], [], [], [], 0), 0) := if_neg hok
    rw [hO]
    simp only [↓WP, ↓grdD, ↓grdT, ↓un_dead, ↓binVC, ↓buildVC, ↓sliceVC, WQ, WN, Int.reduceToNat, renl, cll, rent, clt, ↓reduceIte, Nat.reduceLeDiff, Nat.reduceEqDiff, Nat.reduceLT, reduceCtorEq, List.append_nil, Nat.reduceAdd, Nat.reduceSub, Nat.reduceBEq, forall_const, implies_true, cond_true, cond_false, AV.ren, AC.ren, AV.cl, AC.cl, eq_self, List.all_cons, List.all_nil, AV.eqv, AC.eqv, eqvl, eqvt, Sl.eqv, List.map_append, List.length_map, List.length_append, List.length_replicate, List.length_set, List.map_replicate, nilVC, zr_25, sz_25, fs_25, fl_25_0, sz_22, el_22, sz_4, fl_25_1, fl_25_3, sz_23, fl_25_2, el_23, sz_3, fl_25_4, zr_4, zr_3, c_impl_SigOk, c_impl_cloneSig, c_slices_Contains_int, hP, hK, hD, hI, decide_eq_false hok]
    refine ⟨by first | exact ⟨h1, h2, h3, h4, k4⟩ | exact ⟨⟨h1, h2, h3, h4, k4⟩, x2, x3⟩, end_ret ?_⟩
    simp only [↓WP, ↓grdD, ↓grdT, ↓un_dead, ↓binVC, ↓buildVC, ↓sliceVC, WQ, WN, Int.reduceToNat, renl, cll, rent, clt, ↓reduceIte, Nat.reduceLeDiff, Nat.reduceEqDiff, Nat.reduceLT, reduceCtorEq, List.append_nil, Nat.reduceAdd, Nat.reduceSub, Nat.reduceBEq, forall_const, implies_true, cond_true, cond_false, AV.ren, AC.ren, AV.cl, AC.cl, eq_self, List.all_cons, List.all_nil, AV.eqv, AC.eqv, eqvl, eqvt, Sl.eqv, List.map_append, List.length_map, List.length_append, List.length_replicate, List.length_set, List.map_replicate, nilVC, zr_25, sz_25, fs_25, fl_25_0, sz_22, el_22, sz_4, fl_25_1, fl_25_3, sz_23, fl_25_2, el_23, sz_3, fl_25_4, zr_4, zr_3, c_impl_SigOk, c_impl_cloneSig, c_slices_Contains_int]
    refine ⟨(0, 0, 0, 0), [(4, 1), (4, 1), (3, 1), (3, 1)], [2, 3, 4, 5], ?_⟩
    simp [WL, WNL, swA_new, swA_ne, nest_sw_ne, mapLL, List.mem_cons, Nat.reduceAdd, Nat.reduceLT, Nat.reduceLeDiff, Nat.reduceEqDiff, okU, List.nodup_cons, List.not_mem_nil, toT, toL, toO, keysO, renl, rent, cll, clt, eq_self, AV.eqv, AC.eqv, eqvl, eqvt, Sl.eqv, rowsLe, mapLL, rowsCl, List.map_append, List.length_map, List.length_append, List.length_set, List.map_replicate, rowG, List.getElem?_cons_zero, List.getElem?_cons_succ, List.getElem?_nil, List.append_nil, List.nil_append, List.cons_append, ghosts, St.gh, Option.some.injEq, implies_true, setT, AV.ren, AC.ren, AV.cl, AC.cl, List.replicate_succ, List.replicate_zero, List.nodup_nil, List.length_nil, List.length_cons, List.getD_cons_zero, List.getD_cons_succ, ↓reduceIte, retP]
def c_spec_SigBack : Contract := ⟨23, fun args M => match args with
  | [.agg [.sl a1 n1 c1, .sl a2 n2 c2, .sl a3 n3 c3, .sl a4 n4 c4, .int .i64 u]] => .eff ((RowOk Bool a1 n1 (M a1.r) ∧ RowOk Bool a2 n2 (M a2.r) ∧ RowOk Int a3 n3 (M a3.r) ∧ RowOk Int a4 n4 (M a4.r)) ∧ (n1 ≤ c1 ∧ n2 ≤ c2 ∧ n3 ≤ c3 ∧ n4 ≤ c4) ∧ hasRow Bool a2 (M a2.r) ∧ hasRow Int a3 (M a3.r)) (Nat × Nat × Nat × Nat) (fun p => (backO (row Bool a1 n1 (M a1.r)) (row Bool a2 n2 (M a2.r)) (row Int a3 n3 (M a3.r)) (row Int a4 n4 (M a4.r)) u).1.1.length ≤ p.1 ∧ (backO (row Bool a1 n1 (M a1.r)) (row Bool a2 n2 (M a2.r)) (row Int a3 n3 (M a3.r)) (row Int a4 n4 (M a4.r)) u).1.2.1.length ≤ p.2.1 ∧ (backO (row Bool a1 n1 (M a1.r)) (row Bool a2 n2 (M a2.r)) (row Int a3 n3 (M a3.r)) (row Int a4 n4 (M a4.r)) u).1.2.2.1.length ≤ p.2.2.1 ∧ (backO (row Bool a1 n1 (M a1.r)) (row Bool a2 n2 (M a2.r)) (row Int a3 n3 (M a3.r)) (row Int a4 n4 (M a4.r)) u).1.2.2.2.1.length ≤ p.2.2.2) (fun p => .tup [(true, [.sl ⟨.loc 0, 0, 0, 0⟩ (backO (row Bool a1 n1 (M a1.r)) (row Bool a2 n2 (M a2.r)) (row Int a3 n3 (M a3.r)) (row Int a4 n4 (M a4.r)) u).1.1.length p.1, .sl ⟨.loc 1, 0, 0, 0⟩ (backO (row Bool a1 n1 (M a1.r)) (row Bool a2 n2 (M a2.r)) (row Int a3 n3 (M a3.r)) (row Int a4 n4 (M a4.r)) u).1.2.1.length p.2.1, .sl ⟨.loc 2, 0, 0, 0⟩ (backO (row Bool a1 n1 (M a1.r)) (row Bool a2 n2 (M a2.r)) (row Int a3 n3 (M a3.r)) (row Int a4 n4 (M a4.r)) u).1.2.2.1.length p.2.2.1, .sl ⟨.loc 3, 0, 0, 0⟩ (backO (row Bool a1 n1 (M a1.r)) (row Bool a2 n2 (M a2.r)) (row Int a3 n3 (M a3.r)) (row Int a4 n4 (M a4.r)) u).1.2.2.2.1.length p.2.2.2, .int .i64 (backO (row Bool a1 n1 (M a1.r)) (row Bool a2 n2 (M a2.r)) (row Int a3 n3 (M a3.r)) (row Int a4 n4 (M a4.r)) u).1.2.2.2.2]), (false, [.bool (backO (row Bool a1 n1 (M a1.r)) (row Bool a2 n2 (M a2.r)) (row Int a3 n3 (M a3.r)) (row Int a4 n4 (M a4.r)) u).2])]) (fun p => [rowG true 4 p.1 (backO (row Bool a1 n1 (M a1.r)) (row Bool a2 n2 (M a2.r)) (row Int a3 n3 (M a3.r)) (row Int a4 n4 (M a4.r)) u).1.1, rowG true 4 p.2.1 (backO (row Bool a1 n1 (M a1.r)) (row Bool a2 n2 (M a2.r)) (row Int a3 n3 (M a3.r)) (row Int a4 n4 (M a4.r)) u).1.2.1, rowG true 3 p.2.2.1 (backO (row Bool a1 n1 (M a1.r)) (row Bool a2 n2 (M a2.r)) (row Int a3 n3 (M a3.r)) (row Int a4 n4 (M a4.r)) u).1.2.2.1, rowG true 3 p.2.2.2 (backO (row Bool a1 n1 (M a1.r)) (row Bool a2 n2 (M a2.r)) (row Int a3 n3 (M a3.r)) (row Int a4 n4 (M a4.r)) u).1.2.2.2.1]) (fun _ => [])
  | _ => .bad⟩
theorem ok_spec_SigBack : fnP Try.prog c_spec_SigBack.f = true ∧ ∀ args M, (c_spec_SigBack.sp args M).OK Try.prog c_spec_SigBack.f args M := by
  refine ⟨fp_23, fun args M => ?_⟩
  unfold c_spec_SigBack
  dsimp only
  split
  case h_2 => trivial
  rename_i a1 n1 c1 a2 n2 c2 a3 n3 c3 a4 n4 c4 u
  rintro ⟨⟨h1, h2, h3, h4⟩, ⟨k1, k2, k3, k4⟩, x2, x3⟩
  obtain ⟨s1, P, hP, rfl, t1⟩ := h1.x
  obtain ⟨s2, K, hK, rfl, t2⟩ := h2.x
  obtain ⟨s3, D, hD, rfl, t3⟩ := h3.x
  obtain ⟨s4, I, hI, rfl, t4⟩ := h4.x
  rw [hP, hK, hD, hI]
  refine goIn hf_23 rfl (nt := 27) rfl (rs := [.cell 2 25, .tmp 3]) rfl (C := [c_spec_SigOk, c_spec_l32Copy]) ⟨(by first | exact .inl ok_spec_SigOk | exact ok_spec_SigOk), (by first | exact .inl ok_spec_l32Copy | exact ok_spec_l32Copy), trivial⟩ (q := fun _ => false) okQ_none mixed (O := fun _ => .nil) (by kernel_rfl) ?_
  by_cases hok : sigOk P K D I u
  · obtain ⟨l1, l2, l3, l4, _⟩ := hok.1
    obtain ⟨own3, ty3, cnt3, cap3, len3, get3, hM3, hf3, hic3, hkn3, hget3⟩ := t3 (by omega)
    by_cases hi0 : I.length = 0
    · have hO : (backO P K D I u) = ((P, K, D, I, u), false) := by rw [backO, if_pos hok, if_pos hi0]
      have hd0 : decide ((I.length : Int) = 0) = true := by simp only [decide_eq_true_iff]; omega
      rw [hO]
      simp only [↓WP, ↓grdD, ↓grdT, ↓un_dead, ↓binVC, ↓buildVC, ↓sliceVC, WQ, WN, Int.reduceToNat, renl, cll, rent, clt, ↓reduceIte, Nat.reduceLeDiff, Nat.reduceEqDiff, Nat.reduceLT, reduceCtorEq, List.append_nil, Nat.reduceAdd, Nat.reduceSub, Nat.reduceBEq, forall_const, implies_true, cond_true, cond_false, AV.ren, AC.ren, AV.cl, AC.cl, eq_self, List.all_cons, List.all_nil, AV.eqv, AC.eqv, eqvl, eqvt, Sl.eqv, List.map_append, List.length_map, List.length_append, List.length_replicate, List.length_set, List.map_replicate, nilVC, zr_25, sz_25, fs_25, fl_25_3, sz_23, sd_23, el_23, zr_3, c_spec_SigOk, c_spec_l32Copy, hP, hK, hD, hI, decide_eq_true hok, hd0, hasRow_up]
      repeat' (first | with_reducible refine And.intro ?_ ?_ | intro _)
      all_goals try omega
      all_goals try assumption
      all_goals
        rename_i p hp
        obtain ⟨p1, p2, p3, p4⟩ := p
        refine end_ret ?_
        simp only [↓WP, ↓grdD, ↓grdT, ↓un_dead, ↓binVC, ↓buildVC, ↓sliceVC, WQ, WN, Int.reduceToNat, renl, cll, rent, clt, ↓reduceIte, Nat.reduceLeDiff, Nat.reduceEqDiff, Nat.reduceLT, reduceCtorEq, List.append_nil, Nat.reduceAdd, Nat.reduceSub, Nat.reduceBEq, forall_const, implies_true, cond_true, cond_false, AV.ren, AC.ren, AV.cl, AC.cl, eq_self, List.all_cons, List.all_nil, AV.eqv, AC.eqv, eqvl, eqvt, Sl.eqv, List.map_append, List.length_map, List.length_append, List.length_replicate, List.length_set, List.map_replicate, nilVC, zr_25, sz_25, fs_25, fl_25_3, sz_23, sd_23, el_23, zr_3, c_spec_SigOk, c_spec_l32Copy]
        refine ⟨(p1, p2, p3, p4), [], [2, 3, 4, 5], ?_⟩
        simp only [WL, WNL, swA_new, swA_ne, nest_sw_ne, mapLL, List.mem_cons, Nat.reduceAdd, Nat.reduceLT, Nat.reduceLeDiff, Nat.reduceEqDiff, okU, List.nodup_cons, List.not_mem_nil, toT, toL, toO, keysO, renl, rent, cll, clt, eq_self, AV.eqv, AC.eqv, eqvl, eqvt, Sl.eqv, rowsLe, mapLL, rowsCl, List.map_append, List.length_map, List.length_append, List.length_set, List.map_replicate, rowG, List.getElem?_cons_zero, List.getElem?_cons_succ, List.getElem?_nil, List.append_nil, List.nil_append, List.cons_append, ghosts, St.gh, Option.some.injEq, implies_true, setT, AV.ren, AC.ren, AV.cl, AC.cl, List.replicate_succ, List.replicate_zero, List.nodup_nil, List.length_nil, List.length_cons, List.getD_cons_zero, List.getD_cons_succ, ↓reduceIte, retP, List.map_set, List.length_set]
        simp at hp ⊢
        exact hp
    · have hO : (backO P K D I u) = ((P, K, D, I.take (I.length - 1), u), true) := by rw [backO, if_pos hok, if_neg hi0]
      have hd0 : decide ((I.length : Int) = 0) = false := by simp only [decide_eq_false_iff_not]; omega
      have hw : IntKind.i64.wrap ((I.length : Int) - 1) = ((I.length - 1 : Nat) : Int) := by rw [w64 (by omega) (by omega)]; omega
      have htl : (I.take (I.length - 1)).length = I.length - 1 := by simp
      rw [hO]
      have hwi : win (fun k => (List.map enc I).getD (0 + k) []) (I.length - 1) = List.map enc (I.take (I.length - 1)) := by
        rw [win_drop (by simp), List.drop_zero, List.map_take]
      have hwj : win (fun k => (List.map enc I).getD k []) (I.length - 1) = List.map enc (I.take (I.length - 1)) := by
        simpa using hwi
      simp only [↓WP, ↓grdD, ↓grdT, ↓un_dead, ↓binVC, ↓buildVC, ↓sliceVC, WQ, WN, Int.reduceToNat, renl, cll, rent, clt, ↓reduceIte, Nat.reduceLeDiff, Nat.reduceEqDiff, Nat.reduceLT, reduceCtorEq, List.append_nil, Nat.reduceAdd, Nat.reduceSub, Nat.reduceBEq, forall_const, implies_true, cond_true, cond_false, AV.ren, AC.ren, AV.cl, AC.cl, eq_self, List.all_cons, List.all_nil, AV.eqv, AC.eqv, eqvl, eqvt, Sl.eqv, List.map_append, List.length_map, List.length_append, List.length_replicate, List.length_set, List.map_replicate, nilVC, zr_25, sz_25, fs_25, fl_25_3, sz_23, sd_23, el_23, zr_3, c_spec_SigOk, c_spec_l32Copy, hP, hK, hD, hI, decide_eq_true hok, hd0, hw, Nat.sub_zero, hwi, hwj, hasRow_up]
      repeat' (first | with_reducible refine And.intro ?_ ?_ | intro _)
      all_goals try omega
      all_goals try assumption
      all_goals try rfl
      all_goals try exact .inl trivial
      all_goals try exact .inr trivial
      · rename_i p hp _
        have e : I.take (I.length - 1) = [] := List.eq_nil_of_length_eq_zero (by omega)
        obtain ⟨p1, p2, p3, p4⟩ := p
        refine end_ret ?_
        simp only [↓WP, ↓grdD, ↓grdT, ↓un_dead, ↓binVC, ↓buildVC, ↓sliceVC, WQ, WN, Int.reduceToNat, renl, cll, rent, clt, ↓reduceIte, Nat.reduceLeDiff, Nat.reduceEqDiff, Nat.reduceLT, reduceCtorEq, List.append_nil, Nat.reduceAdd, Nat.reduceSub, Nat.reduceBEq, forall_const, implies_true, cond_true, cond_false, AV.ren, AC.ren, AV.cl, AC.cl, eq_self, List.all_cons, List.all_nil, AV.eqv, AC.eqv, eqvl, eqvt, Sl.eqv, List.map_append, List.length_map, List.length_append, List.length_replicate, List.length_set, List.map_replicate, nilVC, zr_25, sz_25, fs_25, fl_25_3, sz_23, sd_23, el_23, zr_3, c_spec_SigOk, c_spec_l32Copy]
        refine ⟨(p1, p2, p3, 0), [(3, 1)], [2, 3, 4, 7], ?_⟩
        simp only [WL, WNL, swA_new, swA_ne, nest_sw_ne, mapLL, List.mem_cons, Nat.reduceAdd, Nat.reduceLT, Nat.reduceLeDiff, Nat.reduceEqDiff, okU, List.nodup_cons, List.not_mem_nil, toT, toL, toO, keysO, renl, rent, cll, clt, eq_self, AV.eqv, AC.eqv, eqvl, eqvt, Sl.eqv, rowsLe, mapLL, rowsCl, List.map_append, List.length_map, List.length_append, List.length_set, List.map_replicate, rowG, List.getElem?_cons_zero, List.getElem?_cons_succ, List.getElem?_nil, List.append_nil, List.nil_append, List.cons_append, ghosts, St.gh, Option.some.injEq, implies_true, setT, AV.ren, AC.ren, AV.cl, AC.cl, List.replicate_succ, List.replicate_zero, List.nodup_nil, List.length_nil, List.length_cons, List.getD_cons_zero, List.getD_cons_succ, ↓reduceIte, retP, e]
        simp at hp ⊢
        omega
      · rename_i p hp _ _ k hk _
        obtain ⟨p1, p2, p3, p4⟩ := p
        refine end_ret ?_
        simp only [↓WP, ↓grdD, ↓grdT, ↓un_dead, ↓binVC, ↓buildVC, ↓sliceVC, WQ, WN, Int.reduceToNat, renl, cll, rent, clt, ↓reduceIte, Nat.reduceLeDiff, Nat.reduceEqDiff, Nat.reduceLT, reduceCtorEq, List.append_nil, Nat.reduceAdd, Nat.reduceSub, Nat.reduceBEq, forall_const, implies_true, cond_true, cond_false, AV.ren, AC.ren, AV.cl, AC.cl, eq_self, List.all_cons, List.all_nil, AV.eqv, AC.eqv, eqvl, eqvt, Sl.eqv, List.map_append, List.length_map, List.length_append, List.length_replicate, List.length_set, List.map_replicate, nilVC, zr_25, sz_25, fs_25, fl_25_3, sz_23, sd_23, el_23, zr_3, c_spec_SigOk, c_spec_l32Copy]
        refine ⟨(p1, p2, p3, k), [], [2, 3, 4, 7], ?_⟩
        simp only [WL, WNL, swA_new, swA_ne, nest_sw_ne, mapLL, List.mem_cons, Nat.reduceAdd, Nat.reduceLT, Nat.reduceLeDiff, Nat.reduceEqDiff, okU, List.nodup_cons, List.not_mem_nil, toT, toL, toO, keysO, renl, rent, cll, clt, eq_self, AV.eqv, AC.eqv, eqvl, eqvt, Sl.eqv, rowsLe, mapLL, rowsCl, List.map_append, List.length_map, List.length_append, List.length_set, List.map_replicate, rowG, List.getElem?_cons_zero, List.getElem?_cons_succ, List.getElem?_nil, List.append_nil, List.nil_append, List.cons_append, ghosts, St.gh, Option.some.injEq, implies_true, setT, AV.ren, AC.ren, AV.cl, AC.cl, List.replicate_succ, List.replicate_zero, List.nodup_nil, List.length_nil, List.length_cons, List.getD_cons_zero, List.getD_cons_succ, ↓reduceIte, retP, htl]
        simp at hp ⊢
        omega
  · have hO : (backO P K D I u) = (([], [], [], [], 0), false) := if_neg hok
    rw [hO]
    simp only [↓WP, ↓grdD, ↓grdT, ↓un_dead, ↓binVC, ↓buildVC, ↓sliceVC, WQ, WN, Int.reduceToNat, renl, cll, rent, clt, ↓reduceIte, Nat.reduceLeDiff, Nat.reduceEqDiff, Nat.reduceLT, reduceCtorEq, List.append_nil, Nat.reduceAdd, Nat.reduceSub, Nat.reduceBEq, forall_const, implies_true, cond_true, cond_false, AV.ren, AC.ren, AV.cl, AC.cl, eq_self, List.all_cons, List.all_nil, AV.eqv, AC.eqv, eqvl, eqvt, Sl.eqv, List.map_append, List.length_map, List.length_append, List.length_replicate, List.length_set, List.map_replicate, nilVC, zr_25, sz_25, fs_25, fl_25_3, sz_23, sd_23, el_23, zr_3, c_spec_SigOk, c_spec_l32Copy, hP, hK, hD, hI, decide_eq_false hok, hasRow_up]
    refine ⟨by first | exact ⟨h1, h2, h3, h4, k4⟩ | exact ⟨⟨h1, h2, h3, h4, k4⟩, x2, x3⟩, end_ret ?_⟩
    simp only [↓WP, ↓grdD, ↓grdT, ↓un_dead, ↓binVC, ↓buildVC, ↓sliceVC, WQ, WN, Int.reduceToNat, renl, cll, rent, clt, ↓reduceIte, Nat.reduceLeDiff, Nat.reduceEqDiff, Nat.reduceLT, reduceCtorEq, List.append_nil, Nat.reduceAdd, Nat.reduceSub, Nat.reduceBEq, forall_const, implies_true, cond_true, cond_false, AV.ren, AC.ren, AV.cl, AC.cl, eq_self, List.all_cons, List.all_nil, AV.eqv, AC.eqv, eqvl, eqvt, Sl.eqv, List.map_append, List.length_map, List.length_append, List.length_replicate, List.length_set, List.map_replicate, nilVC, zr_25, sz_25, fs_25, fl_25_3, sz_23, sd_23, el_23, zr_3, c_spec_SigOk, c_spec_l32Copy]
    refine ⟨(0, 0, 0, 0), [(4, 1), (4, 1), (3, 1), (3, 1)], [2, 3, 4, 5], ?_⟩
    simp [WL, WNL, swA_new, swA_ne, nest_sw_ne, mapLL, List.mem_cons, Nat.reduceAdd, Nat.reduceLT, Nat.reduceLeDiff, Nat.reduceEqDiff, okU, List.nodup_cons, List.not_mem_nil, toT, toL, toO, keysO, renl, rent, cll, clt, eq_self, AV.eqv, AC.eqv, eqvl, eqvt, Sl.eqv, rowsLe, mapLL, rowsCl, List.map_append, List.length_map, List.length_append, List.length_set, List.map_replicate, rowG, List.getElem?_cons_zero, List.getElem?_cons_succ, List.getElem?_nil, List.append_nil, List.nil_append, List.cons_append, ghosts, St.gh, Option.some.injEq, implies_true, setT, AV.ren, AC.ren, AV.cl, AC.cl, List.replicate_succ, List.replicate_zero, List.nodup_nil, List.length_nil, List.length_cons, List.getD_cons_zero, List.getD_cons_succ, ↓reduceIte, retP]
def c_spec_SigNext : Contract := ⟨29, fun args M => match args with
  | [.agg [.sl a1 n1 c1, .sl a2 n2 c2, .sl a3 n3 c3, .sl a4 n4 c4, .int .i64 u]] => .eff ((RowOk Bool a1 n1 (M a1.r) ∧ RowOk Bool a2 n2 (M a2.r) ∧ RowOk Int a3 n3 (M a3.r) ∧ RowOk Int a4 n4 (M a4.r)) ∧ (n1 ≤ c1 ∧ n2 ≤ c2 ∧ n3 ≤ c3 ∧ n4 ≤ c4) ∧ hasRow Bool a2 (M a2.r) ∧ hasRow Int a3 (M a3.r)) (Nat × Nat × Nat × Nat) (fun p => (nextO (row Bool a1 n1 (M a1.r)) (row Bool a2 n2 (M a2.r)) (row Int a3 n3 (M a3.r)) (row Int a4 n4 (M a4.r)) u).1.1.length ≤ p.1 ∧ (nextO (row Bool a1 n1 (M a1.r)) (row Bool a2 n2 (M a2.r)) (row Int a3 n3 (M a3.r)) (row Int a4 n4 (M a4.r)) u).1.2.1.length ≤ p.2.1 ∧ (nextO (row Bool a1 n1 (M a1.r)) (row Bool a2 n2 (M a2.r)) (row Int a3 n3 (M a3.r)) (row Int a4 n4 (M a4.r)) u).1.2.2.1.length ≤ p.2.2.1 ∧ (nextO (row Bool a1 n1 (M a1.r)) (row Bool a2 n2 (M a2.r)) (row Int a3 n3 (M a3.r)) (row Int a4 n4 (M a4.r)) u).1.2.2.2.1.length ≤ p.2.2.2) (fun p => .tup [(true, [.sl ⟨.loc 0, 0, 0, 0⟩ (nextO (row Bool a1 n1 (M a1.r)) (row Bool a2 n2 (M a2.r)) (row Int a3 n3 (M a3.r)) (row Int a4 n4 (M a4.r)) u).1.1.length p.1, .sl ⟨.loc 1, 0, 0, 0⟩ (nextO (row Bool a1 n1 (M a1.r)) (row Bool a2 n2 (M a2.r)) (row Int a3 n3 (M a3.r)) (row Int a4 n4 (M a4.r)) u).1.2.1.length p.2.1, .sl ⟨.loc 2, 0, 0, 0⟩ (nextO (row Bool a1 n1 (M a1.r)) (row Bool a2 n2 (M a2.r)) (row Int a3 n3 (M a3.r)) (row Int a4 n4 (M a4.r)) u).1.2.2.1.length p.2.2.1, .sl ⟨.loc 3, 0, 0, 0⟩ (nextO (row Bool a1 n1 (M a1.r)) (row Bool a2 n2 (M a2.r)) (row Int a3 n3 (M a3.r)) (row Int a4 n4 (M a4.r)) u).1.2.2.2.1.length p.2.2.2, .int .i64 (nextO (row Bool a1 n1 (M a1.r)) (row Bool a2 n2 (M a2.r)) (row Int a3 n3 (M a3.r)) (row Int a4 n4 (M a4.r)) u).1.2.2.2.2]), (false, [.int .i64 (nextO (row Bool a1 n1 (M a1.r)) (row Bool a2 n2 (M a2.r)) (row Int a3 n3 (M a3.r)) (row Int a4 n4 (M a4.r)) u).2])]) (fun p => [rowG true 4 p.1 (nextO (row Bool a1 n1 (M a1.r)) (row Bool a2 n2 (M a2.r)) (row Int a3 n3 (M a3.r)) (row Int a4 n4 (M a4.r)) u).1.1, rowG true 4 p.2.1 (nextO (row Bool a1 n1 (M a1.r)) (row Bool a2 n2 (M a2.r)) (row Int a3 n3 (M a3.r)) (row Int a4 n4 (M a4.r)) u).1.2.1, rowG true 3 p.2.2.1 (nextO (row Bool a1 n1 (M a1.r)) (row Bool a2 n2 (M a2.r)) (row Int a3 n3 (M a3.r)) (row Int a4 n4 (M a4.r)) u).1.2.2.1, rowG true 3 p.2.2.2 (nextO (row Bool a1 n1 (M a1.r)) (row Bool a2 n2 (M a2.r)) (row Int a3 n3 (M a3.r)) (row Int a4 n4 (M a4.r)) u).1.2.2.2.1]) (fun _ => [])
  | _ => .bad⟩
theorem ok_spec_SigNext : fnP Try.prog c_spec_SigNext.f = true ∧ ∀ args M, (c_spec_SigNext.sp args M).OK Try.prog c_spec_SigNext.f args M := by
  refine ⟨fp_29, fun args M => ?_⟩
  unfold c_spec_SigNext
  dsimp only
  split
  case h_2 => trivial
  rename_i a1 n1 c1 a2 n2 c2 a3 n3 c3 a4 n4 c4 u
  rintro ⟨⟨h1, h2, h3, h4⟩, ⟨k1, k2, k3, k4⟩, x2, x3⟩
  obtain ⟨s1, P, hP, rfl, t1⟩ := h1.x
  obtain ⟨s2, K, hK, rfl, t2⟩ := h2.x
  obtain ⟨s3, D, hD, rfl, t3⟩ := h3.x
  obtain ⟨s4, I, hI, rfl, t4⟩ := h4.x
  rw [hP, hK, hD, hI]
  refine goIn hf_29 rfl (nt := 71) rfl (rs := [.cell 2 25, .tmp 3]) rfl (C := [c_spec_SigOk, c_spec_l32Copy, c_spec_l31Has]) ⟨(by first | exact .inl ok_spec_SigOk | exact ok_spec_SigOk), (by first | exact .inl ok_spec_l32Copy | exact ok_spec_l32Copy), (by first | exact .inl ok_spec_l31Has | exact ok_spec_l31Has), trivial⟩ (q := fun _ => false) okQ_none mixed (O := fun _ => .nil) (by kernel_rfl) ?_
  by_cases hok : sigOk P K D I u
  · obtain ⟨l1, l2, l3, l4, _⟩ := hok.1
    obtain ⟨own3, ty3, cnt3, cap3, len3, get3, hM3, hf3, hic3, hkn3, hget3⟩ := t3 (by omega)
    obtain ⟨own1, ty1, cnt1, cap1, len1, get1, hM1, hf1, hic1, hkn1, hget1⟩ := t1 (by omega)
    obtain ⟨own2, ty2, cnt2, cap2, len2, get2, hM2, hf2, hic2, hkn2, hget2⟩ := t2 (by omega)
    simp only [↓WP, ↓grdD, ↓grdT, ↓un_dead, ↓binVC, ↓buildVC, ↓sliceVC, WQ, WN, Int.reduceToNat, renl, cll, rent, clt, ↓reduceIte, Nat.reduceLeDiff, Nat.reduceEqDiff, Nat.reduceLT, reduceCtorEq, List.append_nil, Nat.reduceAdd, Nat.reduceSub, Nat.reduceBEq, forall_const, implies_true, cond_true, cond_false, AV.ren, AC.ren, AV.cl, AC.cl, eq_self, List.all_cons, List.all_nil, AV.eqv, AC.eqv, eqvl, eqvt, Sl.eqv, List.map_append, List.length_map, List.length_append, List.length_replicate, List.length_set, List.map_replicate, nilVC, zr_25, sz_25, fs_25, fl_25_0, sz_22, el_22, sz_4, fl_25_1, fl_25_3, sz_23, fl_25_2, el_23, sz_3, zr_4, zr_3, fl_25_4, c_spec_SigOk, c_spec_l32Copy, c_spec_l31Has, hP, hK, hD, hI, decide_eq_true hok, hasRow_up]
    refine ⟨⟨⟨h1, h2, h3, h4, k4⟩, x2, x3⟩, ⟨⟨h1, h2, h3, h4⟩, l1, l2, l3⟩, fun p hp => ?_⟩
    obtain ⟨p1, p2, p3, p4⟩ := p
    dsimp only at hp
    refine loopI (J := {i : Nat // i ≤ 16 ∧ fst16 (skip P K I) 16 0 = fst16 (skip P K I) (16 - i) i}) (fun i => ⟨slots 71 [(1, .c (.ptr ⟨.loc 0, 0, 0, 0⟩)), (2, .c (.ptr ⟨.loc 1, 0, 0, 0⟩)), (4, .c (.ptr ⟨.loc 6, 0, 0, 0⟩)), (5, Eng.I (i.1 + 1 : Nat))], M, [], [.box 25 [.sl a1.up P.length c1, .sl a2.up K.length c2, .sl a3.up D.length c3, .sl a4.up I.length c4, .int .i64 u], .box 25 [.sl ⟨.nil, 0, 0, 0⟩ 0 0, .sl ⟨.nil, 0, 0, 0⟩ 0 0, .sl ⟨.nil, 0, 0, 0⟩ 0 0, .sl ⟨.nil, 0, 0, 0⟩ 0 0, .int .i64 0], rowG true 4 p1 P, rowG true 4 p2 K, rowG true 3 p3 D, rowG true 3 p4 I, .box 25 [.sl ⟨.loc 2, 0, 0, 0⟩ P.length p1, .sl ⟨.loc 3, 0, 0, 0⟩ K.length p2, .sl ⟨.loc 4, 0, 0, 0⟩ D.length p3, .sl ⟨.loc 5, 0, 0, 0⟩ I.length p4, .int .i64 u]]⟩) (fun i => 16 - i.1) ⟨0, by omega, rfl⟩ (Le_intro [0, 1, 2, 3, 4, 5, 6] (by simp only [WL, WNL, swA_new, swA_ne, nest_sw_ne, mapLL, List.mem_cons, Nat.reduceAdd, Nat.reduceLT, Nat.reduceLeDiff, Nat.reduceEqDiff, okU, List.nodup_cons, List.not_mem_nil, toT, toL, toO, keysO, renl, rent, cll, clt, eq_self, AV.eqv, AC.eqv, eqvl, eqvt, Sl.eqv, rowsLe, mapLL, rowsCl, List.map_append, List.length_map, List.length_append, List.length_set, List.map_replicate, rowG, List.getElem?_cons_zero, List.getElem?_cons_succ, List.getElem?_nil, List.append_nil, List.nil_append, List.cons_append, ghosts, St.gh, Option.some.injEq, implies_true, setT, AV.ren, AC.ren, AV.cl, AC.cl, List.replicate_succ, List.replicate_zero, List.nodup_nil, List.length_nil, List.length_cons, List.getD_cons_zero, List.getD_cons_succ, ↓reduceIte]; try simp)) ?_
    rintro ⟨i, hi, he⟩
    have hw := wS (i := i + 1) (by omega)
    have hw1 : IntKind.i64.wrap (((i + 1 : Nat) : Int) - 1) = (i : Int) := by rw [w64 (by omega) (by omega)]; omega
    rcases Nat.lt_or_ge i 16 with hlt | hge
    · have hd : decide (((i + 1 : Nat) : Int) ≤ 16) = true := by simp only [decide_eq_true_iff]; omega
      have hgP : (List.map enc P).getD i [] = enc (P.getD i default) := getD_enc _ _ (by omega)
      have hgK : (List.map enc K).getD i [] = enc (K.getD i default) := getD_enc _ _ (by omega)
      have hgD : (List.map enc D).getD i [] = enc (D.getD i default) := getD_enc _ _ (by omega)
      have hst : (List.map enc P).set i [AC.bool false] = List.map enc (P.set i false) := by rw [List.map_set, enc_bool]
      have hput : putAt (List.map enc I) I.length [[AC.int .i64 ((i + 1 : Nat) : Int)]] = List.map enc I ++ [[AC.int .i64 ((i + 1 : Nat) : Int)]] := putAt_end (by rw [List.length_map])
      have hw16 : 16 - i = (16 - (i + 1)) + 1 := by omega
      by_cases hs : skip P K I i = true
      · have he2 : fst16 (skip P K I) 16 0 = fst16 (skip P K I) (16 - (i + 1)) (i + 1) := by rw [he, hw16, fst16, if_pos hs]
        have hs' : (!P.getD i default || K.getD i default || I.any fun x => decide (x = ((i + 1 : Nat) : Int))) = true := hs
        simp only [↓WP, ↓grdD, ↓grdT, ↓un_dead, ↓binVC, ↓buildVC, ↓sliceVC, WQ, WN, Int.reduceToNat, renl, cll, rent, clt, ↓reduceIte, Nat.reduceLeDiff, Nat.reduceEqDiff, Nat.reduceLT, reduceCtorEq, List.append_nil, Nat.reduceAdd, Nat.reduceSub, Nat.reduceBEq, forall_const, implies_true, cond_true, cond_false, AV.ren, AC.ren, AV.cl, AC.cl, eq_self, List.all_cons, List.all_nil, AV.eqv, AC.eqv, eqvl, eqvt, Sl.eqv, List.map_append, List.length_map, List.length_append, List.length_replicate, List.length_set, List.map_replicate, nilVC, zr_25, sz_25, fs_25, fl_25_0, sz_22, el_22, sz_4, fl_25_1, fl_25_3, sz_23, fl_25_2, el_23, sz_3, zr_4, zr_3, fl_25_4, c_spec_SigOk, c_spec_l32Copy, c_spec_l31Has, hd, hw, hw1, hgP, hgK, hgD, hs']
        repeat' (first | with_reducible refine And.intro ?_ ?_ | intro _)
        all_goals try omega
        all_goals try assumption
        all_goals try exact .inl trivial
        all_goals try exact .inr trivial
        exact ⟨⟨i + 1, by omega, he2⟩, Le_intro [0, 1, 2, 3, 4, 5, 6] (by simp only [WL, WNL, swA_new, swA_ne, nest_sw_ne, mapLL, List.mem_cons, Nat.reduceAdd, Nat.reduceLT, Nat.reduceLeDiff, Nat.reduceEqDiff, okU, List.nodup_cons, List.not_mem_nil, toT, toL, toO, keysO, renl, rent, cll, clt, eq_self, AV.eqv, AC.eqv, eqvl, eqvt, Sl.eqv, rowsLe, mapLL, rowsCl, List.map_append, List.length_map, List.length_append, List.length_set, List.map_replicate, rowG, List.getElem?_cons_zero, List.getElem?_cons_succ, List.getElem?_nil, List.append_nil, List.nil_append, List.cons_append, ghosts, St.gh, Option.some.injEq, implies_true, setT, AV.ren, AC.ren, AV.cl, AC.cl, List.replicate_succ, List.replicate_zero, List.nodup_nil, List.length_nil, List.length_cons, List.getD_cons_zero, List.getD_cons_succ, ↓reduceIte]; try simp), by show 16 - (i + 1) < 16 - i; omega⟩
      · have he2 : fst16 (skip P K I) 16 0 = some i := by rw [he, hw16, fst16, if_neg hs]
        have hs' : (!P.getD i default || K.getD i default || I.any fun x => decide (x = ((i + 1 : Nat) : Int))) = false := (Bool.not_eq_true _).mp hs
        have hO : nextO P K D I u = (hitO P K D I u i, ((i + 1 : Nat) : Int)) := by rw [nextO, if_pos hok, he2]
        rw [hO]
        by_cases h0 : D.getD i default = 0
        · have hH : hitO P K D I u i = (List.replicate 16 false, K, D, [], ((i + 1 : Nat) : Int)) := if_pos h0
          rw [hH]
          simp only [↓WP, ↓grdD, ↓grdT, ↓un_dead, ↓binVC, ↓buildVC, ↓sliceVC, WQ, WN, Int.reduceToNat, renl, cll, rent, clt, ↓reduceIte, Nat.reduceLeDiff, Nat.reduceEqDiff, Nat.reduceLT, reduceCtorEq, List.append_nil, Nat.reduceAdd, Nat.reduceSub, Nat.reduceBEq, forall_const, implies_true, cond_true, cond_false, AV.ren, AC.ren, AV.cl, AC.cl, eq_self, List.all_cons, List.all_nil, AV.eqv, AC.eqv, eqvl, eqvt, Sl.eqv, List.map_append, List.length_map, List.length_append, List.length_replicate, List.length_set, List.map_replicate, nilVC, zr_25, sz_25, fs_25, fl_25_0, sz_22, el_22, sz_4, fl_25_1, fl_25_3, sz_23, fl_25_2, el_23, sz_3, zr_4, zr_3, fl_25_4, c_spec_SigOk, c_spec_l32Copy, c_spec_l31Has, hd, hw, hw1, hgP, hgK, hgD, hs', hst, decide_eq_true h0]
          repeat' (first | with_reducible refine And.intro ?_ ?_ | intro _)
          all_goals try omega
          all_goals try assumption
          all_goals try exact .inl trivial
          all_goals try exact .inr trivial
          refine end_ret ?_
          simp only [↓WP, ↓grdD, ↓grdT, ↓un_dead, ↓binVC, ↓buildVC, ↓sliceVC, WQ, WN, Int.reduceToNat, renl, cll, rent, clt, ↓reduceIte, Nat.reduceLeDiff, Nat.reduceEqDiff, Nat.reduceLT, reduceCtorEq, List.append_nil, Nat.reduceAdd, Nat.reduceSub, Nat.reduceBEq, forall_const, implies_true, cond_true, cond_false, AV.ren, AC.ren, AV.cl, AC.cl, eq_self, List.all_cons, List.all_nil, AV.eqv, AC.eqv, eqvl, eqvt, Sl.eqv, List.map_append, List.length_map, List.length_append, List.length_replicate, List.length_set, List.map_replicate, nilVC, zr_25, sz_25, fs_25, fl_25_0, sz_22, el_22, sz_4, fl_25_1, fl_25_3, sz_23, fl_25_2, el_23, sz_3, zr_4, zr_3, fl_25_4, c_spec_SigOk, c_spec_l32Copy, c_spec_l31Has]
          refine ⟨(16, p2, p3, 0), [(3, 1)], [7, 3, 4, 8], ?_⟩
          simp only [WL, WNL, swA_new, swA_ne, nest_sw_ne, mapLL, List.mem_cons, Nat.reduceAdd, Nat.reduceLT, Nat.reduceLeDiff, Nat.reduceEqDiff, okU, List.nodup_cons, List.not_mem_nil, toT, toL, toO, keysO, renl, rent, cll, clt, eq_self, AV.eqv, AC.eqv, eqvl, eqvt, Sl.eqv, rowsLe, mapLL, rowsCl, List.map_append, List.length_map, List.length_append, List.length_set, List.map_replicate, rowG, List.getElem?_cons_zero, List.getElem?_cons_succ, List.getElem?_nil, List.append_nil, List.nil_append, List.cons_append, ghosts, St.gh, Option.some.injEq, implies_true, setT, AV.ren, AC.ren, AV.cl, AC.cl, List.replicate_succ, List.replicate_zero, List.nodup_nil, List.length_nil, List.length_cons, List.getD_cons_zero, List.getD_cons_succ, ↓reduceIte, retP]
          try simp
          try omega
        · by_cases h2 : D.getD i default = 2
          · have hH : hitO P K D I u i = (P.set i false, K, D, I ++ [((i + 1 : Nat) : Int)], u) := by rw [hitO, if_neg h0, if_pos h2]
            rw [hH]
            simp only [↓WP, ↓grdD, ↓grdT, ↓un_dead, ↓binVC, ↓buildVC, ↓sliceVC, WQ, WN, Int.reduceToNat, renl, cll, rent, clt, ↓reduceIte, Nat.reduceLeDiff, Nat.reduceEqDiff, Nat.reduceLT, reduceCtorEq, List.append_nil, Nat.reduceAdd, Nat.reduceSub, Nat.reduceBEq, forall_const, implies_true, cond_true, cond_false, AV.ren, AC.ren, AV.cl, AC.cl, eq_self, List.all_cons, List.all_nil, AV.eqv, AC.eqv, eqvl, eqvt, Sl.eqv, List.map_append, List.length_map, List.length_append, List.length_replicate, List.length_set, List.map_replicate, nilVC, zr_25, sz_25, fs_25, fl_25_0, sz_22, el_22, sz_4, fl_25_1, fl_25_3, sz_23, fl_25_2, el_23, sz_3, zr_4, zr_3, fl_25_4, c_spec_SigOk, c_spec_l32Copy, c_spec_l31Has, hd, hw, hw1, hgP, hgK, hgD, hs', hst, decide_eq_false h0, decide_eq_true h2, hput]
            repeat' (first | with_reducible refine And.intro ?_ ?_ | intro _)
            all_goals try omega
            all_goals try assumption
            all_goals try rfl
            all_goals try exact .inl trivial
            all_goals try exact .inr trivial
            · rename_i k hk _
              have e : I = [] := List.eq_nil_of_length_eq_zero (by assumption)
              refine end_ret ?_
              simp only [↓WP, ↓grdD, ↓grdT, ↓un_dead, ↓binVC, ↓buildVC, ↓sliceVC, WQ, WN, Int.reduceToNat, renl, cll, rent, clt, ↓reduceIte, Nat.reduceLeDiff, Nat.reduceEqDiff, Nat.reduceLT, reduceCtorEq, List.append_nil, Nat.reduceAdd, Nat.reduceSub, Nat.reduceBEq, forall_const, implies_true, cond_true, cond_false, AV.ren, AC.ren, AV.cl, AC.cl, eq_self, List.all_cons, List.all_nil, AV.eqv, AC.eqv, eqvl, eqvt, Sl.eqv, List.map_append, List.length_map, List.length_append, List.length_replicate, List.length_set, List.map_replicate, nilVC, zr_25, sz_25, fs_25, fl_25_0, sz_22, el_22, sz_4, fl_25_1, fl_25_3, sz_23, fl_25_2, el_23, sz_3, zr_4, zr_3, fl_25_4, c_spec_SigOk, c_spec_l32Copy, c_spec_l31Has]
              refine ⟨(p1, p2, p3, k), [], [2, 3, 4, 8], ?_⟩
              simp only [WL, WNL, swA_new, swA_ne, nest_sw_ne, mapLL, List.mem_cons, Nat.reduceAdd, Nat.reduceLT, Nat.reduceLeDiff, Nat.reduceEqDiff, okU, List.nodup_cons, List.not_mem_nil, toT, toL, toO, keysO, renl, rent, cll, clt, eq_self, AV.eqv, AC.eqv, eqvl, eqvt, Sl.eqv, rowsLe, mapLL, rowsCl, List.map_append, List.length_map, List.length_append, List.length_set, List.map_replicate, rowG, List.getElem?_cons_zero, List.getElem?_cons_succ, List.getElem?_nil, List.append_nil, List.nil_append, List.cons_append, ghosts, St.gh, Option.some.injEq, implies_true, setT, AV.ren, AC.ren, AV.cl, AC.cl, List.replicate_succ, List.replicate_zero, List.nodup_nil, List.length_nil, List.length_cons, List.getD_cons_zero, List.getD_cons_succ, ↓reduceIte, retP, List.length_set, List.map_set, e]
              try simp
              try omega
            · rename_i k hk0 _ hk
              refine end_ret ?_
              simp only [↓WP, ↓grdD, ↓grdT, ↓un_dead, ↓binVC, ↓buildVC, ↓sliceVC, WQ, WN, Int.reduceToNat, renl, cll, rent, clt, ↓reduceIte, Nat.reduceLeDiff, Nat.reduceEqDiff, Nat.reduceLT, reduceCtorEq, List.append_nil, Nat.reduceAdd, Nat.reduceSub, Nat.reduceBEq, forall_const, implies_true, cond_true, cond_false, AV.ren, AC.ren, AV.cl, AC.cl, eq_self, List.all_cons, List.all_nil, AV.eqv, AC.eqv, eqvl, eqvt, Sl.eqv, List.map_append, List.length_map, List.length_append, List.length_replicate, List.length_set, List.map_replicate, nilVC, zr_25, sz_25, fs_25, fl_25_0, sz_22, el_22, sz_4, fl_25_1, fl_25_3, sz_23, fl_25_2, el_23, sz_3, zr_4, zr_3, fl_25_4, c_spec_SigOk, c_spec_l32Copy, c_spec_l31Has]
              refine ⟨(p1, p2, p3, k), [], [2, 3, 4, 7], ?_⟩
              simp only [WL, WNL, swA_new, swA_ne, nest_sw_ne, mapLL, List.mem_cons, Nat.reduceAdd, Nat.reduceLT, Nat.reduceLeDiff, Nat.reduceEqDiff, okU, List.nodup_cons, List.not_mem_nil, toT, toL, toO, keysO, renl, rent, cll, clt, eq_self, AV.eqv, AC.eqv, eqvl, eqvt, Sl.eqv, rowsLe, mapLL, rowsCl, List.map_append, List.length_map, List.length_append, List.length_set, List.map_replicate, rowG, List.getElem?_cons_zero, List.getElem?_cons_succ, List.getElem?_nil, List.append_nil, List.nil_append, List.cons_append, ghosts, St.gh, Option.some.injEq, implies_true, setT, AV.ren, AC.ren, AV.cl, AC.cl, List.replicate_succ, List.replicate_zero, List.nodup_nil, List.length_nil, List.length_cons, List.getD_cons_zero, List.getD_cons_succ, ↓reduceIte, retP, List.length_set, List.map_set]
              try simp
              try omega
            · rename_i k hk _
              refine end_ret ?_
              simp only [↓WP, ↓grdD, ↓grdT, ↓un_dead, ↓binVC, ↓buildVC, ↓sliceVC, WQ, WN, Int.reduceToNat, renl, cll, rent, clt, ↓reduceIte, Nat.reduceLeDiff, Nat.reduceEqDiff, Nat.reduceLT, reduceCtorEq, List.append_nil, Nat.reduceAdd, Nat.reduceSub, Nat.reduceBEq, forall_const, implies_true, cond_true, cond_false, AV.ren, AC.ren, AV.cl, AC.cl, eq_self, List.all_cons, List.all_nil, AV.eqv, AC.eqv, eqvl, eqvt, Sl.eqv, List.map_append, List.length_map, List.length_append, List.length_replicate, List.length_set, List.map_replicate, nilVC, zr_25, sz_25, fs_25, fl_25_0, sz_22, el_22, sz_4, fl_25_1, fl_25_3, sz_23, fl_25_2, el_23, sz_3, zr_4, zr_3, fl_25_4, c_spec_SigOk, c_spec_l32Copy, c_spec_l31Has]
              refine ⟨(p1, p2, p3, k), [], [2, 3, 4, 9], ?_⟩
              simp only [WL, WNL, swA_new, swA_ne, nest_sw_ne, mapLL, List.mem_cons, Nat.reduceAdd, Nat.reduceLT, Nat.reduceLeDiff, Nat.reduceEqDiff, okU, List.nodup_cons, List.not_mem_nil, toT, toL, toO, keysO, renl, rent, cll, clt, eq_self, AV.eqv, AC.eqv, eqvl, eqvt, Sl.eqv, rowsLe, mapLL, rowsCl, List.map_append, List.length_map, List.length_append, List.length_set, List.map_replicate, rowG, List.getElem?_cons_zero, List.getElem?_cons_succ, List.getElem?_nil, List.append_nil, List.nil_append, List.cons_append, ghosts, St.gh, Option.some.injEq, implies_true, setT, AV.ren, AC.ren, AV.cl, AC.cl, List.replicate_succ, List.replicate_zero, List.nodup_nil, List.length_nil, List.length_cons, List.getD_cons_zero, List.getD_cons_succ, ↓reduceIte, retP, List.length_set, List.map_set]
              try simp
              try omega
          · have hH : hitO P K D I u i = (P.set i false, K, D, I, u) := by rw [hitO, if_neg h0, if_neg h2]
            rw [hH]
            simp only [↓WP, ↓grdD, ↓grdT, ↓un_dead, ↓binVC, ↓buildVC, ↓sliceVC, WQ, WN, Int.reduceToNat, renl, cll, rent, clt, ↓reduceIte, Nat.reduceLeDiff, Nat.reduceEqDiff, Nat.reduceLT, reduceCtorEq, List.append_nil, Nat.reduceAdd, Nat.reduceSub, Nat.reduceBEq, forall_const, implies_true, cond_true, cond_false, AV.ren, AC.ren, AV.cl, AC.cl, eq_self, List.all_cons, List.all_nil, AV.eqv, AC.eqv, eqvl, eqvt, Sl.eqv, List.map_append, List.length_map, List.length_append, List.length_replicate, List.length_set, List.map_replicate, nilVC, zr_25, sz_25, fs_25, fl_25_0, sz_22, el_22, sz_4, fl_25_1, fl_25_3, sz_23, fl_25_2, el_23, sz_3, zr_4, zr_3, fl_25_4, c_spec_SigOk, c_spec_l32Copy, c_spec_l31Has, hd, hw, hw1, hgP, hgK, hgD, hs', hst, decide_eq_false h0, decide_eq_false h2]
            repeat' (first | with_reducible refine And.intro ?_ ?_ | intro _)
            all_goals try omega
            all_goals try assumption
            all_goals try exact .inl trivial
            all_goals try exact .inr trivial
            refine end_ret ?_
            simp only [↓WP, ↓grdD, ↓grdT, ↓un_dead, ↓binVC, ↓buildVC, ↓sliceVC, WQ, WN, Int.reduceToNat, renl, cll, rent, clt, ↓reduceIte, Nat.reduceLeDiff, Nat.reduceEqDiff, Nat.reduceLT, reduceCtorEq, List.append_nil, Nat.reduceAdd, Nat.reduceSub, Nat.reduceBEq, forall_const, implies_true, cond_true, cond_false, AV.ren, AC.ren, AV.cl, AC.cl, eq_self, List.all_cons, List.all_nil, AV.eqv, AC.eqv, eqvl, eqvt, Sl.eqv, List.map_append, List.length_map, List.length_append, List.length_replicate, List.length_set, List.map_replicate, nilVC, zr_25, sz_25, fs_25, fl_25_0, sz_22, el_22, sz_4, fl_25_1, fl_25_3, sz_23, fl_25_2, el_23, sz_3, zr_4, zr_3, fl_25_4, c_spec_SigOk, c_spec_l32Copy, c_spec_l31Has]
            refine ⟨(p1, p2, p3, p4), [], [2, 3, 4, 5], ?_⟩
            simp only [WL, WNL, swA_new, swA_ne, nest_sw_ne, mapLL, List.mem_cons, Nat.reduceAdd, Nat.reduceLT, Nat.reduceLeDiff, Nat.reduceEqDiff, okU, List.nodup_cons, List.not_mem_nil, toT, toL, toO, keysO, renl, rent, cll, clt, eq_self, AV.eqv, AC.eqv, eqvl, eqvt, Sl.eqv, rowsLe, mapLL, rowsCl, List.map_append, List.length_map, List.length_append, List.length_set, List.map_replicate, rowG, List.getElem?_cons_zero, List.getElem?_cons_succ, List.getElem?_nil, List.append_nil, List.nil_append, List.cons_append, ghosts, St.gh, Option.some.injEq, implies_true, setT, AV.ren, AC.ren, AV.cl, AC.cl, List.replicate_succ, List.replicate_zero, List.nodup_nil, List.length_nil, List.length_cons, List.getD_cons_zero, List.getD_cons_succ, ↓reduceIte, retP, List.length_set, List.map_set]
            try simp
            try omega
    · obtain rfl : i = 16 := by omega
      have hd : decide (((16 + 1 : Nat) : Int) ≤ 16) = false := by decide
      have hO : nextO P K D I u = ((P, K, D, I, u), 0) := by rw [nextO, if_pos hok, he]; rfl
      rw [hO]
      simp only [↓WP, ↓grdD, ↓grdT, ↓un_dead, ↓binVC, ↓buildVC, ↓sliceVC, WQ, WN, Int.reduceToNat, renl, cll, rent, clt, ↓reduceIte, Nat.reduceLeDiff, Nat.reduceEqDiff, Nat.reduceLT, reduceCtorEq, List.append_nil, Nat.reduceAdd, Nat.reduceSub, Nat.reduceBEq, forall_const, implies_true, cond_true, cond_false, AV.ren, AC.ren, AV.cl, AC.cl, eq_self, List.all_cons, List.all_nil, AV.eqv, AC.eqv, eqvl, eqvt, Sl.eqv, List.map_append, List.length_map, List.length_append, List.length_replicate, List.length_set, List.map_replicate, nilVC, zr_25, sz_25, fs_25, fl_25_0, sz_22, el_22, sz_4, fl_25_1, fl_25_3, sz_23, fl_25_2, el_23, sz_3, zr_4, zr_3, fl_25_4, c_spec_SigOk, c_spec_l32Copy, c_spec_l31Has, hd, hw]
      refine end_ret ?_
      simp only [↓WP, ↓grdD, ↓grdT, ↓un_dead, ↓binVC, ↓buildVC, ↓sliceVC, WQ, WN, Int.reduceToNat, renl, cll, rent, clt, ↓reduceIte, Nat.reduceLeDiff, Nat.reduceEqDiff, Nat.reduceLT, reduceCtorEq, List.append_nil, Nat.reduceAdd, Nat.reduceSub, Nat.reduceBEq, forall_const, implies_true, cond_true, cond_false, AV.ren, AC.ren, AV.cl, AC.cl, eq_self, List.all_cons, List.all_nil, AV.eqv, AC.eqv, eqvl, eqvt, Sl.eqv, List.map_append, List.length_map, List.length_append, List.length_replicate, List.length_set, List.map_replicate, nilVC, zr_25, sz_25, fs_25, fl_25_0, sz_22, el_22, sz_4, fl_25_1, fl_25_3, sz_23, fl_25_2, el_23, sz_3, zr_4, zr_3, fl_25_4, c_spec_SigOk, c_spec_l32Copy, c_spec_l31Has]
      refine ⟨(p1, p2, p3, p4), [], [2, 3, 4, 5], ?_⟩
      simp only [WL, WNL, swA_new, swA_ne, nest_sw_ne, mapLL, List.mem_cons, Nat.reduceAdd, Nat.reduceLT, Nat.reduceLeDiff, Nat.reduceEqDiff, okU, List.nodup_cons, List.not_mem_nil, toT, toL, toO, keysO, renl, rent, cll, clt, eq_self, AV.eqv, AC.eqv, eqvl, eqvt, Sl.eqv, rowsLe, mapLL, rowsCl, List.map_append, List.length_map, List.length_append, List.length_set, List.map_replicate, rowG, List.getElem?_cons_zero, List.getElem?_cons_succ, List.getElem?_nil, List.append_nil, List.nil_append, List.cons_append, ghosts, St.gh, Option.some.injEq, implies_true, setT, AV.ren, AC.ren, AV.cl, AC.cl, List.replicate_succ, List.replicate_zero, List.nodup_nil, List.length_nil, List.length_cons, List.getD_cons_zero, List.getD_cons_succ, ↓reduceIte, retP]
      try simp
      try omega
  · have hO : (nextO P K D I u) = (([], [], [], [], 0), 0) := if_neg hok
    rw [hO]
    simp only [↓WP, ↓grdD, ↓grdT, ↓un_dead, ↓binVC, ↓buildVC, ↓sliceVC, WQ, WN, Int.reduceToNat, renl, cll, rent, clt, ↓reduceIte, Nat.reduceLeDiff, Nat.reduceEqDiff, Nat.reduceLT, reduceCtorEq, List.append_nil, Nat.reduceAdd, Nat.reduceSub, Nat.reduceBEq, forall_const, implies_true, cond_true, cond_false, AV.ren, AC.ren, AV.cl, AC.cl, eq_self, List.all_cons, List.all_nil, AV.eqv, AC.eqv, eqvl, eqvt, Sl.eqv, List.map_append, List.length_map, List.length_append, List.length_replicate, List.length_set, List.map_replicate, nilVC, zr_25, sz_25, fs_25, fl_25_0, sz_22, el_22, sz_4, fl_25_1, fl_25_3, sz_23, fl_25_2, el_23, sz_3, zr_4, zr_3, fl_25_4, c_spec_SigOk, c_spec_l32Copy, c_spec_l31Has, hP, hK, hD, hI, decide_eq_false hok, hasRow_up]
    refine ⟨by first | exact ⟨h1, h2, h3, h4, k4⟩ | exact ⟨⟨h1, h2, h3, h4, k4⟩, x2, x3⟩, end_ret ?_⟩
    simp only [↓WP, ↓grdD, ↓grdT, ↓un_dead, ↓binVC, ↓buildVC, ↓sliceVC, WQ, WN, Int.reduceToNat, renl, cll, rent, clt, ↓reduceIte, Nat.reduceLeDiff, Nat.reduceEqDiff, Nat.reduceLT, reduceCtorEq, List.append_nil, Nat.reduceAdd, Nat.reduceSub, Nat.reduceBEq, forall_const, implies_true, cond_true, cond_false, AV.ren, AC.ren, AV.cl, AC.cl, eq_self, List.all_cons, List.all_nil, AV.eqv, AC.eqv, eqvl, eqvt, Sl.eqv, List.map_append, List.length_map, List.length_append, List.length_replicate, List.length_set, List.map_replicate, nilVC, zr_25, sz_25, fs_25, fl_25_0, sz_22, el_22, sz_4, fl_25_1, fl_25_3, sz_23, fl_25_2, el_23, sz_3, zr_4, zr_3, fl_25_4, c_spec_SigOk, c_spec_l32Copy, c_spec_l31Has]
    refine ⟨(0, 0, 0, 0), [(4, 1), (4, 1), (3, 1), (3, 1)], [2, 3, 4, 5], ?_⟩
    simp [WL, WNL, swA_new, swA_ne, nest_sw_ne, mapLL, List.mem_cons, Nat.reduceAdd, Nat.reduceLT, Nat.reduceLeDiff, Nat.reduceEqDiff, okU, List.nodup_cons, List.not_mem_nil, toT, toL, toO, keysO, renl, rent, cll, clt, eq_self, AV.eqv, AC.eqv, eqvl, eqvt, Sl.eqv, rowsLe, mapLL, rowsCl, List.map_append, List.length_map, List.length_append, List.length_set, List.map_replicate, rowG, List.getElem?_cons_zero, List.getElem?_cons_succ, List.getElem?_nil, List.append_nil, List.nil_append, List.cons_append, ghosts, St.gh, Option.some.injEq, implies_true, setT, AV.ren, AC.ren, AV.cl, AC.cl, List.replicate_succ, List.replicate_zero, List.nodup_nil, List.length_nil, List.length_cons, List.getD_cons_zero, List.getD_cons_succ, ↓reduceIte, retP]
end Go.Eng.T
