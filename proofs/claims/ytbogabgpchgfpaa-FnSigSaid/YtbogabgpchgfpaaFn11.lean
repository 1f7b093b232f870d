/- sig: the laws of SigBack, SigNext. -/
import Derived.Test.YtbogabgpchgfpaaFn10
set_option linter.unusedVariables false
set_option linter.unusedSimpArgs false
set_option linter.unusedSectionVars false
namespace Go.Eng.T
open Go.Proofs
open Cel (enc dec)
set_option maxRecDepth 100000
set_option maxHeartbeats 8000000
theorem backO_len (P K : List Bool) (D I : List Int) (u : Int) : (backO P K D I u).1.1.length ≤ P.length + 16 ∧ (backO P K D I u).1.2.1.length ≤ K.length ∧ (backO P K D I u).1.2.2.1.length ≤ D.length ∧ (backO P K D I u).1.2.2.2.1.length ≤ I.length + 1 := by
  unfold backO
  repeat' split
  all_goals simp
  all_goals try omega
theorem nextO_len (P K : List Bool) (D I : List Int) (u : Int) : (nextO P K D I u).1.1.length ≤ P.length + 16 ∧ (nextO P K D I u).1.2.1.length ≤ K.length ∧ (nextO P K D I u).1.2.2.1.length ≤ D.length ∧ (nextO P K D I u).1.2.2.2.1.length ≤ I.length + 1 := by
  unfold nextO
  split
  · split
    · unfold hitO
      repeat' split
      all_goals simp
      all_goals try omega
    · simp
  · simp
def c_laws_FnExactSigBack : Contract := ⟨6, fun args M => match args with
  | [.agg [.sl a1 n1 _, .sl a2 n2 _, .sl a3 n3 _, .sl a4 n4 _, .int .i64 u]] => .pure ((n1 ≤ 9223372036854775807 ∧ n2 ≤ 9223372036854775807 ∧ n3 ≤ 9223372036854775807 ∧ n4 ≤ 9223372036854775807) ∧ (n1 ≤ 1048576 → RowOk Bool a1 n1 (M a1.r)) ∧ (n2 ≤ 1048576 → RowOk Bool a2 n2 (M a2.r)) ∧ (n3 ≤ 1048576 → RowOk Int a3 n3 (M a3.r)) ∧ (n4 ≤ 1048576 → RowOk Int a4 n4 (M a4.r))) (Eng.B true)
  | _ => .bad⟩
theorem ok_laws_FnExactSigBack : fnP Try.prog c_laws_FnExactSigBack.f = true ∧ ∀ args M, (c_laws_FnExactSigBack.sp args M).OK Try.prog c_laws_FnExactSigBack.f args M := by
  refine ⟨fp_6, fun args M => ?_⟩
  unfold c_laws_FnExactSigBack
  dsimp only
  split
  case h_2 => trivial
  rename_i a1 n1 c1 a2 n2 c2 a3 n3 c3 a4 n4 c4 u
  rintro ⟨⟨g1, g2, g3, g4⟩, r1, r2, r3, r4⟩
  refine goIn hf_6 rfl (nt := 96) rfl (rs := [.tmp 2]) rfl (C := [c_laws_szSig, c_laws_toSig, c_spec_SigBack, c_impl_SigBack, c_laws_eqSig, c_laws_markSig, c_laws_heldSig]) ⟨(by first | exact .inl ok_laws_szSig | exact ok_laws_szSig), (by first | exact .inl ok_laws_toSig | exact ok_laws_toSig), (by first | exact .inl ok_spec_SigBack | exact ok_spec_SigBack), (by first | exact .inl ok_impl_SigBack | exact ok_impl_SigBack), (by first | exact .inl ok_laws_eqSig | exact ok_laws_eqSig), (by first | exact .inl ok_laws_markSig | exact ok_laws_markSig), (by first | exact .inl ok_laws_heldSig | exact ok_laws_heldSig), trivial⟩ (q := fun f => [19, 14].contains f) ⟨fun h => absurd h (by decide), fun _ => q_laws_toSig, fun h => absurd h (by decide), fun h => absurd h (by decide), fun _ => q_laws_eqSig, fun h => absurd h (by decide), fun h => absurd h (by decide), trivial⟩ mixed (O := ots [(10, otl [0, 1, 2, 3, 4] .nil)]) (by kernel_rfl) ?_
  by_cases hb : (1048576 : Int) < (n1 : Int) + n2 + n3 + n4
  · simp only [↓WP, ↓grdD, ↓grdT, ↓un_dead, ↓binVC, ↓buildVC, ↓sliceVC, WQ, WN, Int.reduceToNat, renl, cll, rent, clt, ↓reduceIte, Nat.reduceLeDiff, Nat.reduceEqDiff, Nat.reduceLT, reduceCtorEq, List.append_nil, Nat.reduceAdd, Nat.reduceSub, Nat.reduceBEq, forall_const, implies_true, cond_true, cond_false, AV.ren, AC.ren, AV.cl, AC.cl, eq_self, List.all_cons, List.all_nil, AV.eqv, AC.eqv, eqvl, eqvt, Sl.eqv, List.map_append, List.length_map, List.length_append, List.length_replicate, List.length_set, List.map_replicate, nilVC, sz_30, zr_25, sz_25, bt_4, c_laws_szSig, c_laws_toSig, c_spec_SigBack, c_impl_SigBack, c_laws_eqSig, c_laws_markSig, c_laws_heldSig, if_pos hb]
    simp
    omega
  · have r1 := r1 (by omega)
    have r2 := r2 (by omega)
    have r3 := r3 (by omega)
    have r4 := r4 (by omega)
    obtain ⟨s1, P, hP, rfl, t1⟩ := r1.x
    obtain ⟨s2, K, hK, rfl, t2⟩ := r2.x
    obtain ⟨s3, D, hD, rfl, t3⟩ := r3.x
    obtain ⟨s4, I, hI, rfl, t4⟩ := r4.x
    have hl := backO_len P K D I u
    obtain ⟨O, hO⟩ : ∃ O, O = backO P K D I u := ⟨_, rfl⟩
    rw [← hO] at hl
    have m1 : O.1.1.length ≤ 4294967296 := by omega
    have m2 : O.1.2.1.length ≤ 4294967296 := by omega
    have m3 : O.1.2.2.1.length ≤ 4294967296 := by omega
    have m4 : O.1.2.2.2.1.length ≤ 4294967296 := by omega
    have hbb : ∀ b : Bool, (b != b) = false := by decide
    simp only [↓WP, ↓grdD, ↓grdT, ↓un_dead, ↓binVC, ↓buildVC, ↓sliceVC, WQ, WN, Int.reduceToNat, renl, cll, rent, clt, ↓reduceIte, Nat.reduceLeDiff, Nat.reduceEqDiff, Nat.reduceLT, reduceCtorEq, List.append_nil, Nat.reduceAdd, Nat.reduceSub, Nat.reduceBEq, forall_const, implies_true, cond_true, cond_false, AV.ren, AC.ren, AV.cl, AC.cl, eq_self, List.all_cons, List.all_nil, AV.eqv, AC.eqv, eqvl, eqvt, Sl.eqv, List.map_append, List.length_map, List.length_append, List.length_replicate, List.length_set, List.map_replicate, nilVC, sz_30, zr_25, sz_25, bt_4, c_laws_szSig, c_laws_toSig, c_spec_SigBack, c_impl_SigBack, c_laws_eqSig, c_laws_markSig, c_laws_heldSig, if_neg hb, hasRow_rows, hP, hK, hD, hI, ← hO, hbb, r1, r2, r3, r4]
    simp only [s1, s2, s3, s4, m1, m2, m3, m4, g1, g2, g3, g4, true_and, and_true, or_true, implies_true, decide_true, Bool.not_true, Bool.or_self, Bool.or_false, Bool.false_eq_true, false_implies, forall_const]
    simp
    repeat' (first | with_reducible refine And.intro ?_ ?_ | intro _)
    all_goals omega
def c_laws_FnExactSigNext : Contract := ⟨9, fun args M => match args with
  | [.agg [.sl a1 n1 _, .sl a2 n2 _, .sl a3 n3 _, .sl a4 n4 _, .int .i64 u]] => .pure ((n1 ≤ 9223372036854775807 ∧ n2 ≤ 9223372036854775807 ∧ n3 ≤ 9223372036854775807 ∧ n4 ≤ 9223372036854775807) ∧ (n1 ≤ 1048576 → RowOk Bool a1 n1 (M a1.r)) ∧ (n2 ≤ 1048576 → RowOk Bool a2 n2 (M a2.r)) ∧ (n3 ≤ 1048576 → RowOk Int a3 n3 (M a3.r)) ∧ (n4 ≤ 1048576 → RowOk Int a4 n4 (M a4.r))) (Eng.B true)
  | _ => .bad⟩
theorem ok_laws_FnExactSigNext : fnP Try.prog c_laws_FnExactSigNext.f = true ∧ ∀ args M, (c_laws_FnExactSigNext.sp args M).OK Try.prog c_laws_FnExactSigNext.f args M := by
  refine ⟨fp_9, fun args M => ?_⟩
  unfold c_laws_FnExactSigNext
  dsimp only
  split
  case h_2 => trivial
  rename_i a1 n1 c1 a2 n2 c2 a3 n3 c3 a4 n4 c4 u
  rintro ⟨⟨g1, g2, g3, g4⟩, r1, r2, r3, r4⟩
  refine goIn hf_9 rfl (nt := 96) rfl (rs := [.tmp 2]) rfl (C := [c_laws_szSig, c_laws_toSig, c_spec_SigNext, c_impl_SigNext, c_laws_eqSig, c_laws_markSig, c_laws_heldSig]) ⟨(by first | exact .inl ok_laws_szSig | exact ok_laws_szSig), (by first | exact .inl ok_laws_toSig | exact ok_laws_toSig), (by first | exact .inl ok_spec_SigNext | exact ok_spec_SigNext), (by first | exact .inl ok_impl_SigNext | exact ok_impl_SigNext), (by first | exact .inl ok_laws_eqSig | exact ok_laws_eqSig), (by first | exact .inl ok_laws_markSig | exact ok_laws_markSig), (by first | exact .inl ok_laws_heldSig | exact ok_laws_heldSig), trivial⟩ (q := fun f => [19, 14].contains f) ⟨fun h => absurd h (by decide), fun _ => q_laws_toSig, fun h => absurd h (by decide), fun h => absurd h (by decide), fun _ => q_laws_eqSig, fun h => absurd h (by decide), fun h => absurd h (by decide), trivial⟩ mixed (O := ots [(10, otl [0, 1, 2, 3, 4] .nil)]) (by kernel_rfl) ?_
  by_cases hb : (1048576 : Int) < (n1 : Int) + n2 + n3 + n4
  · simp only [↓WP, ↓grdD, ↓grdT, ↓un_dead, ↓binVC, ↓buildVC, ↓sliceVC, WQ, WN, Int.reduceToNat, renl, cll, rent, clt, ↓reduceIte, Nat.reduceLeDiff, Nat.reduceEqDiff, Nat.reduceLT, reduceCtorEq, List.append_nil, Nat.reduceAdd, Nat.reduceSub, Nat.reduceBEq, forall_const, implies_true, cond_true, cond_false, AV.ren, AC.ren, AV.cl, AC.cl, eq_self, List.all_cons, List.all_nil, AV.eqv, AC.eqv, eqvl, eqvt, Sl.eqv, List.map_append, List.length_map, List.length_append, List.length_replicate, List.length_set, List.map_replicate, nilVC, sz_30, zr_25, sz_25, c_laws_szSig, c_laws_toSig, c_spec_SigNext, c_impl_SigNext, c_laws_eqSig, c_laws_markSig, c_laws_heldSig, if_pos hb]
    simp
    omega
  · have r1 := r1 (by omega)
    have r2 := r2 (by omega)
    have r3 := r3 (by omega)
    have r4 := r4 (by omega)
    obtain ⟨s1, P, hP, rfl, t1⟩ := r1.x
    obtain ⟨s2, K, hK, rfl, t2⟩ := r2.x
    obtain ⟨s3, D, hD, rfl, t3⟩ := r3.x
    obtain ⟨s4, I, hI, rfl, t4⟩ := r4.x
    have hl := nextO_len P K D I u
    obtain ⟨O, hO⟩ : ∃ O, O = nextO P K D I u := ⟨_, rfl⟩
    rw [← hO] at hl
    have m1 : O.1.1.length ≤ 4294967296 := by omega
    have m2 : O.1.2.1.length ≤ 4294967296 := by omega
    have m3 : O.1.2.2.1.length ≤ 4294967296 := by omega
    have m4 : O.1.2.2.2.1.length ≤ 4294967296 := by omega
    have hbb : ∀ b : Bool, (b != b) = false := by decide
    simp only [↓WP, ↓grdD, ↓grdT, ↓un_dead, ↓binVC, ↓buildVC, ↓sliceVC, WQ, WN, Int.reduceToNat, renl, cll, rent, clt, ↓reduceIte, Nat.reduceLeDiff, Nat.reduceEqDiff, Nat.reduceLT, reduceCtorEq, List.append_nil, Nat.reduceAdd, Nat.reduceSub, Nat.reduceBEq, forall_const, implies_true, cond_true, cond_false, AV.ren, AC.ren, AV.cl, AC.cl, eq_self, List.all_cons, List.all_nil, AV.eqv, AC.eqv, eqvl, eqvt, Sl.eqv, List.map_append, List.length_map, List.length_append, List.length_replicate, List.length_set, List.map_replicate, nilVC, sz_30, zr_25, sz_25, c_laws_szSig, c_laws_toSig, c_spec_SigNext, c_impl_SigNext, c_laws_eqSig, c_laws_markSig, c_laws_heldSig, if_neg hb, hasRow_rows, hP, hK, hD, hI, ← hO, hbb, r1, r2, r3, r4]
    simp only [s1, s2, s3, s4, m1, m2, m3, m4, g1, g2, g3, g4, true_and, and_true, or_true, implies_true, decide_true, Bool.not_true, Bool.or_self, Bool.or_false, Bool.false_eq_true, false_implies, forall_const]
    simp
    repeat' (first | with_reducible refine And.intro ?_ ?_ | intro _)
    all_goals omega
end Go.Eng.T
