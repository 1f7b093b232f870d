/- sched: the law of SchedNext. -/
import Derived.Test.YtmlenialhmeomaaFn5
set_option linter.unusedVariables false
set_option linter.unusedSimpArgs false
set_option linter.unusedSectionVars false
namespace Go.Eng.T
open Go.Proofs
open Cel (enc dec)
set_option maxRecDepth 100000
set_option maxHeartbeats 4000000
theorem nextOf_len (X : List T3) (t : Int) : (nextOf X t).1.length ≤ X.length := by
  unfold nextOf
  split
  · split
    · exact Nat.le_refl _
    · rw [nextL_length]; exact Nat.le_refl _
  · exact Nat.zero_le _
def c_laws_FnExactSchedNext : Contract := ⟨5, fun args M => match args with
  | [.agg [.sl a n c, .int .i64 _]] => .pure ((n ≤ 9223372036854775807 ∧ n ≤ c) ∧ (n ≤ 4294967296 → RowOk T3 a n (M a.r))) (Eng.B true)
  | _ => .bad⟩
theorem ok_laws_FnExactSchedNext : fnP Try.prog c_laws_FnExactSchedNext.f = true ∧ ∀ args M, (c_laws_FnExactSchedNext.sp args M).OK Try.prog c_laws_FnExactSchedNext.f args M := by
  refine ⟨fp_5, fun args M => ?_⟩
  unfold c_laws_FnExactSchedNext
  dsimp only
  split
  case h_2 => trivial
  rename_i a n c t
  rintro ⟨⟨hn, hc⟩, hrow⟩
  refine goIn hf_5 rfl (nt := 96) rfl (rs := [.tmp 2]) rfl (C := [c_laws_szSched, c_laws_toSched, c_spec_SchedNext, c_impl_SchedNext, c_laws_eqSched, c_laws_markSched, c_laws_heldSched]) ⟨(by first | exact .inl ok_laws_szSched | exact ok_laws_szSched), (by first | exact .inl ok_laws_toSched | exact ok_laws_toSched), (by first | exact .inl ok_spec_SchedNext | exact ok_spec_SchedNext), (by first | exact .inl ok_impl_SchedNext | exact ok_impl_SchedNext), (by first | exact .inl ok_laws_eqSched | exact ok_laws_eqSched), (by first | exact .inl ok_laws_markSched | exact ok_laws_markSched), (by first | exact .inl ok_laws_heldSched | exact ok_laws_heldSched), trivial⟩ (q := fun f => [11, 13].contains f) ⟨fun h => absurd h (by decide), fun _ => q_laws_toSched, fun h => absurd h (by decide), fun h => absurd h (by decide), fun _ => q_laws_eqSched, fun h => absurd h (by decide), fun h => absurd h (by decide), trivial⟩ mixed (O := ots [(10, otl [0, 1, 2, 3, 4] .nil)]) (by kernel_rfl) ?_
  rcases Nat.lt_or_ge 1048576 n with hb | hb
  · simp only [↓WP, ↓grdD, ↓grdT, ↓un_dead, ↓binVC, ↓buildVC, ↓sliceVC, WQ, WN, Int.reduceToNat, renl, cll, rent, clt, ↓reduceIte, Nat.reduceLeDiff, Nat.reduceEqDiff, Nat.reduceLT, reduceCtorEq, List.append_nil, Nat.reduceAdd, Nat.reduceSub, Nat.reduceBEq, forall_const, implies_true, cond_true, cond_false, AV.ren, AC.ren, AV.cl, AC.cl, eq_self, List.all_cons, List.all_nil, AV.eqv, AC.eqv, eqvl, eqvt, Sl.eqv, List.map_append, List.length_map, List.length_append, List.length_replicate, List.length_set, List.map_replicate, nilVC, sz_24, zr_29, sz_29, c_laws_szSched, c_laws_toSched, c_spec_SchedNext, c_impl_SchedNext, c_laws_eqSched, c_laws_markSched, c_laws_heldSched, if_pos (show (1048576 : Int) < n by omega)]
    simp
    omega
  · have hrow := hrow (by omega)
    obtain ⟨hs, X, hX, rfl, hat⟩ := hrow.x
    have hb2 : X.length ≤ 4294967296 := by omega
    obtain ⟨R, hR⟩ : ∃ R, R = nextOf X t := ⟨_, rfl⟩
    simp only [↓WP, ↓grdD, ↓grdT, ↓un_dead, ↓binVC, ↓buildVC, ↓sliceVC, WQ, WN, Int.reduceToNat, renl, cll, rent, clt, ↓reduceIte, Nat.reduceLeDiff, Nat.reduceEqDiff, Nat.reduceLT, reduceCtorEq, List.append_nil, Nat.reduceAdd, Nat.reduceSub, Nat.reduceBEq, forall_const, implies_true, cond_true, cond_false, AV.ren, AC.ren, AV.cl, AC.cl, eq_self, List.all_cons, List.all_nil, AV.eqv, AC.eqv, eqvl, eqvt, Sl.eqv, List.map_append, List.length_map, List.length_append, List.length_replicate, List.length_set, List.map_replicate, nilVC, sz_24, zr_29, sz_29, c_laws_szSched, c_laws_toSched, c_spec_SchedNext, c_impl_SchedNext, c_laws_eqSched, c_laws_markSched, c_laws_heldSched, if_neg (show ¬ (1048576 : Int) < X.length by omega), hrow, hX, ← hR]
    have hl : R.1.length ≤ X.length := by rw [hR]; exact nextOf_len X t
    simp
    repeat' (first | with_reducible refine And.intro ?_ ?_ | intro _)
    all_goals omega
end Go.Eng.T
