/- sched: the law of SchedAdd. -/
import Derived.Test.YtmlenialhmeomaaFn12
set_option linter.unusedVariables false
set_option linter.unusedSimpArgs false
set_option linter.unusedSectionVars false
namespace Go.Eng.T
open Go.Proofs
open Cel (enc dec)
set_option maxRecDepth 100000
set_option maxHeartbeats 4000000
def c_laws_FnExactSchedAdd : Contract := ⟨7, fun args M => match args with
  | [.agg [.sl a n c, .int .i64 _], .c (.int .i64 _), .c (.int .i64 _)] => .pure ((n ≤ 9223372036854775807 ∧ n ≤ c) ∧ (n ≤ 4294967296 → RowOk T3 a n (M a.r))) (Eng.B true)
  | _ => .bad⟩
theorem ok_laws_FnExactSchedAdd : fnP Try.prog c_laws_FnExactSchedAdd.f = true ∧ ∀ args M, (c_laws_FnExactSchedAdd.sp args M).OK Try.prog c_laws_FnExactSchedAdd.f args M := by
  refine ⟨fp_7, fun args M => ?_⟩
  unfold c_laws_FnExactSchedAdd
  dsimp only
  split
  case h_2 => trivial
  rename_i a n c t id nice
  rintro ⟨⟨hn, hc⟩, hrow⟩
  refine goIn hf_7 rfl (nt := 106) rfl (rs := [.tmp 6]) rfl (C := [c_laws_szSched, c_laws_toSched, c_spec_SchedAdd, c_impl_SchedAdd, c_laws_eqSched, c_laws_markSched, c_laws_heldSched]) ⟨(by first | exact .inl ok_laws_szSched | exact ok_laws_szSched), (by first | exact .inl ok_laws_toSched | exact ok_laws_toSched), (by first | exact .inl ok_spec_SchedAdd | exact ok_spec_SchedAdd), (by first | exact .inl ok_impl_SchedAdd | exact ok_impl_SchedAdd), (by first | exact .inl ok_laws_eqSched | exact ok_laws_eqSched), (by first | exact .inl ok_laws_markSched | exact ok_laws_markSched), (by first | exact .inl ok_laws_heldSched | exact ok_laws_heldSched), trivial⟩ (q := fun f => [11, 13].contains f) ⟨fun h => absurd h (by decide), fun _ => q_laws_toSched, fun h => absurd h (by decide), fun h => absurd h (by decide), fun _ => q_laws_eqSched, fun h => absurd h (by decide), fun h => absurd h (by decide), trivial⟩ mixed (O := ots [(10, otl [0, 1, 2, 3, 4] .nil)]) (by kernel_rfl) ?_
  rcases Nat.lt_or_ge 1048576 n with hb | hb
  · simp only [↓WP, ↓grdD, ↓grdT, ↓un_dead, ↓binVC, ↓buildVC, ↓sliceVC, WQ, WN, Int.reduceToNat, renl, cll, rent, clt, ↓reduceIte, Nat.reduceLeDiff, Nat.reduceEqDiff, Nat.reduceLT, reduceCtorEq, List.append_nil, Nat.reduceAdd, Nat.reduceSub, Nat.reduceBEq, forall_const, implies_true, cond_true, cond_false, AV.ren, AC.ren, AV.cl, AC.cl, eq_self, List.all_cons, List.all_nil, AV.eqv, AC.eqv, eqvl, eqvt, Sl.eqv, List.map_append, List.length_map, List.length_append, List.length_replicate, List.length_set, List.map_replicate, nilVC, sz_24, zr_29, sz_29, bt_4, c_laws_szSched, c_laws_toSched, c_spec_SchedAdd, c_impl_SchedAdd, c_laws_eqSched, c_laws_markSched, c_laws_heldSched, if_pos (show (1048576 : Int) < n by omega)]
    simp
    omega
  · have hrow := hrow (by omega)
    obtain ⟨hs, X, hX, rfl, hat⟩ := hrow.x
    have hb2 : X.length ≤ 4294967296 := by omega
    obtain ⟨R, hR⟩ : ∃ R, R = addOf X t id nice := ⟨_, rfl⟩
    have hbb : ∀ b : Bool, (b != b) = false := by decide
    have hl : R.1.length ≤ X.length + 1 := by rw [hR]; exact addOf_len X t id nice
    simp only [↓WP, ↓grdD, ↓grdT, ↓un_dead, ↓binVC, ↓buildVC, ↓sliceVC, WQ, WN, Int.reduceToNat, renl, cll, rent, clt, ↓reduceIte, Nat.reduceLeDiff, Nat.reduceEqDiff, Nat.reduceLT, reduceCtorEq, List.append_nil, Nat.reduceAdd, Nat.reduceSub, Nat.reduceBEq, forall_const, implies_true, cond_true, cond_false, AV.ren, AC.ren, AV.cl, AC.cl, eq_self, List.all_cons, List.all_nil, AV.eqv, AC.eqv, eqvl, eqvt, Sl.eqv, List.map_append, List.length_map, List.length_append, List.length_replicate, List.length_set, List.map_replicate, nilVC, sz_24, zr_29, sz_29, bt_4, c_laws_szSched, c_laws_toSched, c_spec_SchedAdd, c_impl_SchedAdd, c_laws_eqSched, c_laws_markSched, c_laws_heldSched, if_neg (show ¬ (1048576 : Int) < X.length by omega), hrow, hX, ← hR, hbb, hasRow_rows]
    simp
    repeat' (first | with_reducible refine And.intro ?_ ?_ | intro _)
    all_goals try omega
end Go.Eng.T
