/- sig: the law of SigOk. -/
import Derived.Test.YtbogabgpchgfpaaFn5
set_option linter.unusedVariables false
set_option linter.unusedSimpArgs false
set_option linter.unusedSectionVars false
namespace Go.Eng.T
open Go.Proofs
open Cel (enc dec)
set_option maxRecDepth 100000
set_option maxHeartbeats 4000000
def c_laws_FnExactSigOk : Contract := ⟨4, fun args M => match args with
  | [.agg [.sl a1 n1 _, .sl a2 n2 _, .sl a3 n3 _, .sl a4 n4 _, .int .i64 u]] => .pure ((n1 ≤ 9223372036854775807 ∧ n2 ≤ 9223372036854775807 ∧ n3 ≤ 9223372036854775807 ∧ n4 ≤ 9223372036854775807) ∧ (n1 ≤ 1048576 → RowOk Bool a1 n1 (M a1.r)) ∧ (n2 ≤ 1048576 → RowOk Bool a2 n2 (M a2.r)) ∧ (n3 ≤ 1048576 → RowOk Int a3 n3 (M a3.r)) ∧ (n4 ≤ 1048576 → RowOk Int a4 n4 (M a4.r))) (Eng.B true)
  | _ => .bad⟩
theorem ok_laws_FnExactSigOk : fnP Try.prog c_laws_FnExactSigOk.f = true ∧ ∀ args M, (c_laws_FnExactSigOk.sp args M).OK Try.prog c_laws_FnExactSigOk.f args M := by
  refine ⟨fp_4, fun args M => ?_⟩
  unfold c_laws_FnExactSigOk
  dsimp only
  split
  case h_2 => trivial
  rename_i a1 n1 c1 a2 n2 c2 a3 n3 c3 a4 n4 c4 u
  rintro ⟨⟨g1, g2, g3, g4⟩, r1, r2, r3, r4⟩
  refine goIn hf_4 rfl (nt := 27) rfl (rs := [.tmp 2]) rfl (C := [c_laws_szSig, c_laws_toSig, c_spec_SigOk, c_impl_SigOk, c_laws_eqSig]) ⟨(by first | exact .inl ok_laws_szSig | exact ok_laws_szSig), (by first | exact .inl ok_laws_toSig | exact ok_laws_toSig), (by first | exact .inl ok_spec_SigOk | exact ok_spec_SigOk), (by first | exact .inl ok_impl_SigOk | exact ok_impl_SigOk), (by first | exact .inl ok_laws_eqSig | exact ok_laws_eqSig), trivial⟩ (q := fun f => [19, 14].contains f) ⟨fun h => absurd h (by decide), fun _ => q_laws_toSig, fun h => absurd h (by decide), fun h => absurd h (by decide), fun _ => q_laws_eqSig, trivial⟩ mixed (O := ots [(10, otl [0, 1, 2, 3, 4] .nil)]) (by kernel_rfl) ?_
  by_cases hb : (1048576 : Int) < (n1 : Int) + n2 + n3 + n4
  · simp only [↓WP, ↓grdD, ↓grdT, ↓un_dead, ↓binVC, ↓buildVC, ↓sliceVC, WQ, WN, Int.reduceToNat, renl, cll, rent, clt, ↓reduceIte, Nat.reduceLeDiff, Nat.reduceEqDiff, Nat.reduceLT, reduceCtorEq, List.append_nil, Nat.reduceAdd, Nat.reduceSub, Nat.reduceBEq, forall_const, implies_true, cond_true, cond_false, AV.ren, AC.ren, AV.cl, AC.cl, eq_self, List.all_cons, List.all_nil, AV.eqv, AC.eqv, eqvl, eqvt, Sl.eqv, List.map_append, List.length_map, List.length_append, List.length_replicate, List.length_set, List.map_replicate, nilVC, sz_30, zr_25, sz_25, bt_4, c_laws_szSig, c_laws_toSig, c_spec_SigOk, c_impl_SigOk, c_laws_eqSig, if_pos hb]
    simp
    omega
  · have r1 := r1 (by omega)
    have r2 := r2 (by omega)
    have r3 := r3 (by omega)
    have r4 := r4 (by omega)
    have k1 : n1 ≤ 4294967296 := by omega
    have k2 : n2 ≤ 4294967296 := by omega
    have k3 : n3 ≤ 4294967296 := by omega
    have k4 : n4 ≤ 4294967296 := by omega
    simp only [↓WP, ↓grdD, ↓grdT, ↓un_dead, ↓binVC, ↓buildVC, ↓sliceVC, WQ, WN, Int.reduceToNat, renl, cll, rent, clt, ↓reduceIte, Nat.reduceLeDiff, Nat.reduceEqDiff, Nat.reduceLT, reduceCtorEq, List.append_nil, Nat.reduceAdd, Nat.reduceSub, Nat.reduceBEq, forall_const, implies_true, cond_true, cond_false, AV.ren, AC.ren, AV.cl, AC.cl, eq_self, List.all_cons, List.all_nil, AV.eqv, AC.eqv, eqvl, eqvt, Sl.eqv, List.map_append, List.length_map, List.length_append, List.length_replicate, List.length_set, List.map_replicate, nilVC, sz_30, zr_25, sz_25, bt_4, c_laws_szSig, c_laws_toSig, c_spec_SigOk, c_impl_SigOk, c_laws_eqSig, if_neg hb, hasRow_rows]
    simp [k1, k2, k3, k4, r1, r2, r3, r4, g1, g2, g3, g4]
    try omega
end Go.Eng.T
