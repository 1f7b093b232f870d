/- sig: the law FnSigs. -/
import Derived.Test.YtbogabgpchgfpaaFn16
set_option linter.unusedVariables false
set_option linter.unusedSimpArgs false
set_option linter.unusedSectionVars false
namespace Go.Eng.T
open Go.Proofs
open Cel (enc dec)
set_option maxRecDepth 100000
set_option maxHeartbeats 8000000
theorem set_same {P K : List Bool} {D I : List Int} {u n d : Int} (h : sigOk P K D I u) (h2 : (setO P K D I u n d).2 = false) : (setO P K D I u n d).1.2.2.1 = D := by
  unfold setO at h2 ⊢
  rw [if_pos h] at h2 ⊢
  split at h2
  · split at h2 <;> cases h2
  · rename_i hc; rw [if_neg hc]
def c_laws_FnSigs : Contract := ⟨11, fun args M => match args with
  | [.c (.sl a n _)] => .pure (n ≤ 9223372036854775807 ∧ (n ≤ 4294967296 → RowOk UInt8 a n (M a.r))) (Eng.B true)
  | _ => .bad⟩
theorem ok_laws_FnSigs : fnP Try.prog c_laws_FnSigs.f = true ∧ ∀ args M, (c_laws_FnSigs.sp args M).OK Try.prog c_laws_FnSigs.f args M := by
  refine ⟨fp_11, fun args M => ?_⟩
  unfold c_laws_FnSigs
  dsimp only
  split
  case h_2 => trivial
  rename_i a n ca
  rintro ⟨hn, h1⟩
  refine goIn hf_11 rfl (nt := 139) rfl (rs := [.tmp 2]) rfl (C := [c_laws_big, c_spec_DrawSigNext, c_impl_SigNext, c_spec_SigNext, c_spec_DrawSigSet, c_impl_SigSet, c_spec_SigSet, c_spec_DrawSigMask, c_impl_SigMask, c_spec_SigMask, c_laws_sameInts, c_spec_SigOk]) ⟨(by first | exact .inl ok_laws_big | exact ok_laws_big), (by first | exact .inl ok_spec_DrawSigNext | exact ok_spec_DrawSigNext), (by first | exact .inl ok_impl_SigNext | exact ok_impl_SigNext), (by first | exact .inl ok_spec_SigNext | exact ok_spec_SigNext), (by first | exact .inl ok_spec_DrawSigSet | exact ok_spec_DrawSigSet), (by first | exact .inl ok_impl_SigSet | exact ok_impl_SigSet), (by first | exact .inl ok_spec_SigSet | exact ok_spec_SigSet), (by first | exact .inl ok_spec_DrawSigMask | exact ok_spec_DrawSigMask), (by first | exact .inl ok_impl_SigMask | exact ok_impl_SigMask), (by first | exact .inl ok_spec_SigMask | exact ok_spec_SigMask), (by first | exact .inl ok_laws_sameInts | exact ok_laws_sameInts), (by first | exact .inl ok_spec_SigOk | exact ok_spec_SigOk), trivial⟩ (q := fun _ => false) okQ_none mixed (O := fun _ => .nil) (by kernel_rfl) ?_
  by_cases hs : 1048576 < n
  · simp only [↓WP, ↓grdD, ↓grdT, ↓un_dead, ↓binVC, ↓buildVC, ↓sliceVC, WQ, WN, Int.reduceToNat, renl, cll, rent, clt, ↓reduceIte, Nat.reduceLeDiff, Nat.reduceEqDiff, Nat.reduceLT, reduceCtorEq, List.append_nil, Nat.reduceAdd, Nat.reduceSub, Nat.reduceBEq, forall_const, implies_true, cond_true, cond_false, AV.ren, AC.ren, AV.cl, AC.cl, eq_self, List.all_cons, List.all_nil, AV.eqv, AC.eqv, eqvl, eqvt, Sl.eqv, List.map_append, List.length_map, List.length_append, List.length_replicate, List.length_set, List.map_replicate, nilVC, zr_25, sz_25, fl_25_4, sz_3, fl_25_3, sz_23, bt_4, fl_25_2, c_laws_big, c_spec_DrawSigNext, c_impl_SigNext, c_spec_SigNext, c_spec_DrawSigSet, c_impl_SigSet, c_spec_SigSet, c_spec_DrawSigMask, c_impl_SigMask, c_spec_SigMask, c_laws_sameInts, c_spec_SigOk, decide_eq_true hs]
  · have ha := h1 (by omega)
    simp (config := { maxSteps := 1000000 }) only [↓WP, ↓grdD, ↓grdT, ↓un_dead, ↓binVC, ↓buildVC, ↓sliceVC, WQ, WN, Int.reduceToNat, renl, cll, rent, clt, ↓reduceIte, Nat.reduceLeDiff, Nat.reduceEqDiff, Nat.reduceLT, reduceCtorEq, List.append_nil, Nat.reduceAdd, Nat.reduceSub, Nat.reduceBEq, forall_const, implies_true, cond_true, cond_false, AV.ren, AC.ren, AV.cl, AC.cl, eq_self, List.all_cons, List.all_nil, AV.eqv, AC.eqv, eqvl, eqvt, Sl.eqv, List.map_append, List.length_map, List.length_append, List.length_replicate, List.length_set, List.map_replicate, nilVC, zr_25, sz_25, fl_25_4, sz_3, fl_25_3, sz_23, bt_4, fl_25_2, c_laws_big, c_spec_DrawSigNext, c_impl_SigNext, c_spec_SigNext, c_spec_DrawSigSet, c_impl_SigSet, c_spec_SigSet, c_spec_DrawSigMask, c_impl_SigMask, c_spec_SigMask, c_laws_sameInts, c_spec_SigOk, decide_eq_false hs, ha, drL, drC, actN]
    repeat' (first | with_reducible refine And.intro ?_ ?_ | intro _)
    all_goals try omega
    all_goals try exact .inr trivial
    all_goals try (rw [hasRow_rows]; exact ⟨rfl, rfl, Nat.zero_lt_one, Nat.zero_le _⟩)
    all_goals try (refine Nat.le_trans (nextO_len _ _ _ _ _).1 ?_; omega)
    all_goals try (refine Nat.le_trans (nextO_len _ _ _ _ _).2.1 ?_; omega)
    all_goals try (refine Nat.le_trans (nextO_len _ _ _ _ _).2.2.1 ?_; omega)
    all_goals try (refine Nat.le_trans (nextO_len _ _ _ _ _).2.2.2 ?_; omega)
    all_goals try (refine Nat.le_trans (setO_len _ _ _ _ _ _ _).1 ?_; omega)
    all_goals try (refine Nat.le_trans (setO_len _ _ _ _ _ _ _).2.1 ?_; omega)
    all_goals try (refine Nat.le_trans (setO_len _ _ _ _ _ _ _).2.2.1 ?_; omega)
    all_goals try (refine Nat.le_trans (setO_len _ _ _ _ _ _ _).2.2.2 ?_; omega)
    all_goals try (refine Nat.le_trans (maskO_len _ _ _ _ _ _ _).1 ?_; omega)
    all_goals try (refine Nat.le_trans (maskO_len _ _ _ _ _ _ _).2.1 ?_; omega)
    all_goals try (refine Nat.le_trans (maskO_len _ _ _ _ _ _ _).2.2.1 ?_; omega)
    all_goals try (refine Nat.le_trans (maskO_len _ _ _ _ _ _ _).2.2.2 ?_; omega)
    all_goals try (exfalso; rename_i hl; simp at hl; done)
    rename_i p8 h8 p7 h7 p6 h6 p5 h5 p4 h4 p3 h3 p2 h2 p1 h11 p0 h0 hl
    simp only [Bool.and_eq_true, Bool.or_eq_true, Bool.not_eq_true', decide_eq_false_iff_not, decide_eq_true_eq]
    refine ⟨⟨Decidable.not_or_of_imp fun h => next_ok h, Decidable.not_or_of_imp fun h => ⟨set_ok h _ _, ?_⟩⟩, Decidable.not_or_of_imp fun h => mask_ok h _ _⟩
    cases hb : (setO p5.1.1.1 p5.1.1.2.1 p5.1.1.2.2.1 p5.1.1.2.2.2.1 p5.1.1.2.2.2.2 p5.2.1 p5.2.2).2 with
    | true => exact .inl rfl
    | false => exact .inr (set_same h hb)
end Go.Eng.T
