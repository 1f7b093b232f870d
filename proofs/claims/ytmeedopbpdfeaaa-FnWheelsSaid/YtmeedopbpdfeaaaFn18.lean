/- wheel: the law FnWheels. -/
import Derived.Test.YtmeedopbpdfeaaaFn17
set_option linter.unusedVariables false
set_option linter.unusedSimpArgs false
set_option linter.unusedSectionVars false
namespace Go.Eng.T
open Go.Proofs
open Cel (enc dec)
set_option maxRecDepth 100000
set_option maxHeartbeats 8000000
def c_laws_FnWheels : Contract := ⟨8, fun args M => match args with
  | [.c (.sl a n _)] => .pure (n ≤ 9223372036854775807 ∧ (n ≤ 4294967296 → RowOk UInt8 a n (M a.r))) (Eng.B true)
  | _ => .bad⟩
theorem ok_laws_FnWheels : fnP Try.prog c_laws_FnWheels.f = true ∧ ∀ args M, (c_laws_FnWheels.sp args M).OK Try.prog c_laws_FnWheels.f args M := by
  refine ⟨fp_8, fun args M => ?_⟩
  unfold c_laws_FnWheels
  dsimp only
  split
  case h_2 => trivial
  rename_i a n ca
  rintro ⟨hn, h1⟩
  refine goIn hf_8 rfl (nt := 122) rfl (rs := [.tmp 2]) rfl (C := [c_laws_big, c_spec_DrawWheelAdd, c_impl_WheelAdd, c_spec_WheelAdd, c_spec_DrawWheelDrop, c_impl_WheelDrop, c_spec_WheelDrop, c_impl_WheelLeft, c_spec_WheelOk, c_laws_sameWheel]) ⟨(by first | exact .inl ok_laws_big | exact ok_laws_big), (by first | exact .inl ok_spec_DrawWheelAdd | exact ok_spec_DrawWheelAdd), (by first | exact .inl ok_impl_WheelAdd | exact ok_impl_WheelAdd), (by first | exact .inl ok_spec_WheelAdd | exact ok_spec_WheelAdd), (by first | exact .inl ok_spec_DrawWheelDrop | exact ok_spec_DrawWheelDrop), (by first | exact .inl ok_impl_WheelDrop | exact ok_impl_WheelDrop), (by first | exact .inl ok_spec_WheelDrop | exact ok_spec_WheelDrop), (by first | exact .inl ok_impl_WheelLeft | exact ok_impl_WheelLeft), (by first | exact .inl ok_spec_WheelOk | exact ok_spec_WheelOk), (by first | exact .inl ok_laws_sameWheel | exact ok_laws_sameWheel), trivial⟩ (q := fun _ => false) okQ_none mixed (O := fun _ => .nil) (by kernel_rfl) ?_
  by_cases hs : 1048576 < n
  · simp only [↓WP, ↓grdD, ↓grdT, ↓un_dead, ↓binVC, ↓buildVC, ↓sliceVC, WQ, WN, Int.reduceToNat, renl, cll, rent, clt, ↓reduceIte, Nat.reduceLeDiff, Nat.reduceEqDiff, Nat.reduceLT, reduceCtorEq, List.append_nil, Nat.reduceAdd, Nat.reduceSub, Nat.reduceBEq, forall_const, implies_true, cond_true, cond_false, AV.ren, AC.ren, AV.cl, AC.cl, eq_self, List.all_cons, List.all_nil, AV.eqv, AC.eqv, eqvl, eqvt, Sl.eqv, List.map_append, List.length_map, List.length_append, List.length_replicate, List.length_set, List.map_replicate, nilVC, zr_29, sz_29, bt_4, fl_29_1, sz_3, fl_29_2, sz_27, sd_27, c_laws_big, c_spec_DrawWheelAdd, c_impl_WheelAdd, c_spec_WheelAdd, c_spec_DrawWheelDrop, c_impl_WheelDrop, c_spec_WheelDrop, c_impl_WheelLeft, c_spec_WheelOk, c_laws_sameWheel, decide_eq_true hs]
  · have ha := h1 (by omega)
    have hbb : ∀ b : Bool, (b != b) = false := by decide
    simp only [↓WP, ↓grdD, ↓grdT, ↓un_dead, ↓binVC, ↓buildVC, ↓sliceVC, WQ, WN, Int.reduceToNat, renl, cll, rent, clt, ↓reduceIte, Nat.reduceLeDiff, Nat.reduceEqDiff, Nat.reduceLT, reduceCtorEq, List.append_nil, Nat.reduceAdd, Nat.reduceSub, Nat.reduceBEq, forall_const, implies_true, cond_true, cond_false, AV.ren, AC.ren, AV.cl, AC.cl, eq_self, List.all_cons, List.all_nil, AV.eqv, AC.eqv, eqvl, eqvt, Sl.eqv, List.map_append, List.length_map, List.length_append, List.length_replicate, List.length_set, List.map_replicate, nilVC, zr_29, sz_29, bt_4, fl_29_1, sz_3, fl_29_2, sz_27, sd_27, c_laws_big, c_spec_DrawWheelAdd, c_impl_WheelAdd, c_spec_WheelAdd, c_spec_DrawWheelDrop, c_impl_WheelDrop, c_spec_WheelDrop, c_impl_WheelLeft, c_spec_WheelOk, c_laws_sameWheel, decide_eq_false hs, ha, hbb, decide_true, Bool.not_true]
    rintro ⟨⟨u, v, X, k⟩, w, e⟩ ⟨x1, x2⟩
    dsimp only at x1 x2
    have xl := addW_len u v X w e
    obtain ⟨R, hR⟩ : ∃ R, addW u v X w e = R := ⟨_, rfl⟩
    rw [hR] at xl
    simp only [hR]
    refine ⟨⟨⟨by omega, .inr trivial⟩, x1⟩, fun k1 hk1 => ⟨⟨⟨by omega, .inr trivial⟩, x1⟩, fun k2 hk2 => ?_⟩⟩
    rintro ⟨⟨u', v', Y, k'⟩, d⟩ ⟨y1, y2⟩
    dsimp only at y1 y2
    have yl := dropW_len u' v' Y d
    have ylf := drop_left (u := u') (v := v') (T := Y) (d := d)
    obtain ⟨D, hD⟩ : ∃ D, dropW u' v' Y d = D := ⟨_, rfl⟩
    rw [hD] at yl ylf
    simp only [hD]
    refine ⟨⟨⟨by omega, .inr trivial⟩, y1⟩, fun _ h3 => ⟨⟨⟨by omega, .inr trivial⟩, y1⟩, fun _ h4 => ⟨fun _ => ⟨by omega, .inr trivial⟩, fun h => ?_, fun _ => ⟨⟨by omega, .inr trivial⟩, fun h => ?_, fun h => ⟨fun h0 => ?_, fun h0 => ?_⟩⟩⟩⟩⟩
    · rw [Bool.and_eq_true] at h
      obtain ⟨e1, e2⟩ := h
      rw [ylf e1] at e2
      simp at e2
    · rw [Bool.not_eq_true', decide_eq_false_iff_not] at h
      rw [← hR, addW_bad h]
      decide
    · rw [Bool.not_eq_false', decide_eq_true_eq] at h
      have hm : ¬ mayAdd v X w e := fun hm => by
        rw [← hR, addW_yes h hm] at h0
        have := of_decide_eq_true h0
        have := h.2.1.1
        dsimp only at *
        omega
      rw [← hR, addW_no h hm]
      exact ⟨⟨⟨by dsimp only; omega, .inr trivial⟩, by omega, .inr trivial⟩, decide_eq_true ⟨rfl, rfl, rfl⟩⟩
    · rw [Bool.not_eq_false', decide_eq_true_eq] at h
      have hm : mayAdd v X w e := by
        by_cases hm : mayAdd v X w e
        · exact hm
        · rw [← hR, addW_no h hm] at h0
          exact absurd rfl (of_decide_eq_false h0)
      have hok := addW_ok h hm
      have hle := addW_left h hm
      obtain ⟨hd1, hd2⟩ := addW_drop h hm
      rw [← hR, addW_yes h hm]
      rw [← hR, addW_yes h hm] at hk1 xl
      dsimp only at hk1 xl ⊢
      refine ⟨⟨⟨by omega, .inr trivial⟩, hk1⟩, fun _ _ => ⟨⟨by omega, .inr trivial⟩, fun _ => ⟨by omega, .inr trivial⟩, ?_⟩⟩
      rw [hle, hd1, hd2]
      simp [hok]
end Go.Eng.T
