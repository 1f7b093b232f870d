/- perm: the law FnPerm. -/
import Derived.Test.YtfaecknkhbkiaaaFn10
set_option linter.unusedVariables false
set_option linter.unusedSimpArgs false
set_option linter.unusedSectionVars false
namespace Go.Eng.T
open Go.Proofs
open Cel (enc dec)
set_option maxRecDepth 100000
set_option maxHeartbeats 8000000
def c_laws_FnPerm : Contract := ⟨9, fun args M => match args with
  | [.c (.sl a n _)] => .pure (n ≤ 9223372036854775807 ∧ (n ≤ 4294967296 → RowOk UInt8 a n (M a.r))) (Eng.B true)
  | _ => .bad⟩
theorem ok_laws_FnPerm : SpecOK Try.prog c_laws_FnPerm := by
  refine ⟨fp_9, fun args M => ?_⟩
  unfold c_laws_FnPerm
  dsimp only
  split
  case h_2 => trivial
  rename_i a n ca
  rintro ⟨hn, h1⟩
  refine goIn hf_9 rfl (nt := 229) rfl (rs := [.tmp 2]) rfl (C := [c_laws_big, c_spec_DrawMay, c_impl_May, c_spec_May, c_spec_DrawChmod, c_impl_Chmod, c_spec_Chmod, c_spec_PermOk, c_spec_DrawChown, c_impl_Chown, c_spec_Chown, c_spec_DrawMasked, c_impl_Masked, c_spec_Masked, c_impl_ShowMode, c_spec_ShowMode]) ⟨ok_laws_big, ok_spec_DrawMay, ok_impl_May, ok_spec_May, ok_spec_DrawChmod, ok_impl_Chmod, ok_spec_Chmod, ok_spec_PermOk, ok_spec_DrawChown, ok_impl_Chown, ok_spec_Chown, ok_spec_DrawMasked, ok_impl_Masked, ok_spec_Masked, ok_impl_ShowMode, ok_spec_ShowMode, trivial⟩ (q := fun _ => false) okQ_none mixed (O := fun _ => .nil) (by kernel_rfl) ?_
  by_cases hs : 1048576 < n
  · simp only [↓WP, ↓grdD, ↓grdT, ↓binVC, ↓buildVC, ↓sliceVC, WQ, WN, Int.reduceToNat, renl, cll, rent, clt, ↓reduceIte, Nat.reduceLeDiff, Nat.reduceEqDiff, Nat.reduceLT, reduceCtorEq, List.append_nil, Nat.reduceAdd, Nat.reduceSub, Nat.reduceBEq, forall_const, implies_true, cond_true, cond_false, AV.ren, AC.ren, AV.cl, AC.cl, eq_self, List.all_cons, List.all_nil, AV.eqv, AC.eqv, eqvl, eqvt, Sl.eqv, List.map_append, List.length_map, List.length_append, List.length_replicate, List.length_set, List.map_replicate, nilVC, zr_35, zr_27, sz_35, sz_27, bt_4, fl_27_2, sz_3, fl_35_0, fl_27_0, ag_27, st_9, c_laws_big, c_spec_DrawMay, c_impl_May, c_spec_May, c_spec_DrawChmod, c_impl_Chmod, c_spec_Chmod, c_spec_PermOk, c_spec_DrawChown, c_impl_Chown, c_spec_Chown, c_spec_DrawMasked, c_impl_Masked, c_spec_Masked, c_impl_ShowMode, c_spec_ShowMode, decide_eq_true hs]
  · have ha := h1 (by omega)
    simp (config := { maxSteps := 1000000 }) only [↓WP, ↓grdD, ↓grdT, ↓binVC, ↓buildVC, ↓sliceVC, WQ, WN, Int.reduceToNat, renl, cll, rent, clt, ↓reduceIte, Nat.reduceLeDiff, Nat.reduceEqDiff, Nat.reduceLT, reduceCtorEq, List.append_nil, Nat.reduceAdd, Nat.reduceSub, Nat.reduceBEq, forall_const, implies_true, cond_true, cond_false, AV.ren, AC.ren, AV.cl, AC.cl, eq_self, List.all_cons, List.all_nil, AV.eqv, AC.eqv, eqvl, eqvt, Sl.eqv, List.map_append, List.length_map, List.length_append, List.length_replicate, List.length_set, List.map_replicate, nilVC, zr_35, zr_27, sz_35, sz_27, bt_4, fl_27_2, sz_3, fl_35_0, fl_27_0, ag_27, st_9, c_laws_big, c_spec_DrawMay, c_impl_May, c_spec_May, c_spec_DrawChmod, c_impl_Chmod, c_spec_Chmod, c_spec_PermOk, c_spec_DrawChown, c_impl_Chown, c_spec_Chown, c_spec_DrawMasked, c_impl_Masked, c_spec_Masked, c_impl_ShowMode, c_spec_ShowMode, decide_eq_false hs, ha]
    rintro ⟨u, X, cp, o, g, b⟩ ⟨x1, x2⟩
    dsimp only at x1 x2
    have hX : X.length ≤ 4294967296 := by omega
    refine ⟨⟨hX, .inr trivial⟩, ⟨hX, .inr trivial⟩, fun h => ?_, fun _ => ?_⟩
    · have hm := may_range u X o g b
      simp at h
      omega
    rintro ⟨v, Y, cq, o', g', b', m⟩ ⟨y1, y2⟩
    dsimp only at y1 y2
    have hY : Y.length ≤ 4294967296 := by omega
    refine ⟨⟨hY, .inr trivial⟩, ⟨hY, .inr trivial⟩, fun _ => ⟨hY, .inr trivial⟩, fun h => ?_, fun _ => ?_⟩
    · by_cases hp : permOk v Y o' g' b'
      · have hc := chmod_law (n := m) hp
        dsimp only at h
        revert h hc
        generalize chmodV v Y o' g' b' m = V
        rintro h ⟨h2, h3⟩
        obtain ⟨w1, w2, w3, is⟩ := V
        cases is with
        | false =>
          obtain ⟨rfl, rfl, rfl⟩ := h3 rfl
          simp at h
        | true =>
          obtain ⟨rfl, hu⟩ := h2 rfl
          simp at h
          omega
      · simp [hp] at h
    rintro ⟨w, Z, cr, o2, g2, b2, n2, m2⟩ ⟨z1, z2⟩
    dsimp only at z1 z2
    have hZ : Z.length ≤ 4294967296 := by omega
    refine ⟨⟨hZ, .inr trivial⟩, ⟨hZ, .inr trivial⟩, fun h => ?_, fun _ => ?_⟩
    · have hc := @chown_law w Z o2 g2 b2 n2 m2
      dsimp only at h
      revert h hc
      generalize chownV w Z o2 g2 b2 n2 m2 = V
      intro h hc
      obtain ⟨w1, w2, w3, is⟩ := V
      simp at h hc
      exact h.2 (hc h.1.1 h.1.2)
    rintro ⟨p, q⟩
    dsimp only
    refine ⟨fun h => ?_, fun _ => ?_⟩
    · obtain ⟨r1, r2⟩ := masked_law p q
      have r3 := masked_same p q
      simp [← r3] at h
      omega
    have hsize : ∀ h : modeOk o g b, (if modeOk o g b then shown b else ByteArray.empty) = shown b := fun h => if_pos h
    refine ⟨fun h => ?_, fun _ => ?_⟩
    · by_cases hm : modeOk o g b
      · rw [hsize hm, shown_size] at h
        simp at h
      · rw [if_neg hm] at h
        simp at h
        exact h rfl
    refine ⟨⟨hX, .inr trivial⟩, fun _ => by decide, fun _ => by decide, ?_⟩
    by_cases hp : permOk u X o g b
    · have hf := @fin_law u X o g b hp
      simp only [hsize hp.2, shown_size, shown_at b (show 1 < 9 by omega), shown_at b (show 4 < 9 by omega), shown_at b (show 7 < 9 by omega)]
      refine ⟨fun _ => by decide, fun _ => by decide, fun _ => by decide, ?_⟩
      by_cases hu : u = 0
      · simp only [decide_eq_true hu, Bool.or_true, Bool.true_or]
      · by_cases hm : (IntKind.i64.wrap ((may u X o g b).tdiv 2)).tmod 2 = 0
        · simp only [decide_eq_true hm, Bool.or_true, Bool.true_or]
        · rcases hf hu hm with e | e | e
          · have e' : ((sgn b 1).toNat : Int) = 119 := by rw [e]; rfl
            simp only [decide_eq_true e', Bool.or_true, Bool.true_or]
          · have e' : ((sgn b 4).toNat : Int) = 119 := by rw [e]; rfl
            simp only [decide_eq_true e', Bool.or_true, Bool.true_or]
          · have e' : ((sgn b 7).toNat : Int) = 119 := by rw [e]; rfl
            simp only [decide_eq_true e', Bool.or_true, Bool.true_or]
    · simp [hp]
end Go.Eng.T
