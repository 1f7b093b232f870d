/- line: the law on ShowLine. -/
import Derived.Test.YtffbhimjpibocaaFn13
set_option linter.unusedVariables false
set_option linter.unusedSimpArgs false
set_option linter.unusedSectionVars false
namespace Go.Eng.T
open Go.Proofs
open Cel (enc dec)
set_option maxRecDepth 100000
set_option maxHeartbeats 8000000
def c_laws_FnExactShowLine : Contract := ⟨4, fun args M => match args with
  | [.agg [.sl a n _, .str s1, .str s2, .bool b1, .bool b2]] => .pure (LineArg a n s1 s2 M) (Eng.B true)
  | _ => .bad⟩
theorem ok_laws_FnExactShowLine : fnP Try.prog c_laws_FnExactShowLine.f = true ∧ ∀ args M, (c_laws_FnExactShowLine.sp args M).OK Try.prog c_laws_FnExactShowLine.f args M := by
  refine ⟨fp_4, fun args M => ?_⟩
  unfold c_laws_FnExactShowLine
  dsimp only
  split
  case h_2 => trivial
  rename_i a n c s1 s2 b1 b2
  rintro ⟨⟨hn, k1, k2⟩, hS, hR⟩
  refine goIn hf_4 rfl (nt := 27) rfl (rs := [.tmp 2]) rfl (C := [c_laws_szPipeline, c_laws_toPipeline, c_spec_ShowLine, c_impl_ShowLine, c_laws_eqPipeline]) ⟨(by first | exact .inl ok_laws_szPipeline | exact ok_laws_szPipeline), (by first | exact .inl ok_laws_toPipeline | exact ok_laws_toPipeline), (by first | exact .inl ok_spec_ShowLine | exact ok_spec_ShowLine), (by first | exact .inl ok_impl_ShowLine | exact ok_impl_ShowLine), (by first | exact .inl ok_laws_eqPipeline | exact ok_laws_eqPipeline), trivial⟩ (q := fun f => [7, 9].contains f) ⟨fun h => absurd h (by decide), fun _ => q_laws_toPipeline, fun h => absurd h (by decide), fun h => absurd h (by decide), fun _ => q_laws_eqPipeline, trivial⟩ mixed (O := ots [(10, otl [0, 1, 2, 3, 4] .nil)]) (by kernel_rfl) ?_
  have hSu : ∀ T L, Row2S a.up n (St.look ⟨T, M, [], L⟩) = True := fun T L => eq_true (Row2S_up hS)
  have hlu : lens2 a.up n (Option.map Rg.up (M a.r)) = lens2 a n (M a.r) := lens2_up
  by_cases hbig : n ≤ 1048576 ∧ ∀ x ∈ lens2 a n (M a.r), x ≤ 1048576
  · obtain ⟨h1, hsm⟩ := hR hbig.1 hbig.2
    obtain ⟨hs, X, hX, rfl, hat⟩ := h1.x
    have hFX := own1_ok h1 hX
    rw [hX] at hsm
    simp only [↓WP, ↓grdD, ↓grdT, ↓un_dead, ↓binVC, ↓buildVC, ↓sliceVC, WQ, WN, Int.reduceToNat, renl, cll, rent, clt, ↓reduceIte, Nat.reduceLeDiff, Nat.reduceEqDiff, Nat.reduceLT, reduceCtorEq, List.append_nil, Nat.reduceAdd, Nat.reduceSub, Nat.reduceBEq, forall_const, implies_true, cond_true, cond_false, AV.ren, AC.ren, AV.cl, AC.cl, eq_self, List.all_cons, List.all_nil, AV.eqv, AC.eqv, eqvl, eqvt, Sl.eqv, List.map_append, List.length_map, List.length_append, List.length_replicate, List.length_set, List.map_replicate, nilVC, sz_24, zr_29, sz_29, c_laws_szPipeline, c_laws_toPipeline, c_spec_ShowLine, c_impl_ShowLine, c_laws_eqPipeline, hSu, hlu, Row2Ok_upE h1, row2_upE h1, hX, own1_length, own1_snd, row2_fam 1 2 (own1 X) hFX, Row2Ok_fam 1 2 (own1 X) hFX, row2_fam 2 3 (own1 X) hFX, Row2Ok_fam 2 3 (own1 X) hFX, row2_fam 3 4 (own1 X) hFX, Row2Ok_fam 3 4 (own1 X) hFX, row2_fam 4 5 (own1 X) hFX, Row2Ok_fam 4 5 (own1 X) hFX, row2_fam 5 6 (own1 X) hFX, Row2Ok_fam 5 6 (own1 X) hFX, row2_fam 6 7 (own1 X) hFX, Row2Ok_fam 6 7 (own1 X) hFX, row2_fam 7 8 (own1 X) hFX, Row2Ok_fam 7 8 (own1 X) hFX, decide_true]
    exact ⟨⟨by omega, by omega, hn, k1, k2⟩, fun q hq hge => ⟨⟨hsm, k1, k2⟩, hsm, k1, k2⟩⟩
  · simp only [↓WP, ↓grdD, ↓grdT, ↓un_dead, ↓binVC, ↓buildVC, ↓sliceVC, WQ, WN, Int.reduceToNat, renl, cll, rent, clt, ↓reduceIte, Nat.reduceLeDiff, Nat.reduceEqDiff, Nat.reduceLT, reduceCtorEq, List.append_nil, Nat.reduceAdd, Nat.reduceSub, Nat.reduceBEq, forall_const, implies_true, cond_true, cond_false, AV.ren, AC.ren, AV.cl, AC.cl, eq_self, List.all_cons, List.all_nil, AV.eqv, AC.eqv, eqvl, eqvt, Sl.eqv, List.map_append, List.length_map, List.length_append, List.length_replicate, List.length_set, List.map_replicate, nilVC, sz_24, zr_29, sz_29, c_laws_szPipeline, c_laws_toPipeline, c_spec_ShowLine, c_impl_ShowLine, c_laws_eqPipeline, hSu, hlu]
    refine ⟨⟨by omega, by omega, hn, k1, k2⟩, fun q hq hge => ?_⟩
    have hge : ¬ q < 0 := of_decide_eq_false hge
    obtain ⟨q1, q2⟩ := hq
    obtain ⟨a1, a2⟩ := q2 (by omega)
    exact absurd ⟨by omega, fun x hx => by have := a2 x hx; omega⟩ hbig
end Go.Eng.T
