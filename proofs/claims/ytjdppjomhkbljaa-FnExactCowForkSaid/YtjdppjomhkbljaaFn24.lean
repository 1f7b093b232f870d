/- cow: the law of CowFork. -/
import Derived.Test.YtjdppjomhkbljaaFn23
set_option linter.unusedVariables false
set_option linter.unusedSimpArgs false
set_option linter.unusedSectionVars false
namespace Go.Eng.T
open Go.Proofs
open Cel (enc dec)
set_option maxRecDepth 100000
set_option maxHeartbeats 16000000
def c_laws_FnExactCowFork : Contract := ⟨7, fun args M => match args with
  | [.agg [.sl a1 n1 _, .sl a2 n2 _, .sl a3 n3 _], .c (.int .i64 a), .c (.int .i64 b)] => .pure (CowArg a1 n1 a2 n2 a3 n3 M) (Eng.B true)
  | _ => .bad⟩
theorem ok_laws_FnExactCowFork : SpecOK Try.prog c_laws_FnExactCowFork := by
  refine ⟨fp_7, fun args M => ?_⟩
  unfold c_laws_FnExactCowFork
  dsimp only
  split
  case h_2 => trivial
  rename_i a1 n1 c1 a2 n2 c2 a3 n3 c3 a b
  intro harg
  refine goIn hf_7 rfl (nt := 106) rfl (rs := [.tmp 6]) rfl (C := [c_laws_szCow, c_laws_toCow, c_spec_CowFork, c_impl_CowFork, c_laws_eqCow, c_laws_markCow, c_laws_heldCow]) ⟨ok_laws_szCow, ok_laws_toCow, ok_spec_CowFork, ok_impl_CowFork, ok_laws_eqCow, ok_laws_markCow, ok_laws_heldCow, trivial⟩ (q := fun f => [20, 15].contains f) ⟨fun h => absurd h (by decide), fun _ => q_laws_toCow, fun h => absurd h (by decide), fun h => absurd h (by decide), fun _ => q_laws_eqCow, fun h => absurd h (by decide), fun h => absurd h (by decide), trivial⟩ mixed (O := ots [(10, otl [0, 1, 2, 3, 4] .nil)]) (by kernel_rfl) ?_
  have hsz := harg.sz
  by_cases hs : szC (lens2 a1 n1 (M a1.r)) n1 n2 (lens2 a3 n3 (M a3.r)) n3 1048576 < 0
  · simp only [↓WP, ↓grdD, ↓grdT, ↓binVC, ↓buildVC, ↓sliceVC, WQ, WN, Int.reduceToNat, renl, cll, rent, clt, ↓reduceIte, Nat.reduceLeDiff, Nat.reduceEqDiff, Nat.reduceLT, reduceCtorEq, List.append_nil, Nat.reduceAdd, Nat.reduceSub, Nat.reduceBEq, forall_const, implies_true, cond_true, cond_false, AV.ren, AC.ren, AV.cl, AC.cl, eq_self, List.all_cons, List.all_nil, AV.eqv, AC.eqv, eqvl, eqvt, Sl.eqv, List.map_append, List.length_map, List.length_append, List.length_replicate, List.length_set, List.map_replicate, nilVC, sz_30, zr_25, sz_25, bt_4, c_laws_szCow, c_laws_toCow, c_spec_CowFork, c_impl_CowFork, c_laws_eqCow, c_laws_markCow, c_laws_heldCow, decide_eq_true hs]
    first | exact hsz | exact ⟨hsz, by simp⟩
  · obtain ⟨h1, h2, h3⟩ := harg.rows hs
    obtain ⟨n1b, _, n2b, n3b, _⟩ := szC_ok (by omega) hs
    obtain ⟨s1, X, hX, rfl, t1⟩ := h1.x
    obtain ⟨s2, R, hR, rfl, t2⟩ := h2.x
    obtain ⟨s3, Z, hZ, rfl, t3⟩ := h3.x
    have hFX := own1_ok h1 hX
    have hFZ := own1_ok h3 hZ
    have hlen := forkO_len X R Z a b
    obtain ⟨O, hO⟩ : ∃ O, O = forkO X R Z a b := ⟨_, rfl⟩
    rw [← hO] at hlen
    obtain ⟨⟨A, B, C⟩, bb⟩ := O
    obtain ⟨lA, lB, lC⟩ := hlen
    dsimp only at lA lB lC
    have htX := fam_tot hFX
    have htZ := fam_tot hFZ
    rw [own1_snd, own1_length] at htX htZ
    have hbb : ∀ b : Bool, (b != b) = false := by decide
    simp only [↓WP, ↓grdD, ↓grdT, ↓binVC, ↓buildVC, ↓sliceVC, WQ, WN, Int.reduceToNat, renl, cll, rent, clt, ↓reduceIte, Nat.reduceLeDiff, Nat.reduceEqDiff, Nat.reduceLT, reduceCtorEq, List.append_nil, Nat.reduceAdd, Nat.reduceSub, Nat.reduceBEq, forall_const, implies_true, cond_true, cond_false, AV.ren, AC.ren, AV.cl, AC.cl, eq_self, List.all_cons, List.all_nil, AV.eqv, AC.eqv, eqvl, eqvt, Sl.eqv, List.map_append, List.length_map, List.length_append, List.length_replicate, List.length_set, List.map_replicate, nilVC, sz_30, zr_25, sz_25, bt_4, c_laws_szCow, c_laws_toCow, c_spec_CowFork, c_impl_CowFork, c_laws_eqCow, c_laws_markCow, c_laws_heldCow, decide_eq_false hs, Row2Ok_upE h1, row2_upE h1, hX, Row2Ok_upE h3, row2_upE h3, hZ, hR, own1_length, own1_snd, row2_fam 1 2 (own1 X) hFX, Row2Ok_fam 1 2 (own1 X) hFX, row2_fam 4 5 (own1 Z) hFZ, Row2Ok_fam 4 5 (own1 Z) hFZ, row2_fam 12 13 (own1 X) hFX, Row2Ok_fam 12 13 (own1 X) hFX, row2_fam 15 16 (own1 Z) hFZ, Row2Ok_fam 15 16 (own1 Z) hFZ, row2_fam 24 25 (own1 X) hFX, Row2Ok_fam 24 25 (own1 X) hFX, row2_fam 27 28 (own1 Z) hFZ, Row2Ok_fam 27 28 (own1 Z) hFZ, row2_fam 29 30 (own1 X) hFX, Row2Ok_fam 29 30 (own1 X) hFX, row2_fam 32 33 (own1 Z) hFZ, Row2Ok_fam 32 33 (own1 Z) hFZ, ← hO, hbb]
    refine ⟨hsz, ?_⟩
    repeat' (first | (refine And.intro (by first | assumption | omega | exact ⟨by assumption, .inr trivial⟩ | exact .inr trivial | exact ⟨h2, Nat.le_refl _⟩ | exact ⟨by assumption, by omega⟩) ?_) | intro _)
    rename_i pw hpw pg hpg
    obtain ⟨p1, F, p2, p3, G⟩ := pw
    obtain ⟨⟨u1, hF, hFo⟩, u2, u3, u4, u5, u6, hG, hGo⟩ := hpw
    dsimp only at u1 hF hFo u2 u3 u4 u5 u6 hG hGo
    obtain ⟨p1', F', p2', p3', G'⟩ := pg
    obtain ⟨⟨u1', hF', hFo'⟩, u2', _, _, _, u6', hG', hGo'⟩ := hpg
    dsimp only at u1' hF' hFo' u2' u6' hG' hGo'
    have hFl : F.length = A.length := by rw [← hF]; simp
    have hGl : G.length = C.length := by rw [← hG]; simp
    have hFl' : F'.length = A.length := by rw [← hF']; simp
    have hGl' : G'.length = C.length := by rw [← hG']; simp
    have htA := fam_tot hFo
    have htC := fam_tot hGo
    rw [hF, hFl] at htA
    rw [hG, hGl] at htC
    have hB' : B.length ≤ 4294967296 := by omega
    rcases nil_or A with ⟨hA0, hAp, hAm, hAt⟩ | ⟨hA0, hAp, hAm, hAt⟩ <;> rcases nil_or C with ⟨hC0, hCp, hCm, hCt⟩ | ⟨hC0, hCp, hCm, hCt⟩ <;> rcases nil_or X with ⟨hX0, hXp, hXm, hXt⟩ | ⟨hX0, hXp, hXm, hXt⟩ <;> rcases nil_or Z with ⟨hZ0, hZp, hZm, hZt⟩ | ⟨hZ0, hZp, hZm, hZt⟩
    all_goals
      simp only [↓WP, ↓grdD, ↓grdT, ↓binVC, ↓buildVC, ↓sliceVC, WQ, WN, Int.reduceToNat, renl, cll, rent, clt, ↓reduceIte, Nat.reduceLeDiff, Nat.reduceEqDiff, Nat.reduceLT, reduceCtorEq, List.append_nil, Nat.reduceAdd, Nat.reduceSub, Nat.reduceBEq, forall_const, implies_true, cond_true, cond_false, AV.ren, AC.ren, AV.cl, AC.cl, eq_self, List.all_cons, List.all_nil, AV.eqv, AC.eqv, eqvl, eqvt, Sl.eqv, List.map_append, List.length_map, List.length_append, List.length_replicate, List.length_set, List.map_replicate, nilVC, sz_30, zr_25, sz_25, bt_4, c_laws_szCow, c_laws_toCow, c_spec_CowFork, c_impl_CowFork, c_laws_eqCow, c_laws_markCow, c_laws_heldCow, own1_length, own1_snd, nestZ_pos, nestZ_zero, nestK_def, famR_rows, markF_length, markF_snd, mark2_idem, tot_mark2, mark1_length, nestAt_mark, hF, hG, hF', hG', hFl, hGl, hFl', hGl', hFX, hFZ, hFo, hGo, hFo', hGo', hA0, hAp, hC0, hCp, hX0, hXp, hZ0, hZp, hAm, hCm, hXm, hZm, hAt, hCt, hXt, hZt, Row2Ok_upE h1, row2_upE h1, hX, Row2Ok_upE h3, row2_upE h3, hZ, hR, own1_length, own1_snd, row2_fam 1 2 (own1 X) hFX, Row2Ok_fam 1 2 (own1 X) hFX, row2_fam 4 5 (own1 Z) hFZ, Row2Ok_fam 4 5 (own1 Z) hFZ, row2_fam 12 13 (own1 X) hFX, Row2Ok_fam 12 13 (own1 X) hFX, row2_fam 15 16 (own1 Z) hFZ, Row2Ok_fam 15 16 (own1 Z) hFZ, row2_fam 24 25 (own1 X) hFX, Row2Ok_fam 24 25 (own1 X) hFX, row2_fam 27 28 (own1 Z) hFZ, Row2Ok_fam 27 28 (own1 Z) hFZ, row2_fam 29 30 (own1 X) hFX, Row2Ok_fam 29 30 (own1 X) hFX, row2_fam 32 33 (own1 Z) hFZ, Row2Ok_fam 32 33 (own1 Z) hFZ, row2_fam 6 7 F hFo, Row2Ok_fam 6 7 F hFo, row2_fam 9 10 G hGo, Row2Ok_fam 9 10 G hGo, row2_fam 18 19 F' hFo', Row2Ok_fam 18 19 F' hFo', row2_fam 21 22 G' hGo', Row2Ok_fam 21 22 G' hGo', row2_fam 18 19 (markF 1 F') (markF_ok hFo'), Row2Ok_fam 18 19 (markF 1 F') (markF_ok hFo'), row2_fam 21 22 (markF (1 + (tot A : Int) + (B.length : Int)) G') (markF_ok hGo'), Row2Ok_fam 21 22 (markF (1 + (tot A : Int) + (B.length : Int)) G') (markF_ok hGo'), ← hO, hbb]
      repeat' (first | (refine And.intro (by first | exact h2 | (simp [s2, hB']; done) | (simp [s2, hB']; omega)) ?_) | intro _)
      rename_i ph hph
      obtain ⟨p12, F2, p22, p32, G2⟩ := ph
      obtain ⟨⟨_, hF2, hFo2⟩, _, _, _, _, _, hG2, hGo2⟩ := hph
      dsimp only at hF2 hFo2 hG2 hGo2
      have hFl2 : F2.length = A.length := by rw [← hF2]; simp
      have hGl2 : G2.length = C.length := by rw [← hG2]; simp
      simp only [↓WP, ↓grdD, ↓grdT, ↓binVC, ↓buildVC, ↓sliceVC, WQ, WN, Int.reduceToNat, renl, cll, rent, clt, ↓reduceIte, Nat.reduceLeDiff, Nat.reduceEqDiff, Nat.reduceLT, reduceCtorEq, List.append_nil, Nat.reduceAdd, Nat.reduceSub, Nat.reduceBEq, forall_const, implies_true, cond_true, cond_false, AV.ren, AC.ren, AV.cl, AC.cl, eq_self, List.all_cons, List.all_nil, AV.eqv, AC.eqv, eqvl, eqvt, Sl.eqv, List.map_append, List.length_map, List.length_append, List.length_replicate, List.length_set, List.map_replicate, nilVC, sz_30, zr_25, sz_25, bt_4, c_laws_szCow, c_laws_toCow, c_spec_CowFork, c_impl_CowFork, c_laws_eqCow, c_laws_markCow, c_laws_heldCow, own1_length, own1_snd, nestZ_pos, nestZ_zero, nestK_def, famR_rows, markF_length, markF_snd, mark2_idem, tot_mark2, mark1_length, nestAt_mark, hF, hG, hF', hG', hFl, hGl, hFl', hGl', hFX, hFZ, hFo, hGo, hFo', hGo', hA0, hAp, hC0, hCp, hX0, hXp, hZ0, hZp, hAm, hCm, hXm, hZm, hAt, hCt, hXt, hZt, Row2Ok_upE h1, row2_upE h1, hX, Row2Ok_upE h3, row2_upE h3, hZ, hR, own1_length, own1_snd, row2_fam 1 2 (own1 X) hFX, Row2Ok_fam 1 2 (own1 X) hFX, row2_fam 4 5 (own1 Z) hFZ, Row2Ok_fam 4 5 (own1 Z) hFZ, row2_fam 12 13 (own1 X) hFX, Row2Ok_fam 12 13 (own1 X) hFX, row2_fam 15 16 (own1 Z) hFZ, Row2Ok_fam 15 16 (own1 Z) hFZ, row2_fam 24 25 (own1 X) hFX, Row2Ok_fam 24 25 (own1 X) hFX, row2_fam 27 28 (own1 Z) hFZ, Row2Ok_fam 27 28 (own1 Z) hFZ, row2_fam 29 30 (own1 X) hFX, Row2Ok_fam 29 30 (own1 X) hFX, row2_fam 32 33 (own1 Z) hFZ, Row2Ok_fam 32 33 (own1 Z) hFZ, row2_fam 6 7 F hFo, Row2Ok_fam 6 7 F hFo, row2_fam 9 10 G hGo, Row2Ok_fam 9 10 G hGo, row2_fam 18 19 F' hFo', Row2Ok_fam 18 19 F' hFo', row2_fam 21 22 G' hGo', Row2Ok_fam 21 22 G' hGo', row2_fam 18 19 (markF 1 F') (markF_ok hFo'), Row2Ok_fam 18 19 (markF 1 F') (markF_ok hFo'), row2_fam 21 22 (markF (1 + (tot A : Int) + (B.length : Int)) G') (markF_ok hGo'), Row2Ok_fam 21 22 (markF (1 + (tot A : Int) + (B.length : Int)) G') (markF_ok hGo'), row2_fam 34 35 F2 hFo2, Row2Ok_fam 34 35 F2 hFo2, row2_fam 37 38 G2 hGo2, Row2Ok_fam 37 38 G2 hGo2, hF2, hG2, hFl2, hGl2, hFo2, hGo2, ← hO, hbb]
      repeat' (first | (show True; trivial) | (simp [s2, hB']; done) | (simp [s2, hB']; omega) | (refine And.intro (by first | exact h2 | (simp [s2, hB']; done) | (simp [s2, hB']; omega)) ?_) | intro _)
end Go.Eng.T
