/- cache: the law of CacheSync. -/
import Derived.Test.YtnpgddgbkaojmaaFn10
set_option linter.unusedVariables false
set_option linter.unusedSimpArgs false
set_option linter.unusedSectionVars false
namespace Go.Eng.T
open Go.Proofs
open Cel (enc dec)
set_option maxRecDepth 100000
set_option maxHeartbeats 8000000
theorem syncO_len (cap : Int) (D : List ByteArray) (R : List TR) (rd pt : Int) : (syncO cap D R rd pt).1.2.1.length ≤ D.length ∧ (syncO cap D R rd pt).1.2.2.1.length ≤ R.length := by
  unfold syncO
  split
  · rw [syD_len, List.length_map]; exact ⟨Nat.le_refl _, Nat.le_refl _⟩
  · exact ⟨Nat.zero_le _, Nat.zero_le _⟩
def c_laws_FnExactCacheSync : Contract := ⟨6, fun args M => match args with
  | [.agg [.int .i64 _, .sl a n ca, .sl b m cb, .int .i64 _, .int .i64 _]] => .pure ((n ≤ 9223372036854775807 ∧ n ≤ ca ∧ (n ≤ 1048576 → RowOk ByteArray a n (M a.r) ∧ strsOk (row ByteArray a n (M a.r)))) ∧ (m ≤ 9223372036854775807 ∧ m ≤ cb ∧ (m ≤ 1048576 → RowOk TR b m (M b.r) ∧ strsOk ((row TR b m (M b.r)).map fun x => x.2.1)))) (Eng.B true)
  | _ => .bad⟩
theorem ok_laws_FnExactCacheSync : fnP Try.prog c_laws_FnExactCacheSync.f = true ∧ ∀ args M, (c_laws_FnExactCacheSync.sp args M).OK Try.prog c_laws_FnExactCacheSync.f args M := by
  refine ⟨fp_6, fun args M => ?_⟩
  unfold c_laws_FnExactCacheSync
  dsimp only
  split
  case h_2 => trivial
  rename_i cap a n ca b m cb rd pt
  rintro ⟨⟨hn, hca, h1⟩, hm, hcb, h2⟩
  refine goIn hf_6 rfl (nt := 117) rfl (rs := [.tmp 2]) rfl (C := [c_laws_szCache, c_laws_toCache, c_spec_CacheSync, c_impl_CacheSync, c_laws_eqCache, c_laws_markCache, c_laws_heldCache]) ⟨(by first | exact .inl ok_laws_szCache | exact ok_laws_szCache), (by first | exact .inl ok_laws_toCache | exact ok_laws_toCache), (by first | exact .inl ok_spec_CacheSync | exact ok_spec_CacheSync), (by first | exact .inl ok_impl_CacheSync | exact ok_impl_CacheSync), (by first | exact .inl ok_laws_eqCache | exact ok_laws_eqCache), (by first | exact .inl ok_laws_markCache | exact ok_laws_markCache), (by first | exact .inl ok_laws_heldCache | exact ok_laws_heldCache), trivial⟩ (q := fun f => [18, 13].contains f) ⟨fun h => absurd h (by decide), fun _ => q_laws_toCache, fun h => absurd h (by decide), fun h => absurd h (by decide), fun _ => q_laws_eqCache, fun h => absurd h (by decide), fun h => absurd h (by decide), trivial⟩ mixed (O := ots [(10, otl [0, 1, 2, 3, 4] .nil)]) (by kernel_rfl) ?_
  have e1 := szS_range (X := row ByteArray a n (M a.r)) (n := n) (l := 1048576) (by omega)
  obtain ⟨r, hr⟩ : ∃ r, r = szS (row ByteArray a n (M a.r)) n 1048576 := ⟨_, rfl⟩
  rw [← hr] at e1
  by_cases hr0 : r < 0
  · simp only [↓WP, ↓grdD, ↓grdT, ↓un_dead, ↓binVC, ↓buildVC, ↓sliceVC, WQ, WN, Int.reduceToNat, renl, cll, rent, clt, ↓reduceIte, Nat.reduceLeDiff, Nat.reduceEqDiff, Nat.reduceLT, reduceCtorEq, List.append_nil, Nat.reduceAdd, Nat.reduceSub, Nat.reduceBEq, forall_const, implies_true, cond_true, cond_false, AV.ren, AC.ren, AV.cl, AC.cl, eq_self, List.all_cons, List.all_nil, AV.eqv, AC.eqv, eqvl, eqvt, Sl.eqv, List.map_append, List.length_map, List.length_append, List.length_replicate, List.length_set, List.map_replicate, nilVC, sz_33, zr_25, sz_25, bt_4, c_laws_szCache, c_laws_toCache, c_spec_CacheSync, c_impl_CacheSync, c_laws_eqCache, c_laws_markCache, c_laws_heldCache, ← hr, if_pos hr0]
    simp
    exact ⟨⟨hn, h1⟩, hm, by simpa using h2⟩
  · have e2 := szS_range (X := (row TR b m (M b.r)).map fun x => x.2.1) (n := m) (l := r) (by omega)
    obtain ⟨r2, hr2⟩ : ∃ r2, r2 = szS ((row TR b m (M b.r)).map fun x => x.2.1) m r := ⟨_, rfl⟩
    rw [← hr2] at e2
    by_cases hr3 : r2 < 0
    · simp only [↓WP, ↓grdD, ↓grdT, ↓un_dead, ↓binVC, ↓buildVC, ↓sliceVC, WQ, WN, Int.reduceToNat, renl, cll, rent, clt, ↓reduceIte, Nat.reduceLeDiff, Nat.reduceEqDiff, Nat.reduceLT, reduceCtorEq, List.append_nil, Nat.reduceAdd, Nat.reduceSub, Nat.reduceBEq, forall_const, implies_true, cond_true, cond_false, AV.ren, AC.ren, AV.cl, AC.cl, eq_self, List.all_cons, List.all_nil, AV.eqv, AC.eqv, eqvl, eqvt, Sl.eqv, List.map_append, List.length_map, List.length_append, List.length_replicate, List.length_set, List.map_replicate, nilVC, sz_33, zr_25, sz_25, bt_4, c_laws_szCache, c_laws_toCache, c_spec_CacheSync, c_impl_CacheSync, c_laws_eqCache, c_laws_markCache, c_laws_heldCache, ← hr, if_neg hr0, ← hr2, decide_eq_true hr3]
      exact ⟨by omega, by omega, ⟨hn, h1⟩, hm, h2⟩
    · obtain ⟨ra, sa⟩ := h1 (by omega)
      obtain ⟨rb, sb⟩ := h2 (by omega)
      have k1 : n ≤ 4294967296 := by omega
      have k2 : m ≤ 4294967296 := by omega
      have hbb : ∀ b : Bool, (b != b) = false := by decide
      obtain ⟨hs, D, hD, rfl, hat⟩ := ra.x
      obtain ⟨hs', R, hR, rfl, hbt⟩ := rb.x
      have hl := syncO_len cap D R rd pt
      obtain ⟨O, hO⟩ : ∃ O, O = syncO cap D R rd pt := ⟨_, rfl⟩
      rw [← hO] at hl
      rw [hD] at sa hr
      rw [hR] at sb hr2
      simp only [↓WP, ↓grdD, ↓grdT, ↓un_dead, ↓binVC, ↓buildVC, ↓sliceVC, WQ, WN, Int.reduceToNat, renl, cll, rent, clt, ↓reduceIte, Nat.reduceLeDiff, Nat.reduceEqDiff, Nat.reduceLT, reduceCtorEq, List.append_nil, Nat.reduceAdd, Nat.reduceSub, Nat.reduceBEq, forall_const, implies_true, cond_true, cond_false, AV.ren, AC.ren, AV.cl, AC.cl, eq_self, List.all_cons, List.all_nil, AV.eqv, AC.eqv, eqvl, eqvt, Sl.eqv, List.map_append, List.length_map, List.length_append, List.length_replicate, List.length_set, List.map_replicate, nilVC, sz_33, zr_25, sz_25, bt_4, c_laws_szCache, c_laws_toCache, c_spec_CacheSync, c_impl_CacheSync, c_laws_eqCache, c_laws_markCache, c_laws_heldCache, hD, hR, ← hr, if_neg hr0, ← hr2, decide_eq_false hr3, ← hO, hbb, ra, rb]
      have l1 : O.1.2.1.length ≤ 4294967296 := by omega
      have l2 : O.1.2.2.1.length ≤ 4294967296 := by omega
      simp only [k1, k2, l1, l2, sa, sb, hn, hm, true_and, and_true, or_true, implies_true, decide_true, Bool.not_true, Bool.or_self, Bool.or_false, Bool.false_eq_true, false_implies, forall_const]
      simp
      repeat' (first | with_reducible refine And.intro ?_ ?_ | intro _)
      all_goals omega
end Go.Eng.T
