/- sig: at, has. -/
import Derived.Test.YtbogabgpchgfpaaFn18
import Derived.Test.YtbogabgpchgfpaaFn13
set_option linter.unusedVariables false
set_option linter.unusedSimpArgs false
set_option linter.unusedSectionVars false
namespace Go.Eng.T
open Go.Proofs
open Cel (enc dec)
set_option maxRecDepth 100000
set_option maxHeartbeats 4000000
/-- a number that code gives at a place -/
def atO (L : List UInt8) (i : Int) : Int := if i < L.length then ((L.getD i.toNat default).toNat : Int) else (i * 37 + (L.length : Int) * 11).tmod 256
theorem atO_range (L : List UInt8) (i : Int) (h : 0 ≤ i) : 0 ≤ atO L i ∧ atO L i ≤ 255 := by
  unfold atO
  split
  · have := (L.getD i.toNat default).toNat_lt
    omega
  · have h0 : 0 ≤ i * 37 + (L.length : Int) * 11 := by omega
    rw [Int.tmod_eq_emod_of_nonneg h0]
    omega
theorem atO_mod (L : List UInt8) {i k : Int} (h : 0 ≤ i) (hk : 0 < k) : 0 ≤ (atO L i).tmod k ∧ (atO L i).tmod k < k := by
  rw [Int.tmod_eq_emod_of_nonneg (atO_range L i h).1]
  exact ⟨Int.emod_nonneg _ (by omega), Int.emod_lt_of_pos _ hk⟩
def c_laws_at : Contract := ⟨32, fun args M => match args with
  | [.c (.sl a n _), .c (.int .i64 i)] => .pure (RowOk UInt8 a n (M a.r) ∧ 0 ≤ i ∧ i ≤ 1000000) (I (atO (row UInt8 a n (M a.r)) i))
  | _ => .bad⟩
theorem ok_laws_at : fnP Try.prog c_laws_at.f = true ∧ ∀ args M, (c_laws_at.sp args M).OK Try.prog c_laws_at.f args M := by
  refine ⟨fp_32, fun args M => ?_⟩
  unfold c_laws_at
  dsimp only
  split
  case h_2 => trivial
  rename_i a n ca i
  rintro ⟨ha, hi0, hi1⟩
  obtain ⟨hs, X, hX, rfl, hat⟩ := ha.x
  rw [hX]
  refine goIn hf_32 rfl (nt := 21) rfl (rs := [.tmp 4]) rfl (C := []) trivial (q := fun _ => false) okQ_none mixed (O := fun _ => .nil) (by kernel_rfl) ?_
  by_cases hp : i < X.length
  · obtain ⟨own, ty, cnt, cap, len, get, hM, hf, hic, hkn, hget⟩ := hat (by omega)
    have hv : atO X i = ((X.getD i.toNat default).toNat : Int) := if_pos hp
    have hu := (X.getD i.toNat default).toNat_lt
    simp only [↓WP, ↓grdD, ↓grdT, ↓un_dead, ↓binVC, ↓buildVC, ↓sliceVC, WQ, WN, Int.reduceToNat, renl, cll, rent, clt, ↓reduceIte, Nat.reduceLeDiff, Nat.reduceEqDiff, Nat.reduceLT, reduceCtorEq, List.append_nil, Nat.reduceAdd, Nat.reduceSub, Nat.reduceBEq, forall_const, implies_true, cond_true, cond_false, AV.ren, AC.ren, AV.cl, AC.cl, eq_self, List.all_cons, List.all_nil, AV.eqv, AC.eqv, eqvl, eqvt, Sl.eqv, List.map_append, List.length_map, List.length_append, List.length_replicate, List.length_set, List.map_replicate, nilVC, sd_45, el_45, sz_5, cv_5_3, hM, hf, decide_eq_true hp, hget i.toNat (by omega), hv]
    repeat refine ⟨by omega, ?_⟩
    first | trivial | rfl | (rw [w64 (by omega) (by omega)]) | skip
  · have hv : atO X i = (i * 37 + (X.length : Int) * 11).tmod 256 := if_neg hp
    have w1 : IntKind.i64.wrap (i * 37) = i * 37 := w64 (by omega) (by omega)
    have w2 : IntKind.i64.wrap ((X.length : Int) * 11) = (X.length : Int) * 11 := w64 (by omega) (by omega)
    have w3 : IntKind.i64.wrap (i * 37 + (X.length : Int) * 11) = i * 37 + (X.length : Int) * 11 := w64 (by omega) (by omega)
    have h0 : 0 ≤ i * 37 + (X.length : Int) * 11 := by omega
    have w4 : IntKind.i64.wrap ((i * 37 + (X.length : Int) * 11).tmod 256) = (i * 37 + (X.length : Int) * 11).tmod 256 := by
      rw [Int.tmod_eq_emod_of_nonneg h0]
      exact w64 (by omega) (by omega)
    simp only [↓WP, ↓grdD, ↓grdT, ↓un_dead, ↓binVC, ↓buildVC, ↓sliceVC, WQ, WN, Int.reduceToNat, renl, cll, rent, clt, ↓reduceIte, Nat.reduceLeDiff, Nat.reduceEqDiff, Nat.reduceLT, reduceCtorEq, List.append_nil, Nat.reduceAdd, Nat.reduceSub, Nat.reduceBEq, forall_const, implies_true, cond_true, cond_false, AV.ren, AC.ren, AV.cl, AC.cl, eq_self, List.all_cons, List.all_nil, AV.eqv, AC.eqv, eqvl, eqvt, Sl.eqv, List.map_append, List.length_map, List.length_append, List.length_replicate, List.length_set, List.map_replicate, nilVC, sd_45, el_45, sz_5, cv_5_3, decide_eq_false hp, w1, w2, w3, w4, hv]
    repeat refine ⟨by omega, ?_⟩
    first | trivial | rfl | skip
theorem q_laws_at : Quiet c_laws_at := by
  intro args M
  unfold c_laws_at
  dsimp only
  split <;> first | trivial | (intro _; rfl)
def c_laws_has : Contract := ⟨33, fun args M => match args with
  | [.c (.sl a n _), .c (.int .i64 v)] => .pure (RowOk Int a n (M a.r)) (Eng.B ((row Int a n (M a.r)).any fun x => decide (x = v)))
  | _ => .bad⟩
theorem ok_laws_has : fnP Try.prog c_laws_has.f = true ∧ ∀ args M, (c_laws_has.sp args M).OK Try.prog c_laws_has.f args M := by
  refine ⟨fp_33, fun args M => ?_⟩
  unfold c_laws_has
  dsimp only
  split
  case h_2 => trivial
  rename_i a n ca v
  intro ha
  obtain ⟨hs, X, hX, rfl, hat⟩ := ha.x
  rw [hX]
  refine goIn hf_33 rfl (nt := 18) rfl (rs := [.tmp 4]) rfl (C := []) trivial (q := fun _ => false) okQ_none mixed (O := fun _ => .nil) (by kernel_rfl) ?_
  simp only [↓WP, ↓grdD, ↓grdT, ↓un_dead, ↓binVC, ↓buildVC, ↓sliceVC, WQ, WN, Int.reduceToNat, renl, cll, rent, clt, ↓reduceIte, Nat.reduceLeDiff, Nat.reduceEqDiff, Nat.reduceLT, reduceCtorEq, List.append_nil, Nat.reduceAdd, Nat.reduceSub, Nat.reduceBEq, forall_const, implies_true, cond_true, cond_false, AV.ren, AC.ren, AV.cl, AC.cl, eq_self, List.all_cons, List.all_nil, AV.eqv, AC.eqv, eqvl, eqvt, Sl.eqv, List.map_append, List.length_map, List.length_append, List.length_replicate, List.length_set, List.map_replicate, nilVC, sd_23, el_23, sz_3]
  refine loopI (J := {i : Nat // i ≤ X.length ∧ clear (fun x => decide (x = v)) X i}) (fun i => ⟨slots 18 [(0, .c (.sl a.up X.length ca)), (1, I v), (5, I i.1)], M, [], []⟩) (fun i => X.length - i.1) ⟨0, by omega, clear_zero _ _⟩ (Le_intro [] (by simp [WL, WNL, swA_new, swA_ne, nest_sw_ne, mapLL, List.mem_cons, Nat.reduceAdd, Nat.reduceLT, Nat.reduceLeDiff, Nat.reduceEqDiff, okU, List.nodup_cons, List.not_mem_nil, toT, toL, toO, keysO, renl, rent, cll, clt, eq_self, AV.eqv, AC.eqv, eqvl, eqvt, Sl.eqv, rowsLe, mapLL, rowsCl, List.map_append, List.length_map, List.length_append, List.length_set, List.map_replicate, rowG, List.getElem?_cons_zero, List.getElem?_cons_succ, List.getElem?_nil, List.append_nil, List.nil_append, List.cons_append, ghosts, St.gh, Option.some.injEq, implies_true, setT, AV.ren, AC.ren, AV.cl, AC.cl, List.replicate_succ, List.replicate_zero, List.nodup_nil, List.length_nil, List.length_cons, List.getD_cons_zero, List.getD_cons_succ, ↓reduceIte])) ?_
  rintro ⟨i, hi, he⟩
  have hw := wS (i := i) (by omega)
  rcases Nat.lt_or_ge i X.length with hlt | hge
  · obtain ⟨own, ty, cnt, cap, len, get, hM, hf, hic, hkn, hget⟩ := hat (by omega)
    simp only [↓WP, ↓grdD, ↓grdT, ↓un_dead, ↓binVC, ↓buildVC, ↓sliceVC, WQ, WN, Int.reduceToNat, renl, cll, rent, clt, ↓reduceIte, Nat.reduceLeDiff, Nat.reduceEqDiff, Nat.reduceLT, reduceCtorEq, List.append_nil, Nat.reduceAdd, Nat.reduceSub, Nat.reduceBEq, forall_const, implies_true, cond_true, cond_false, AV.ren, AC.ren, AV.cl, AC.cl, eq_self, List.all_cons, List.all_nil, AV.eqv, AC.eqv, eqvl, eqvt, Sl.eqv, List.map_append, List.length_map, List.length_append, List.length_replicate, List.length_set, List.map_replicate, nilVC, sd_23, el_23, sz_3, dlt hlt, hw, hM, hf, hget i hlt]
    repeat refine ⟨by omega, ?_⟩
    refine ⟨fun h1 => ?_, fun h1 => ?_⟩
    · have h1 : X.getD i default = v := (of_decide_eq_true h1)
      have := hit_any (p := fun x => decide (x = v)) hlt (decide_eq_true h1)
      simp [this]
    · have h1 : ¬ X.getD i default = v := fun e => of_decide_eq_false h1 e
      exact ⟨⟨i + 1, hlt, clear_succ he (decide_eq_false h1)⟩, Le_intro [] (by simp [WL, WNL, swA_new, swA_ne, nest_sw_ne, mapLL, List.mem_cons, Nat.reduceAdd, Nat.reduceLT, Nat.reduceLeDiff, Nat.reduceEqDiff, okU, List.nodup_cons, List.not_mem_nil, toT, toL, toO, keysO, renl, rent, cll, clt, eq_self, AV.eqv, AC.eqv, eqvl, eqvt, Sl.eqv, rowsLe, mapLL, rowsCl, List.map_append, List.length_map, List.length_append, List.length_set, List.map_replicate, rowG, List.getElem?_cons_zero, List.getElem?_cons_succ, List.getElem?_nil, List.append_nil, List.nil_append, List.cons_append, ghosts, St.gh, Option.some.injEq, implies_true, setT, AV.ren, AC.ren, AV.cl, AC.cl, List.replicate_succ, List.replicate_zero, List.nodup_nil, List.length_nil, List.length_cons, List.getD_cons_zero, List.getD_cons_succ, ↓reduceIte]), by show X.length - (i + 1) < X.length - i; omega⟩
  · obtain rfl : i = X.length := by omega
    simp only [↓WP, ↓grdD, ↓grdT, ↓un_dead, ↓binVC, ↓buildVC, ↓sliceVC, WQ, WN, Int.reduceToNat, renl, cll, rent, clt, ↓reduceIte, Nat.reduceLeDiff, Nat.reduceEqDiff, Nat.reduceLT, reduceCtorEq, List.append_nil, Nat.reduceAdd, Nat.reduceSub, Nat.reduceBEq, forall_const, implies_true, cond_true, cond_false, AV.ren, AC.ren, AV.cl, AC.cl, eq_self, List.all_cons, List.all_nil, AV.eqv, AC.eqv, eqvl, eqvt, Sl.eqv, List.map_append, List.length_map, List.length_append, List.length_replicate, List.length_set, List.map_replicate, nilVC, sd_23, el_23, sz_3, dge hge, hw]
    have := clear_any he
    simp [this]
theorem q_laws_has : Quiet c_laws_has := by
  intro args M
  unfold c_laws_has
  dsimp only
  split <;> first | trivial | (intro _; rfl)
end Go.Eng.T
