/- wheel: what the draws need. -/
import Derived.Test.YtmeedopbpdfeaaaFn14
set_option linter.unusedVariables false
set_option linter.unusedSimpArgs false
set_option linter.unusedSectionVars false
namespace Go.Eng.T
open Go.Proofs
open Cel (enc dec)
set_option maxRecDepth 100000
set_option maxHeartbeats 8000000
def c_laws_big : Contract := ⟨28, fun args M => match args with
  | [.c (.sl _ n _)] => .pure True (Eng.B (decide (1048576 < n)))
  | _ => .bad⟩
theorem ok_laws_big : fnP Try.prog c_laws_big.f = true ∧ ∀ args M, (c_laws_big.sp args M).OK Try.prog c_laws_big.f args M := by
  refine ⟨fp_28, fun args M => ?_⟩
  unfold c_laws_big
  dsimp only
  split
  case h_2 => trivial
  rename_i _ n _
  intro _
  refine goIn hf_28 rfl (nt := 6) rfl (rs := [.tmp 2]) rfl (C := []) trivial (q := fun _ => false) okQ_none mixed (O := fun _ => .nil) (by kernel_rfl) ?_
  simp only [↓WP, ↓grdD, ↓grdT, ↓un_dead, ↓binVC, ↓buildVC, ↓sliceVC, WQ, WN, Int.reduceToNat, renl, cll, rent, clt, ↓reduceIte, Nat.reduceLeDiff, Nat.reduceEqDiff, Nat.reduceLT, reduceCtorEq, List.append_nil, Nat.reduceAdd, Nat.reduceSub, Nat.reduceBEq, forall_const, implies_true, cond_true, cond_false, AV.ren, AC.ren, AV.cl, AC.cl, eq_self, List.all_cons, List.all_nil, AV.eqv, AC.eqv, eqvl, eqvt, Sl.eqv, List.map_append, List.length_map, List.length_append, List.length_replicate, List.length_set, List.map_replicate, nilVC, sd_45]
  simp
  omega
theorem q_laws_big : Quiet c_laws_big := by
  intro args M
  unfold c_laws_big
  dsimp only
  split <;> first | trivial | (intro _; rfl)
/-- a number that code gives at a place -/
def atO (L : List UInt8) (i : Int) : Int := if i < L.length then ((L.getD i.toNat default).toNat : Int) else (i * 37 + (L.length : Int) * 11).tmod 256
theorem atO_range (L : List UInt8) (i : Int) (h : 0 ≤ i) : 0 ≤ atO L i ∧ atO L i ≤ 255 := by
  unfold atO
  split
  · have := (L.getD i.toNat default).toNat_lt
    omega
  · have h0 : 0 ≤ i * 37 + (L.length : Int) * 11 := by omega
    rw [Int.tmod_eq_emod_of_nonneg h0]
    omega
theorem atO_mod (L : List UInt8) {i k : Int} (h : 0 ≤ i) (hk : 0 < k) : 0 ≤ (atO L i).tmod k ∧ (atO L i).tmod k < k := by
  rw [Int.tmod_eq_emod_of_nonneg (atO_range L i h).1]
  exact ⟨Int.emod_nonneg _ (by omega), Int.emod_lt_of_pos _ hk⟩
def c_laws_at : Contract := ⟨34, fun args M => match args with
  | [.c (.sl a n _), .c (.int .i64 i)] => .pure (RowOk UInt8 a n (M a.r) ∧ 0 ≤ i ∧ i ≤ 1000000) (I (atO (row UInt8 a n (M a.r)) i))
  | _ => .bad⟩
theorem ok_laws_at : fnP Try.prog c_laws_at.f = true ∧ ∀ args M, (c_laws_at.sp args M).OK Try.prog c_laws_at.f args M := by
  refine ⟨fp_34, fun args M => ?_⟩
  unfold c_laws_at
  dsimp only
  split
  case h_2 => trivial
  rename_i a n ca i
  rintro ⟨ha, hi0, hi1⟩
  obtain ⟨hs, X, hX, rfl, hat⟩ := ha.x
  rw [hX]
  refine goIn hf_34 rfl (nt := 21) rfl (rs := [.tmp 4]) rfl (C := []) trivial (q := fun _ => false) okQ_none mixed (O := fun _ => .nil) (by kernel_rfl) ?_
  by_cases hp : i < X.length
  · obtain ⟨own, ty, cnt, cap, len, get, hM, hf, hic, hkn, hget⟩ := hat (by omega)
    have hv : atO X i = ((X.getD i.toNat default).toNat : Int) := if_pos hp
    have hu := (X.getD i.toNat default).toNat_lt
    simp only [↓WP, ↓grdD, ↓grdT, ↓un_dead, ↓binVC, ↓buildVC, ↓sliceVC, WQ, WN, Int.reduceToNat, renl, cll, rent, clt, ↓reduceIte, Nat.reduceLeDiff, Nat.reduceEqDiff, Nat.reduceLT, reduceCtorEq, List.append_nil, Nat.reduceAdd, Nat.reduceSub, Nat.reduceBEq, forall_const, implies_true, cond_true, cond_false, AV.ren, AC.ren, AV.cl, AC.cl, eq_self, List.all_cons, List.all_nil, AV.eqv, AC.eqv, eqvl, eqvt, Sl.eqv, List.map_append, List.length_map, List.length_append, List.length_replicate, List.length_set, List.map_replicate, nilVC, sd_45, el_45, sz_5, cv_5_3, hM, hf, decide_eq_true hp, hget i.toNat (by omega), hv]
    repeat refine ⟨by omega, ?_⟩
    first | trivial | rfl | (rw [w64 (by omega) (by omega)]) | skip
  · have hv : atO X i = (i * 37 + (X.length : Int) * 11).tmod 256 := if_neg hp
    have w1 : IntKind.i64.wrap (i * 37) = i * 37 := w64 (by omega) (by omega)
    have w2 : IntKind.i64.wrap ((X.length : Int) * 11) = (X.length : Int) * 11 := w64 (by omega) (by omega)
    have w3 : IntKind.i64.wrap (i * 37 + (X.length : Int) * 11) = i * 37 + (X.length : Int) * 11 := w64 (by omega) (by omega)
    have h0 : 0 ≤ i * 37 + (X.length : Int) * 11 := by omega
    have w4 : IntKind.i64.wrap ((i * 37 + (X.length : Int) * 11).tmod 256) = (i * 37 + (X.length : Int) * 11).tmod 256 := by
      rw [Int.tmod_eq_emod_of_nonneg h0]
      exact w64 (by omega) (by omega)
    simp only [↓WP, ↓grdD, ↓grdT, ↓un_dead, ↓binVC, ↓buildVC, ↓sliceVC, WQ, WN, Int.reduceToNat, renl, cll, rent, clt, ↓reduceIte, Nat.reduceLeDiff, Nat.reduceEqDiff, Nat.reduceLT, reduceCtorEq, List.append_nil, Nat.reduceAdd, Nat.reduceSub, Nat.reduceBEq, forall_const, implies_true, cond_true, cond_false, AV.ren, AC.ren, AV.cl, AC.cl, eq_self, List.all_cons, List.all_nil, AV.eqv, AC.eqv, eqvl, eqvt, Sl.eqv, List.map_append, List.length_map, List.length_append, List.length_replicate, List.length_set, List.map_replicate, nilVC, sd_45, el_45, sz_5, cv_5_3, decide_eq_false hp, w1, w2, w3, w4, hv]
    repeat refine ⟨by omega, ?_⟩
    first | trivial | rfl | skip
theorem q_laws_at : Quiet c_laws_at := by
  intro args M
  unfold c_laws_at
  dsimp only
  split <;> first | trivial | (intro _; rfl)
def c_laws_sameInts : Contract := ⟨33, fun args M => match args with
  | [.c (.sl a n _), .c (.sl b m _)] => .pure (RowOk Int a n (M a.r) ∧ RowOk Int b m (M b.r)) (Eng.B (decide (row Int a n (M a.r) = row Int b m (M b.r))))
  | _ => .bad⟩
theorem ok_laws_sameInts : fnP Try.prog c_laws_sameInts.f = true ∧ ∀ args M, (c_laws_sameInts.sp args M).OK Try.prog c_laws_sameInts.f args M := by
  refine ⟨fp_33, fun args M => ?_⟩
  unfold c_laws_sameInts
  dsimp only
  split
  case h_2 => trivial
  rename_i a n ca b m cb
  rintro ⟨ha, hb⟩
  obtain ⟨hs, X, hX, rfl, hat⟩ := ha.x
  obtain ⟨hs', Y, hY, rfl, hbt⟩ := hb.x
  rw [hX, hY]
  refine goIn hf_33 rfl (nt := 26) rfl (rs := [.tmp 4]) rfl (C := []) trivial (q := fun f => [].contains f) trivial mixed (O := ots [(6, otl [0, 1, 2, 3, 4, 5, 6, 7, 8] .nil)]) (by kernel_rfl) ?_
  simp only [↓WP, ↓grdD, ↓grdT, ↓un_dead, ↓binVC, ↓buildVC, ↓sliceVC, WQ, WN, Int.reduceToNat, renl, cll, rent, clt, ↓reduceIte, Nat.reduceLeDiff, Nat.reduceEqDiff, Nat.reduceLT, reduceCtorEq, List.append_nil, Nat.reduceAdd, Nat.reduceSub, Nat.reduceBEq, forall_const, implies_true, cond_true, cond_false, AV.ren, AC.ren, AV.cl, AC.cl, eq_self, List.all_cons, List.all_nil, AV.eqv, AC.eqv, eqvl, eqvt, Sl.eqv, List.map_append, List.length_map, List.length_append, List.length_replicate, List.length_set, List.map_replicate, nilVC, sd_40, el_40, sz_3]
  refine ⟨fun h => ?_, fun h => ?_⟩
  · have : X ≠ Y := by rintro rfl; simp at h
    simp [this]
  · have hl : X.length = Y.length := by simp at h; omega
    refine loopI (J := {i : Nat // i ≤ X.length ∧ X.take i = Y.take i}) (fun i => ⟨slots 26 [(0, .c (.sl a.up X.length ca)), (1, .c (.sl b.up Y.length cb)), (5, I i.1)], M, [], []⟩) (fun i => X.length - i.1) ⟨0, by omega, rfl⟩ (Le_intro [] (by simp [WL, WNL, swA_new, swA_ne, nest_sw_ne, mapLL, List.mem_cons, Nat.reduceAdd, Nat.reduceLT, Nat.reduceLeDiff, Nat.reduceEqDiff, okU, List.nodup_cons, List.not_mem_nil, toT, toL, toO, keysO, renl, rent, cll, clt, eq_self, AV.eqv, AC.eqv, eqvl, eqvt, Sl.eqv, rowsLe, mapLL, rowsCl, List.map_append, List.length_map, List.length_append, List.length_set, List.map_replicate, rowG, List.getElem?_cons_zero, List.getElem?_cons_succ, List.getElem?_nil, List.append_nil, List.nil_append, List.cons_append, ghosts, St.gh, Option.some.injEq, implies_true, setT, AV.ren, AC.ren, AV.cl, AC.cl, List.replicate_succ, List.replicate_zero, List.nodup_nil, List.length_nil, List.length_cons, List.getD_cons_zero, List.getD_cons_succ, ↓reduceIte])) ?_
    rintro ⟨i, hi, he⟩
    have hw := wS (i := i) (by omega)
    rcases Nat.lt_or_ge i X.length with hlt | hge
    · obtain ⟨own, ty, cnt, cap, len, get, hM, hf, hic, hkn, hget⟩ := hat (by omega)
      obtain ⟨own', ty', cnt', cap', len', get', hM', hf', hic', hkn', hget'⟩ := hbt (by omega)
      simp only [↓WP, ↓grdD, ↓grdT, ↓un_dead, ↓binVC, ↓buildVC, ↓sliceVC, WQ, WN, Int.reduceToNat, renl, cll, rent, clt, ↓reduceIte, Nat.reduceLeDiff, Nat.reduceEqDiff, Nat.reduceLT, reduceCtorEq, List.append_nil, Nat.reduceAdd, Nat.reduceSub, Nat.reduceBEq, forall_const, implies_true, cond_true, cond_false, AV.ren, AC.ren, AV.cl, AC.cl, eq_self, List.all_cons, List.all_nil, AV.eqv, AC.eqv, eqvl, eqvt, Sl.eqv, List.map_append, List.length_map, List.length_append, List.length_replicate, List.length_set, List.map_replicate, nilVC, sd_40, el_40, sz_3, dlt hlt, hw, hM, hf, hget i hlt, hM', hf', hget' i (by omega)]
      repeat refine ⟨by omega, ?_⟩
      refine ⟨fun h1 => ?_, fun h1 => ?_⟩
      · have := ne_of_getD (X := X) (Y := Y) (i := i) (by simpa using h1)
        simp [this]
      · exact ⟨⟨i + 1, hlt, eq_step he hlt (by omega) (by simpa using h1)⟩, Le_intro [] (by simp [WL, WNL, swA_new, swA_ne, nest_sw_ne, mapLL, List.mem_cons, Nat.reduceAdd, Nat.reduceLT, Nat.reduceLeDiff, Nat.reduceEqDiff, okU, List.nodup_cons, List.not_mem_nil, toT, toL, toO, keysO, renl, rent, cll, clt, eq_self, AV.eqv, AC.eqv, eqvl, eqvt, Sl.eqv, rowsLe, mapLL, rowsCl, List.map_append, List.length_map, List.length_append, List.length_set, List.map_replicate, rowG, List.getElem?_cons_zero, List.getElem?_cons_succ, List.getElem?_nil, List.append_nil, List.nil_append, List.cons_append, ghosts, St.gh, Option.some.injEq, implies_true, setT, AV.ren, AC.ren, AV.cl, AC.cl, List.replicate_succ, List.replicate_zero, List.nodup_nil, List.length_nil, List.length_cons, List.getD_cons_zero, List.getD_cons_succ, ↓reduceIte]), by show X.length - (i + 1) < X.length - i; omega⟩
    · obtain rfl : i = X.length := by omega
      simp only [↓WP, ↓grdD, ↓grdT, ↓un_dead, ↓binVC, ↓buildVC, ↓sliceVC, WQ, WN, Int.reduceToNat, renl, cll, rent, clt, ↓reduceIte, Nat.reduceLeDiff, Nat.reduceEqDiff, Nat.reduceLT, reduceCtorEq, List.append_nil, Nat.reduceAdd, Nat.reduceSub, Nat.reduceBEq, forall_const, implies_true, cond_true, cond_false, AV.ren, AC.ren, AV.cl, AC.cl, eq_self, List.all_cons, List.all_nil, AV.eqv, AC.eqv, eqvl, eqvt, Sl.eqv, List.map_append, List.length_map, List.length_append, List.length_replicate, List.length_set, List.map_replicate, nilVC, sd_40, el_40, sz_3, dge hge, hw]
      simp [eq_of_take hl he]
theorem q_laws_sameInts : Quiet c_laws_sameInts := by
  intro args M
  unfold c_laws_sameInts
  dsimp only
  split <;> first | trivial | (intro _; rfl)
def c_spec_l1New : Contract := ⟨49, fun args M => match args with
  | [.c (.sl a n c)] => .eff (RowOk UInt8 a n (M a.r)) Int (fun _ => True) (fun _ => .c (.ptr ⟨.loc 0, 0, 0, 0⟩)) (fun h => [.box 79 [.sl a.up n c, .int .i64 0, .int .i64 h]]) (fun _ => [])
  | _ => .bad⟩
theorem ok_spec_l1New : fnP Try.prog c_spec_l1New.f = true ∧ ∀ args M, (c_spec_l1New.sp args M).OK Try.prog c_spec_l1New.f args M := by
  refine ⟨fp_49, fun args M => ?_⟩
  unfold c_spec_l1New
  dsimp only
  split
  case h_2 => trivial
  rename_i a n ca
  intro ha
  obtain ⟨hs, X, hX, rfl, hat⟩ := ha.x
  refine goIn hf_49 rfl (nt := 32) rfl (rs := [.tmp 2]) rfl (C := []) trivial (q := fun _ => false) okQ_none mixed (O := fun _ => .nil) (by kernel_rfl) ?_
  simp only [↓WP, ↓grdD, ↓grdT, ↓un_dead, ↓binVC, ↓buildVC, ↓sliceVC, WQ, WN, Int.reduceToNat, renl, cll, rent, clt, ↓reduceIte, Nat.reduceLeDiff, Nat.reduceEqDiff, Nat.reduceLT, reduceCtorEq, List.append_nil, Nat.reduceAdd, Nat.reduceSub, Nat.reduceBEq, forall_const, implies_true, cond_true, cond_false, AV.ren, AC.ren, AV.cl, AC.cl, eq_self, List.all_cons, List.all_nil, AV.eqv, AC.eqv, eqvl, eqvt, Sl.eqv, List.map_append, List.length_map, List.length_append, List.length_replicate, List.length_set, List.map_replicate, nilVC, sd_45, el_45, sz_5, cv_5_3, zr_79, fs_79]
  refine loopI (J := {p : Nat × Int // p.1 ≤ X.length}) (fun p => ⟨slots 32 [(0, .c (.sl a.up X.length ca)), (3, I p.1.2), (4, I p.1.1)], M, [], []⟩) (fun p => X.length - p.1.1) ⟨(0, IntKind.i64.wrap (10101 + X.length)), by simp⟩ (Le_intro [] (by simp [WL, WNL, swA_new, swA_ne, nest_sw_ne, mapLL, List.mem_cons, Nat.reduceAdd, Nat.reduceLT, Nat.reduceLeDiff, Nat.reduceEqDiff, okU, List.nodup_cons, List.not_mem_nil, toT, toL, toO, keysO, renl, rent, cll, clt, eq_self, AV.eqv, AC.eqv, eqvl, eqvt, Sl.eqv, rowsLe, mapLL, rowsCl, List.map_append, List.length_map, List.length_append, List.length_set, List.map_replicate, rowG, List.getElem?_cons_zero, List.getElem?_cons_succ, List.getElem?_nil, List.append_nil, List.nil_append, List.cons_append, ghosts, St.gh, Option.some.injEq, implies_true, setT, AV.ren, AC.ren, AV.cl, AC.cl, List.replicate_succ, List.replicate_zero, List.nodup_nil, List.length_nil, List.length_cons, List.getD_cons_zero, List.getD_cons_succ, ↓reduceIte])) ?_
  rintro ⟨⟨i, h⟩, hi⟩
  dsimp only at hi
  have hw := wS (i := i) (by omega)
  rcases Nat.lt_or_ge i X.length with hlt | hge
  · obtain ⟨own, ty, cnt, cap, len, get, hM, hf, hic, hkn, hget⟩ := hat (by omega)
    simp only [↓WP, ↓grdD, ↓grdT, ↓un_dead, ↓binVC, ↓buildVC, ↓sliceVC, WQ, WN, Int.reduceToNat, renl, cll, rent, clt, ↓reduceIte, Nat.reduceLeDiff, Nat.reduceEqDiff, Nat.reduceLT, reduceCtorEq, List.append_nil, Nat.reduceAdd, Nat.reduceSub, Nat.reduceBEq, forall_const, implies_true, cond_true, cond_false, AV.ren, AC.ren, AV.cl, AC.cl, eq_self, List.all_cons, List.all_nil, AV.eqv, AC.eqv, eqvl, eqvt, Sl.eqv, List.map_append, List.length_map, List.length_append, List.length_replicate, List.length_set, List.map_replicate, nilVC, sd_45, el_45, sz_5, cv_5_3, zr_79, fs_79, dlt hlt, hw, hM, hf, hget i hlt]
    refine ⟨fun h1 => ?_, fun h1 => ?_⟩
    · repeat refine ⟨by omega, ?_⟩
      refine ⟨⟨(i + 1, ?h), hlt⟩, Le_intro [] ?g, by show X.length - (i + 1) < X.length - i; omega⟩
      case g =>
        simp [WL, WNL, swA_new, swA_ne, nest_sw_ne, mapLL, List.mem_cons, Nat.reduceAdd, Nat.reduceLT, Nat.reduceLeDiff, Nat.reduceEqDiff, okU, List.nodup_cons, List.not_mem_nil, toT, toL, toO, keysO, renl, rent, cll, clt, eq_self, AV.eqv, AC.eqv, eqvl, eqvt, Sl.eqv, rowsLe, mapLL, rowsCl, List.map_append, List.length_map, List.length_append, List.length_set, List.map_replicate, rowG, List.getElem?_cons_zero, List.getElem?_cons_succ, List.getElem?_nil, List.append_nil, List.nil_append, List.cons_append, ghosts, St.gh, Option.some.injEq, implies_true, setT, AV.ren, AC.ren, AV.cl, AC.cl, List.replicate_succ, List.replicate_zero, List.nodup_nil, List.length_nil, List.length_cons, List.getD_cons_zero, List.getD_cons_succ, ↓reduceIte]
        rfl
    · refine end_ret ?_
      simp only [↓WP, ↓grdD, ↓grdT, ↓un_dead, ↓binVC, ↓buildVC, ↓sliceVC, WQ, WN, Int.reduceToNat, renl, cll, rent, clt, ↓reduceIte, Nat.reduceLeDiff, Nat.reduceEqDiff, Nat.reduceLT, reduceCtorEq, List.append_nil, Nat.reduceAdd, Nat.reduceSub, Nat.reduceBEq, forall_const, implies_true, cond_true, cond_false, AV.ren, AC.ren, AV.cl, AC.cl, eq_self, List.all_cons, List.all_nil, AV.eqv, AC.eqv, eqvl, eqvt, Sl.eqv, List.map_append, List.length_map, List.length_append, List.length_replicate, List.length_set, List.map_replicate, nilVC, sd_45, el_45, sz_5, cv_5_3, zr_79, fs_79]
      refine ⟨h, [], [0], ?_⟩
      simp [WL, WNL, swA_new, swA_ne, nest_sw_ne, mapLL, List.mem_cons, Nat.reduceAdd, Nat.reduceLT, Nat.reduceLeDiff, Nat.reduceEqDiff, okU, List.nodup_cons, List.not_mem_nil, toT, toL, toO, keysO, renl, rent, cll, clt, eq_self, AV.eqv, AC.eqv, eqvl, eqvt, Sl.eqv, rowsLe, mapLL, rowsCl, List.map_append, List.length_map, List.length_append, List.length_set, List.map_replicate, rowG, List.getElem?_cons_zero, List.getElem?_cons_succ, List.getElem?_nil, List.append_nil, List.nil_append, List.cons_append, ghosts, St.gh, Option.some.injEq, implies_true, setT, AV.ren, AC.ren, AV.cl, AC.cl, List.replicate_succ, List.replicate_zero, List.nodup_nil, List.length_nil, List.length_cons, List.getD_cons_zero, List.getD_cons_succ, ↓reduceIte, retP]
  · obtain rfl : i = X.length := by omega
    simp only [↓WP, ↓grdD, ↓grdT, ↓un_dead, ↓binVC, ↓buildVC, ↓sliceVC, WQ, WN, Int.reduceToNat, renl, cll, rent, clt, ↓reduceIte, Nat.reduceLeDiff, Nat.reduceEqDiff, Nat.reduceLT, reduceCtorEq, List.append_nil, Nat.reduceAdd, Nat.reduceSub, Nat.reduceBEq, forall_const, implies_true, cond_true, cond_false, AV.ren, AC.ren, AV.cl, AC.cl, eq_self, List.all_cons, List.all_nil, AV.eqv, AC.eqv, eqvl, eqvt, Sl.eqv, List.map_append, List.length_map, List.length_append, List.length_replicate, List.length_set, List.map_replicate, nilVC, sd_45, el_45, sz_5, cv_5_3, zr_79, fs_79, dge hge, hw]
    refine end_ret ?_
    simp only [↓WP, ↓grdD, ↓grdT, ↓un_dead, ↓binVC, ↓buildVC, ↓sliceVC, WQ, WN, Int.reduceToNat, renl, cll, rent, clt, ↓reduceIte, Nat.reduceLeDiff, Nat.reduceEqDiff, Nat.reduceLT, reduceCtorEq, List.append_nil, Nat.reduceAdd, Nat.reduceSub, Nat.reduceBEq, forall_const, implies_true, cond_true, cond_false, AV.ren, AC.ren, AV.cl, AC.cl, eq_self, List.all_cons, List.all_nil, AV.eqv, AC.eqv, eqvl, eqvt, Sl.eqv, List.map_append, List.length_map, List.length_append, List.length_replicate, List.length_set, List.map_replicate, nilVC, sd_45, el_45, sz_5, cv_5_3, zr_79, fs_79]
    refine ⟨h, [], [0], ?_⟩
    simp [WL, WNL, swA_new, swA_ne, nest_sw_ne, mapLL, List.mem_cons, Nat.reduceAdd, Nat.reduceLT, Nat.reduceLeDiff, Nat.reduceEqDiff, okU, List.nodup_cons, List.not_mem_nil, toT, toL, toO, keysO, renl, rent, cll, clt, eq_self, AV.eqv, AC.eqv, eqvl, eqvt, Sl.eqv, rowsLe, mapLL, rowsCl, List.map_append, List.length_map, List.length_append, List.length_set, List.map_replicate, rowG, List.getElem?_cons_zero, List.getElem?_cons_succ, List.getElem?_nil, List.append_nil, List.nil_append, List.cons_append, ghosts, St.gh, Option.some.injEq, implies_true, setT, AV.ren, AC.ren, AV.cl, AC.cl, List.replicate_succ, List.replicate_zero, List.nodup_nil, List.length_nil, List.length_cons, List.getD_cons_zero, List.getD_cons_succ, ↓reduceIte, retP]
theorem q_spec_l1New : Quiet c_spec_l1New := by
  intro args M
  unfold c_spec_l1New
  dsimp only
  split <;> first | trivial | (intro _; rfl)
def c_spec_l1Byte : Contract := ⟨63, fun args M => match args with
  | [.c (.ptr a)] => curK a (M a.r) fun r t b n c p _ => .eff (CurOk b n p (M b.r)) (Int × Int × Int) (fun q => (0 ≤ q.1 ∧ q.1 ≤ 255) ∧ 0 ≤ q.2.1 ∧ q.2.1 ≤ n) (fun q => I q.1) (fun _ => []) (fun q => [(r, .box t [.sl b.up n c, .int .i64 q.2.1, .int .i64 q.2.2])])
  | _ => .bad⟩
theorem ok_spec_l1Byte : fnP Try.prog c_spec_l1Byte.f = true ∧ ∀ args M, (c_spec_l1Byte.sp args M).OK Try.prog c_spec_l1Byte.f args M := by
  refine ⟨fp_63, fun args M => ?_⟩
  unfold c_spec_l1Byte
  dsimp only
  split
  case h_2 => trivial
  rename_i a
  refine curK_cases ?_
  rintro r t b n c p h rfl hr
  rintro ⟨hb, hp0, hpn⟩
  obtain ⟨hs, X, hX, rfl, hat⟩ := hb.x
  dsimp only at hr
  refine goIn hf_63 rfl (nt := 58) rfl (rs := [.tmp 2]) rfl (C := []) trivial (q := fun f => [].contains f) trivial mixed (O := ots [(2, otl [0, 1, 2, 3, 4, 5, 6, 7, 8, 9, 10, 11, 12] .nil), (3, otl [0, 1, 2, 3, 4, 5, 6, 7, 8, 9] .nil), (4, otl [0, 1, 2, 3, 4, 5, 6, 7, 8, 9, 10, 11, 12, 13, 14] .nil)]) (by kernel_rfl) ?_
  by_cases hp : p < X.length
  · obtain ⟨own, ty, cnt, cap, len, get, hM, hf, hic, hkn, hget⟩ := hat (by omega)
    have hne : ¬ r = b.r := by rintro rfl; rw [hr] at hM; cases hM
    simp only [↓WP, ↓grdD, ↓grdT, ↓un_dead, ↓binVC, ↓buildVC, ↓sliceVC, WQ, WN, Int.reduceToNat, renl, cll, rent, clt, ↓reduceIte, Nat.reduceLeDiff, Nat.reduceEqDiff, Nat.reduceLT, reduceCtorEq, List.append_nil, Nat.reduceAdd, Nat.reduceSub, Nat.reduceBEq, forall_const, implies_true, cond_true, cond_false, AV.ren, AC.ren, AV.cl, AC.cl, eq_self, List.all_cons, List.all_nil, AV.eqv, AC.eqv, eqvl, eqvt, Sl.eqv, List.map_append, List.length_map, List.length_append, List.length_replicate, List.length_set, List.map_replicate, nilVC, fl_79_2, sz_3, fl_79_1, fl_79_0, sz_45, sd_45, el_45, sz_5, cv_5_3, hr, hM, hf, if_neg hne, decide_eq_true hp, hget p.toNat (by omega), w64 (n := p + 1) (by omega) (by omega)]
    repeat refine ⟨by omega, ?_⟩
    refine end_ret ?_
    simp only [↓WP, ↓grdD, ↓grdT, ↓un_dead, ↓binVC, ↓buildVC, ↓sliceVC, WQ, WN, Int.reduceToNat, renl, cll, rent, clt, ↓reduceIte, Nat.reduceLeDiff, Nat.reduceEqDiff, Nat.reduceLT, reduceCtorEq, List.append_nil, Nat.reduceAdd, Nat.reduceSub, Nat.reduceBEq, forall_const, implies_true, cond_true, cond_false, AV.ren, AC.ren, AV.cl, AC.cl, eq_self, List.all_cons, List.all_nil, AV.eqv, AC.eqv, eqvl, eqvt, Sl.eqv, List.map_append, List.length_map, List.length_append, List.length_replicate, List.length_set, List.map_replicate, nilVC, fl_79_2, sz_3, fl_79_1, fl_79_0, sz_45, sd_45, el_45, sz_5, cv_5_3]
    apply Exists.intro (Prod.mk _ (Prod.mk _ _))
    refine ⟨[], [], ?c1, ⟨rfl, List.nodup_nil, trivial, ?k1, ?o1⟩, ⟨?e1, trivial⟩, ?u1⟩
    case e1 => exact ⟨rfl, rfl⟩
    case o1 =>
      simp only [WL, WNL, swA_new, swA_ne, nest_sw_ne, mapLL, List.mem_cons, Nat.reduceAdd, Nat.reduceLT, Nat.reduceLeDiff, Nat.reduceEqDiff, okU, List.nodup_cons, List.not_mem_nil, toT, toL, toO, keysO, renl, rent, cll, clt, eq_self, AV.eqv, AC.eqv, eqvl, eqvt, Sl.eqv, rowsLe, mapLL, rowsCl, List.map_append, List.length_map, List.length_append, List.length_set, List.map_replicate, rowG, List.getElem?_cons_zero, List.getElem?_cons_succ, List.getElem?_nil, List.append_nil, List.nil_append, List.cons_append, ghosts, St.gh, Option.some.injEq, implies_true, setT, AV.ren, AC.ren, AV.cl, AC.cl, List.replicate_succ, List.replicate_zero, List.nodup_nil, List.length_nil, List.length_cons, List.getD_cons_zero, List.getD_cons_succ, ↓reduceIte]
      exact ⟨rfl, rfl⟩
    case k1 => simp [WL, WNL, swA_new, swA_ne, nest_sw_ne, mapLL, List.mem_cons, Nat.reduceAdd, Nat.reduceLT, Nat.reduceLeDiff, Nat.reduceEqDiff, okU, List.nodup_cons, List.not_mem_nil, toT, toL, toO, keysO, renl, rent, cll, clt, eq_self, AV.eqv, AC.eqv, eqvl, eqvt, Sl.eqv, rowsLe, mapLL, rowsCl, List.map_append, List.length_map, List.length_append, List.length_set, List.map_replicate, rowG, List.getElem?_cons_zero, List.getElem?_cons_succ, List.getElem?_nil, List.append_nil, List.nil_append, List.cons_append, ghosts, St.gh, Option.some.injEq, implies_true, setT, AV.ren, AC.ren, AV.cl, AC.cl, List.replicate_succ, List.replicate_zero, List.nodup_nil, List.length_nil, List.length_cons, List.getD_cons_zero, List.getD_cons_succ, ↓reduceIte]
    case u1 => simp [okU, hr]
    case c1 => exact ⟨and_byte _, (by omega : 0 ≤ p + 1), (by omega : p + 1 ≤ X.length)⟩
  · simp only [↓WP, ↓grdD, ↓grdT, ↓un_dead, ↓binVC, ↓buildVC, ↓sliceVC, WQ, WN, Int.reduceToNat, renl, cll, rent, clt, ↓reduceIte, Nat.reduceLeDiff, Nat.reduceEqDiff, Nat.reduceLT, reduceCtorEq, List.append_nil, Nat.reduceAdd, Nat.reduceSub, Nat.reduceBEq, forall_const, implies_true, cond_true, cond_false, AV.ren, AC.ren, AV.cl, AC.cl, eq_self, List.all_cons, List.all_nil, AV.eqv, AC.eqv, eqvl, eqvt, Sl.eqv, List.map_append, List.length_map, List.length_append, List.length_replicate, List.length_set, List.map_replicate, nilVC, fl_79_2, sz_3, fl_79_1, fl_79_0, sz_45, sd_45, el_45, sz_5, cv_5_3, hr, decide_eq_false hp]
    repeat refine ⟨by omega, ?_⟩
    refine end_ret ?_
    simp only [↓WP, ↓grdD, ↓grdT, ↓un_dead, ↓binVC, ↓buildVC, ↓sliceVC, WQ, WN, Int.reduceToNat, renl, cll, rent, clt, ↓reduceIte, Nat.reduceLeDiff, Nat.reduceEqDiff, Nat.reduceLT, reduceCtorEq, List.append_nil, Nat.reduceAdd, Nat.reduceSub, Nat.reduceBEq, forall_const, implies_true, cond_true, cond_false, AV.ren, AC.ren, AV.cl, AC.cl, eq_self, List.all_cons, List.all_nil, AV.eqv, AC.eqv, eqvl, eqvt, Sl.eqv, List.map_append, List.length_map, List.length_append, List.length_replicate, List.length_set, List.map_replicate, nilVC, fl_79_2, sz_3, fl_79_1, fl_79_0, sz_45, sd_45, el_45, sz_5, cv_5_3]
    apply Exists.intro (Prod.mk _ (Prod.mk _ _))
    refine ⟨[], [], ?c2, ⟨rfl, List.nodup_nil, trivial, ?k2, ?o2⟩, ⟨?e2, trivial⟩, ?u2⟩
    case e2 => exact ⟨rfl, rfl⟩
    case o2 =>
      simp only [WL, WNL, swA_new, swA_ne, nest_sw_ne, mapLL, List.mem_cons, Nat.reduceAdd, Nat.reduceLT, Nat.reduceLeDiff, Nat.reduceEqDiff, okU, List.nodup_cons, List.not_mem_nil, toT, toL, toO, keysO, renl, rent, cll, clt, eq_self, AV.eqv, AC.eqv, eqvl, eqvt, Sl.eqv, rowsLe, mapLL, rowsCl, List.map_append, List.length_map, List.length_append, List.length_set, List.map_replicate, rowG, List.getElem?_cons_zero, List.getElem?_cons_succ, List.getElem?_nil, List.append_nil, List.nil_append, List.cons_append, ghosts, St.gh, Option.some.injEq, implies_true, setT, AV.ren, AC.ren, AV.cl, AC.cl, List.replicate_succ, List.replicate_zero, List.nodup_nil, List.length_nil, List.length_cons, List.getD_cons_zero, List.getD_cons_succ, ↓reduceIte]
      exact ⟨rfl, rfl⟩
    case k2 => simp [WL, WNL, swA_new, swA_ne, nest_sw_ne, mapLL, List.mem_cons, Nat.reduceAdd, Nat.reduceLT, Nat.reduceLeDiff, Nat.reduceEqDiff, okU, List.nodup_cons, List.not_mem_nil, toT, toL, toO, keysO, renl, rent, cll, clt, eq_self, AV.eqv, AC.eqv, eqvl, eqvt, Sl.eqv, rowsLe, mapLL, rowsCl, List.map_append, List.length_map, List.length_append, List.length_set, List.map_replicate, rowG, List.getElem?_cons_zero, List.getElem?_cons_succ, List.getElem?_nil, List.append_nil, List.nil_append, List.cons_append, ghosts, St.gh, Option.some.injEq, implies_true, setT, AV.ren, AC.ren, AV.cl, AC.cl, List.replicate_succ, List.replicate_zero, List.nodup_nil, List.length_nil, List.length_cons, List.getD_cons_zero, List.getD_cons_succ, ↓reduceIte]
    case u2 => simp [okU, hr]
    case c2 => exact ⟨and_byte _, hp0, hpn⟩
def c_spec_l1Below : Contract := ⟨53, fun args M => match args with
  | [.c (.ptr a), .c (.int .i64 k)] => curK a (M a.r) fun r t b n c p _ => .eff (CurOk b n p (M b.r)) (Int × Int × Int) (fun q => ((k ≤ 0 → q.1 = 0) ∧ (0 < k → 0 ≤ q.1 ∧ q.1 < k)) ∧ 0 ≤ q.2.1 ∧ q.2.1 ≤ n) (fun q => I q.1) (fun _ => []) (fun q => [(r, .box t [.sl b.up n c, .int .i64 q.2.1, .int .i64 q.2.2])])
  | _ => .bad⟩
theorem ok_spec_l1Below : fnP Try.prog c_spec_l1Below.f = true ∧ ∀ args M, (c_spec_l1Below.sp args M).OK Try.prog c_spec_l1Below.f args M := by
  refine ⟨fp_53, fun args M => ?_⟩
  unfold c_spec_l1Below
  dsimp only
  split
  case h_2 => trivial
  rename_i a k
  refine curK_cases ?_
  rintro r t b n c p h rfl hr
  rintro ⟨hb, hp0, hpn⟩
  dsimp only at hr
  have hal := cur_alias hb hr
  refine goIn hf_53 rfl (nt := 37) rfl (rs := [.tmp 4]) rfl (C := [c_spec_l1Byte]) ⟨(by first | exact .inl ok_spec_l1Byte | exact ok_spec_l1Byte), trivial⟩ (q := fun _ => false) okQ_none mixed (O := fun _ => .nil) (by kernel_rfl) ?_
  rcases Int.lt_or_le 0 k with h0 | h0
  · rcases Int.lt_or_le 256 k with h1 | h1
    · simp only [↓WP, ↓grdD, ↓grdT, ↓un_dead, ↓binVC, ↓buildVC, ↓sliceVC, WQ, WN, Int.reduceToNat, renl, cll, rent, clt, ↓reduceIte, Nat.reduceLeDiff, Nat.reduceEqDiff, Nat.reduceLT, reduceCtorEq, List.append_nil, Nat.reduceAdd, Nat.reduceSub, Nat.reduceBEq, forall_const, implies_true, cond_true, cond_false, AV.ren, AC.ren, AV.cl, AC.cl, eq_self, List.all_cons, List.all_nil, AV.eqv, AC.eqv, eqvl, eqvt, Sl.eqv, List.map_append, List.length_map, List.length_append, List.length_replicate, List.length_set, List.map_replicate, nilVC, c_spec_l1Byte, hr, hb, hal, decide_eq_false (Int.not_le.2 h0), decide_eq_false (Int.not_le.2 h1)]
      refine ⟨⟨hp0, hpn⟩, ?_⟩
      rintro ⟨x1, p1, k1⟩ ⟨e1, f1⟩
      refine ⟨f1, ?_⟩
      rintro ⟨x2, p2, k2⟩ ⟨e2, f2⟩
      refine ⟨f2, ?_⟩
      rintro ⟨x3, p3, k3⟩ ⟨e3, f3⟩
      refine ⟨f3, ?_⟩
      rintro ⟨x4, p4, k4⟩ ⟨e4, f4⟩
      dsimp only at e1 f1 e2 f2 e3 f3 e4 f4
      refine ⟨by omega, ?_⟩
      rw [w64 (n := x1 * 16777216) (by omega) (by omega), w64 (n := x2 * 65536) (by omega) (by omega), w64 (n := x3 * 256) (by omega) (by omega), w64 (n := x1 * 16777216 + x2 * 65536) (by omega) (by omega), w64 (n := x1 * 16777216 + x2 * 65536 + x3 * 256) (by omega) (by omega), w64 (n := x1 * 16777216 + x2 * 65536 + x3 * 256 + x4) (by omega) (by omega)]
      refine end_ret ?_
      simp only [↓WP, ↓grdD, ↓grdT, ↓un_dead, ↓binVC, ↓buildVC, ↓sliceVC, WQ, WN, Int.reduceToNat, renl, cll, rent, clt, ↓reduceIte, Nat.reduceLeDiff, Nat.reduceEqDiff, Nat.reduceLT, reduceCtorEq, List.append_nil, Nat.reduceAdd, Nat.reduceSub, Nat.reduceBEq, forall_const, implies_true, cond_true, cond_false, AV.ren, AC.ren, AV.cl, AC.cl, eq_self, List.all_cons, List.all_nil, AV.eqv, AC.eqv, eqvl, eqvt, Sl.eqv, List.map_append, List.length_map, List.length_append, List.length_replicate, List.length_set, List.map_replicate, nilVC, c_spec_l1Byte]
      apply Exists.intro (Prod.mk _ (Prod.mk _ _))
      refine ⟨[], [], ?c1, ⟨rfl, List.nodup_nil, trivial, ?k1, ?o1⟩, ⟨?e1, trivial⟩, ?u1⟩
      case e1 => exact ⟨rfl, rfl⟩
      case o1 =>
        simp only [WL, WNL, swA_new, swA_ne, nest_sw_ne, mapLL, List.mem_cons, Nat.reduceAdd, Nat.reduceLT, Nat.reduceLeDiff, Nat.reduceEqDiff, okU, List.nodup_cons, List.not_mem_nil, toT, toL, toO, keysO, renl, rent, cll, clt, eq_self, AV.eqv, AC.eqv, eqvl, eqvt, Sl.eqv, rowsLe, mapLL, rowsCl, List.map_append, List.length_map, List.length_append, List.length_set, List.map_replicate, rowG, List.getElem?_cons_zero, List.getElem?_cons_succ, List.getElem?_nil, List.append_nil, List.nil_append, List.cons_append, ghosts, St.gh, Option.some.injEq, implies_true, setT, AV.ren, AC.ren, AV.cl, AC.cl, List.replicate_succ, List.replicate_zero, List.nodup_nil, List.length_nil, List.length_cons, List.getD_cons_zero, List.getD_cons_succ, ↓reduceIte, hr]
        exact ⟨rfl, rfl⟩
      case k1 => simp [WL, WNL, swA_new, swA_ne, nest_sw_ne, mapLL, List.mem_cons, Nat.reduceAdd, Nat.reduceLT, Nat.reduceLeDiff, Nat.reduceEqDiff, okU, List.nodup_cons, List.not_mem_nil, toT, toL, toO, keysO, renl, rent, cll, clt, eq_self, AV.eqv, AC.eqv, eqvl, eqvt, Sl.eqv, rowsLe, mapLL, rowsCl, List.map_append, List.length_map, List.length_append, List.length_set, List.map_replicate, rowG, List.getElem?_cons_zero, List.getElem?_cons_succ, List.getElem?_nil, List.append_nil, List.nil_append, List.cons_append, ghosts, St.gh, Option.some.injEq, implies_true, setT, AV.ren, AC.ren, AV.cl, AC.cl, List.replicate_succ, List.replicate_zero, List.nodup_nil, List.length_nil, List.length_cons, List.getD_cons_zero, List.getD_cons_succ, ↓reduceIte]
      case u1 => simp [okU, hr]
      case c1 => exact ⟨⟨fun h => absurd h (by omega), fun _ => tmod_range (by omega) h0⟩, f4⟩
    · simp only [↓WP, ↓grdD, ↓grdT, ↓un_dead, ↓binVC, ↓buildVC, ↓sliceVC, WQ, WN, Int.reduceToNat, renl, cll, rent, clt, ↓reduceIte, Nat.reduceLeDiff, Nat.reduceEqDiff, Nat.reduceLT, reduceCtorEq, List.append_nil, Nat.reduceAdd, Nat.reduceSub, Nat.reduceBEq, forall_const, implies_true, cond_true, cond_false, AV.ren, AC.ren, AV.cl, AC.cl, eq_self, List.all_cons, List.all_nil, AV.eqv, AC.eqv, eqvl, eqvt, Sl.eqv, List.map_append, List.length_map, List.length_append, List.length_replicate, List.length_set, List.map_replicate, nilVC, c_spec_l1Byte, hr, hb, hal, decide_eq_false (Int.not_le.2 h0), decide_eq_true h1]
      refine ⟨⟨hp0, hpn⟩, ?_⟩
      rintro ⟨x1, p1, k1⟩ ⟨e1, f1⟩
      dsimp only at e1 f1
      refine ⟨by omega, ?_⟩
      refine end_ret ?_
      simp only [↓WP, ↓grdD, ↓grdT, ↓un_dead, ↓binVC, ↓buildVC, ↓sliceVC, WQ, WN, Int.reduceToNat, renl, cll, rent, clt, ↓reduceIte, Nat.reduceLeDiff, Nat.reduceEqDiff, Nat.reduceLT, reduceCtorEq, List.append_nil, Nat.reduceAdd, Nat.reduceSub, Nat.reduceBEq, forall_const, implies_true, cond_true, cond_false, AV.ren, AC.ren, AV.cl, AC.cl, eq_self, List.all_cons, List.all_nil, AV.eqv, AC.eqv, eqvl, eqvt, Sl.eqv, List.map_append, List.length_map, List.length_append, List.length_replicate, List.length_set, List.map_replicate, nilVC, c_spec_l1Byte]
      apply Exists.intro (Prod.mk _ (Prod.mk _ _))
      refine ⟨[], [], ?c2, ⟨rfl, List.nodup_nil, trivial, ?k2, ?o2⟩, ⟨?e2, trivial⟩, ?u2⟩
      case e2 => exact ⟨rfl, rfl⟩
      case o2 =>
        simp only [WL, WNL, swA_new, swA_ne, nest_sw_ne, mapLL, List.mem_cons, Nat.reduceAdd, Nat.reduceLT, Nat.reduceLeDiff, Nat.reduceEqDiff, okU, List.nodup_cons, List.not_mem_nil, toT, toL, toO, keysO, renl, rent, cll, clt, eq_self, AV.eqv, AC.eqv, eqvl, eqvt, Sl.eqv, rowsLe, mapLL, rowsCl, List.map_append, List.length_map, List.length_append, List.length_set, List.map_replicate, rowG, List.getElem?_cons_zero, List.getElem?_cons_succ, List.getElem?_nil, List.append_nil, List.nil_append, List.cons_append, ghosts, St.gh, Option.some.injEq, implies_true, setT, AV.ren, AC.ren, AV.cl, AC.cl, List.replicate_succ, List.replicate_zero, List.nodup_nil, List.length_nil, List.length_cons, List.getD_cons_zero, List.getD_cons_succ, ↓reduceIte, hr]
        exact ⟨rfl, rfl⟩
      case k2 => simp [WL, WNL, swA_new, swA_ne, nest_sw_ne, mapLL, List.mem_cons, Nat.reduceAdd, Nat.reduceLT, Nat.reduceLeDiff, Nat.reduceEqDiff, okU, List.nodup_cons, List.not_mem_nil, toT, toL, toO, keysO, renl, rent, cll, clt, eq_self, AV.eqv, AC.eqv, eqvl, eqvt, Sl.eqv, rowsLe, mapLL, rowsCl, List.map_append, List.length_map, List.length_append, List.length_set, List.map_replicate, rowG, List.getElem?_cons_zero, List.getElem?_cons_succ, List.getElem?_nil, List.append_nil, List.nil_append, List.cons_append, ghosts, St.gh, Option.some.injEq, implies_true, setT, AV.ren, AC.ren, AV.cl, AC.cl, List.replicate_succ, List.replicate_zero, List.nodup_nil, List.length_nil, List.length_cons, List.getD_cons_zero, List.getD_cons_succ, ↓reduceIte]
      case u2 => simp [okU, hr]
      case c2 => exact ⟨⟨fun h => absurd h (by omega), fun _ => tmod_range (by omega) h0⟩, f1⟩
  · simp only [↓WP, ↓grdD, ↓grdT, ↓un_dead, ↓binVC, ↓buildVC, ↓sliceVC, WQ, WN, Int.reduceToNat, renl, cll, rent, clt, ↓reduceIte, Nat.reduceLeDiff, Nat.reduceEqDiff, Nat.reduceLT, reduceCtorEq, List.append_nil, Nat.reduceAdd, Nat.reduceSub, Nat.reduceBEq, forall_const, implies_true, cond_true, cond_false, AV.ren, AC.ren, AV.cl, AC.cl, eq_self, List.all_cons, List.all_nil, AV.eqv, AC.eqv, eqvl, eqvt, Sl.eqv, List.map_append, List.length_map, List.length_append, List.length_replicate, List.length_set, List.map_replicate, nilVC, c_spec_l1Byte, hr, decide_eq_true h0]
    refine end_ret ?_
    simp only [↓WP, ↓grdD, ↓grdT, ↓un_dead, ↓binVC, ↓buildVC, ↓sliceVC, WQ, WN, Int.reduceToNat, renl, cll, rent, clt, ↓reduceIte, Nat.reduceLeDiff, Nat.reduceEqDiff, Nat.reduceLT, reduceCtorEq, List.append_nil, Nat.reduceAdd, Nat.reduceSub, Nat.reduceBEq, forall_const, implies_true, cond_true, cond_false, AV.ren, AC.ren, AV.cl, AC.cl, eq_self, List.all_cons, List.all_nil, AV.eqv, AC.eqv, eqvl, eqvt, Sl.eqv, List.map_append, List.length_map, List.length_append, List.length_replicate, List.length_set, List.map_replicate, nilVC, c_spec_l1Byte]
    apply Exists.intro (Prod.mk _ (Prod.mk _ _))
    refine ⟨[], [], ?c3, ⟨rfl, List.nodup_nil, trivial, ?k3, ?o3⟩, ⟨?e3, trivial⟩, ?u3⟩
    case e3 => exact ⟨rfl, rfl⟩
    case o3 =>
      simp only [WL, WNL, swA_new, swA_ne, nest_sw_ne, mapLL, List.mem_cons, Nat.reduceAdd, Nat.reduceLT, Nat.reduceLeDiff, Nat.reduceEqDiff, okU, List.nodup_cons, List.not_mem_nil, toT, toL, toO, keysO, renl, rent, cll, clt, eq_self, AV.eqv, AC.eqv, eqvl, eqvt, Sl.eqv, rowsLe, mapLL, rowsCl, List.map_append, List.length_map, List.length_append, List.length_set, List.map_replicate, rowG, List.getElem?_cons_zero, List.getElem?_cons_succ, List.getElem?_nil, List.append_nil, List.nil_append, List.cons_append, ghosts, St.gh, Option.some.injEq, implies_true, setT, AV.ren, AC.ren, AV.cl, AC.cl, List.replicate_succ, List.replicate_zero, List.nodup_nil, List.length_nil, List.length_cons, List.getD_cons_zero, List.getD_cons_succ, ↓reduceIte, hr]
      exact ⟨rfl, rfl⟩
    case k3 => simp [WL, WNL, swA_new, swA_ne, nest_sw_ne, mapLL, List.mem_cons, Nat.reduceAdd, Nat.reduceLT, Nat.reduceLeDiff, Nat.reduceEqDiff, okU, List.nodup_cons, List.not_mem_nil, toT, toL, toO, keysO, renl, rent, cll, clt, eq_self, AV.eqv, AC.eqv, eqvl, eqvt, Sl.eqv, rowsLe, mapLL, rowsCl, List.map_append, List.length_map, List.length_append, List.length_set, List.map_replicate, rowG, List.getElem?_cons_zero, List.getElem?_cons_succ, List.getElem?_nil, List.append_nil, List.nil_append, List.cons_append, ghosts, St.gh, Option.some.injEq, implies_true, setT, AV.ren, AC.ren, AV.cl, AC.cl, List.replicate_succ, List.replicate_zero, List.nodup_nil, List.length_nil, List.length_cons, List.getD_cons_zero, List.getD_cons_succ, ↓reduceIte]
    case u3 => simp [okU, hr]
    case c3 => exact ⟨⟨fun _ => rfl, fun h => absurd h (by omega)⟩, hp0, hpn⟩
def c_spec_l1Once : Contract := ⟨62, fun args M => match args with
  | [.c (.ptr a), .c (.int .i64 _)] => curK a (M a.r) fun r t b n c p _ => .eff (CurOk b n p (M b.r)) (Bool × Int × Int) (fun q => 0 ≤ q.2.1 ∧ q.2.1 ≤ n) (fun q => Eng.B q.1) (fun _ => []) (fun q => [(r, .box t [.sl b.up n c, .int .i64 q.2.1, .int .i64 q.2.2])])
  | _ => .bad⟩
theorem ok_spec_l1Once : fnP Try.prog c_spec_l1Once.f = true ∧ ∀ args M, (c_spec_l1Once.sp args M).OK Try.prog c_spec_l1Once.f args M := by
  refine ⟨fp_62, fun args M => ?_⟩
  unfold c_spec_l1Once
  dsimp only
  split
  case h_2 => trivial
  rename_i a k
  refine curK_cases ?_
  rintro r t b n c p h rfl hr
  rintro ⟨hb, hp0, hpn⟩
  dsimp only at hr
  have hal := cur_alias hb hr
  refine goIn hf_62 rfl (nt := 9) rfl (rs := [.tmp 4]) rfl (C := [c_spec_l1Below]) ⟨(by first | exact .inl ok_spec_l1Below | exact ok_spec_l1Below), trivial⟩ (q := fun _ => false) okQ_none mixed (O := fun _ => .nil) (by kernel_rfl) ?_
  simp only [↓WP, ↓grdD, ↓grdT, ↓un_dead, ↓binVC, ↓buildVC, ↓sliceVC, WQ, WN, Int.reduceToNat, renl, cll, rent, clt, ↓reduceIte, Nat.reduceLeDiff, Nat.reduceEqDiff, Nat.reduceLT, reduceCtorEq, List.append_nil, Nat.reduceAdd, Nat.reduceSub, Nat.reduceBEq, forall_const, implies_true, cond_true, cond_false, AV.ren, AC.ren, AV.cl, AC.cl, eq_self, List.all_cons, List.all_nil, AV.eqv, AC.eqv, eqvl, eqvt, Sl.eqv, List.map_append, List.length_map, List.length_append, List.length_replicate, List.length_set, List.map_replicate, nilVC, c_spec_l1Below, hr, hb, hal]
  refine ⟨⟨hp0, hpn⟩, ?_⟩
  rintro ⟨x1, p1, k1⟩ ⟨e1, f1⟩
  dsimp only at e1 f1
  refine end_ret ?_
  simp only [↓WP, ↓grdD, ↓grdT, ↓un_dead, ↓binVC, ↓buildVC, ↓sliceVC, WQ, WN, Int.reduceToNat, renl, cll, rent, clt, ↓reduceIte, Nat.reduceLeDiff, Nat.reduceEqDiff, Nat.reduceLT, reduceCtorEq, List.append_nil, Nat.reduceAdd, Nat.reduceSub, Nat.reduceBEq, forall_const, implies_true, cond_true, cond_false, AV.ren, AC.ren, AV.cl, AC.cl, eq_self, List.all_cons, List.all_nil, AV.eqv, AC.eqv, eqvl, eqvt, Sl.eqv, List.map_append, List.length_map, List.length_append, List.length_replicate, List.length_set, List.map_replicate, nilVC, c_spec_l1Below]
  apply Exists.intro (Prod.mk _ (Prod.mk _ _))
  refine ⟨[], [], ?c1, ⟨rfl, List.nodup_nil, trivial, ?k1, ?o1⟩, ⟨?e1, trivial⟩, ?u1⟩
  case e1 => exact rfl
  case o1 =>
    simp only [WL, WNL, swA_new, swA_ne, nest_sw_ne, mapLL, List.mem_cons, Nat.reduceAdd, Nat.reduceLT, Nat.reduceLeDiff, Nat.reduceEqDiff, okU, List.nodup_cons, List.not_mem_nil, toT, toL, toO, keysO, renl, rent, cll, clt, eq_self, AV.eqv, AC.eqv, eqvl, eqvt, Sl.eqv, rowsLe, mapLL, rowsCl, List.map_append, List.length_map, List.length_append, List.length_set, List.map_replicate, rowG, List.getElem?_cons_zero, List.getElem?_cons_succ, List.getElem?_nil, List.append_nil, List.nil_append, List.cons_append, ghosts, St.gh, Option.some.injEq, implies_true, setT, AV.ren, AC.ren, AV.cl, AC.cl, List.replicate_succ, List.replicate_zero, List.nodup_nil, List.length_nil, List.length_cons, List.getD_cons_zero, List.getD_cons_succ, ↓reduceIte, hr]
    exact ⟨rfl, rfl⟩
  case k1 => simp [WL, WNL, swA_new, swA_ne, nest_sw_ne, mapLL, List.mem_cons, Nat.reduceAdd, Nat.reduceLT, Nat.reduceLeDiff, Nat.reduceEqDiff, okU, List.nodup_cons, List.not_mem_nil, toT, toL, toO, keysO, renl, rent, cll, clt, eq_self, AV.eqv, AC.eqv, eqvl, eqvt, Sl.eqv, rowsLe, mapLL, rowsCl, List.map_append, List.length_map, List.length_append, List.length_set, List.map_replicate, rowG, List.getElem?_cons_zero, List.getElem?_cons_succ, List.getElem?_nil, List.append_nil, List.nil_append, List.cons_append, ghosts, St.gh, Option.some.injEq, implies_true, setT, AV.ren, AC.ren, AV.cl, AC.cl, List.replicate_succ, List.replicate_zero, List.nodup_nil, List.length_nil, List.length_cons, List.getD_cons_zero, List.getD_cons_succ, ↓reduceIte]
  case u1 => simp [okU, hr]
  case c1 => exact f1
def c_spec_l1PickInt : Contract := ⟨50, fun args M => match args with
  | [.c (.ptr a), .c (.sl l m _)] => curK a (M a.r) fun r t b n c p _ => .eff (CurOk b n p (M b.r) ∧ RowOk Int l m (M l.r) ∧ 0 < m) (Int × Int × Int) (fun q => q.1 ∈ row Int l m (M l.r) ∧ 0 ≤ q.2.1 ∧ q.2.1 ≤ n) (fun q => I q.1) (fun _ => []) (fun q => [(r, .box t [.sl b.up n c, .int .i64 q.2.1, .int .i64 q.2.2])])
  | _ => .bad⟩
theorem ok_spec_l1PickInt : fnP Try.prog c_spec_l1PickInt.f = true ∧ ∀ args M, (c_spec_l1PickInt.sp args M).OK Try.prog c_spec_l1PickInt.f args M := by
  refine ⟨fp_50, fun args M => ?_⟩
  unfold c_spec_l1PickInt
  dsimp only
  split
  case h_2 => trivial
  rename_i a l m c'
  refine curK_cases ?_
  rintro r t b n c p h rfl hr
  rintro ⟨⟨hb, hp0, hpn⟩, hl, h0⟩
  dsimp only at hr
  have hal := cur_alias hb hr
  obtain ⟨hs, X, hX, rfl, hat⟩ := hl.x
  rw [hX]
  obtain ⟨own, ty, cnt, cap, len, get, hM, hf, hic, hkn, hget⟩ := hat (by omega)
  have hne : ¬ r = l.r := by rintro rfl; rw [hr] at hM; cases hM
  refine goIn hf_50 rfl (nt := 12) rfl (rs := [.tmp 4]) rfl (C := [c_spec_l1Below]) ⟨(by first | exact .inl ok_spec_l1Below | exact ok_spec_l1Below), trivial⟩ (q := fun _ => false) okQ_none mixed (O := fun _ => .nil) (by kernel_rfl) ?_
  simp only [↓WP, ↓grdD, ↓grdT, ↓un_dead, ↓binVC, ↓buildVC, ↓sliceVC, WQ, WN, Int.reduceToNat, renl, cll, rent, clt, ↓reduceIte, Nat.reduceLeDiff, Nat.reduceEqDiff, Nat.reduceLT, reduceCtorEq, List.append_nil, Nat.reduceAdd, Nat.reduceSub, Nat.reduceBEq, forall_const, implies_true, cond_true, cond_false, AV.ren, AC.ren, AV.cl, AC.cl, eq_self, List.all_cons, List.all_nil, AV.eqv, AC.eqv, eqvl, eqvt, Sl.eqv, List.map_append, List.length_map, List.length_append, List.length_replicate, List.length_set, List.map_replicate, nilVC, sd_40, el_40, sz_3, c_spec_l1Below, hr, hb, hal, hM, if_neg hne]
  refine ⟨⟨hp0, hpn⟩, ?_⟩
  rintro ⟨x1, p1, k1⟩ ⟨⟨_, e1⟩, f1⟩
  dsimp only at e1 f1
  obtain ⟨e0, e1⟩ := e1 (by omega)
  simp only [↓WP, ↓grdD, ↓grdT, ↓un_dead, ↓binVC, ↓buildVC, ↓sliceVC, WQ, WN, Int.reduceToNat, renl, cll, rent, clt, ↓reduceIte, Nat.reduceLeDiff, Nat.reduceEqDiff, Nat.reduceLT, reduceCtorEq, List.append_nil, Nat.reduceAdd, Nat.reduceSub, Nat.reduceBEq, forall_const, implies_true, cond_true, cond_false, AV.ren, AC.ren, AV.cl, AC.cl, eq_self, List.all_cons, List.all_nil, AV.eqv, AC.eqv, eqvl, eqvt, Sl.eqv, List.map_append, List.length_map, List.length_append, List.length_replicate, List.length_set, List.map_replicate, nilVC, sd_40, el_40, sz_3, c_spec_l1Below, hf, hget x1.toNat (by omega)]
  repeat refine ⟨by omega, ?_⟩
  refine end_ret ?_
  simp only [↓WP, ↓grdD, ↓grdT, ↓un_dead, ↓binVC, ↓buildVC, ↓sliceVC, WQ, WN, Int.reduceToNat, renl, cll, rent, clt, ↓reduceIte, Nat.reduceLeDiff, Nat.reduceEqDiff, Nat.reduceLT, reduceCtorEq, List.append_nil, Nat.reduceAdd, Nat.reduceSub, Nat.reduceBEq, forall_const, implies_true, cond_true, cond_false, AV.ren, AC.ren, AV.cl, AC.cl, eq_self, List.all_cons, List.all_nil, AV.eqv, AC.eqv, eqvl, eqvt, Sl.eqv, List.map_append, List.length_map, List.length_append, List.length_replicate, List.length_set, List.map_replicate, nilVC, sd_40, el_40, sz_3, c_spec_l1Below]
  apply Exists.intro (Prod.mk _ (Prod.mk _ _))
  refine ⟨[], [], ?c1, ⟨rfl, List.nodup_nil, trivial, ?k1, ?o1⟩, ⟨?e1, trivial⟩, ?u1⟩
  case e1 => exact ⟨rfl, rfl⟩
  case o1 =>
    simp only [WL, WNL, swA_new, swA_ne, nest_sw_ne, mapLL, List.mem_cons, Nat.reduceAdd, Nat.reduceLT, Nat.reduceLeDiff, Nat.reduceEqDiff, okU, List.nodup_cons, List.not_mem_nil, toT, toL, toO, keysO, renl, rent, cll, clt, eq_self, AV.eqv, AC.eqv, eqvl, eqvt, Sl.eqv, rowsLe, mapLL, rowsCl, List.map_append, List.length_map, List.length_append, List.length_set, List.map_replicate, rowG, List.getElem?_cons_zero, List.getElem?_cons_succ, List.getElem?_nil, List.append_nil, List.nil_append, List.cons_append, ghosts, St.gh, Option.some.injEq, implies_true, setT, AV.ren, AC.ren, AV.cl, AC.cl, List.replicate_succ, List.replicate_zero, List.nodup_nil, List.length_nil, List.length_cons, List.getD_cons_zero, List.getD_cons_succ, ↓reduceIte, hr]
    exact ⟨rfl, rfl⟩
  case k1 => simp [WL, WNL, swA_new, swA_ne, nest_sw_ne, mapLL, List.mem_cons, Nat.reduceAdd, Nat.reduceLT, Nat.reduceLeDiff, Nat.reduceEqDiff, okU, List.nodup_cons, List.not_mem_nil, toT, toL, toO, keysO, renl, rent, cll, clt, eq_self, AV.eqv, AC.eqv, eqvl, eqvt, Sl.eqv, rowsLe, mapLL, rowsCl, List.map_append, List.length_map, List.length_append, List.length_set, List.map_replicate, rowG, List.getElem?_cons_zero, List.getElem?_cons_succ, List.getElem?_nil, List.append_nil, List.nil_append, List.cons_append, ghosts, St.gh, Option.some.injEq, implies_true, setT, AV.ren, AC.ren, AV.cl, AC.cl, List.replicate_succ, List.replicate_zero, List.nodup_nil, List.length_nil, List.length_cons, List.getD_cons_zero, List.getD_cons_succ, ↓reduceIte]
  case u1 => simp [okU, hr]
  case c1 => exact ⟨getD_mem (i := x1.toNat) (by omega), f1⟩
def c_spec_l1Size : Contract := ⟨52, fun args M => match args with
  | [.c (.sl _ n _), .c (.int .i64 m)] => .eff (n ≤ 4611686018427387904) Int (fun q => q ≤ m) (fun q => I q) (fun _ => []) (fun _ => [])
  | _ => .bad⟩
theorem ok_spec_l1Size : fnP Try.prog c_spec_l1Size.f = true ∧ ∀ args M, (c_spec_l1Size.sp args M).OK Try.prog c_spec_l1Size.f args M := by
  refine ⟨fp_52, fun args M => ?_⟩
  unfold c_spec_l1Size
  dsimp only
  split
  case h_2 => trivial
  rename_i a n ca m
  intro hn
  refine goIn hf_52 rfl (nt := 15) rfl (rs := [.tmp 4]) rfl (C := []) trivial (q := fun _ => false) okQ_none mixed (O := fun _ => .nil) (by kernel_rfl) ?_
  simp only [↓WP, ↓grdD, ↓grdT, ↓un_dead, ↓binVC, ↓buildVC, ↓sliceVC, WQ, WN, Int.reduceToNat, renl, cll, rent, clt, ↓reduceIte, Nat.reduceLeDiff, Nat.reduceEqDiff, Nat.reduceLT, reduceCtorEq, List.append_nil, Nat.reduceAdd, Nat.reduceSub, Nat.reduceBEq, forall_const, implies_true, cond_true, cond_false, AV.ren, AC.ren, AV.cl, AC.cl, eq_self, List.all_cons, List.all_nil, AV.eqv, AC.eqv, eqvl, eqvt, Sl.eqv, List.map_append, List.length_map, List.length_append, List.length_replicate, List.length_set, List.map_replicate, nilVC, sd_45]
  repeat' (first | with_reducible refine And.intro ?_ ?_ | intro _)
  all_goals try omega
  all_goals
    refine end_ret ?_
    simp only [↓WP, ↓grdD, ↓grdT, ↓un_dead, ↓binVC, ↓buildVC, ↓sliceVC, WQ, WN, Int.reduceToNat, renl, cll, rent, clt, ↓reduceIte, Nat.reduceLeDiff, Nat.reduceEqDiff, Nat.reduceLT, reduceCtorEq, List.append_nil, Nat.reduceAdd, Nat.reduceSub, Nat.reduceBEq, forall_const, implies_true, cond_true, cond_false, AV.ren, AC.ren, AV.cl, AC.cl, eq_self, List.all_cons, List.all_nil, AV.eqv, AC.eqv, eqvl, eqvt, Sl.eqv, List.map_append, List.length_map, List.length_append, List.length_replicate, List.length_set, List.map_replicate, nilVC, sd_45]
    apply Exists.intro
    refine ⟨[], [], ?q1, ⟨rfl, List.nodup_nil, trivial, ?k1, ?o1⟩, ⟨?e1, ?cl⟩, ?u1⟩
    case e1 => exact ⟨rfl, rfl⟩
    case cl => trivial
    case o1 => simp [WL, WNL, swA_new, swA_ne, nest_sw_ne, mapLL, List.mem_cons, Nat.reduceAdd, Nat.reduceLT, Nat.reduceLeDiff, Nat.reduceEqDiff, okU, List.nodup_cons, List.not_mem_nil, toT, toL, toO, keysO, renl, rent, cll, clt, eq_self, AV.eqv, AC.eqv, eqvl, eqvt, Sl.eqv, rowsLe, mapLL, rowsCl, List.map_append, List.length_map, List.length_append, List.length_set, List.map_replicate, rowG, List.getElem?_cons_zero, List.getElem?_cons_succ, List.getElem?_nil, List.append_nil, List.nil_append, List.cons_append, ghosts, St.gh, Option.some.injEq, implies_true, setT, AV.ren, AC.ren, AV.cl, AC.cl, List.replicate_succ, List.replicate_zero, List.nodup_nil, List.length_nil, List.length_cons, List.getD_cons_zero, List.getD_cons_succ, ↓reduceIte]
    case k1 => simp [WL, WNL, swA_new, swA_ne, nest_sw_ne, mapLL, List.mem_cons, Nat.reduceAdd, Nat.reduceLT, Nat.reduceLeDiff, Nat.reduceEqDiff, okU, List.nodup_cons, List.not_mem_nil, toT, toL, toO, keysO, renl, rent, cll, clt, eq_self, AV.eqv, AC.eqv, eqvl, eqvt, Sl.eqv, rowsLe, mapLL, rowsCl, List.map_append, List.length_map, List.length_append, List.length_set, List.map_replicate, rowG, List.getElem?_cons_zero, List.getElem?_cons_succ, List.getElem?_nil, List.append_nil, List.nil_append, List.cons_append, ghosts, St.gh, Option.some.injEq, implies_true, setT, AV.ren, AC.ren, AV.cl, AC.cl, List.replicate_succ, List.replicate_zero, List.nodup_nil, List.length_nil, List.length_cons, List.getD_cons_zero, List.getD_cons_succ, ↓reduceIte]
    case u1 => simp [okU]
    case q1 => first | omega | (simp only [decide_eq_false_iff_not] at *; omega)
theorem q_spec_WheelAdd : Quiet c_spec_WheelAdd := by
  intro args M
  unfold c_spec_WheelAdd
  dsimp only
  split <;> first | trivial | (intro _; rfl)
theorem q_spec_WheelDrop : Quiet c_spec_WheelDrop := by
  intro args M
  unfold c_spec_WheelDrop
  dsimp only
  split <;> first | trivial | (intro _; rfl)
theorem q_spec_WheelGo : Quiet c_spec_WheelGo := by
  intro args M
  unfold c_spec_WheelGo
  dsimp only
  split <;> first | trivial | (intro _; rfl)
theorem add12 {u v : Int} {T : List T3} (h : T.length ≤ 12) (w e : Int) : (addW u v T w e).2.2.1.length ≤ 12 := by
  by_cases hok : wheelOk u v T
  · by_cases hm : mayAdd v T w e
    · rw [addW_yes hok hm]
      dsimp only
      rw [putW_len]
      exact hm.2.2.1
    · rw [addW_no hok hm]; exact h
  · rw [addW_bad hok]; exact Nat.zero_le _
theorem go12 {u v : Int} {T : List T3} (h : T.length ≤ 12) (n : Int) : (goO u v T n).2.2.1.length ≤ 12 := by
  by_cases hok : wheelOk u v T
  · by_cases hm : mayGo u n
    · rw [goO_yes hok hm]
      exact (goW_ok hok hm).2.2.1
    · rw [goO_no hok hm]; exact h
  · rw [goO_bad hok]; exact Nat.zero_le _
theorem drop12 {u v : Int} {T : List T3} (h : T.length ≤ 12) (d : Int) : (dropW u v T d).2.2.1.length ≤ 12 := Nat.le_trans (dropW_len u v T d) h
end Go.Eng.T
