/- cache: CacheOk as it is programmed. -/
import Derived.Test.YtnpgddgbkaojmaaFn5
set_option linter.unusedVariables false
set_option linter.unusedSimpArgs false
set_option linter.unusedSectionVars false
namespace Go.Eng.T
open Go.Proofs
open Cel (enc dec)
set_option maxRecDepth 100000
set_option maxHeartbeats 4000000
def rOk (D : List ByteArray) (R : List TR) (i : Nat) : Prop := (0 ≤ (R.getD i default).1 ∧ (R.getD i default).1 ≤ 19) ∧ (∀ j, j < i → (R.getD j default).1 ≠ (R.getD i default).1) ∧ (R.getD i default).2.1.size ≤ 20 ∧ ((R.getD i default).2.2 = false → (R.getD i default).2.1 = D.getD (R.getD i default).1.toNat default)
instance (D : List ByteArray) (R : List TR) (i : Nat) : Decidable (rOk D R i) := by unfold rOk; infer_instance
def cacheOk (cap : Int) (D : List ByteArray) (R : List TR) (rd pt : Int) : Prop := ((1 ≤ cap ∧ cap ≤ 6) ∧ D.length = 20 ∧ (R.length : Int) ≤ cap ∧ (0 ≤ rd ∧ rd ≤ 1000000) ∧ (0 ≤ pt ∧ pt ≤ 1000000)) ∧ (∀ i, i < D.length → (D.getD i default).size ≤ 20) ∧ ∀ i, i < R.length → rOk D R i
instance (cap : Int) (D : List ByteArray) (R : List TR) (rd pt : Int) : Decidable (cacheOk cap D R rd pt) := by unfold cacheOk; infer_instance
theorem idx_firstR {X : List TR} {i : Nat} (hi : i < X.length) : idx (fun x : TR => decide (x.1 = (X.getD i default).1)) X = i ↔ ∀ j, j < i → (X.getD j default).1 ≠ (X.getD i default).1 := by
  constructor
  · intro h j hj e
    obtain ⟨m, hm, h1, h2, h3⟩ := idx_nonneg (p := fun x : TR => decide (x.1 = (X.getD i default).1)) (X := X) (by omega)
    have := h3 j (by omega)
    simp only [decide_eq_false_iff_not] at this
    exact this e
  · intro h
    exact idx_hit (p := fun x : TR => decide (x.1 = (X.getD i default).1)) (fun j hj => decide_eq_false (h j hj)) hi (by simp)
def c_impl_CacheOk : Contract := ⟨19, fun args M => match args with
  | [.agg [.int .i64 cap, .sl a n _, .sl b m _, .int .i64 rd, .int .i64 pt]] => .pure (RowOk ByteArray a n (M a.r) ∧ RowOk TR b m (M b.r)) (Eng.B (decide (cacheOk cap (row ByteArray a n (M a.r)) (row TR b m (M b.r)) rd pt)))
  | _ => .bad⟩
theorem ok_impl_CacheOk : fnP Try.prog c_impl_CacheOk.f = true ∧ ∀ args M, (c_impl_CacheOk.sp args M).OK Try.prog c_impl_CacheOk.f args M := by
  refine ⟨fp_19, fun args M => ?_⟩
  unfold c_impl_CacheOk
  dsimp only
  split
  case h_2 => trivial
  rename_i cap a n ca b m cb rd pt
  rintro ⟨ha, hb⟩
  obtain ⟨hs, D, hD, rfl, hat⟩ := ha.x
  obtain ⟨hs', R, hR, rfl, hbt⟩ := hb.x
  rw [hD, hR]
  refine goIn hf_19 rfl (nt := 81) rfl (rs := [.tmp 2]) rfl (C := [c_impl_in, c_slices_ContainsFunc_string, c_impl_rowAt]) ⟨(by first | exact .inl ok_impl_in | exact ok_impl_in), (by first | exact .inl ok_slices_ContainsFunc_string | exact ok_slices_ContainsFunc_string), (by first | exact .inl ok_impl_rowAt | exact ok_impl_rowAt), trivial⟩ (q := fun f => [33, 46].contains f) ⟨fun _ => q_impl_in, fun h => absurd h (by decide), fun _ => q_impl_rowAt, trivial⟩ mixed (O := ots [(8, otl [0, 1, 2, 3, 4, 5, 6, 7, 9, 8, 10, 11, 12, 13, 14, 15, 16, 17, 18, 19, 20, 21, 22, 23, 24, 25, 26, 27, 28, 29, 30, 31, 32, 33] .nil)]) (by kernel_rfl) ?_
  simp only [↓WP, ↓grdD, ↓grdT, ↓un_dead, ↓binVC, ↓buildVC, ↓sliceVC, WQ, WN, Int.reduceToNat, renl, cll, rent, clt, ↓reduceIte, Nat.reduceLeDiff, Nat.reduceEqDiff, Nat.reduceLT, reduceCtorEq, List.append_nil, Nat.reduceAdd, Nat.reduceSub, Nat.reduceBEq, forall_const, implies_true, cond_true, cond_false, AV.ren, AC.ren, AV.cl, AC.cl, eq_self, List.all_cons, List.all_nil, AV.eqv, AC.eqv, eqvl, eqvt, Sl.eqv, List.map_append, List.length_map, List.length_append, List.length_replicate, List.length_set, List.map_replicate, nilVC, fl_25_0, sz_3, fl_25_1, sz_22, sd_22, fl_25_2, sz_23, sd_23, fl_25_3, fl_25_4, el_23, sz_60, zr_60, fl_60_0, sz_25, fl_60_1, sz_9, st_9, fl_60_2, sz_4, el_22, c_impl_in, c_slices_ContainsFunc_string, c_impl_rowAt, any_long]
  simp only [WB, eq_self]
  refine ⟨fun h hc => ?_, fun h => ⟨ha, fun h2 hc => ?_, fun h2 => ?_⟩⟩
  · unfold cacheOk at hc
    omega
  · rw [hD] at h2
    exact h2 hc.2.1
  · rw [hD] at h2
    have hD20 : D.length = 20 := by omega
    refine loopI (J := {i : Nat // i ≤ R.length ∧ ∀ j, j < i → rOk D R j}) (fun i => ⟨slots 81 [(1, .c (.ptr ⟨.loc 0, 0, 0, 0⟩)), (39, .c (.sl b.up R.length cb)), (40, I R.length), (41, I i.1)], M, [], [.box 25 [.int .i64 cap, .sl a.up D.length ca, .sl b.up R.length cb, .int .i64 rd, .int .i64 pt]]⟩) (fun i => R.length - i.1) ⟨0, by omega, all_zero⟩ (Le_intro [0] (by simp [WL, WNL, swA_new, swA_ne, nest_sw_ne, mapLL, List.mem_cons, Nat.reduceAdd, Nat.reduceLT, Nat.reduceLeDiff, Nat.reduceEqDiff, okU, List.nodup_cons, List.not_mem_nil, toT, toL, toO, keysO, renl, rent, cll, clt, eq_self, AV.eqv, AC.eqv, eqvl, eqvt, Sl.eqv, rowsLe, mapLL, rowsCl, List.map_append, List.length_map, List.length_append, List.length_set, List.map_replicate, rowG, List.getElem?_cons_zero, List.getElem?_cons_succ, List.getElem?_nil, List.append_nil, List.nil_append, List.cons_append, ghosts, St.gh, Option.some.injEq, implies_true, setT, AV.ren, AC.ren, AV.cl, AC.cl, List.replicate_succ, List.replicate_zero, List.nodup_nil, List.length_nil, List.length_cons, List.getD_cons_zero, List.getD_cons_succ, ↓reduceIte])) ?_
    rintro ⟨i, hi, he⟩
    have hw := wS (i := i) (by omega)
    rcases Nat.lt_or_ge i R.length with hlt | hge
    · obtain ⟨own, ty, cnt, cap1, len, get, hM, hf, hic, hkn, hget⟩ := hbt (by omega)
      obtain ⟨own', ty', cnt', cap', len', get', hM', hf', hic', hkn', hget'⟩ := hat (by omega)
      have hid := idx_firstR hlt
      have hb' := hb
      have hR' := hR
      rw [hM] at hb' hR'
      have hXu : row TR b.up R.length (some (Rg.arr own ty 3 cnt cap1 len fun i k => List.map AC.up (get i k))) = R := (row_up (α := TR) (a := b) (n := R.length) (o := some (.arr own ty (Cel.sz TR) cnt cap1 len get))).trans hR'
      have hRu : RowOk TR b.up R.length (some (Rg.arr own ty 3 cnt cap1 len fun i k => List.map AC.up (get i k))) := (RowOk_up (α := TR) (a := b) (n := R.length) (o := some (.arr own ty (Cel.sz TR) cnt cap1 len get))).mpr hb'
      by_cases hbl : 0 ≤ (R.getD i default).1 ∧ (R.getD i default).1 ≤ 19
      · have hgD : get' a.i (a.k + (R.getD i default).1.toNat) = enc (D.getD (R.getD i default).1.toNat default) := hget' _ (by omega)
        simp only [↓WP, ↓grdD, ↓grdT, ↓un_dead, ↓binVC, ↓buildVC, ↓sliceVC, WQ, WN, Int.reduceToNat, renl, cll, rent, clt, ↓reduceIte, Nat.reduceLeDiff, Nat.reduceEqDiff, Nat.reduceLT, reduceCtorEq, List.append_nil, Nat.reduceAdd, Nat.reduceSub, Nat.reduceBEq, forall_const, implies_true, cond_true, cond_false, AV.ren, AC.ren, AV.cl, AC.cl, eq_self, List.all_cons, List.all_nil, AV.eqv, AC.eqv, eqvl, eqvt, Sl.eqv, List.map_append, List.length_map, List.length_append, List.length_replicate, List.length_set, List.map_replicate, nilVC, fl_25_0, sz_3, fl_25_1, sz_22, sd_22, fl_25_2, sz_23, sd_23, fl_25_3, fl_25_4, el_23, sz_60, zr_60, fl_60_0, sz_25, fl_60_1, sz_9, st_9, fl_60_2, sz_4, el_22, c_impl_in, c_slices_ContainsFunc_string, c_impl_rowAt, dlt hlt, hw, hM, hf, hget i hlt, hM', hf', hgD, decide_eq_true hbl, hXu, hRu]
        simp only [WB, eq_self, hid]
        refine ⟨by omega, ⟨hic, by omega⟩, fun _ => by omega, fun _ => ⟨hic', by omega⟩, fun h1 hc => ?_, fun h1 => ?_⟩
        · obtain ⟨w1, w2, w3, w4⟩ := hc.2.2 i hlt
          rcases h1 with (h1 | h1) | ⟨h1, h3⟩
          · exact h1 w2
          · omega
          · exact h3 (w4 h1)
        · obtain ⟨⟨h3, h4⟩, h5⟩ := h1
          refine ⟨⟨i + 1, hlt, all_step he ⟨hbl, h3, by omega, fun h6 => ?_⟩⟩, Le_intro [0] (by simp [WL, WNL, swA_new, swA_ne, nest_sw_ne, mapLL, List.mem_cons, Nat.reduceAdd, Nat.reduceLT, Nat.reduceLeDiff, Nat.reduceEqDiff, okU, List.nodup_cons, List.not_mem_nil, toT, toL, toO, keysO, renl, rent, cll, clt, eq_self, AV.eqv, AC.eqv, eqvl, eqvt, Sl.eqv, rowsLe, mapLL, rowsCl, List.map_append, List.length_map, List.length_append, List.length_set, List.map_replicate, rowG, List.getElem?_cons_zero, List.getElem?_cons_succ, List.getElem?_nil, List.append_nil, List.nil_append, List.cons_append, ghosts, St.gh, Option.some.injEq, implies_true, setT, AV.ren, AC.ren, AV.cl, AC.cl, List.replicate_succ, List.replicate_zero, List.nodup_nil, List.length_nil, List.length_cons, List.getD_cons_zero, List.getD_cons_succ, ↓reduceIte]), by show R.length - (i + 1) < R.length - i; omega⟩
          rcases h5 with h5 | h5
          · rw [h5] at h6; cases h6
          · exact h5
      · simp only [↓WP, ↓grdD, ↓grdT, ↓un_dead, ↓binVC, ↓buildVC, ↓sliceVC, WQ, WN, Int.reduceToNat, renl, cll, rent, clt, ↓reduceIte, Nat.reduceLeDiff, Nat.reduceEqDiff, Nat.reduceLT, reduceCtorEq, List.append_nil, Nat.reduceAdd, Nat.reduceSub, Nat.reduceBEq, forall_const, implies_true, cond_true, cond_false, AV.ren, AC.ren, AV.cl, AC.cl, eq_self, List.all_cons, List.all_nil, AV.eqv, AC.eqv, eqvl, eqvt, Sl.eqv, List.map_append, List.length_map, List.length_append, List.length_replicate, List.length_set, List.map_replicate, nilVC, fl_25_0, sz_3, fl_25_1, sz_22, sd_22, fl_25_2, sz_23, sd_23, fl_25_3, fl_25_4, el_23, sz_60, zr_60, fl_60_0, sz_25, fl_60_1, sz_9, st_9, fl_60_2, sz_4, el_22, c_impl_in, c_slices_ContainsFunc_string, c_impl_rowAt, dlt hlt, hw, hM, hf, hget i hlt, hM', hf', decide_eq_false hbl, hXu, hRu]
        have hno : ¬ cacheOk cap D R rd pt := fun hc => hbl (hc.2.2 i hlt).1
        generalize (List.map AC.up (get' a.i (a.k + (R.getD i default).1.toNat))).getD 0 dfl = z
        refine ⟨by omega, ⟨hic, by omega⟩, ?_⟩
        cases z <;> simp [hno]
    · obtain rfl : i = R.length := by omega
      simp only [↓WP, ↓grdD, ↓grdT, ↓un_dead, ↓binVC, ↓buildVC, ↓sliceVC, WQ, WN, Int.reduceToNat, renl, cll, rent, clt, ↓reduceIte, Nat.reduceLeDiff, Nat.reduceEqDiff, Nat.reduceLT, reduceCtorEq, List.append_nil, Nat.reduceAdd, Nat.reduceSub, Nat.reduceBEq, forall_const, implies_true, cond_true, cond_false, AV.ren, AC.ren, AV.cl, AC.cl, eq_self, List.all_cons, List.all_nil, AV.eqv, AC.eqv, eqvl, eqvt, Sl.eqv, List.map_append, List.length_map, List.length_append, List.length_replicate, List.length_set, List.map_replicate, nilVC, fl_25_0, sz_3, fl_25_1, sz_22, sd_22, fl_25_2, sz_23, sd_23, fl_25_3, fl_25_4, el_23, sz_60, zr_60, fl_60_0, sz_25, fl_60_1, sz_9, st_9, fl_60_2, sz_4, el_22, c_impl_in, c_slices_ContainsFunc_string, c_impl_rowAt, dge hge, hw]
      simp only [WB, eq_self]
      exact ⟨by omega, fun k hk => Classical.byContradiction fun hn => h2 fun hh => hn (hh k hk), he⟩
end Go.Eng.T
