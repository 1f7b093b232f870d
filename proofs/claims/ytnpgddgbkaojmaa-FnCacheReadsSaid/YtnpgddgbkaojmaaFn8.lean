/- cache: CacheSee; the laws of CacheOk and CacheSee. -/
import Derived.Test.YtnpgddgbkaojmaaFn7
set_option linter.unusedVariables false
set_option linter.unusedSimpArgs false
set_option linter.unusedSectionVars false
namespace Go.Eng.T
open Go.Proofs
open Cel (enc dec)
set_option maxRecDepth 100000
set_option maxHeartbeats 4000000
abbrev atR (R : List TR) (b : Int) : Int := idx (fun x : TR => decide (x.1 = b)) R
theorem atR_range (R : List TR) (b : Int) : -1 ≤ atR R b ∧ atR R b < R.length := idx_range _ _
def seeC (cap : Int) (D : List ByteArray) (R : List TR) (rd pt b : Int) : ByteArray :=
  if cacheOk cap D R rd pt ∧ 0 ≤ b ∧ b ≤ 19 then (if 0 ≤ atR R b then (R.getD (atR R b).toNat default).2.1 else D.getD b.toNat default) else ByteArray.empty
def c_impl_CacheSee : Contract := ⟨21, fun args M => match args with
  | [.agg [.int .i64 cap, .sl a n _, .sl b m _, .int .i64 rd, .int .i64 pt], .c (.int .i64 v)] => .pure (RowOk ByteArray a n (M a.r) ∧ RowOk TR b m (M b.r)) (.c (.str (seeC cap (row ByteArray a n (M a.r)) (row TR b m (M b.r)) rd pt v)))
  | _ => .bad⟩
theorem ok_impl_CacheSee : fnP Try.prog c_impl_CacheSee.f = true ∧ ∀ args M, (c_impl_CacheSee.sp args M).OK Try.prog c_impl_CacheSee.f args M := by
  refine ⟨fp_21, fun args M => ?_⟩
  unfold c_impl_CacheSee
  dsimp only
  split
  case h_2 => trivial
  rename_i cap a n ca b m cb rd pt v
  rintro ⟨ha, hb⟩
  obtain ⟨hs, D, hD, rfl, hat⟩ := ha.x
  obtain ⟨hs', R, hR, rfl, hbt⟩ := hb.x
  rw [hD, hR]
  refine goIn hf_21 rfl (nt := 30) rfl (rs := [.tmp 4]) rfl (C := [c_impl_CacheOk, c_impl_in, c_impl_rowAt]) ⟨(by first | exact .inl ok_impl_CacheOk | exact ok_impl_CacheOk), (by first | exact .inl ok_impl_in | exact ok_impl_in), (by first | exact .inl ok_impl_rowAt | exact ok_impl_rowAt), trivial⟩ (q := fun _ => false) okQ_none mixed (O := fun _ => .nil) (by kernel_rfl) ?_
  by_cases hok : cacheOk cap D R rd pt
  · have hD20 : D.length = 20 := hok.1.2.1
    obtain ⟨own', ty', cnt', cap', len', get', hM', hf', hic', hkn', hget'⟩ := hat (by omega)
    by_cases hbl : 0 ≤ v ∧ v ≤ 19
    · have hse : seeC cap D R rd pt v = (if 0 ≤ atR R v then (R.getD (atR R v).toNat default).2.1 else D.getD v.toNat default) := if_pos ⟨hok, hbl⟩
      rw [hse]
      have hgD : get' a.i (a.k + v.toNat) = enc (D.getD v.toNat default) := hget' _ (by omega)
      have ha' := ha
      have hD' := hD
      rw [hM'] at ha' hD'
      have hAu : row ByteArray a.up D.length (some (Rg.arr own' ty' 1 cnt' cap' len' fun i k => List.map AC.up (get' i k))) = D := (row_up (α := ByteArray) (a := a) (n := D.length) (o := some (.arr own' ty' (Cel.sz ByteArray) cnt' cap' len' get'))).trans hD'
      have hAr : RowOk ByteArray a.up D.length (some (Rg.arr own' ty' 1 cnt' cap' len' fun i k => List.map AC.up (get' i k))) := (RowOk_up (α := ByteArray) (a := a) (n := D.length) (o := some (.arr own' ty' (Cel.sz ByteArray) cnt' cap' len' get'))).mpr ha'
      obtain ⟨j, hj⟩ : ∃ j, j = atR R v := ⟨_, rfl⟩
      have hjr := atR_range R v
      rw [← hj] at hjr ⊢
      by_cases h0 : 0 ≤ j
      · obtain ⟨own, ty, cnt, cap1, len, get, hM, hf, hic, hkn, hget⟩ := hbt (by omega)
        have hb' := hb
        have hR' := hR
        rw [hM] at hb' hR'
        have hXu : row TR b.up R.length (some (Rg.arr own ty 3 cnt cap1 len fun i k => List.map AC.up (get i k))) = R := (row_up (α := TR) (a := b) (n := R.length) (o := some (.arr own ty (Cel.sz TR) cnt cap1 len get))).trans hR'
        have hRu : RowOk TR b.up R.length (some (Rg.arr own ty 3 cnt cap1 len fun i k => List.map AC.up (get i k))) := (RowOk_up (α := TR) (a := b) (n := R.length) (o := some (.arr own ty (Cel.sz TR) cnt cap1 len get))).mpr hb'
        have hgR : get b.i (b.k + j.toNat) = enc (R.getD j.toNat default) := hget _ (by omega)
        simp only [↓WP, ↓grdD, ↓grdT, ↓un_dead, ↓binVC, ↓buildVC, ↓sliceVC, WQ, WN, Int.reduceToNat, renl, cll, rent, clt, ↓reduceIte, Nat.reduceLeDiff, Nat.reduceEqDiff, Nat.reduceLT, reduceCtorEq, List.append_nil, Nat.reduceAdd, Nat.reduceSub, Nat.reduceBEq, forall_const, implies_true, cond_true, cond_false, AV.ren, AC.ren, AV.cl, AC.cl, eq_self, List.all_cons, List.all_nil, AV.eqv, AC.eqv, eqvl, eqvt, Sl.eqv, List.map_append, List.length_map, List.length_append, List.length_replicate, List.length_set, List.map_replicate, nilVC, sz_25, fl_25_2, sz_23, el_23, fl_60_1, sz_9, fl_25_1, sz_22, el_22, c_impl_CacheOk, c_impl_in, c_impl_rowAt, hM', hf', hM, hf, hAu, hAr, hXu, hRu, decide_eq_true hok, decide_eq_true hbl, ← hj, decide_eq_true h0, if_pos h0, hgR]
        repeat' (first | with_reducible refine And.intro ?_ ?_ | intro _)
        all_goals try omega
        all_goals exact trivial
      · simp only [↓WP, ↓grdD, ↓grdT, ↓un_dead, ↓binVC, ↓buildVC, ↓sliceVC, WQ, WN, Int.reduceToNat, renl, cll, rent, clt, ↓reduceIte, Nat.reduceLeDiff, Nat.reduceEqDiff, Nat.reduceLT, reduceCtorEq, List.append_nil, Nat.reduceAdd, Nat.reduceSub, Nat.reduceBEq, forall_const, implies_true, cond_true, cond_false, AV.ren, AC.ren, AV.cl, AC.cl, eq_self, List.all_cons, List.all_nil, AV.eqv, AC.eqv, eqvl, eqvt, Sl.eqv, List.map_append, List.length_map, List.length_append, List.length_replicate, List.length_set, List.map_replicate, nilVC, sz_25, fl_25_2, sz_23, el_23, fl_60_1, sz_9, fl_25_1, sz_22, el_22, c_impl_CacheOk, c_impl_in, c_impl_rowAt, hM', hf', hAu, hAr, hR, decide_eq_true hok, decide_eq_true hbl, ← hj, decide_eq_false h0, if_neg h0, hgD]
        repeat' (first | with_reducible refine And.intro ?_ ?_ | intro _)
        all_goals try omega
        all_goals try exact hb
        all_goals exact trivial
    · have hse : seeC cap D R rd pt v = ByteArray.empty := if_neg fun h => hbl h.2
      rw [hse]
      simp only [↓WP, ↓grdD, ↓grdT, ↓un_dead, ↓binVC, ↓buildVC, ↓sliceVC, WQ, WN, Int.reduceToNat, renl, cll, rent, clt, ↓reduceIte, Nat.reduceLeDiff, Nat.reduceEqDiff, Nat.reduceLT, reduceCtorEq, List.append_nil, Nat.reduceAdd, Nat.reduceSub, Nat.reduceBEq, forall_const, implies_true, cond_true, cond_false, AV.ren, AC.ren, AV.cl, AC.cl, eq_self, List.all_cons, List.all_nil, AV.eqv, AC.eqv, eqvl, eqvt, Sl.eqv, List.map_append, List.length_map, List.length_append, List.length_replicate, List.length_set, List.map_replicate, nilVC, sz_25, fl_25_2, sz_23, el_23, fl_60_1, sz_9, fl_25_1, sz_22, el_22, c_impl_CacheOk, c_impl_in, c_impl_rowAt, hD, hR, decide_eq_true hok, decide_eq_false hbl]
      refine ⟨⟨ha, hb⟩, ?_⟩
      rfl
  · have hse : seeC cap D R rd pt v = ByteArray.empty := if_neg fun h => hok h.1
    rw [hse]
    simp only [↓WP, ↓grdD, ↓grdT, ↓un_dead, ↓binVC, ↓buildVC, ↓sliceVC, WQ, WN, Int.reduceToNat, renl, cll, rent, clt, ↓reduceIte, Nat.reduceLeDiff, Nat.reduceEqDiff, Nat.reduceLT, reduceCtorEq, List.append_nil, Nat.reduceAdd, Nat.reduceSub, Nat.reduceBEq, forall_const, implies_true, cond_true, cond_false, AV.ren, AC.ren, AV.cl, AC.cl, eq_self, List.all_cons, List.all_nil, AV.eqv, AC.eqv, eqvl, eqvt, Sl.eqv, List.map_append, List.length_map, List.length_append, List.length_replicate, List.length_set, List.map_replicate, nilVC, sz_25, fl_25_2, sz_23, el_23, fl_60_1, sz_9, fl_25_1, sz_22, el_22, c_impl_CacheOk, c_impl_in, c_impl_rowAt, hD, hR, decide_eq_false hok]
    refine ⟨⟨ha, hb⟩, ?_⟩
    rfl
def c_spec_CacheSee : Contract := ⟨20, fun args M => match args with
  | [.agg [.int .i64 cap, .sl a n _, .sl b m _, .int .i64 rd, .int .i64 pt], .c (.int .i64 v)] => .pure (RowOk ByteArray a n (M a.r) ∧ RowOk TR b m (M b.r)) (.c (.str (seeC cap (row ByteArray a n (M a.r)) (row TR b m (M b.r)) rd pt v)))
  | _ => .bad⟩
theorem ok_spec_CacheSee : fnP Try.prog c_spec_CacheSee.f = true ∧ ∀ args M, (c_spec_CacheSee.sp args M).OK Try.prog c_spec_CacheSee.f args M := by
  refine ⟨fp_20, fun args M => ?_⟩
  unfold c_spec_CacheSee
  dsimp only
  split
  case h_2 => trivial
  rename_i cap a n ca b m cb rd pt v
  rintro ⟨ha, hb⟩
  obtain ⟨hs, D, hD, rfl, hat⟩ := ha.x
  obtain ⟨hs', R, hR, rfl, hbt⟩ := hb.x
  rw [hD, hR]
  refine goIn hf_20 rfl (nt := 36) rfl (rs := [.tmp 4]) rfl (C := [c_spec_CacheOk, c_spec_l30At]) ⟨(by first | exact .inl ok_spec_CacheOk | exact ok_spec_CacheOk), (by first | exact .inl ok_spec_l30At | exact ok_spec_l30At), trivial⟩ (q := fun _ => false) okQ_none mixed (O := fun _ => .nil) (by kernel_rfl) ?_
  by_cases hok : cacheOk cap D R rd pt
  · have hD20 : D.length = 20 := hok.1.2.1
    obtain ⟨own', ty', cnt', cap', len', get', hM', hf', hic', hkn', hget'⟩ := hat (by omega)
    by_cases hbl : 0 ≤ v ∧ v ≤ 19
    · have hse : seeC cap D R rd pt v = (if 0 ≤ atR R v then (R.getD (atR R v).toNat default).2.1 else D.getD v.toNat default) := if_pos ⟨hok, hbl⟩
      have hd1 : decide (v < 0) = false := by simp only [decide_eq_false_iff_not]; omega
      have hd2 : decide ((D.length : Int) ≤ v) = false := by simp only [decide_eq_false_iff_not]; omega
      rw [hse]
      have hgD : get' a.i (a.k + v.toNat) = enc (D.getD v.toNat default) := hget' _ (by omega)
      have ha' := ha
      have hD' := hD
      rw [hM'] at ha' hD'
      have hAu : row ByteArray a.up D.length (some (Rg.arr own' ty' 1 cnt' cap' len' fun i k => List.map AC.up (get' i k))) = D := (row_up (α := ByteArray) (a := a) (n := D.length) (o := some (.arr own' ty' (Cel.sz ByteArray) cnt' cap' len' get'))).trans hD'
      have hAr : RowOk ByteArray a.up D.length (some (Rg.arr own' ty' 1 cnt' cap' len' fun i k => List.map AC.up (get' i k))) := (RowOk_up (α := ByteArray) (a := a) (n := D.length) (o := some (.arr own' ty' (Cel.sz ByteArray) cnt' cap' len' get'))).mpr ha'
      obtain ⟨j, hj⟩ : ∃ j, j = atR R v := ⟨_, rfl⟩
      have hjr := atR_range R v
      rw [← hj] at hjr ⊢
      by_cases h0 : 0 ≤ j
      · obtain ⟨own, ty, cnt, cap1, len, get, hM, hf, hic, hkn, hget⟩ := hbt (by omega)
        have hb' := hb
        have hR' := hR
        rw [hM] at hb' hR'
        have hXu : row TR b.up R.length (some (Rg.arr own ty 3 cnt cap1 len fun i k => List.map AC.up (get i k))) = R := (row_up (α := TR) (a := b) (n := R.length) (o := some (.arr own ty (Cel.sz TR) cnt cap1 len get))).trans hR'
        have hRu : RowOk TR b.up R.length (some (Rg.arr own ty 3 cnt cap1 len fun i k => List.map AC.up (get i k))) := (RowOk_up (α := TR) (a := b) (n := R.length) (o := some (.arr own ty (Cel.sz TR) cnt cap1 len get))).mpr hb'
        have hgR : get b.i (b.k + j.toNat) = enc (R.getD j.toNat default) := hget _ (by omega)
        simp only [↓WP, ↓grdD, ↓grdT, ↓un_dead, ↓binVC, ↓buildVC, ↓sliceVC, WQ, WN, Int.reduceToNat, renl, cll, rent, clt, ↓reduceIte, Nat.reduceLeDiff, Nat.reduceEqDiff, Nat.reduceLT, reduceCtorEq, List.append_nil, Nat.reduceAdd, Nat.reduceSub, Nat.reduceBEq, forall_const, implies_true, cond_true, cond_false, AV.ren, AC.ren, AV.cl, AC.cl, eq_self, List.all_cons, List.all_nil, AV.eqv, AC.eqv, eqvl, eqvt, Sl.eqv, List.map_append, List.length_map, List.length_append, List.length_replicate, List.length_set, List.map_replicate, nilVC, sz_25, fl_25_1, sz_22, sd_22, fl_25_2, sz_23, el_23, fl_60_1, sz_9, el_22, c_spec_CacheOk, c_spec_l30At, hM', hf', hM, hf, hAu, hAr, hXu, hRu, decide_eq_true hok, hd1, hd2, ← hj, decide_eq_true h0, if_pos h0, hgR]
        repeat' (first | with_reducible refine And.intro ?_ ?_ | intro _)
        all_goals try omega
        all_goals exact trivial
      · simp only [↓WP, ↓grdD, ↓grdT, ↓un_dead, ↓binVC, ↓buildVC, ↓sliceVC, WQ, WN, Int.reduceToNat, renl, cll, rent, clt, ↓reduceIte, Nat.reduceLeDiff, Nat.reduceEqDiff, Nat.reduceLT, reduceCtorEq, List.append_nil, Nat.reduceAdd, Nat.reduceSub, Nat.reduceBEq, forall_const, implies_true, cond_true, cond_false, AV.ren, AC.ren, AV.cl, AC.cl, eq_self, List.all_cons, List.all_nil, AV.eqv, AC.eqv, eqvl, eqvt, Sl.eqv, List.map_append, List.length_map, List.length_append, List.length_replicate, List.length_set, List.map_replicate, nilVC, sz_25, fl_25_1, sz_22, sd_22, fl_25_2, sz_23, el_23, fl_60_1, sz_9, el_22, c_spec_CacheOk, c_spec_l30At, hM', hf', hAu, hAr, hR, decide_eq_true hok, hd1, hd2, ← hj, decide_eq_false h0, if_neg h0, hgD]
        repeat' (first | with_reducible refine And.intro ?_ ?_ | intro _)
        all_goals try omega
        all_goals try exact hb
        all_goals exact trivial
    · have hse : seeC cap D R rd pt v = ByteArray.empty := if_neg fun h => hbl h.2
      rw [hse]
      by_cases hv0 : v < 0
      · simp only [↓WP, ↓grdD, ↓grdT, ↓un_dead, ↓binVC, ↓buildVC, ↓sliceVC, WQ, WN, Int.reduceToNat, renl, cll, rent, clt, ↓reduceIte, Nat.reduceLeDiff, Nat.reduceEqDiff, Nat.reduceLT, reduceCtorEq, List.append_nil, Nat.reduceAdd, Nat.reduceSub, Nat.reduceBEq, forall_const, implies_true, cond_true, cond_false, AV.ren, AC.ren, AV.cl, AC.cl, eq_self, List.all_cons, List.all_nil, AV.eqv, AC.eqv, eqvl, eqvt, Sl.eqv, List.map_append, List.length_map, List.length_append, List.length_replicate, List.length_set, List.map_replicate, nilVC, sz_25, fl_25_1, sz_22, sd_22, fl_25_2, sz_23, el_23, fl_60_1, sz_9, el_22, c_spec_CacheOk, c_spec_l30At, hD, hR, decide_eq_true hok, decide_eq_true hv0]
        refine ⟨⟨ha, hb⟩, ?_⟩
        rfl
      · have hd2 : decide ((D.length : Int) ≤ v) = true := by simp only [decide_eq_true_iff]; omega
        simp only [↓WP, ↓grdD, ↓grdT, ↓un_dead, ↓binVC, ↓buildVC, ↓sliceVC, WQ, WN, Int.reduceToNat, renl, cll, rent, clt, ↓reduceIte, Nat.reduceLeDiff, Nat.reduceEqDiff, Nat.reduceLT, reduceCtorEq, List.append_nil, Nat.reduceAdd, Nat.reduceSub, Nat.reduceBEq, forall_const, implies_true, cond_true, cond_false, AV.ren, AC.ren, AV.cl, AC.cl, eq_self, List.all_cons, List.all_nil, AV.eqv, AC.eqv, eqvl, eqvt, Sl.eqv, List.map_append, List.length_map, List.length_append, List.length_replicate, List.length_set, List.map_replicate, nilVC, sz_25, fl_25_1, sz_22, sd_22, fl_25_2, sz_23, el_23, fl_60_1, sz_9, el_22, c_spec_CacheOk, c_spec_l30At, hD, hR, decide_eq_true hok, decide_eq_false hv0, hd2]
        refine ⟨⟨ha, hb⟩, ?_⟩
        rfl
  · have hse : seeC cap D R rd pt v = ByteArray.empty := if_neg fun h => hok h.1
    rw [hse]
    simp only [↓WP, ↓grdD, ↓grdT, ↓un_dead, ↓binVC, ↓buildVC, ↓sliceVC, WQ, WN, Int.reduceToNat, renl, cll, rent, clt, ↓reduceIte, Nat.reduceLeDiff, Nat.reduceEqDiff, Nat.reduceLT, reduceCtorEq, List.append_nil, Nat.reduceAdd, Nat.reduceSub, Nat.reduceBEq, forall_const, implies_true, cond_true, cond_false, AV.ren, AC.ren, AV.cl, AC.cl, eq_self, List.all_cons, List.all_nil, AV.eqv, AC.eqv, eqvl, eqvt, Sl.eqv, List.map_append, List.length_map, List.length_append, List.length_replicate, List.length_set, List.map_replicate, nilVC, sz_25, fl_25_1, sz_22, sd_22, fl_25_2, sz_23, el_23, fl_60_1, sz_9, el_22, c_spec_CacheOk, c_spec_l30At, hD, hR, decide_eq_false hok]
    refine ⟨⟨ha, hb⟩, ?_⟩
    rfl
def c_laws_FnExactCacheOk : Contract := ⟨4, fun args M => match args with
  | [.agg [.int .i64 _, .sl a n _, .sl b m _, .int .i64 _, .int .i64 _]] => .pure ((n ≤ 9223372036854775807 ∧ (n ≤ 1048576 → RowOk ByteArray a n (M a.r) ∧ strsOk (row ByteArray a n (M a.r)))) ∧ (m ≤ 9223372036854775807 ∧ (m ≤ 1048576 → RowOk TR b m (M b.r) ∧ strsOk ((row TR b m (M b.r)).map fun x => x.2.1)))) (Eng.B true)
  | _ => .bad⟩
theorem ok_laws_FnExactCacheOk : fnP Try.prog c_laws_FnExactCacheOk.f = true ∧ ∀ args M, (c_laws_FnExactCacheOk.sp args M).OK Try.prog c_laws_FnExactCacheOk.f args M := by
  refine ⟨fp_4, fun args M => ?_⟩
  unfold c_laws_FnExactCacheOk
  dsimp only
  split
  case h_2 => trivial
  rename_i cap a n ca b m cb rd pt
  rintro ⟨⟨hn, h1⟩, hm, h2⟩
  refine goIn hf_4 rfl (nt := 27) rfl (rs := [.tmp 2]) rfl (C := [c_laws_szCache, c_laws_toCache, c_spec_CacheOk, c_impl_CacheOk, c_laws_eqCache]) ⟨(by first | exact .inl ok_laws_szCache | exact ok_laws_szCache), (by first | exact .inl ok_laws_toCache | exact ok_laws_toCache), (by first | exact .inl ok_spec_CacheOk | exact ok_spec_CacheOk), (by first | exact .inl ok_impl_CacheOk | exact ok_impl_CacheOk), (by first | exact .inl ok_laws_eqCache | exact ok_laws_eqCache), trivial⟩ (q := fun f => [18, 13].contains f) ⟨fun h => absurd h (by decide), fun _ => q_laws_toCache, fun h => absurd h (by decide), fun h => absurd h (by decide), fun _ => q_laws_eqCache, trivial⟩ mixed (O := ots [(10, otl [0, 1, 2, 3, 4] .nil)]) (by kernel_rfl) ?_
  have e1 := szS_range (X := row ByteArray a n (M a.r)) (n := n) (l := 1048576) (by omega)
  obtain ⟨r, hr⟩ : ∃ r, r = szS (row ByteArray a n (M a.r)) n 1048576 := ⟨_, rfl⟩
  rw [← hr] at e1
  by_cases hr0 : r < 0
  · simp only [↓WP, ↓grdD, ↓grdT, ↓un_dead, ↓binVC, ↓buildVC, ↓sliceVC, WQ, WN, Int.reduceToNat, renl, cll, rent, clt, ↓reduceIte, Nat.reduceLeDiff, Nat.reduceEqDiff, Nat.reduceLT, reduceCtorEq, List.append_nil, Nat.reduceAdd, Nat.reduceSub, Nat.reduceBEq, forall_const, implies_true, cond_true, cond_false, AV.ren, AC.ren, AV.cl, AC.cl, eq_self, List.all_cons, List.all_nil, AV.eqv, AC.eqv, eqvl, eqvt, Sl.eqv, List.map_append, List.length_map, List.length_append, List.length_replicate, List.length_set, List.map_replicate, nilVC, sz_33, zr_25, sz_25, bt_4, c_laws_szCache, c_laws_toCache, c_spec_CacheOk, c_impl_CacheOk, c_laws_eqCache, ← hr, if_pos hr0]
    simp
    exact ⟨⟨hn, h1⟩, hm, by simpa using h2⟩
  · have e2 := szS_range (X := (row TR b m (M b.r)).map fun x => x.2.1) (n := m) (l := r) (by omega)
    obtain ⟨r2, hr2⟩ : ∃ r2, r2 = szS ((row TR b m (M b.r)).map fun x => x.2.1) m r := ⟨_, rfl⟩
    rw [← hr2] at e2
    by_cases hr3 : r2 < 0
    · simp only [↓WP, ↓grdD, ↓grdT, ↓un_dead, ↓binVC, ↓buildVC, ↓sliceVC, WQ, WN, Int.reduceToNat, renl, cll, rent, clt, ↓reduceIte, Nat.reduceLeDiff, Nat.reduceEqDiff, Nat.reduceLT, reduceCtorEq, List.append_nil, Nat.reduceAdd, Nat.reduceSub, Nat.reduceBEq, forall_const, implies_true, cond_true, cond_false, AV.ren, AC.ren, AV.cl, AC.cl, eq_self, List.all_cons, List.all_nil, AV.eqv, AC.eqv, eqvl, eqvt, Sl.eqv, List.map_append, List.length_map, List.length_append, List.length_replicate, List.length_set, List.map_replicate, nilVC, sz_33, zr_25, sz_25, bt_4, c_laws_szCache, c_laws_toCache, c_spec_CacheOk, c_impl_CacheOk, c_laws_eqCache, ← hr, if_neg hr0, ← hr2, decide_eq_true hr3]
      exact ⟨by omega, by omega, ⟨hn, h1⟩, hm, h2⟩
    · obtain ⟨ra, sa⟩ := h1 (by omega)
      obtain ⟨rb, sb⟩ := h2 (by omega)
      have k1 : n ≤ 4294967296 := by omega
      have k2 : m ≤ 4294967296 := by omega
      simp only [↓WP, ↓grdD, ↓grdT, ↓un_dead, ↓binVC, ↓buildVC, ↓sliceVC, WQ, WN, Int.reduceToNat, renl, cll, rent, clt, ↓reduceIte, Nat.reduceLeDiff, Nat.reduceEqDiff, Nat.reduceLT, reduceCtorEq, List.append_nil, Nat.reduceAdd, Nat.reduceSub, Nat.reduceBEq, forall_const, implies_true, cond_true, cond_false, AV.ren, AC.ren, AV.cl, AC.cl, eq_self, List.all_cons, List.all_nil, AV.eqv, AC.eqv, eqvl, eqvt, Sl.eqv, List.map_append, List.length_map, List.length_append, List.length_replicate, List.length_set, List.map_replicate, nilVC, sz_33, zr_25, sz_25, bt_4, c_laws_szCache, c_laws_toCache, c_spec_CacheOk, c_impl_CacheOk, c_laws_eqCache, ← hr, if_neg hr0, ← hr2, decide_eq_false hr3]
      simp [ra, rb, sa, sb, k1, k2, hn, hm]
      try simpa using sb
def c_laws_FnExactCacheSee : Contract := ⟨5, fun args M => match args with
  | [.agg [.int .i64 _, .sl a n _, .sl b m _, .int .i64 _, .int .i64 _], .c (.int .i64 _)] => .pure ((n ≤ 9223372036854775807 ∧ (n ≤ 1048576 → RowOk ByteArray a n (M a.r) ∧ strsOk (row ByteArray a n (M a.r)))) ∧ (m ≤ 9223372036854775807 ∧ (m ≤ 1048576 → RowOk TR b m (M b.r) ∧ strsOk ((row TR b m (M b.r)).map fun x => x.2.1)))) (Eng.B true)
  | _ => .bad⟩
theorem ok_laws_FnExactCacheSee : fnP Try.prog c_laws_FnExactCacheSee.f = true ∧ ∀ args M, (c_laws_FnExactCacheSee.sp args M).OK Try.prog c_laws_FnExactCacheSee.f args M := by
  refine ⟨fp_5, fun args M => ?_⟩
  unfold c_laws_FnExactCacheSee
  dsimp only
  split
  case h_2 => trivial
  rename_i cap a n ca b m cb rd pt v
  rintro ⟨⟨hn, h1⟩, hm, h2⟩
  refine goIn hf_5 rfl (nt := 31) rfl (rs := [.tmp 4]) rfl (C := [c_laws_szCache, c_laws_toCache, c_spec_CacheSee, c_impl_CacheSee, c_laws_eqCache]) ⟨(by first | exact .inl ok_laws_szCache | exact ok_laws_szCache), (by first | exact .inl ok_laws_toCache | exact ok_laws_toCache), (by first | exact .inl ok_spec_CacheSee | exact ok_spec_CacheSee), (by first | exact .inl ok_impl_CacheSee | exact ok_impl_CacheSee), (by first | exact .inl ok_laws_eqCache | exact ok_laws_eqCache), trivial⟩ (q := fun f => [18, 13].contains f) ⟨fun h => absurd h (by decide), fun _ => q_laws_toCache, fun h => absurd h (by decide), fun h => absurd h (by decide), fun _ => q_laws_eqCache, trivial⟩ mixed (O := ots [(10, otl [0, 1, 2, 3, 4] .nil)]) (by kernel_rfl) ?_
  have e1 := szS_range (X := row ByteArray a n (M a.r)) (n := n) (l := 1048576) (by omega)
  obtain ⟨r, hr⟩ : ∃ r, r = szS (row ByteArray a n (M a.r)) n 1048576 := ⟨_, rfl⟩
  rw [← hr] at e1
  by_cases hr0 : r < 0
  · simp only [↓WP, ↓grdD, ↓grdT, ↓un_dead, ↓binVC, ↓buildVC, ↓sliceVC, WQ, WN, Int.reduceToNat, renl, cll, rent, clt, ↓reduceIte, Nat.reduceLeDiff, Nat.reduceEqDiff, Nat.reduceLT, reduceCtorEq, List.append_nil, Nat.reduceAdd, Nat.reduceSub, Nat.reduceBEq, forall_const, implies_true, cond_true, cond_false, AV.ren, AC.ren, AV.cl, AC.cl, eq_self, List.all_cons, List.all_nil, AV.eqv, AC.eqv, eqvl, eqvt, Sl.eqv, List.map_append, List.length_map, List.length_append, List.length_replicate, List.length_set, List.map_replicate, nilVC, sz_33, zr_25, sz_25, c_laws_szCache, c_laws_toCache, c_spec_CacheSee, c_impl_CacheSee, c_laws_eqCache, ← hr, if_pos hr0]
    simp
    exact ⟨⟨hn, h1⟩, hm, by simpa using h2⟩
  · have e2 := szS_range (X := (row TR b m (M b.r)).map fun x => x.2.1) (n := m) (l := r) (by omega)
    obtain ⟨r2, hr2⟩ : ∃ r2, r2 = szS ((row TR b m (M b.r)).map fun x => x.2.1) m r := ⟨_, rfl⟩
    rw [← hr2] at e2
    by_cases hr3 : r2 < 0
    · simp only [↓WP, ↓grdD, ↓grdT, ↓un_dead, ↓binVC, ↓buildVC, ↓sliceVC, WQ, WN, Int.reduceToNat, renl, cll, rent, clt, ↓reduceIte, Nat.reduceLeDiff, Nat.reduceEqDiff, Nat.reduceLT, reduceCtorEq, List.append_nil, Nat.reduceAdd, Nat.reduceSub, Nat.reduceBEq, forall_const, implies_true, cond_true, cond_false, AV.ren, AC.ren, AV.cl, AC.cl, eq_self, List.all_cons, List.all_nil, AV.eqv, AC.eqv, eqvl, eqvt, Sl.eqv, List.map_append, List.length_map, List.length_append, List.length_replicate, List.length_set, List.map_replicate, nilVC, sz_33, zr_25, sz_25, c_laws_szCache, c_laws_toCache, c_spec_CacheSee, c_impl_CacheSee, c_laws_eqCache, ← hr, if_neg hr0, ← hr2, decide_eq_true hr3]
      exact ⟨by omega, by omega, ⟨hn, h1⟩, hm, h2⟩
    · obtain ⟨ra, sa⟩ := h1 (by omega)
      obtain ⟨rb, sb⟩ := h2 (by omega)
      have k1 : n ≤ 4294967296 := by omega
      have k2 : m ≤ 4294967296 := by omega
      simp only [↓WP, ↓grdD, ↓grdT, ↓un_dead, ↓binVC, ↓buildVC, ↓sliceVC, WQ, WN, Int.reduceToNat, renl, cll, rent, clt, ↓reduceIte, Nat.reduceLeDiff, Nat.reduceEqDiff, Nat.reduceLT, reduceCtorEq, List.append_nil, Nat.reduceAdd, Nat.reduceSub, Nat.reduceBEq, forall_const, implies_true, cond_true, cond_false, AV.ren, AC.ren, AV.cl, AC.cl, eq_self, List.all_cons, List.all_nil, AV.eqv, AC.eqv, eqvl, eqvt, Sl.eqv, List.map_append, List.length_map, List.length_append, List.length_replicate, List.length_set, List.map_replicate, nilVC, sz_33, zr_25, sz_25, c_laws_szCache, c_laws_toCache, c_spec_CacheSee, c_impl_CacheSee, c_laws_eqCache, ← hr, if_neg hr0, ← hr2, decide_eq_false hr3]
      simp [ra, rb, sa, sb, k1, k2, hn, hm]
      try simpa using sb
end Go.Eng.T
