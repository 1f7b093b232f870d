/- faults: the counting, as it is programmed. -/
import Derived.Test.YtgbbegbepbniiaaFn3
set_option linter.unusedVariables false
set_option linter.unusedSimpArgs false
set_option linter.unusedSectionVars false
namespace Go.Eng.T
open Go.Proofs
open Cel (enc dec)
set_option maxRecDepth 100000
set_option maxHeartbeats 4000000
theorem wst_take {key : Int → Int} {l : List Int} {k : Nat} (h0 : k ≠ 0) (h : worse key l k (wst key l k)) : wst key l (k + 1) = k := by
  rw [wst, if_neg h0, if_pos h]
theorem wst_keep {key : Int → Int} {l : List Int} {k : Nat} (h0 : k ≠ 0) (h : ¬ worse key l k (wst key l k)) : wst key l (k + 1) = wst key l k := by
  rw [wst, if_neg h0, if_neg h]
theorem nxt_nonneg (X : List Int) (i : Nat) (p : Int) : 0 ≤ nxt X i p := by
  unfold nxt
  split
  · assumption
  · omega
def c_impl_FaultsBest_1 : Contract := ⟨35, fun args M => match args with
  | [.c (.sl a n _), .c (.int .i64 i), .c (.ptr p)] => boxS p (M p.r) fun b m c => .pure (0 ≤ i ∧ i < m ∧ m ≤ c ∧ 1 ≤ n ∧ RowOk Int a n (M a.r) ∧ RowOk Int b m (M b.r)) (I (wst (nxt (row Int b m (M b.r)) i.toNat) (row Int a n (M a.r)) n))
  | _ => .bad⟩
theorem ok_impl_FaultsBest_1 : fnP Try.prog c_impl_FaultsBest_1.f = true ∧ ∀ args M, (c_impl_FaultsBest_1.sp args M).OK Try.prog c_impl_FaultsBest_1.f args M := by
  refine ⟨fp_35, fun args M => ?_⟩
  unfold c_impl_FaultsBest_1
  dsimp only
  split
  case h_2 => trivial
  rename_i a n ca i p
  refine boxS_cases fun t b m c hMp h1 h2 h3 => ?_
  rintro ⟨hi0, hi1, hmc, hn, ha, hb⟩
  obtain ⟨q, rfl⟩ : ∃ q : Nat, i = q := ⟨i.toNat, by omega⟩
  obtain ⟨hs, L, hL, rfl, hat⟩ := ha.x
  obtain ⟨hs', X, hX, rfl, hbt⟩ := hb.x
  rw [hX, hL]
  rw [Int.toNat_natCast]
  refine goIn hf_35 rfl (nt := 47) rfl (rs := [.tmp 5]) rfl (C := [c_slices_Index_int]) ⟨(by first | exact .inl ok_slices_Index_int | exact ok_slices_Index_int), trivial⟩ (q := fun _ => false) okQ_none mixed (O := fun _ => .nil) (by kernel_rfl) ?_
  obtain ⟨hsubO, hsubR⟩ := hb.sub (q := q) (by omega)
  rw [hX] at hsubR
  obtain ⟨own', ty', cnt', cap', len', get', hM', hf', hic', hkn', hget'⟩ := hbt (by omega)
  obtain ⟨own, ty, cnt, cap, len, get, hM, hf, hic, hkn, hget⟩ := hat (by omega)
  rw [hM'] at hsubO hsubR
  have hsubR' : row Int ⟨b.r.out, b.i, b.k + q, 0⟩ (X.length - q) (some (Rg.arr own' ty' 1 cnt' cap' len' fun i k => List.map AC.up (get' i k))) = X.drop q := (row_up (α := Int) (a := ⟨b.r, b.i, b.k + q, 0⟩) (n := X.length - q) (o := some (.arr own' ty' (Cel.sz Int) cnt' cap' len' get'))).trans hsubR
  have hsubO' : RowOk Int ⟨b.r.out, b.i, b.k + q, 0⟩ (X.length - q) (some (Rg.arr own' ty' 1 cnt' cap' len' fun i k => List.map AC.up (get' i k))) := (RowOk_up (α := Int) (a := ⟨b.r, b.i, b.k + q, 0⟩) (n := X.length - q) (o := some (.arr own' ty' (Cel.sz Int) cnt' cap' len' get'))).mpr hsubO
  simp only [↓WP, ↓grdD, ↓grdT, ↓un_dead, ↓binVC, ↓buildVC, ↓sliceVC, WQ, WN, Int.reduceToNat, renl, cll, rent, clt, ↓reduceIte, Nat.reduceLeDiff, Nat.reduceEqDiff, Nat.reduceLT, reduceCtorEq, List.append_nil, Nat.reduceAdd, Nat.reduceSub, Nat.reduceBEq, forall_const, implies_true, cond_true, cond_false, AV.ren, AC.ren, AV.cl, AC.cl, eq_self, List.all_cons, List.all_nil, AV.eqv, AC.eqv, eqvl, eqvt, Sl.eqv, List.map_append, List.length_map, List.length_append, List.length_replicate, List.length_set, List.map_replicate, nilVC, sd_22, el_22, sz_3, sz_22, c_slices_Index_int]
  refine loopI (J := {i : Nat // i ≤ L.length}) (fun i => ⟨slots 47 [(0, .c (.sl a.up L.length ca)), (1, I q), (2, .c (.ptr p.up)), (6, I (wst (nxt X q) L i.1)), (7, I (if i.1 = 0 then -1 else nxt X q (L.getD (wst (nxt X q) L i.1) default))), (11, .c (.sl a.up L.length ca)), (12, I L.length), (13, I i.1)], M, [], []⟩) (fun i => L.length - i.1) ⟨0, by omega⟩ (Le_intro [] (by simp [WL, WNL, swA_new, swA_ne, nest_sw_ne, mapLL, List.mem_cons, Nat.reduceAdd, Nat.reduceLT, Nat.reduceLeDiff, Nat.reduceEqDiff, okU, List.nodup_cons, List.not_mem_nil, toT, toL, toO, keysO, renl, rent, cll, clt, eq_self, AV.eqv, AC.eqv, eqvl, eqvt, Sl.eqv, rowsLe, mapLL, rowsCl, List.map_append, List.length_map, List.length_append, List.length_set, List.map_replicate, rowG, List.getElem?_cons_zero, List.getElem?_cons_succ, List.getElem?_nil, List.append_nil, List.nil_append, List.cons_append, ghosts, St.gh, Option.some.injEq, implies_true, setT, AV.ren, AC.ren, AV.cl, AC.cl, List.replicate_succ, List.replicate_zero, List.nodup_nil, List.length_nil, List.length_cons, List.getD_cons_zero, List.getD_cons_succ, ↓reduceIte, wst])) ?_
  rintro ⟨i, hi⟩
  have hw := wS (i := i) (by omega)
  rcases Nat.lt_or_ge i L.length with hlt | hge
  · have hwlt : wst (nxt X q) L i < L.length := by
      rcases Nat.eq_zero_or_pos i with h | h
      · subst h; exact hlt
      · have := wst_lt (nxt X q) L i h; omega
    obtain ⟨w, hwd⟩ : ∃ w, w = wst (nxt X q) L i := ⟨_, rfl⟩
    obtain ⟨lat, hlat⟩ : ∃ lat, lat = if i = 0 then -1 else nxt X q (L.getD w default) := ⟨_, rfl⟩
    rw [← hwd] at hwlt
    have hgb := hget w hwlt
    have key : nxt X q (L.getD i default) > lat ∨ (nxt X q (L.getD i default) = lat ∧ L.getD i default < L.getD w default) ↔ wst (nxt X q) L (i + 1) = i ∧ (i = 0 ∨ worse (nxt X q) L i w) := by
      have h0 := nxt_nonneg X q (L.getD i default)
      by_cases hi0 : i = 0
      · rw [if_pos hi0] at hlat
        subst hi0
        exact ⟨fun _ => ⟨rfl, .inl rfl⟩, fun _ => .inl (by omega)⟩
      · rw [if_neg hi0] at hlat
        subst hlat
        constructor
        · intro h
          exact ⟨wst_take hi0 (by rw [← hwd]; exact h), .inr h⟩
        · rintro ⟨_, h | h⟩
          · exact absurd h hi0
          · exact h
    have keep : ¬ (nxt X q (L.getD i default) > lat ∨ (nxt X q (L.getD i default) = lat ∧ L.getD i default < L.getD w default)) → wst (nxt X q) L (i + 1) = w ∧ i ≠ 0 := by
      intro h
      have h0 := nxt_nonneg X q (L.getD i default)
      by_cases hi0 : i = 0
      · rw [if_pos hi0] at hlat
        exact absurd (.inl (by omega)) h
      · rw [if_neg hi0] at hlat
        subst hlat
        exact ⟨(wst_keep hi0 (by rw [← hwd]; exact h)).trans hwd.symm, hi0⟩
    have hi1' : i + 1 ≠ 0 := by omega
    by_cases hfd : 0 ≤ idx (fun x => decide (x = L.getD i default)) (X.drop q)
    · have hnx : nxt X q (L.getD i default) = idx (fun x => decide (x = L.getD i default)) (X.drop q) := if_pos hfd
      have hn0 : decide (nxt X q (L.getD i default) < 0) = false := by simp only [decide_eq_false_iff_not]; omega
      simp only [↓WP, ↓grdD, ↓grdT, ↓un_dead, ↓binVC, ↓buildVC, ↓sliceVC, WQ, WN, Int.reduceToNat, renl, cll, rent, clt, ↓reduceIte, Nat.reduceLeDiff, Nat.reduceEqDiff, Nat.reduceLT, reduceCtorEq, List.append_nil, Nat.reduceAdd, Nat.reduceSub, Nat.reduceBEq, forall_const, implies_true, cond_true, cond_false, AV.ren, AC.ren, AV.cl, AC.cl, eq_self, List.all_cons, List.all_nil, AV.eqv, AC.eqv, eqvl, eqvt, Sl.eqv, List.map_append, List.length_map, List.length_append, List.length_replicate, List.length_set, List.map_replicate, nilVC, sd_22, el_22, sz_3, sz_22, c_slices_Index_int, dlt hlt, hw, hM, hf, hM', hf', hget i hlt, hMp, h1, h2, h3, hsubR', hsubO', ← hwd, ← hlat, hgb, ← hnx, hn0]
      simp only [WB, eq_self]
      repeat' (first | with_reducible refine And.intro ?_ ?_ | intro _)
      all_goals try omega
      · rename_i hc
        have hk := (key.1 (by omega)).1
        exact ⟨⟨i + 1, hlt⟩, Le_intro [] (by simp only [WL, WNL, swA_new, swA_ne, nest_sw_ne, mapLL, List.mem_cons, Nat.reduceAdd, Nat.reduceLT, Nat.reduceLeDiff, Nat.reduceEqDiff, okU, List.nodup_cons, List.not_mem_nil, toT, toL, toO, keysO, renl, rent, cll, clt, eq_self, AV.eqv, AC.eqv, eqvl, eqvt, Sl.eqv, rowsLe, mapLL, rowsCl, List.map_append, List.length_map, List.length_append, List.length_set, List.map_replicate, rowG, List.getElem?_cons_zero, List.getElem?_cons_succ, List.getElem?_nil, List.append_nil, List.nil_append, List.cons_append, ghosts, St.gh, Option.some.injEq, implies_true, setT, AV.ren, AC.ren, AV.cl, AC.cl, List.replicate_succ, List.replicate_zero, List.nodup_nil, List.length_nil, List.length_cons, List.getD_cons_zero, List.getD_cons_succ, ↓reduceIte, hk, if_neg hi1']; try simp), by show L.length - (i + 1) < L.length - i; omega⟩
      · rename_i hc
        obtain ⟨hk, hk0⟩ := keep (by omega)
        rw [if_neg hk0] at hlat
        exact ⟨⟨i + 1, hlt⟩, Le_intro [] (by simp only [WL, WNL, swA_new, swA_ne, nest_sw_ne, mapLL, List.mem_cons, Nat.reduceAdd, Nat.reduceLT, Nat.reduceLeDiff, Nat.reduceEqDiff, okU, List.nodup_cons, List.not_mem_nil, toT, toL, toO, keysO, renl, rent, cll, clt, eq_self, AV.eqv, AC.eqv, eqvl, eqvt, Sl.eqv, rowsLe, mapLL, rowsCl, List.map_append, List.length_map, List.length_append, List.length_set, List.map_replicate, rowG, List.getElem?_cons_zero, List.getElem?_cons_succ, List.getElem?_nil, List.append_nil, List.nil_append, List.cons_append, ghosts, St.gh, Option.some.injEq, implies_true, setT, AV.ren, AC.ren, AV.cl, AC.cl, List.replicate_succ, List.replicate_zero, List.nodup_nil, List.length_nil, List.length_cons, List.getD_cons_zero, List.getD_cons_succ, ↓reduceIte, hk, if_neg hi1', ← hlat]; try simp), by show L.length - (i + 1) < L.length - i; omega⟩
    · have hnx : nxt X q (L.getD i default) = X.length := if_neg hfd
      have hn0 : decide (idx (fun x => decide (x = L.getD i default)) (X.drop q) < 0) = true := by simp only [decide_eq_true_iff]; omega
      simp only [↓WP, ↓grdD, ↓grdT, ↓un_dead, ↓binVC, ↓buildVC, ↓sliceVC, WQ, WN, Int.reduceToNat, renl, cll, rent, clt, ↓reduceIte, Nat.reduceLeDiff, Nat.reduceEqDiff, Nat.reduceLT, reduceCtorEq, List.append_nil, Nat.reduceAdd, Nat.reduceSub, Nat.reduceBEq, forall_const, implies_true, cond_true, cond_false, AV.ren, AC.ren, AV.cl, AC.cl, eq_self, List.all_cons, List.all_nil, AV.eqv, AC.eqv, eqvl, eqvt, Sl.eqv, List.map_append, List.length_map, List.length_append, List.length_replicate, List.length_set, List.map_replicate, nilVC, sd_22, el_22, sz_3, sz_22, c_slices_Index_int, dlt hlt, hw, hM, hf, hM', hf', hget i hlt, hMp, h1, h2, h3, hsubR', hsubO', ← hwd, ← hlat, hgb, hn0]
      simp only [WB, eq_self]
      repeat' (first | with_reducible refine And.intro ?_ ?_ | intro _)
      all_goals try omega
      · rename_i hc
        have hk := (key.1 (by omega)).1
        exact ⟨⟨i + 1, hlt⟩, Le_intro [] (by simp only [WL, WNL, swA_new, swA_ne, nest_sw_ne, mapLL, List.mem_cons, Nat.reduceAdd, Nat.reduceLT, Nat.reduceLeDiff, Nat.reduceEqDiff, okU, List.nodup_cons, List.not_mem_nil, toT, toL, toO, keysO, renl, rent, cll, clt, eq_self, AV.eqv, AC.eqv, eqvl, eqvt, Sl.eqv, rowsLe, mapLL, rowsCl, List.map_append, List.length_map, List.length_append, List.length_set, List.map_replicate, rowG, List.getElem?_cons_zero, List.getElem?_cons_succ, List.getElem?_nil, List.append_nil, List.nil_append, List.cons_append, ghosts, St.gh, Option.some.injEq, implies_true, setT, AV.ren, AC.ren, AV.cl, AC.cl, List.replicate_succ, List.replicate_zero, List.nodup_nil, List.length_nil, List.length_cons, List.getD_cons_zero, List.getD_cons_succ, ↓reduceIte, hk, if_neg hi1', hnx]; try simp), by show L.length - (i + 1) < L.length - i; omega⟩
      · rename_i hc
        obtain ⟨hk, hk0⟩ := keep (by omega)
        rw [if_neg hk0] at hlat
        exact ⟨⟨i + 1, hlt⟩, Le_intro [] (by simp only [WL, WNL, swA_new, swA_ne, nest_sw_ne, mapLL, List.mem_cons, Nat.reduceAdd, Nat.reduceLT, Nat.reduceLeDiff, Nat.reduceEqDiff, okU, List.nodup_cons, List.not_mem_nil, toT, toL, toO, keysO, renl, rent, cll, clt, eq_self, AV.eqv, AC.eqv, eqvl, eqvt, Sl.eqv, rowsLe, mapLL, rowsCl, List.map_append, List.length_map, List.length_append, List.length_set, List.map_replicate, rowG, List.getElem?_cons_zero, List.getElem?_cons_succ, List.getElem?_nil, List.append_nil, List.nil_append, List.cons_append, ghosts, St.gh, Option.some.injEq, implies_true, setT, AV.ren, AC.ren, AV.cl, AC.cl, List.replicate_succ, List.replicate_zero, List.nodup_nil, List.length_nil, List.length_cons, List.getD_cons_zero, List.getD_cons_succ, ↓reduceIte, hk, if_neg hi1', ← hlat]; try simp), by show L.length - (i + 1) < L.length - i; omega⟩
  · obtain rfl : i = L.length := by omega
    simp only [↓WP, ↓grdD, ↓grdT, ↓un_dead, ↓binVC, ↓buildVC, ↓sliceVC, WQ, WN, Int.reduceToNat, renl, cll, rent, clt, ↓reduceIte, Nat.reduceLeDiff, Nat.reduceEqDiff, Nat.reduceLT, reduceCtorEq, List.append_nil, Nat.reduceAdd, Nat.reduceSub, Nat.reduceBEq, forall_const, implies_true, cond_true, cond_false, AV.ren, AC.ren, AV.cl, AC.cl, eq_self, List.all_cons, List.all_nil, AV.eqv, AC.eqv, eqvl, eqvt, Sl.eqv, List.map_append, List.length_map, List.length_append, List.length_replicate, List.length_set, List.map_replicate, nilVC, sd_22, el_22, sz_3, sz_22, c_slices_Index_int, dge hge, hw]
end Go.Eng.T
