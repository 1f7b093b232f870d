/- cache: DrawCacheGet; the law FnCacheReads. -/
import Derived.Test.YtnpgddgbkaojmaaFn25
set_option linter.unusedVariables false
set_option linter.unusedSimpArgs false
set_option linter.unusedSectionVars false
namespace Go.Eng.T
open Go.Proofs
open Cel (enc dec)
set_option maxRecDepth 100000
set_option maxHeartbeats 8000000
def c_spec_DrawCacheGet : Contract := ⟨30, fun args M => match args with
  | [.c (.sl a n c)] => .eff (RowOk UInt8 a n (M a.r)) (Dra × Int) (fun q => draC q.1) (fun q => .tup [(true, [.int .i64 q.1.1, .sl ⟨.loc 0, 0, q.1.2.2.1, 0⟩ (20 - q.1.2.2.1) (q.1.2.2.2.2.2.2.1 - q.1.2.2.1), .sl ⟨.loc 1, 0, 0, 0⟩ q.1.2.2.2.1.length q.1.2.2.2.2.2.2.2, .int .i64 q.1.2.2.2.2.1, .int .i64 q.1.2.2.2.2.2.1]), (false, [.int .i64 q.2])]) (fun q => [rowG true 9 q.1.2.2.2.2.2.2.1 q.1.2.1, rowG true 60 q.1.2.2.2.2.2.2.2 q.1.2.2.2.1]) (fun _ => [])
  | _ => .bad⟩
theorem ok_spec_DrawCacheGet : fnP Try.prog c_spec_DrawCacheGet.f = true ∧ ∀ args M, (c_spec_DrawCacheGet.sp args M).OK Try.prog c_spec_DrawCacheGet.f args M := by
  refine ⟨fp_30, fun args M => ?_⟩
  unfold c_spec_DrawCacheGet
  dsimp only
  split
  case h_2 => trivial
  rename_i a n ca
  intro ha
  have hns := ha.small
  refine goIn hf_30 rfl (nt := 16) rfl (rs := [.cell 2 25, .tmp 3]) rfl (C := [c_spec_l1New, c_spec_l1PickInt, c_spec_l1Size, c_spec_l30Some]) ⟨(by first | exact .inl ok_spec_l1New | exact ok_spec_l1New), (by first | exact .inl ok_spec_l1PickInt | exact ok_spec_l1PickInt), (by first | exact .inl ok_spec_l1Size | exact ok_spec_l1Size), (by first | exact .inl ok_spec_l30Some | exact ok_spec_l30Some), trivial⟩ (q := fun _ => false) okQ_none mixed (O := fun _ => .nil) (by kernel_rfl) ?_
  simp only [↓WP, ↓grdD, ↓grdT, ↓un_dead, ↓binVC, ↓buildVC, ↓sliceVC, WQ, WN, Int.reduceToNat, renl, cll, rent, clt, ↓reduceIte, Nat.reduceLeDiff, Nat.reduceEqDiff, Nat.reduceLT, reduceCtorEq, List.append_nil, Nat.reduceAdd, Nat.reduceSub, Nat.reduceBEq, forall_const, implies_true, cond_true, cond_false, AV.ren, AC.ren, AV.cl, AC.cl, eq_self, List.all_cons, List.all_nil, AV.eqv, AC.eqv, eqvl, eqvt, Sl.eqv, List.map_append, List.length_map, List.length_append, List.length_replicate, List.length_set, List.map_replicate, nilVC, zr_25, el_49, zr_3, sz_25, c_spec_l1New, c_spec_l1PickInt, c_spec_l1Size, c_spec_l30Some, ha]
  repeat' (first | with_reducible refine And.intro ?_ ?_ | intro _)
  all_goals try omega
  all_goals try exact .inr trivial
  all_goals try (refine .inr ?_; intro cs hcs; simp only [List.mem_cons, List.not_mem_nil, or_false] at hcs; rcases hcs with rfl | rfl | rfl | rfl | rfl | rfl | rfl | rfl <;> rfl)
  all_goals
    rename_i q1 hq1 q2 hq2 q hq
    have hq := hq.1
    refine end_ret ?_
    simp only [↓WP, ↓grdD, ↓grdT, ↓un_dead, ↓binVC, ↓buildVC, ↓sliceVC, WQ, WN, Int.reduceToNat, renl, cll, rent, clt, ↓reduceIte, Nat.reduceLeDiff, Nat.reduceEqDiff, Nat.reduceLT, reduceCtorEq, List.append_nil, Nat.reduceAdd, Nat.reduceSub, Nat.reduceBEq, forall_const, implies_true, cond_true, cond_false, AV.ren, AC.ren, AV.cl, AC.cl, eq_self, List.all_cons, List.all_nil, AV.eqv, AC.eqv, eqvl, eqvt, Sl.eqv, List.map_append, List.length_map, List.length_append, List.length_replicate, List.length_set, List.map_replicate, nilVC, zr_25, el_49, zr_3, sz_25, c_spec_l1New, c_spec_l1PickInt, c_spec_l1Size, c_spec_l30Some]
    refine ⟨(q.1, q1.1), [], [3, 4], ?_⟩
    simp only [WL, WNL, swA_new, swA_ne, nest_sw_ne, mapLL, List.mem_cons, Nat.reduceAdd, Nat.reduceLT, Nat.reduceLeDiff, Nat.reduceEqDiff, okU, List.nodup_cons, List.not_mem_nil, toT, toL, toO, keysO, renl, rent, cll, clt, eq_self, AV.eqv, AC.eqv, eqvl, eqvt, Sl.eqv, rowsLe, mapLL, rowsCl, List.map_append, List.length_map, List.length_append, List.length_set, List.map_replicate, rowG, List.getElem?_cons_zero, List.getElem?_cons_succ, List.getElem?_nil, List.append_nil, List.nil_append, List.cons_append, ghosts, St.gh, Option.some.injEq, implies_true, setT, AV.ren, AC.ren, AV.cl, AC.cl, List.replicate_succ, List.replicate_zero, List.nodup_nil, List.length_nil, List.length_cons, List.getD_cons_zero, List.getD_cons_succ, ↓reduceIte, retP]
    simp [hq]
theorem q_spec_DrawCacheGet : Quiet c_spec_DrawCacheGet := by
  intro args M
  unfold c_spec_DrawCacheGet
  dsimp only
  split <;> first | trivial | (intro _; rfl)
theorem dra_row {D : List ByteArray} {o : Nat} (hD : D.length = 20) (ho : o ≤ 1) : win (fun k => (List.map enc D).getD (o + k) []) (20 - o) = List.map enc (D.drop o) := by
  have := win_drop (B := List.map enc D) (j := o) (n := 20 - o) (by rw [List.length_map]; omega)
  rw [this, ← List.map_drop]
  exact List.take_of_length_le (by rw [List.length_map, List.length_drop]; omega)
/-- what the last part says -/
theorem get_last {cap : Int} {D : List ByteArray} {R : List TR} {rd pt v : Int} : ((getO cap D R rd pt v).2.2.2 || (decide (((getO cap D R rd pt v).1.2.2.1.length : Int) = (R.length : Int)) || !decide (cacheOk cap D R rd pt))) = true := by
  unfold getO
  by_cases h : cacheOk cap D R rd pt
  · rw [if_pos h]
    split
    · rfl
    · simp
  · simp [h]
theorem q_spec_CacheOk : Quiet c_spec_CacheOk := by
  intro args M
  unfold c_spec_CacheOk
  dsimp only
  split <;> first | trivial | (intro _; rfl)
def c_laws_FnCacheReads : Contract := ⟨10, fun args M => match args with
  | [.c (.sl a n _)] => .pure (n ≤ 9223372036854775807 ∧ (n ≤ 4294967296 → RowOk UInt8 a n (M a.r))) (Eng.B true)
  | _ => .bad⟩
theorem ok_laws_FnCacheReads : fnP Try.prog c_laws_FnCacheReads.f = true ∧ ∀ args M, (c_laws_FnCacheReads.sp args M).OK Try.prog c_laws_FnCacheReads.f args M := by
  refine ⟨fp_10, fun args M => ?_⟩
  unfold c_laws_FnCacheReads
  dsimp only
  split
  case h_2 => trivial
  rename_i a n ca
  rintro ⟨hn, h1⟩
  refine goIn hf_10 rfl (nt := 111) rfl (rs := [.tmp 2]) rfl (C := [c_laws_big, c_laws_at, c_impl_CacheNew, c_impl_CacheGet, c_spec_DrawCacheGet, c_spec_CacheGet, c_impl_Faults, c_spec_CacheOk]) ⟨(by first | exact .inl ok_laws_big | exact ok_laws_big), (by first | exact .inl ok_laws_at | exact ok_laws_at), (by first | exact .inl ok_impl_CacheNew | exact ok_impl_CacheNew), (by first | exact .inl ok_impl_CacheGet | exact ok_impl_CacheGet), (by first | exact .inl ok_spec_DrawCacheGet | exact ok_spec_DrawCacheGet), (by first | exact .inl ok_spec_CacheGet | exact ok_spec_CacheGet), (by first | exact .inl ok_impl_Faults | exact ok_impl_Faults), (by first | exact .inl ok_spec_CacheOk | exact ok_spec_CacheOk), trivial⟩ (q := fun f => [31, 17].contains f) ⟨fun h => absurd h (by decide), fun h => absurd h (by decide), fun h => absurd h (by decide), fun h => absurd h (by decide), fun h => absurd h (by decide), fun h => absurd h (by decide), fun _ => q_impl_Faults, fun _ => q_spec_CacheOk, trivial⟩ mixed (O := ots [(18, otl [0, 1, 2, 3, 4, 5, 6, 7, 8, 9, 10, 11, 12, 13, 14, 15, 16, 17, 18, 19, 20, 21, 22, 23, 24, 25, 26, 27, 28, 29, 30, 31, 32, 33, 34, 35, 36, 37, 38] .nil)]) (by kernel_rfl) ?_
  by_cases hs : 1048576 < n
  · simp only [↓WP, ↓grdD, ↓grdT, ↓un_dead, ↓binVC, ↓buildVC, ↓sliceVC, WQ, WN, Int.reduceToNat, renl, cll, rent, clt, ↓reduceIte, Nat.reduceLeDiff, Nat.reduceEqDiff, Nat.reduceLT, reduceCtorEq, List.append_nil, Nat.reduceAdd, Nat.reduceSub, Nat.reduceBEq, forall_const, implies_true, cond_true, cond_false, AV.ren, AC.ren, AV.cl, AC.cl, eq_self, List.all_cons, List.all_nil, AV.eqv, AC.eqv, eqvl, eqvt, Sl.eqv, List.map_append, List.length_map, List.length_append, List.length_replicate, List.length_set, List.map_replicate, nilVC, zr_25, sz_25, el_49, zr_3, fl_25_3, sz_3, fl_25_4, bt_4, fl_25_2, sz_23, sd_23, c_laws_big, c_laws_at, c_impl_CacheNew, c_impl_CacheGet, c_spec_DrawCacheGet, c_spec_CacheGet, c_impl_Faults, c_spec_CacheOk, decide_eq_true hs]
  · have ha := h1 (by omega)
    obtain ⟨L, hL⟩ : ∃ L, L = row UInt8 a n (M a.r) := ⟨_, rfl⟩
    have c0 := atO_mod L (i := 0) (k := 6) (by omega) (by omega)
    obtain ⟨cap, hcap⟩ : ∃ cap : Int, cap = 1 + (atO L 0).tmod 6 := ⟨_, rfl⟩
    have w1 : IntKind.i64.wrap (1 + (atO L 0).tmod 6) = cap := by rw [hcap]; exact w64 (by omega) (by omega)
    have w0 : IntKind.i64.wrap ((atO L 0).tmod 6) = (atO L 0).tmod 6 := w64 (by omega) (by omega)
    have hc : 1 ≤ cap ∧ cap ≤ 6 := by omega
    simp only [↓WP, ↓grdD, ↓grdT, ↓un_dead, ↓binVC, ↓buildVC, ↓sliceVC, WQ, WN, Int.reduceToNat, renl, cll, rent, clt, ↓reduceIte, Nat.reduceLeDiff, Nat.reduceEqDiff, Nat.reduceLT, reduceCtorEq, List.append_nil, Nat.reduceAdd, Nat.reduceSub, Nat.reduceBEq, forall_const, implies_true, cond_true, cond_false, AV.ren, AC.ren, AV.cl, AC.cl, eq_self, List.all_cons, List.all_nil, AV.eqv, AC.eqv, eqvl, eqvt, Sl.eqv, List.map_append, List.length_map, List.length_append, List.length_replicate, List.length_set, List.map_replicate, nilVC, zr_25, sz_25, el_49, zr_3, fl_25_3, sz_3, fl_25_4, bt_4, fl_25_2, sz_23, sd_23, c_laws_big, c_laws_at, c_impl_CacheNew, c_impl_CacheGet, c_spec_DrawCacheGet, c_spec_CacheGet, c_impl_Faults, c_spec_CacheOk, decide_eq_false hs, ha, ← hL, w0, w1, if_pos hc, decide_eq_true hc]
    refine ⟨by omega, by omega, by omega, ?_⟩
    refine loopI (J := {q : List Int × Nat × (List ByteArray × List TR × Int × Int) × Nat × Nat // q.1.length ≤ 49 ∧ q.1.length ≤ q.2.1 ∧ cinv cap q.2.2.1.1 q.2.2.1.2.1 (List.replicate 20 ByteArray.empty) ∧ same cap q.1 q.2.2.1.2.1 q.2.2.1.2.2.1 q.2.2.1.2.2.2 ∧ q.2.2.1.1.length ≤ q.2.2.2.1 ∧ q.2.2.1.2.1.length ≤ q.2.2.2.2}) (fun q => ⟨slots 111 [(0, .c (.sl a.up n ca)), (3, .c (.int .i64 cap)), (4, .c (.ptr ⟨.loc 2, 0, 0, 0⟩)), (6, .c (.sl ⟨.loc 3, 0, 0, 0⟩ q.1.1.length q.1.2.1)), (7, I (q.1.1.length + 1 : Nat))], M, [], [rowG true 9 q.1.2.2.2.1 q.1.2.2.1.1, rowG true 60 q.1.2.2.2.2 q.1.2.2.1.2.1, .box 25 [.int .i64 cap, .sl ⟨.loc 0, 0, 0, 0⟩ q.1.2.2.1.1.length q.1.2.2.2.1, .sl ⟨.loc 1, 0, 0, 0⟩ q.1.2.2.1.2.1.length q.1.2.2.2.2, .int .i64 q.1.2.2.1.2.2.1, .int .i64 q.1.2.2.1.2.2.2], rowG true 3 q.1.2.1 q.1.1]⟩) (fun q => 49 - q.1.1.length)
      ⟨([], 0, (List.replicate 20 ByteArray.empty, [], 0, 0), 20, 0), by simp, by simp, cinv_new hc, ⟨rfl, rfl, rfl, fun x hx => by simp at hx, fun x hx => by simp at hx⟩, by simp, by simp⟩ (Le.trans (Le_gh _ [(3, 1)]) (Le_intro [0, 1, 2, 3] (by simp only [WL, WNL, swA_new, swA_ne, nest_sw_ne, mapLL, List.mem_cons, Nat.reduceAdd, Nat.reduceLT, Nat.reduceLeDiff, Nat.reduceEqDiff, okU, List.nodup_cons, List.not_mem_nil, toT, toL, toO, keysO, renl, rent, cll, clt, eq_self, AV.eqv, AC.eqv, eqvl, eqvt, Sl.eqv, rowsLe, mapLL, rowsCl, List.map_append, List.length_map, List.length_append, List.length_set, List.map_replicate, rowG, List.getElem?_cons_zero, List.getElem?_cons_succ, List.getElem?_nil, List.append_nil, List.nil_append, List.cons_append, ghosts, St.gh, Option.some.injEq, implies_true, setT, AV.ren, AC.ren, AV.cl, AC.cl, List.replicate_succ, List.replicate_zero, List.nodup_nil, List.length_nil, List.length_cons, List.getD_cons_zero, List.getD_cons_succ, ↓reduceIte, List.length_replicate]; try simp [rep_str]))) ?_
    rintro ⟨⟨X, kx, ⟨D, R, rd, pt⟩, kd, kr⟩, hX49, hkx, hI, hsm, hkd, hkr⟩
    dsimp only at hX49 hkx hI hsm hkd hkr
    have hw := wS (i := X.length + 1) (by omega)
    have hRl : R.length ≤ 6 := by have := hI.2.1; omega
    have hDl : D.length = 20 := hI.1.2.1
    have hle := runN_le (rc := true) (vic := v0) (f := cap) (X := X) X.length
    have hrd : 0 ≤ rd ∧ rd ≤ 49 := by have := hsm.2.1; omega
    have hpt : pt = 0 := hsm.2.2.1
    rcases Nat.lt_or_ge X.length 49 with hlt | hge
    · have hid : decide (((X.length + 1 : Nat) : Int) < 50) = true := decide_eq_true (by omega)
      obtain ⟨b, hb, hb9⟩ : ∃ b : Nat, (atO L ((X.length + 1 : Nat) : Int)).tmod 9 = b ∧ b < 9 := by
        have := atO_mod L (i := ((X.length + 1 : Nat) : Int)) (k := 9) (by omega) (by omega)
        exact ⟨((atO L ((X.length + 1 : Nat) : Int)).tmod 9).toNat, by omega, by omega⟩
      have g := get_law hI (rd := rd) (pt := pt) (v := (b : Int)) (by omega) (by omega) (by omega)
      have gs := same_get hsm (cinv_ok hI (by omega) (by omega)) (b := (b : Int)) (by omega) (by omega) hc.1
      obtain ⟨O, hO⟩ : ∃ O, getO cap D R rd pt (b : Int) = O := ⟨_, rfl⟩
      rw [hO] at g gs
      obtain ⟨⟨c', D', R', rd', pt'⟩, z, str, fine⟩ := O
      obtain ⟨g1, hI', g3, g4, g5, g6⟩ := g
      obtain ⟨_, gs'⟩ := gs
      dsimp only at g1 hI' g3 g4 g5 g6 gs'
      obtain rfl := g1.symm
      subst g6
      obtain ⟨Y, hY⟩ : ∃ Y, Y = X ++ [(b : Int)] := ⟨_, rfl⟩
      have hYl : Y.length = X.length + 1 := by rw [hY, List.length_append]; rfl
      have hfold : List.map enc X ++ [[AC.int .i64 (b : Int)]] = List.map enc Y := by rw [hY, List.map_append]; rfl
      rw [← hY] at gs'
      simp only [↓WP, ↓grdD, ↓grdT, ↓un_dead, ↓binVC, ↓buildVC, ↓sliceVC, WQ, WN, Int.reduceToNat, renl, cll, rent, clt, ↓reduceIte, Nat.reduceLeDiff, Nat.reduceEqDiff, Nat.reduceLT, reduceCtorEq, List.append_nil, Nat.reduceAdd, Nat.reduceSub, Nat.reduceBEq, forall_const, implies_true, cond_true, cond_false, AV.ren, AC.ren, AV.cl, AC.cl, eq_self, List.all_cons, List.all_nil, AV.eqv, AC.eqv, eqvl, eqvt, Sl.eqv, List.map_append, List.length_map, List.length_append, List.length_replicate, List.length_set, List.map_replicate, nilVC, zr_25, sz_25, el_49, zr_3, fl_25_3, sz_3, fl_25_4, bt_4, fl_25_2, sz_23, sd_23, c_laws_big, c_laws_at, c_impl_CacheNew, c_impl_CacheGet, c_spec_DrawCacheGet, c_spec_CacheGet, c_impl_Faults, c_spec_CacheOk, hid, ha, ← hL, hb, hw, hO, hfold]
      repeat' (first | (refine And.intro (by first | omega | exact .inr trivial | exact ⟨by omega, .inr trivial⟩) ?_) | with_reducible refine And.intro ?_ ?_ | intro _)
      all_goals try omega
      all_goals try exact .inl trivial
      all_goals try exact .inr trivial
      all_goals first
        | (rename_i k2 h2 h3 q hq; refine ⟨⟨(Y, k2, (D', R', rd', pt'), q.1, q.2), by dsimp only; omega, by dsimp only; omega, hI', gs', hq.1, hq.2⟩, Le_intro [6, 7, 2, 5] ?_, by show 49 - Y.length < 49 - X.length; omega⟩; simp only [WL, WNL, swA_new, swA_ne, nest_sw_ne, mapLL, List.mem_cons, Nat.reduceAdd, Nat.reduceLT, Nat.reduceLeDiff, Nat.reduceEqDiff, okU, List.nodup_cons, List.not_mem_nil, toT, toL, toO, keysO, renl, rent, cll, clt, eq_self, AV.eqv, AC.eqv, eqvl, eqvt, Sl.eqv, rowsLe, mapLL, rowsCl, List.map_append, List.length_map, List.length_append, List.length_set, List.map_replicate, rowG, List.getElem?_cons_zero, List.getElem?_cons_succ, List.getElem?_nil, List.append_nil, List.nil_append, List.cons_append, ghosts, St.gh, Option.some.injEq, implies_true, setT, AV.ren, AC.ren, AV.cl, AC.cl, List.replicate_succ, List.replicate_zero, List.nodup_nil, List.length_nil, List.length_cons, List.getD_cons_zero, List.getD_cons_succ, ↓reduceIte, hYl]; (try simp); done)
        | (rename_i h2 q hq; refine ⟨⟨(Y, kx, (D', R', rd', pt'), q.1, q.2), by dsimp only; omega, by dsimp only; omega, hI', gs', hq.1, hq.2⟩, Le_intro [5, 6, 2, 3] ?_, by show 49 - Y.length < 49 - X.length; omega⟩; simp only [WL, WNL, swA_new, swA_ne, nest_sw_ne, mapLL, List.mem_cons, Nat.reduceAdd, Nat.reduceLT, Nat.reduceLeDiff, Nat.reduceEqDiff, okU, List.nodup_cons, List.not_mem_nil, toT, toL, toO, keysO, renl, rent, cll, clt, eq_self, AV.eqv, AC.eqv, eqvl, eqvt, Sl.eqv, rowsLe, mapLL, rowsCl, List.map_append, List.length_map, List.length_append, List.length_set, List.map_replicate, rowG, List.getElem?_cons_zero, List.getElem?_cons_succ, List.getElem?_nil, List.append_nil, List.nil_append, List.cons_append, ghosts, St.gh, Option.some.injEq, implies_true, setT, AV.ren, AC.ren, AV.cl, AC.cl, List.replicate_succ, List.replicate_zero, List.nodup_nil, List.length_nil, List.length_cons, List.getD_cons_zero, List.getD_cons_succ, ↓reduceIte, hYl]; (try simp); done)
    · have hX : X.length = 49 := by omega
      have hid : decide (((X.length + 1 : Nat) : Int) < 50) = false := decide_eq_false (by omega)
      simp only [↓WP, ↓grdD, ↓grdT, ↓un_dead, ↓binVC, ↓buildVC, ↓sliceVC, WQ, WN, Int.reduceToNat, renl, cll, rent, clt, ↓reduceIte, Nat.reduceLeDiff, Nat.reduceEqDiff, Nat.reduceLT, reduceCtorEq, List.append_nil, Nat.reduceAdd, Nat.reduceSub, Nat.reduceBEq, forall_const, implies_true, cond_true, cond_false, AV.ren, AC.ren, AV.cl, AC.cl, eq_self, List.all_cons, List.all_nil, AV.eqv, AC.eqv, eqvl, eqvt, Sl.eqv, List.map_append, List.length_map, List.length_append, List.length_replicate, List.length_set, List.map_replicate, nilVC, zr_25, sz_25, el_49, zr_3, fl_25_3, sz_3, fl_25_4, bt_4, fl_25_2, sz_23, sd_23, c_laws_big, c_laws_at, c_impl_CacheNew, c_impl_CacheGet, c_spec_DrawCacheGet, c_spec_CacheGet, c_impl_Faults, c_spec_CacheOk, hid, ha, ← hL]
      rintro ⟨⟨c', D0, o, R', rd', pt', kd', kr'⟩, v⟩ ⟨d1, d2, d3, d4, d5⟩
      dsimp only at d1 d2 d3 d4 d5 ⊢
      have hwin := dra_row d1 d2
      obtain ⟨D1, hD1⟩ : ∃ D1, D1 = D0.drop o := ⟨_, rfl⟩
      have hD1l : D1.length = 20 - o := by rw [hD1, List.length_drop, d1]
      rw [← hD1] at hwin
      have hlast := get_last (cap := c') (D := D1) (R := R') (rd := rd') (pt := pt') (v := v)
      obtain ⟨O, hO⟩ : ∃ O, getO c' D1 R' rd' pt' v = O := ⟨_, rfl⟩
      rw [hO] at hlast
      simp only [hwin, ↓WP, ↓grdD, ↓grdT, ↓un_dead, ↓binVC, ↓buildVC, ↓sliceVC, WQ, WN, Int.reduceToNat, renl, cll, rent, clt, ↓reduceIte, Nat.reduceLeDiff, Nat.reduceEqDiff, Nat.reduceLT, reduceCtorEq, List.append_nil, Nat.reduceAdd, Nat.reduceSub, Nat.reduceBEq, forall_const, implies_true, cond_true, cond_false, AV.ren, AC.ren, AV.cl, AC.cl, eq_self, List.all_cons, List.all_nil, AV.eqv, AC.eqv, eqvl, eqvt, Sl.eqv, List.map_append, List.length_map, List.length_append, List.length_replicate, List.length_set, List.map_replicate, nilVC, zr_25, sz_25, el_49, zr_3, fl_25_3, sz_3, fl_25_4, bt_4, fl_25_2, sz_23, sd_23, c_laws_big, c_laws_at, c_impl_CacheNew, c_impl_CacheGet, c_spec_DrawCacheGet, c_spec_CacheGet, c_impl_Faults, c_spec_CacheOk, hO]
      have hcnt : rd = cntF true v0 X cap := by
        have hok : faultsOk X cap := ⟨by omega, by omega, fun i hi => hsm.2.2.2.2 _ (getD_mem hi)⟩
        rw [hsm.2.1]
        exact (if_pos hok).symm
      have hB : 20 - o ≤ 4294967296 ∧ (20 - o = 0 ∨ o + (20 - o) ≤ D0.length) := ⟨by omega, .inr (by omega)⟩
      have hB2 : (20 - o ≤ 4294967296 ∧ (20 - o = 0 ∨ o + (20 - o) ≤ D0.length)) ∧ 20 - o ≤ kd' - o ∧ (R'.length ≤ 4294967296 ∧ (R'.length = 0 ∨ True)) ∧ R'.length ≤ kr' := ⟨hB, by omega, ⟨by omega, .inr trivial⟩, d5⟩
      refine ⟨hB2, fun _ _ => ⟨hB2, fun _ _ => ⟨⟨by omega, .inr trivial⟩, fun _ => ⟨hB, by omega, .inr trivial⟩, ?_⟩⟩⟩
      rw [decide_eq_true hcnt, decide_eq_true hpt, Bool.or_assoc, hlast]
      simp
end Go.Eng.T
