/- cache: the law FnCache. -/
import Derived.Test.YtnpgddgbkaojmaaFn19
set_option linter.unusedVariables false
set_option linter.unusedSimpArgs false
set_option linter.unusedSectionVars false
namespace Go.Eng.T
open Go.Proofs
open Cel (enc dec)
set_option maxRecDepth 100000
set_option maxHeartbeats 8000000
theorem q_impl_CacheSee : Quiet c_impl_CacheSee := by
  intro args M
  unfold c_impl_CacheSee
  dsimp only
  split <;> first | trivial | (intro _; rfl)
def c_laws_big : Contract := ⟨28, fun args M => match args with
  | [.c (.sl _ n _)] => .pure True (Eng.B (decide (1048576 < n)))
  | _ => .bad⟩
theorem ok_laws_big : fnP Try.prog c_laws_big.f = true ∧ ∀ args M, (c_laws_big.sp args M).OK Try.prog c_laws_big.f args M := by
  refine ⟨fp_28, fun args M => ?_⟩
  unfold c_laws_big
  dsimp only
  split
  case h_2 => trivial
  rename_i _ n _
  intro _
  refine goIn hf_28 rfl (nt := 6) rfl (rs := [.tmp 2]) rfl (C := []) trivial (q := fun _ => false) okQ_none mixed (O := fun _ => .nil) (by kernel_rfl) ?_
  simp only [↓WP, ↓grdD, ↓grdT, ↓un_dead, ↓binVC, ↓buildVC, ↓sliceVC, WQ, WN, Int.reduceToNat, renl, cll, rent, clt, ↓reduceIte, Nat.reduceLeDiff, Nat.reduceEqDiff, Nat.reduceLT, reduceCtorEq, List.append_nil, Nat.reduceAdd, Nat.reduceSub, Nat.reduceBEq, forall_const, implies_true, cond_true, cond_false, AV.ren, AC.ren, AV.cl, AC.cl, eq_self, List.all_cons, List.all_nil, AV.eqv, AC.eqv, eqvl, eqvt, Sl.eqv, List.map_append, List.length_map, List.length_append, List.length_replicate, List.length_set, List.map_replicate, nilVC, sd_46]
  simp
  omega
theorem q_laws_big : Quiet c_laws_big := by
  intro args M
  unfold c_laws_big
  dsimp only
  split <;> first | trivial | (intro _; rfl)
/-- a number that code gives at a place -/
def atO (L : List UInt8) (i : Int) : Int := if i < L.length then ((L.getD i.toNat default).toNat : Int) else (i * 37 + (L.length : Int) * 11).tmod 256
theorem atO_range (L : List UInt8) (i : Int) (h : 0 ≤ i) : 0 ≤ atO L i ∧ atO L i ≤ 255 := by
  unfold atO
  split
  · have := (L.getD i.toNat default).toNat_lt
    omega
  · have h0 : 0 ≤ i * 37 + (L.length : Int) * 11 := by omega
    rw [Int.tmod_eq_emod_of_nonneg h0]
    omega
theorem atO_mod (L : List UInt8) {i k : Int} (h : 0 ≤ i) (hk : 0 < k) : 0 ≤ (atO L i).tmod k ∧ (atO L i).tmod k < k := by
  rw [Int.tmod_eq_emod_of_nonneg (atO_range L i h).1]
  exact ⟨Int.emod_nonneg _ (by omega), Int.emod_lt_of_pos _ hk⟩
def c_laws_at : Contract := ⟨29, fun args M => match args with
  | [.c (.sl a n _), .c (.int .i64 i)] => .pure (RowOk UInt8 a n (M a.r) ∧ 0 ≤ i ∧ i ≤ 1000000) (I (atO (row UInt8 a n (M a.r)) i))
  | _ => .bad⟩
theorem ok_laws_at : fnP Try.prog c_laws_at.f = true ∧ ∀ args M, (c_laws_at.sp args M).OK Try.prog c_laws_at.f args M := by
  refine ⟨fp_29, fun args M => ?_⟩
  unfold c_laws_at
  dsimp only
  split
  case h_2 => trivial
  rename_i a n ca i
  rintro ⟨ha, hi0, hi1⟩
  obtain ⟨hs, X, hX, rfl, hat⟩ := ha.x
  rw [hX]
  refine goIn hf_29 rfl (nt := 21) rfl (rs := [.tmp 4]) rfl (C := []) trivial (q := fun _ => false) okQ_none mixed (O := fun _ => .nil) (by kernel_rfl) ?_
  by_cases hp : i < X.length
  · obtain ⟨own, ty, cnt, cap, len, get, hM, hf, hic, hkn, hget⟩ := hat (by omega)
    have hv : atO X i = ((X.getD i.toNat default).toNat : Int) := if_pos hp
    have hu := (X.getD i.toNat default).toNat_lt
    simp only [↓WP, ↓grdD, ↓grdT, ↓un_dead, ↓binVC, ↓buildVC, ↓sliceVC, WQ, WN, Int.reduceToNat, renl, cll, rent, clt, ↓reduceIte, Nat.reduceLeDiff, Nat.reduceEqDiff, Nat.reduceLT, reduceCtorEq, List.append_nil, Nat.reduceAdd, Nat.reduceSub, Nat.reduceBEq, forall_const, implies_true, cond_true, cond_false, AV.ren, AC.ren, AV.cl, AC.cl, eq_self, List.all_cons, List.all_nil, AV.eqv, AC.eqv, eqvl, eqvt, Sl.eqv, List.map_append, List.length_map, List.length_append, List.length_replicate, List.length_set, List.map_replicate, nilVC, sd_46, el_46, sz_5, cv_5_3, hM, hf, decide_eq_true hp, hget i.toNat (by omega), hv]
    repeat refine ⟨by omega, ?_⟩
    first | trivial | rfl | (rw [w64 (by omega) (by omega)]) | skip
  · have hv : atO X i = (i * 37 + (X.length : Int) * 11).tmod 256 := if_neg hp
    have w1 : IntKind.i64.wrap (i * 37) = i * 37 := w64 (by omega) (by omega)
    have w2 : IntKind.i64.wrap ((X.length : Int) * 11) = (X.length : Int) * 11 := w64 (by omega) (by omega)
    have w3 : IntKind.i64.wrap (i * 37 + (X.length : Int) * 11) = i * 37 + (X.length : Int) * 11 := w64 (by omega) (by omega)
    have h0 : 0 ≤ i * 37 + (X.length : Int) * 11 := by omega
    have w4 : IntKind.i64.wrap ((i * 37 + (X.length : Int) * 11).tmod 256) = (i * 37 + (X.length : Int) * 11).tmod 256 := by
      rw [Int.tmod_eq_emod_of_nonneg h0]
      exact w64 (by omega) (by omega)
    simp only [↓WP, ↓grdD, ↓grdT, ↓un_dead, ↓binVC, ↓buildVC, ↓sliceVC, WQ, WN, Int.reduceToNat, renl, cll, rent, clt, ↓reduceIte, Nat.reduceLeDiff, Nat.reduceEqDiff, Nat.reduceLT, reduceCtorEq, List.append_nil, Nat.reduceAdd, Nat.reduceSub, Nat.reduceBEq, forall_const, implies_true, cond_true, cond_false, AV.ren, AC.ren, AV.cl, AC.cl, eq_self, List.all_cons, List.all_nil, AV.eqv, AC.eqv, eqvl, eqvt, Sl.eqv, List.map_append, List.length_map, List.length_append, List.length_replicate, List.length_set, List.map_replicate, nilVC, sd_46, el_46, sz_5, cv_5_3, decide_eq_false hp, w1, w2, w3, w4, hv]
    repeat refine ⟨by omega, ?_⟩
    first | trivial | rfl | skip
theorem q_laws_at : Quiet c_laws_at := by
  intro args M
  unfold c_laws_at
  dsimp only
  split <;> first | trivial | (intro _; rfl)
def c_laws_FnCache : Contract := ⟨9, fun args M => match args with
  | [.c (.sl a n _)] => .pure (n ≤ 9223372036854775807 ∧ (n ≤ 4294967296 → RowOk UInt8 a n (M a.r))) (Eng.B true)
  | _ => .bad⟩
theorem ok_laws_FnCache : fnP Try.prog c_laws_FnCache.f = true ∧ ∀ args M, (c_laws_FnCache.sp args M).OK Try.prog c_laws_FnCache.f args M := by
  refine ⟨fp_9, fun args M => ?_⟩
  unfold c_laws_FnCache
  dsimp only
  split
  case h_2 => trivial
  rename_i a n ca
  rintro ⟨hn, h1⟩
  refine goIn hf_9 rfl (nt := 161) rfl (rs := [.tmp 2]) rfl (C := [c_laws_big, c_laws_at, c_impl_CacheNew, c_impl_CacheGet, c_impl_CachePut, c_impl_CacheSync, c_spec_CacheOk, c_impl_CacheSee]) ⟨(by first | exact .inl ok_laws_big | exact ok_laws_big), (by first | exact .inl ok_laws_at | exact ok_laws_at), (by first | exact .inl ok_impl_CacheNew | exact ok_impl_CacheNew), (by first | exact .inl ok_impl_CacheGet | exact ok_impl_CacheGet), (by first | exact .inl ok_impl_CachePut | exact ok_impl_CachePut), (by first | exact .inl ok_impl_CacheSync | exact ok_impl_CacheSync), (by first | exact .inl ok_spec_CacheOk | exact ok_spec_CacheOk), (by first | exact .inl ok_impl_CacheSee | exact ok_impl_CacheSee), trivial⟩ (q := fun f => [21].contains f) ⟨fun h => absurd h (by decide), fun h => absurd h (by decide), fun h => absurd h (by decide), fun h => absurd h (by decide), fun h => absurd h (by decide), fun h => absurd h (by decide), fun h => absurd h (by decide), fun _ => q_impl_CacheSee, trivial⟩ mixed (O := ots [(19, otl [0, 1, 2, 3, 4, 5, 6, 7, 8, 9] .nil), (41, otl [0, 1, 3, 4, 5, 6, 2, 7] .nil)]) (by kernel_rfl) ?_
  by_cases hs : 1048576 < n
  · simp only [↓WP, ↓grdD, ↓grdT, ↓un_dead, ↓binVC, ↓buildVC, ↓sliceVC, WQ, WN, Int.reduceToNat, renl, cll, rent, clt, ↓reduceIte, Nat.reduceLeDiff, Nat.reduceEqDiff, Nat.reduceLT, reduceCtorEq, List.append_nil, Nat.reduceAdd, Nat.reduceSub, Nat.reduceBEq, forall_const, implies_true, cond_true, cond_false, AV.ren, AC.ren, AV.cl, AC.cl, eq_self, List.all_cons, List.all_nil, AV.eqv, AC.eqv, eqvl, eqvt, Sl.eqv, List.map_append, List.length_map, List.length_append, List.length_replicate, List.length_set, List.map_replicate, nilVC, zr_25, sz_25, el_22, zr_9, sz_9, cv_3_5, el_46, zr_5, cv_46_9, fl_25_2, sz_23, sd_23, fl_25_1, sz_22, fl_25_0, sz_3, c_laws_big, c_laws_at, c_impl_CacheNew, c_impl_CacheGet, c_impl_CachePut, c_impl_CacheSync, c_spec_CacheOk, c_impl_CacheSee, decide_eq_true hs]
  · have ha := h1 (by omega)
    obtain ⟨L, hL⟩ : ∃ L, L = row UInt8 a n (M a.r) := ⟨_, rfl⟩
    have c0 := atO_mod L (i := 0) (k := 6) (by omega) (by omega)
    have w0 : IntKind.i64.wrap ((atO L 0).tmod 6) = (atO L 0).tmod 6 := w64 (by omega) (by omega)
    obtain ⟨cap, hcap⟩ : ∃ cap : Int, cap = 1 + (atO L 0).tmod 6 := ⟨_, rfl⟩
    have w1 : IntKind.i64.wrap (1 + (atO L 0).tmod 6) = cap := by rw [hcap]; exact w64 (by omega) (by omega)
    have hc : 1 ≤ cap ∧ cap ≤ 6 := by omega
    simp only [↓WP, ↓grdD, ↓grdT, ↓un_dead, ↓binVC, ↓buildVC, ↓sliceVC, WQ, WN, Int.reduceToNat, renl, cll, rent, clt, ↓reduceIte, Nat.reduceLeDiff, Nat.reduceEqDiff, Nat.reduceLT, reduceCtorEq, List.append_nil, Nat.reduceAdd, Nat.reduceSub, Nat.reduceBEq, forall_const, implies_true, cond_true, cond_false, AV.ren, AC.ren, AV.cl, AC.cl, eq_self, List.all_cons, List.all_nil, AV.eqv, AC.eqv, eqvl, eqvt, Sl.eqv, List.map_append, List.length_map, List.length_append, List.length_replicate, List.length_set, List.map_replicate, nilVC, zr_25, sz_25, el_22, zr_9, sz_9, cv_3_5, el_46, zr_5, cv_46_9, fl_25_2, sz_23, sd_23, fl_25_1, sz_22, fl_25_0, sz_3, c_laws_big, c_laws_at, c_impl_CacheNew, c_impl_CacheGet, c_impl_CachePut, c_impl_CacheSync, c_spec_CacheOk, c_impl_CacheSee, decide_eq_false hs, ha, ← hL, w0, w1, if_pos hc, decide_eq_true hc]
    refine ⟨by omega, by omega, by omega, ?_⟩
    refine loopI (J := {q : Nat × (List ByteArray × List TR × Int × Int) × List ByteArray × Nat × Nat // (1 ≤ q.1 ∧ q.1 ≤ 60) ∧ cinv cap q.2.1.1 q.2.1.2.1 q.2.2.1 ∧ (0 ≤ q.2.1.2.2.1 ∧ q.2.1.2.2.1 ≤ q.1) ∧ (0 ≤ q.2.1.2.2.2 ∧ q.2.1.2.2.2 ≤ q.1) ∧ q.2.1.1.length ≤ q.2.2.2.1 ∧ q.2.1.2.1.length ≤ q.2.2.2.2}) (fun q => ⟨slots 161 [(0, .c (.sl a.up n ca)), (3, .c (.ptr ⟨.loc 2, 0, 0, 0⟩)), (5, .c (.sl ⟨.loc 3, 0, 0, 0⟩ 20 20)), (6, I (q.1.1 : Nat))], M, [], [rowG true 9 q.1.2.2.2.1 q.1.2.1.1, rowG true 60 q.1.2.2.2.2 q.1.2.1.2.1, .box 25 [.int .i64 cap, .sl ⟨.loc 0, 0, 0, 0⟩ (q.1.2.1.1).length q.1.2.2.2.1, .sl ⟨.loc 1, 0, 0, 0⟩ (q.1.2.1.2.1).length q.1.2.2.2.2, .int .i64 q.1.2.1.2.2.1, .int .i64 q.1.2.1.2.2.2], rowG true 9 20 q.1.2.2.1]⟩) (fun q => 60 - q.1.1) ⟨(1, (List.replicate 20 ByteArray.empty, [], 0, 0), List.replicate 20 ByteArray.empty, 20, 0), by show 1 ≤ 1 ∧ 1 ≤ 60; omega, cinv_new hc, by show (0 : Int) ≤ 0 ∧ (0 : Int) ≤ ((1 : Nat) : Int); omega, by show (0 : Int) ≤ 0 ∧ (0 : Int) ≤ ((1 : Nat) : Int); omega, by simp, by simp⟩ (Le_intro [0, 1, 2, 3] (by simp only [WL, WNL, swA_new, swA_ne, nest_sw_ne, mapLL, List.mem_cons, Nat.reduceAdd, Nat.reduceLT, Nat.reduceLeDiff, Nat.reduceEqDiff, okU, List.nodup_cons, List.not_mem_nil, toT, toL, toO, keysO, renl, rent, cll, clt, eq_self, AV.eqv, AC.eqv, eqvl, eqvt, Sl.eqv, rowsLe, mapLL, rowsCl, List.map_append, List.length_map, List.length_append, List.length_set, List.map_replicate, rowG, List.getElem?_cons_zero, List.getElem?_cons_succ, List.getElem?_nil, List.append_nil, List.nil_append, List.cons_append, ghosts, St.gh, Option.some.injEq, implies_true, setT, AV.ren, AC.ren, AV.cl, AC.cl, List.replicate_succ, List.replicate_zero, List.nodup_nil, List.length_nil, List.length_cons, List.getD_cons_zero, List.getD_cons_succ, ↓reduceIte]; try simp [rep_str])) ?_
    rintro ⟨⟨i, ⟨D, R, rd, pt⟩, W, kd, kr⟩, ⟨hi1, hi2⟩, hI, hrd, hpt, hkd, hkr⟩
    dsimp only at hi1 hi2 hI hrd hpt hkd hkr
    have hw := wS (i := i) (by omega)
    have hRl : R.length ≤ 6 := by have := hI.2.1; have := hI.1.1; omega
    have hDl : D.length = 20 := hI.1.2.1
    have hWl : W.length = 20 := hI.1.2.2.1
    rcases Nat.lt_or_ge i 60 with hlt | hge
    · have hid : decide ((i : Int) < 60) = true := decide_eq_true (by omega)
      obtain ⟨b, hb, hb20⟩ : ∃ b : Nat, (atO L (i : Int)).tmod 20 = b ∧ b < 20 := by
        have := atO_mod L (i := (i : Int)) (k := 20) (by omega) (by omega)
        exact ⟨((atO L (i : Int)).tmod 20).toNat, by omega, by omega⟩
      obtain ⟨s, hs', hs5⟩ : ∃ s : Int, (atO L ((i + 1 : Nat) : Int)).tmod 5 = s ∧ 0 ≤ s ∧ s < 5 := by
        have := atO_mod L (i := ((i + 1 : Nat) : Int)) (k := 5) (by omega) (by omega)
        exact ⟨_, rfl, by omega⟩
      have hgb : (List.map enc W).getD b [] = [AC.str (W.getD b default)] := getD_enc _ _ (by omega)
      by_cases hget : s = 0 ∨ s = 1
      · have g := get_law hI (rd := rd) (pt := pt) (v := (b : Int)) (by omega) (by omega) (by omega)
        obtain ⟨O, hO⟩ : ∃ O, getO cap D R rd pt (b : Int) = O := ⟨_, rfl⟩
        rw [hO] at g
        obtain ⟨⟨c', D', R', rd', pt'⟩, z, str, fine⟩ := O
        obtain ⟨g1, hI', g3, g4, g5, g6⟩ := g
        dsimp only at g1 hI' g3 g4 g5 g6
        rw [Int.toNat_natCast] at g5
        obtain rfl := g1.symm
        subst g5 g6
        have hsm : decide (W.getD b default = W.getD b default) = true := by simp
        have hok' : decide (cacheOk cap D' R' rd' pt') = true := decide_eq_true (cinv_ok hI' (by omega) (by omega))
        have hcl' : decide (cap < (R'.length : Int)) = false := decide_eq_false (by have := hI'.2.1; omega)
        have hDl' : D'.length = 20 := hI'.1.2.1
        have hRl' : R'.length ≤ 6 := by have := hI'.2.1; omega
        have key : (decide (s = 0) = true ∧ True) ∨ (decide (s = 0) = false ∧ decide (s = 1) = true) := hget.elim (fun h => .inl ⟨decide_eq_true h, trivial⟩) fun h => .inr ⟨decide_eq_false (by omega), decide_eq_true h⟩
        rcases key with ⟨e0, e1⟩ | ⟨e0, e1⟩
        all_goals
          simp only [↓WP, ↓grdD, ↓grdT, ↓un_dead, ↓binVC, ↓buildVC, ↓sliceVC, WQ, WN, Int.reduceToNat, renl, cll, rent, clt, ↓reduceIte, Nat.reduceLeDiff, Nat.reduceEqDiff, Nat.reduceLT, reduceCtorEq, List.append_nil, Nat.reduceAdd, Nat.reduceSub, Nat.reduceBEq, forall_const, implies_true, cond_true, cond_false, AV.ren, AC.ren, AV.cl, AC.cl, eq_self, List.all_cons, List.all_nil, AV.eqv, AC.eqv, eqvl, eqvt, Sl.eqv, List.map_append, List.length_map, List.length_append, List.length_replicate, List.length_set, List.map_replicate, nilVC, zr_25, sz_25, el_22, zr_9, sz_9, cv_3_5, el_46, zr_5, cv_46_9, fl_25_2, sz_23, sd_23, fl_25_1, sz_22, fl_25_0, sz_3, c_laws_big, c_laws_at, c_impl_CacheNew, c_impl_CacheGet, c_impl_CachePut, c_impl_CacheSync, c_spec_CacheOk, c_impl_CacheSee, hid, ha, ← hL, hb, hw, hs', hO, hgb, e0, e1, hsm, hok', hcl', decide_true]
          repeat' (first | (refine And.intro (by first | omega | exact .inr trivial | exact ⟨by omega, .inr trivial⟩) ?_) | with_reducible refine And.intro ?_ ?_ | intro _)
          all_goals try omega
          all_goals try exact .inr trivial
          rename_i p hp
          obtain ⟨kd', kr'⟩ := p
          dsimp only at hp
          refine loopI (J := {k : Nat // k ≤ 20}) (fun k => ⟨slots 161 [(0, .c (.sl a.up n ca)), (3, .c (.ptr ⟨.loc 2, 0, 0, 0⟩)), (5, .c (.sl ⟨.loc 3, 0, 0, 0⟩ 20 20)), (6, I (i : Nat)), (21, I (k.1 : Nat))], M, [], [rowG true 9 kd' D', rowG true 60 kr' R', .box 25 [.int .i64 cap, .sl ⟨.loc 0, 0, 0, 0⟩ (D').length kd', .sl ⟨.loc 1, 0, 0, 0⟩ (R').length kr', .int .i64 rd', .int .i64 pt'], rowG true 9 20 W]⟩) (fun k => 20 - k.1) ⟨0, by omega⟩ (Le_intro [4, 5, 2, 3] (by simp only [WL, WNL, swA_new, swA_ne, nest_sw_ne, mapLL, List.mem_cons, Nat.reduceAdd, Nat.reduceLT, Nat.reduceLeDiff, Nat.reduceEqDiff, okU, List.nodup_cons, List.not_mem_nil, toT, toL, toO, keysO, renl, rent, cll, clt, eq_self, AV.eqv, AC.eqv, eqvl, eqvt, Sl.eqv, rowsLe, mapLL, rowsCl, List.map_append, List.length_map, List.length_append, List.length_set, List.map_replicate, rowG, List.getElem?_cons_zero, List.getElem?_cons_succ, List.getElem?_nil, List.append_nil, List.nil_append, List.cons_append, ghosts, St.gh, Option.some.injEq, implies_true, setT, AV.ren, AC.ren, AV.cl, AC.cl, List.replicate_succ, List.replicate_zero, List.nodup_nil, List.length_nil, List.length_cons, List.getD_cons_zero, List.getD_cons_succ, ↓reduceIte, List.map_set]; try simp)) ?_
          rintro ⟨k, hk⟩
          have hwk := wS (i := k) (by omega)
          rcases Nat.lt_or_ge k 20 with hk1 | hk1
          · have hkd : decide ((k : Int) < 20) = true := decide_eq_true (by omega)
            have hse := cinv_see hI' (rd := rd') (pt := pt') (by omega) (by omega) hk1
            have hgk : (List.map enc (W)).getD k [] = [AC.str ((W).getD k default)] := getD_enc _ _ (by rw [hI'.1.2.2.1]; exact hk1)
            simp only [↓WP, ↓grdD, ↓grdT, ↓un_dead, ↓binVC, ↓buildVC, ↓sliceVC, WQ, WN, Int.reduceToNat, renl, cll, rent, clt, ↓reduceIte, Nat.reduceLeDiff, Nat.reduceEqDiff, Nat.reduceLT, reduceCtorEq, List.append_nil, Nat.reduceAdd, Nat.reduceSub, Nat.reduceBEq, forall_const, implies_true, cond_true, cond_false, AV.ren, AC.ren, AV.cl, AC.cl, eq_self, List.all_cons, List.all_nil, AV.eqv, AC.eqv, eqvl, eqvt, Sl.eqv, List.map_append, List.length_map, List.length_append, List.length_replicate, List.length_set, List.map_replicate, nilVC, zr_25, sz_25, el_22, zr_9, sz_9, cv_3_5, el_46, zr_5, cv_46_9, fl_25_2, sz_23, sd_23, fl_25_1, sz_22, fl_25_0, sz_3, c_laws_big, c_laws_at, c_impl_CacheNew, c_impl_CacheGet, c_impl_CachePut, c_impl_CacheSync, c_spec_CacheOk, c_impl_CacheSee, hkd, hse, hgk, hwk]
            simp only [WB, eq_self]
            exact ⟨by omega, by omega, ⟨by omega, by omega⟩, fun h => h, fun _ => ⟨⟨k + 1, by omega⟩, Le_intro [0, 1, 2, 3] (by simp only [WL, WNL, swA_new, swA_ne, nest_sw_ne, mapLL, List.mem_cons, Nat.reduceAdd, Nat.reduceLT, Nat.reduceLeDiff, Nat.reduceEqDiff, okU, List.nodup_cons, List.not_mem_nil, toT, toL, toO, keysO, renl, rent, cll, clt, eq_self, AV.eqv, AC.eqv, eqvl, eqvt, Sl.eqv, rowsLe, mapLL, rowsCl, List.map_append, List.length_map, List.length_append, List.length_set, List.map_replicate, rowG, List.getElem?_cons_zero, List.getElem?_cons_succ, List.getElem?_nil, List.append_nil, List.nil_append, List.cons_append, ghosts, St.gh, Option.some.injEq, implies_true, setT, AV.ren, AC.ren, AV.cl, AC.cl, List.replicate_succ, List.replicate_zero, List.nodup_nil, List.length_nil, List.length_cons, List.getD_cons_zero, List.getD_cons_succ, ↓reduceIte]; try simp), by show 20 - (k + 1) < 20 - k; omega⟩⟩
          · have hkd : decide ((k : Int) < 20) = false := decide_eq_false (by omega)
            simp only [↓WP, ↓grdD, ↓grdT, ↓un_dead, ↓binVC, ↓buildVC, ↓sliceVC, WQ, WN, Int.reduceToNat, renl, cll, rent, clt, ↓reduceIte, Nat.reduceLeDiff, Nat.reduceEqDiff, Nat.reduceLT, reduceCtorEq, List.append_nil, Nat.reduceAdd, Nat.reduceSub, Nat.reduceBEq, forall_const, implies_true, cond_true, cond_false, AV.ren, AC.ren, AV.cl, AC.cl, eq_self, List.all_cons, List.all_nil, AV.eqv, AC.eqv, eqvl, eqvt, Sl.eqv, List.map_append, List.length_map, List.length_append, List.length_replicate, List.length_set, List.map_replicate, nilVC, zr_25, sz_25, el_22, zr_9, sz_9, cv_3_5, el_46, zr_5, cv_46_9, fl_25_2, sz_23, sd_23, fl_25_1, sz_22, fl_25_0, sz_3, c_laws_big, c_laws_at, c_impl_CacheNew, c_impl_CacheGet, c_impl_CachePut, c_impl_CacheSync, c_spec_CacheOk, c_impl_CacheSee, hkd, hw]
            exact ⟨⟨(i + 1, (D', R', rd', pt'), W, kd', kr'), by show 1 ≤ i + 1 ∧ i + 1 ≤ 60; omega, hI', by dsimp only; omega, by dsimp only; omega, hp.1, hp.2⟩, Le_intro [0, 1, 2, 3] (by simp only [WL, WNL, swA_new, swA_ne, nest_sw_ne, mapLL, List.mem_cons, Nat.reduceAdd, Nat.reduceLT, Nat.reduceLeDiff, Nat.reduceEqDiff, okU, List.nodup_cons, List.not_mem_nil, toT, toL, toO, keysO, renl, rent, cll, clt, eq_self, AV.eqv, AC.eqv, eqvl, eqvt, Sl.eqv, rowsLe, mapLL, rowsCl, List.map_append, List.length_map, List.length_append, List.length_set, List.map_replicate, rowG, List.getElem?_cons_zero, List.getElem?_cons_succ, List.getElem?_nil, List.append_nil, List.nil_append, List.cons_append, ghosts, St.gh, Option.some.injEq, implies_true, setT, AV.ren, AC.ren, AV.cl, AC.cl, List.replicate_succ, List.replicate_zero, List.nodup_nil, List.length_nil, List.length_cons, List.getD_cons_zero, List.getD_cons_succ, ↓reduceIte]; try simp), by show 60 - (i + 1) < 60 - i; omega⟩
      · by_cases hput : s = 2 ∨ s = 3
        · have a2 := atO_range L ((i + 2 : Nat) : Int) (by omega)
          have a3 := atO_range L ((i + 3 : Nat) : Int) (by omega)
          have w2 : IntKind.i64.wrap ((i : Int) + 2) = ((i + 2 : Nat) : Int) := by rw [w64 (by omega) (by omega)]; omega
          have w3 : IntKind.i64.wrap ((i : Int) + 3) = ((i + 3 : Nat) : Int) := by rw [w64 (by omega) (by omega)]; omega
          obtain ⟨x, hx, hx1⟩ : ∃ x : UInt8, IntKind.u8.wrap (atO L ((i + 2 : Nat) : Int)) = (x.toNat : Int) ∧ True := ⟨UInt8.ofNat (atO L ((i + 2 : Nat) : Int)).toNat, wu8 a2.1 a2.2, trivial⟩
          obtain ⟨y, hy, hy1⟩ : ∃ y : UInt8, IntKind.u8.wrap (atO L ((i + 3 : Nat) : Int)) = (y.toNat : Int) ∧ True := ⟨UInt8.ofNat (atO L ((i + 3 : Nat) : Int)).toNat, wu8 a3.1 a3.2, trivial⟩
          have g := put_law hI (rd := rd) (pt := pt) (v := (b : Int)) (t := ⟨[x, y].toArray⟩) (by omega) (by omega) (by omega) (by show 2 ≤ 20; omega)
          obtain ⟨O, hO⟩ : ∃ O, putO cap D R rd pt (b : Int) ⟨[x, y].toArray⟩ = O := ⟨_, rfl⟩
          rw [hO] at g
          obtain ⟨⟨c', D', R', rd', pt'⟩, z, str, fine⟩ := O
          obtain ⟨g1, hI', g3, g4, g6⟩ := g
          dsimp only at g1 hI' g3 g4 g6
          rw [Int.toNat_natCast] at hI'
          obtain rfl := g1.symm
          subst g3 g6
          have hok' : decide (cacheOk cap D' R' rd' pt') = true := decide_eq_true (cinv_ok hI' (by omega) (by omega))
          have hcl' : decide (cap < (R'.length : Int)) = false := decide_eq_false (by have := hI'.2.1; omega)
          have hDl' : D'.length = 20 := hI'.1.2.1
          have hRl' : R'.length ≤ 6 := by have := hI'.2.1; omega
          have e0 : decide (s = 0) = false := decide_eq_false (by omega)
          have e1 : decide (s = 1) = false := decide_eq_false (by omega)
          have key : (decide (s = 2) = true ∧ True) ∨ (decide (s = 2) = false ∧ decide (s = 3) = true) := hput.elim (fun h => .inl ⟨decide_eq_true h, trivial⟩) fun h => .inr ⟨decide_eq_false (by omega), decide_eq_true h⟩
          rcases key with ⟨e2, e3⟩ | ⟨e2, e3⟩
          all_goals
            simp only [↓WP, ↓grdD, ↓grdT, ↓un_dead, ↓binVC, ↓buildVC, ↓sliceVC, WQ, WN, Int.reduceToNat, renl, cll, rent, clt, ↓reduceIte, Nat.reduceLeDiff, Nat.reduceEqDiff, Nat.reduceLT, reduceCtorEq, List.append_nil, Nat.reduceAdd, Nat.reduceSub, Nat.reduceBEq, forall_const, implies_true, cond_true, cond_false, AV.ren, AC.ren, AV.cl, AC.cl, eq_self, List.all_cons, List.all_nil, AV.eqv, AC.eqv, eqvl, eqvt, Sl.eqv, List.map_append, List.length_map, List.length_append, List.length_replicate, List.length_set, List.map_replicate, nilVC, zr_25, sz_25, el_22, zr_9, sz_9, cv_3_5, el_46, zr_5, cv_46_9, fl_25_2, sz_23, sd_23, fl_25_1, sz_22, fl_25_0, sz_3, c_laws_big, c_laws_at, c_impl_CacheNew, c_impl_CacheGet, c_impl_CachePut, c_impl_CacheSync, c_spec_CacheOk, c_impl_CacheSee, hid, ha, ← hL, hb, hw, w2, w3, hs', hx, hy, e0, e1, e2, e3]
            repeat' (first | (refine And.intro (by first | omega | exact .inr trivial | exact ⟨by omega, .inr trivial⟩) ?_) | with_reducible refine And.intro ?_ ?_ | intro _)
            all_goals try omega
            all_goals try exact .inr trivial
            refine ⟨[x, y], ⟨rfl, fun j hj => ?_⟩, ?_⟩
            · rcases j with _ | _ | j
              · rfl
              · rfl
              · omega
            simp only [hO, hok', hcl', WB, eq_self, Bool.not_true, Bool.or_false, Bool.false_eq_true, false_implies, true_and, forall_const]
            refine ⟨⟨by omega, hkd, by omega, hkr⟩, ?_⟩
            rintro ⟨kd', kr'⟩ hp
            refine ⟨⟨by omega, by omega⟩, by omega, ⟨by omega, by omega⟩, ?_⟩
            refine loopI (J := {k : Nat // k ≤ 20}) (fun k => ⟨slots 161 [(0, .c (.sl a.up n ca)), (3, .c (.ptr ⟨.loc 2, 0, 0, 0⟩)), (5, .c (.sl ⟨.loc 3, 0, 0, 0⟩ 20 20)), (6, I (i : Nat)), (21, I (k.1 : Nat))], M, [], [rowG true 9 kd' D', rowG true 60 kr' R', .box 25 [.int .i64 cap, .sl ⟨.loc 0, 0, 0, 0⟩ (D').length kd', .sl ⟨.loc 1, 0, 0, 0⟩ (R').length kr', .int .i64 rd', .int .i64 pt'], rowG true 9 20 (W.set b ⟨[x, y].toArray⟩)]⟩) (fun k => 20 - k.1) ⟨0, by omega⟩ (Le_intro [5, 6, 2, 3] (by simp only [WL, WNL, swA_new, swA_ne, nest_sw_ne, mapLL, List.mem_cons, Nat.reduceAdd, Nat.reduceLT, Nat.reduceLeDiff, Nat.reduceEqDiff, okU, List.nodup_cons, List.not_mem_nil, toT, toL, toO, keysO, renl, rent, cll, clt, eq_self, AV.eqv, AC.eqv, eqvl, eqvt, Sl.eqv, rowsLe, mapLL, rowsCl, List.map_append, List.length_map, List.length_append, List.length_set, List.map_replicate, rowG, List.getElem?_cons_zero, List.getElem?_cons_succ, List.getElem?_nil, List.append_nil, List.nil_append, List.cons_append, ghosts, St.gh, Option.some.injEq, implies_true, setT, AV.ren, AC.ren, AV.cl, AC.cl, List.replicate_succ, List.replicate_zero, List.nodup_nil, List.length_nil, List.length_cons, List.getD_cons_zero, List.getD_cons_succ, ↓reduceIte, List.map_set]; try simp)) ?_
            rintro ⟨k, hk⟩
            have hwk := wS (i := k) (by omega)
            rcases Nat.lt_or_ge k 20 with hk1 | hk1
            · have hkd : decide ((k : Int) < 20) = true := decide_eq_true (by omega)
              have hse := cinv_see hI' (rd := rd') (pt := pt') (by omega) (by omega) hk1
              have hgk : (List.map enc ((W.set b ⟨[x, y].toArray⟩))).getD k [] = [AC.str (((W.set b ⟨[x, y].toArray⟩)).getD k default)] := getD_enc _ _ (by rw [hI'.1.2.2.1]; exact hk1)
              simp only [↓WP, ↓grdD, ↓grdT, ↓un_dead, ↓binVC, ↓buildVC, ↓sliceVC, WQ, WN, Int.reduceToNat, renl, cll, rent, clt, ↓reduceIte, Nat.reduceLeDiff, Nat.reduceEqDiff, Nat.reduceLT, reduceCtorEq, List.append_nil, Nat.reduceAdd, Nat.reduceSub, Nat.reduceBEq, forall_const, implies_true, cond_true, cond_false, AV.ren, AC.ren, AV.cl, AC.cl, eq_self, List.all_cons, List.all_nil, AV.eqv, AC.eqv, eqvl, eqvt, Sl.eqv, List.map_append, List.length_map, List.length_append, List.length_replicate, List.length_set, List.map_replicate, nilVC, zr_25, sz_25, el_22, zr_9, sz_9, cv_3_5, el_46, zr_5, cv_46_9, fl_25_2, sz_23, sd_23, fl_25_1, sz_22, fl_25_0, sz_3, c_laws_big, c_laws_at, c_impl_CacheNew, c_impl_CacheGet, c_impl_CachePut, c_impl_CacheSync, c_spec_CacheOk, c_impl_CacheSee, hkd, hse, hgk, hwk]
              simp only [WB, eq_self]
              exact ⟨by omega, by omega, ⟨by omega, by omega⟩, fun h => h, fun _ => ⟨⟨k + 1, by omega⟩, Le_intro [0, 1, 2, 3] (by simp only [WL, WNL, swA_new, swA_ne, nest_sw_ne, mapLL, List.mem_cons, Nat.reduceAdd, Nat.reduceLT, Nat.reduceLeDiff, Nat.reduceEqDiff, okU, List.nodup_cons, List.not_mem_nil, toT, toL, toO, keysO, renl, rent, cll, clt, eq_self, AV.eqv, AC.eqv, eqvl, eqvt, Sl.eqv, rowsLe, mapLL, rowsCl, List.map_append, List.length_map, List.length_append, List.length_set, List.map_replicate, rowG, List.getElem?_cons_zero, List.getElem?_cons_succ, List.getElem?_nil, List.append_nil, List.nil_append, List.cons_append, ghosts, St.gh, Option.some.injEq, implies_true, setT, AV.ren, AC.ren, AV.cl, AC.cl, List.replicate_succ, List.replicate_zero, List.nodup_nil, List.length_nil, List.length_cons, List.getD_cons_zero, List.getD_cons_succ, ↓reduceIte]; try simp), by show 20 - (k + 1) < 20 - k; omega⟩⟩
            · have hkd : decide ((k : Int) < 20) = false := decide_eq_false (by omega)
              simp only [↓WP, ↓grdD, ↓grdT, ↓un_dead, ↓binVC, ↓buildVC, ↓sliceVC, WQ, WN, Int.reduceToNat, renl, cll, rent, clt, ↓reduceIte, Nat.reduceLeDiff, Nat.reduceEqDiff, Nat.reduceLT, reduceCtorEq, List.append_nil, Nat.reduceAdd, Nat.reduceSub, Nat.reduceBEq, forall_const, implies_true, cond_true, cond_false, AV.ren, AC.ren, AV.cl, AC.cl, eq_self, List.all_cons, List.all_nil, AV.eqv, AC.eqv, eqvl, eqvt, Sl.eqv, List.map_append, List.length_map, List.length_append, List.length_replicate, List.length_set, List.map_replicate, nilVC, zr_25, sz_25, el_22, zr_9, sz_9, cv_3_5, el_46, zr_5, cv_46_9, fl_25_2, sz_23, sd_23, fl_25_1, sz_22, fl_25_0, sz_3, c_laws_big, c_laws_at, c_impl_CacheNew, c_impl_CacheGet, c_impl_CachePut, c_impl_CacheSync, c_spec_CacheOk, c_impl_CacheSee, hkd, hw]
              exact ⟨⟨(i + 1, (D', R', rd', pt'), (W.set b ⟨[x, y].toArray⟩), kd', kr'), by show 1 ≤ i + 1 ∧ i + 1 ≤ 60; omega, hI', by dsimp only; omega, by dsimp only; omega, hp.1, hp.2⟩, Le_intro [0, 1, 2, 3] (by simp only [WL, WNL, swA_new, swA_ne, nest_sw_ne, mapLL, List.mem_cons, Nat.reduceAdd, Nat.reduceLT, Nat.reduceLeDiff, Nat.reduceEqDiff, okU, List.nodup_cons, List.not_mem_nil, toT, toL, toO, keysO, renl, rent, cll, clt, eq_self, AV.eqv, AC.eqv, eqvl, eqvt, Sl.eqv, rowsLe, mapLL, rowsCl, List.map_append, List.length_map, List.length_append, List.length_set, List.map_replicate, rowG, List.getElem?_cons_zero, List.getElem?_cons_succ, List.getElem?_nil, List.append_nil, List.nil_append, List.cons_append, ghosts, St.gh, Option.some.injEq, implies_true, setT, AV.ren, AC.ren, AV.cl, AC.cl, List.replicate_succ, List.replicate_zero, List.nodup_nil, List.length_nil, List.length_cons, List.getD_cons_zero, List.getD_cons_succ, ↓reduceIte]; try simp), by show 60 - (i + 1) < 60 - i; omega⟩
        · have g := sync_law hI (rd := rd) (pt := pt) (by omega) (by omega)
          have hall := fun (k : Nat) (hk : k < 20) => syD_all hI hk
          obtain ⟨D', hD'⟩ : ∃ D', D' = syD D R R.length := ⟨_, rfl⟩
          obtain ⟨R', hR'⟩ : ∃ R', R' = R.map clr := ⟨_, rfl⟩
          rw [← hD', ← hR'] at g
          rw [← hD'] at hall
          obtain ⟨O, hO⟩ : ∃ O, syncO cap D R rd pt = O := ⟨_, rfl⟩
          obtain ⟨O2, hO2⟩ : ∃ O2, syncO cap D' R' rd pt = O2 := ⟨_, rfl⟩
          rw [hO, hO2] at g
          obtain ⟨⟨c0', D0', R0', rd0', pt0'⟩, m, str, fine⟩ := O
          obtain ⟨⟨c2', D2', R2', rd2', pt2'⟩, m2, str2, fine2⟩ := O2
          obtain ⟨g1, hI', g3, g4, g5⟩ := g
          dsimp only at g1 hI' g3 g4 g5
          injection g1 with j1 j2
          injection j2 with j2 j3
          injection j3 with j3 j4
          injection j4 with j4 j5
          subst j1 j2 j3 j4 j5 g4
          have hok' : decide (cacheOk c0' D0' R0' rd0' pt0') = true := decide_eq_true (cinv_ok hI' (by omega) (by omega))
          have hcl' : decide (c0' < (R0'.length : Int)) = false := decide_eq_false (by have := hI'.2.1; omega)
          have hcm : decide ((R.length : Int) < m) = false := decide_eq_false (by omega)
          have hm2 : decide (m2 = 0) = true := decide_eq_true g5
          have hDl' : D0'.length = 20 := hI'.1.2.1
          have hRl' : R0'.length ≤ 6 := by have := hI'.2.1; omega
          have e0 : decide (s = 0) = false := decide_eq_false (by omega)
          have e1 : decide (s = 1) = false := decide_eq_false (by omega)
          have e2 : decide (s = 2) = false := decide_eq_false (by omega)
          have e3 : decide (s = 3) = false := decide_eq_false (by omega)
          simp only [↓WP, ↓grdD, ↓grdT, ↓un_dead, ↓binVC, ↓buildVC, ↓sliceVC, WQ, WN, Int.reduceToNat, renl, cll, rent, clt, ↓reduceIte, Nat.reduceLeDiff, Nat.reduceEqDiff, Nat.reduceLT, reduceCtorEq, List.append_nil, Nat.reduceAdd, Nat.reduceSub, Nat.reduceBEq, forall_const, implies_true, cond_true, cond_false, AV.ren, AC.ren, AV.cl, AC.cl, eq_self, List.all_cons, List.all_nil, AV.eqv, AC.eqv, eqvl, eqvt, Sl.eqv, List.map_append, List.length_map, List.length_append, List.length_replicate, List.length_set, List.map_replicate, nilVC, zr_25, sz_25, el_22, zr_9, sz_9, cv_3_5, el_46, zr_5, cv_46_9, fl_25_2, sz_23, sd_23, fl_25_1, sz_22, fl_25_0, sz_3, c_laws_big, c_laws_at, c_impl_CacheNew, c_impl_CacheGet, c_impl_CachePut, c_impl_CacheSync, c_spec_CacheOk, c_impl_CacheSee, hid, ha, ← hL, hb, hw, hs', hO, hO2, hcm, hm2, e0, e1, e2, e3]
          repeat' (first | (refine And.intro (by first | omega | exact .inr trivial | exact ⟨by omega, .inr trivial⟩) ?_) | with_reducible refine And.intro ?_ ?_ | intro _)
          all_goals try omega
          all_goals try exact .inr trivial
          rename_i p hp p2 hp2
          obtain ⟨kd', kr'⟩ := p
          dsimp only at hp
          refine loopI (J := {k : Nat // k ≤ 20}) (fun k => ⟨slots 161 [(0, .c (.sl a.up n ca)), (3, .c (.ptr ⟨.loc 2, 0, 0, 0⟩)), (5, .c (.sl ⟨.loc 3, 0, 0, 0⟩ 20 20)), (6, I (i : Nat)), (14, .c (.ptr ⟨.loc 6, 0, 0, 0⟩)), (20, I (k.1 : Nat))], M, [], [rowG true 9 kd D, rowG true 60 kr R, .box 25 [.int .i64 c0', .sl ⟨.loc 0, 0, 0, 0⟩ D.length kd, .sl ⟨.loc 1, 0, 0, 0⟩ R.length kr, .int .i64 rd0', .int .i64 pt0'], rowG true 9 20 W, rowG true 9 kd' D0', rowG true 60 kr' R0', .box 25 [.int .i64 c0', .sl ⟨.loc 4, 0, 0, 0⟩ D0'.length kd', .sl ⟨.loc 5, 0, 0, 0⟩ R0'.length kr', .int .i64 rd0', .int .i64 pt0']]⟩) (fun k => 20 - k.1) ⟨0, by omega⟩ (Le_intro [0, 1, 2, 3, 4, 5, 6] (by simp only [WL, WNL, swA_new, swA_ne, nest_sw_ne, mapLL, List.mem_cons, Nat.reduceAdd, Nat.reduceLT, Nat.reduceLeDiff, Nat.reduceEqDiff, okU, List.nodup_cons, List.not_mem_nil, toT, toL, toO, keysO, renl, rent, cll, clt, eq_self, AV.eqv, AC.eqv, eqvl, eqvt, Sl.eqv, rowsLe, mapLL, rowsCl, List.map_append, List.length_map, List.length_append, List.length_set, List.map_replicate, rowG, List.getElem?_cons_zero, List.getElem?_cons_succ, List.getElem?_nil, List.append_nil, List.nil_append, List.cons_append, ghosts, St.gh, Option.some.injEq, implies_true, setT, AV.ren, AC.ren, AV.cl, AC.cl, List.replicate_succ, List.replicate_zero, List.nodup_nil, List.length_nil, List.length_cons, List.getD_cons_zero, List.getD_cons_succ, ↓reduceIte]; try simp)) ?_
          rintro ⟨k, hk⟩
          have hwk := wS (i := k) (by omega)
          rcases Nat.lt_or_ge k 20 with hk1 | hk1
          · have hkd' : decide ((k : Int) < 20) = true := decide_eq_true (by omega)
            have hgk : (List.map enc W).getD k [] = [AC.str (W.getD k default)] := getD_enc _ _ (by omega)
            have hgk2 : (List.map enc D0').getD k [] = [AC.str (W.getD k default)] := by rw [getD_enc _ _ (by omega), hall k hk1]; rfl
            simp only [↓WP, ↓grdD, ↓grdT, ↓un_dead, ↓binVC, ↓buildVC, ↓sliceVC, WQ, WN, Int.reduceToNat, renl, cll, rent, clt, ↓reduceIte, Nat.reduceLeDiff, Nat.reduceEqDiff, Nat.reduceLT, reduceCtorEq, List.append_nil, Nat.reduceAdd, Nat.reduceSub, Nat.reduceBEq, forall_const, implies_true, cond_true, cond_false, AV.ren, AC.ren, AV.cl, AC.cl, eq_self, List.all_cons, List.all_nil, AV.eqv, AC.eqv, eqvl, eqvt, Sl.eqv, List.map_append, List.length_map, List.length_append, List.length_replicate, List.length_set, List.map_replicate, nilVC, zr_25, sz_25, el_22, zr_9, sz_9, cv_3_5, el_46, zr_5, cv_46_9, fl_25_2, sz_23, sd_23, fl_25_1, sz_22, fl_25_0, sz_3, c_laws_big, c_laws_at, c_impl_CacheNew, c_impl_CacheGet, c_impl_CachePut, c_impl_CacheSync, c_spec_CacheOk, c_impl_CacheSee, hkd', hgk, hgk2, hwk]
            simp only [WB, eq_self]
            exact ⟨by omega, by omega, by omega, by omega, fun h => h, fun _ => ⟨⟨k + 1, by omega⟩, Le_intro [0, 1, 2, 3, 4, 5, 6] (by simp only [WL, WNL, swA_new, swA_ne, nest_sw_ne, mapLL, List.mem_cons, Nat.reduceAdd, Nat.reduceLT, Nat.reduceLeDiff, Nat.reduceEqDiff, okU, List.nodup_cons, List.not_mem_nil, toT, toL, toO, keysO, renl, rent, cll, clt, eq_self, AV.eqv, AC.eqv, eqvl, eqvt, Sl.eqv, rowsLe, mapLL, rowsCl, List.map_append, List.length_map, List.length_append, List.length_set, List.map_replicate, rowG, List.getElem?_cons_zero, List.getElem?_cons_succ, List.getElem?_nil, List.append_nil, List.nil_append, List.cons_append, ghosts, St.gh, Option.some.injEq, implies_true, setT, AV.ren, AC.ren, AV.cl, AC.cl, List.replicate_succ, List.replicate_zero, List.nodup_nil, List.length_nil, List.length_cons, List.getD_cons_zero, List.getD_cons_succ, ↓reduceIte]; try simp), by show 20 - (k + 1) < 20 - k; omega⟩⟩
          · have hkd' : decide ((k : Int) < 20) = false := decide_eq_false (by omega)
            simp only [↓WP, ↓grdD, ↓grdT, ↓un_dead, ↓binVC, ↓buildVC, ↓sliceVC, WQ, WN, Int.reduceToNat, renl, cll, rent, clt, ↓reduceIte, Nat.reduceLeDiff, Nat.reduceEqDiff, Nat.reduceLT, reduceCtorEq, List.append_nil, Nat.reduceAdd, Nat.reduceSub, Nat.reduceBEq, forall_const, implies_true, cond_true, cond_false, AV.ren, AC.ren, AV.cl, AC.cl, eq_self, List.all_cons, List.all_nil, AV.eqv, AC.eqv, eqvl, eqvt, Sl.eqv, List.map_append, List.length_map, List.length_append, List.length_replicate, List.length_set, List.map_replicate, nilVC, zr_25, sz_25, el_22, zr_9, sz_9, cv_3_5, el_46, zr_5, cv_46_9, fl_25_2, sz_23, sd_23, fl_25_1, sz_22, fl_25_0, sz_3, c_laws_big, c_laws_at, c_impl_CacheNew, c_impl_CacheGet, c_impl_CachePut, c_impl_CacheSync, c_spec_CacheOk, c_impl_CacheSee, hkd', hok', hcl', hw]
            refine ⟨by first | exact ⟨by omega, by omega⟩ | exact ⟨⟨by omega, .inr trivial⟩, by omega, .inr trivial⟩, ?_⟩
            refine loopI (J := {k : Nat // k ≤ 20}) (fun k => ⟨slots 161 [(0, .c (.sl a.up n ca)), (3, .c (.ptr ⟨.loc 2, 0, 0, 0⟩)), (5, .c (.sl ⟨.loc 3, 0, 0, 0⟩ 20 20)), (6, I (i : Nat)), (21, I (k.1 : Nat))], M, [], [rowG true 9 kd' D0', rowG true 60 kr' R0', .box 25 [.int .i64 c0', .sl ⟨.loc 0, 0, 0, 0⟩ (D0').length kd', .sl ⟨.loc 1, 0, 0, 0⟩ (R0').length kr', .int .i64 rd0', .int .i64 pt0'], rowG true 9 20 W]⟩) (fun k => 20 - k.1) ⟨0, by omega⟩ (Le_intro [4, 5, 2, 3] (by simp only [WL, WNL, swA_new, swA_ne, nest_sw_ne, mapLL, List.mem_cons, Nat.reduceAdd, Nat.reduceLT, Nat.reduceLeDiff, Nat.reduceEqDiff, okU, List.nodup_cons, List.not_mem_nil, toT, toL, toO, keysO, renl, rent, cll, clt, eq_self, AV.eqv, AC.eqv, eqvl, eqvt, Sl.eqv, rowsLe, mapLL, rowsCl, List.map_append, List.length_map, List.length_append, List.length_set, List.map_replicate, rowG, List.getElem?_cons_zero, List.getElem?_cons_succ, List.getElem?_nil, List.append_nil, List.nil_append, List.cons_append, ghosts, St.gh, Option.some.injEq, implies_true, setT, AV.ren, AC.ren, AV.cl, AC.cl, List.replicate_succ, List.replicate_zero, List.nodup_nil, List.length_nil, List.length_cons, List.getD_cons_zero, List.getD_cons_succ, ↓reduceIte, List.map_set]; try simp)) ?_
            rintro ⟨k, hk⟩
            have hwk := wS (i := k) (by omega)
            rcases Nat.lt_or_ge k 20 with hk1 | hk1
            · have hkd : decide ((k : Int) < 20) = true := decide_eq_true (by omega)
              have hse := cinv_see hI' (rd := rd0') (pt := pt0') (by omega) (by omega) hk1
              have hgk : (List.map enc (W)).getD k [] = [AC.str ((W).getD k default)] := getD_enc _ _ (by rw [hI'.1.2.2.1]; exact hk1)
              simp only [↓WP, ↓grdD, ↓grdT, ↓un_dead, ↓binVC, ↓buildVC, ↓sliceVC, WQ, WN, Int.reduceToNat, renl, cll, rent, clt, ↓reduceIte, Nat.reduceLeDiff, Nat.reduceEqDiff, Nat.reduceLT, reduceCtorEq, List.append_nil, Nat.reduceAdd, Nat.reduceSub, Nat.reduceBEq, forall_const, implies_true, cond_true, cond_false, AV.ren, AC.ren, AV.cl, AC.cl, eq_self, List.all_cons, List.all_nil, AV.eqv, AC.eqv, eqvl, eqvt, Sl.eqv, List.map_append, List.length_map, List.length_append, List.length_replicate, List.length_set, List.map_replicate, nilVC, zr_25, sz_25, el_22, zr_9, sz_9, cv_3_5, el_46, zr_5, cv_46_9, fl_25_2, sz_23, sd_23, fl_25_1, sz_22, fl_25_0, sz_3, c_laws_big, c_laws_at, c_impl_CacheNew, c_impl_CacheGet, c_impl_CachePut, c_impl_CacheSync, c_spec_CacheOk, c_impl_CacheSee, hkd, hse, hgk, hwk]
              simp only [WB, eq_self]
              exact ⟨by omega, by omega, ⟨by omega, by omega⟩, fun h => h, fun _ => ⟨⟨k + 1, by omega⟩, Le_intro [0, 1, 2, 3] (by simp only [WL, WNL, swA_new, swA_ne, nest_sw_ne, mapLL, List.mem_cons, Nat.reduceAdd, Nat.reduceLT, Nat.reduceLeDiff, Nat.reduceEqDiff, okU, List.nodup_cons, List.not_mem_nil, toT, toL, toO, keysO, renl, rent, cll, clt, eq_self, AV.eqv, AC.eqv, eqvl, eqvt, Sl.eqv, rowsLe, mapLL, rowsCl, List.map_append, List.length_map, List.length_append, List.length_set, List.map_replicate, rowG, List.getElem?_cons_zero, List.getElem?_cons_succ, List.getElem?_nil, List.append_nil, List.nil_append, List.cons_append, ghosts, St.gh, Option.some.injEq, implies_true, setT, AV.ren, AC.ren, AV.cl, AC.cl, List.replicate_succ, List.replicate_zero, List.nodup_nil, List.length_nil, List.length_cons, List.getD_cons_zero, List.getD_cons_succ, ↓reduceIte]; try simp), by show 20 - (k + 1) < 20 - k; omega⟩⟩
            · have hkd : decide ((k : Int) < 20) = false := decide_eq_false (by omega)
              simp only [↓WP, ↓grdD, ↓grdT, ↓un_dead, ↓binVC, ↓buildVC, ↓sliceVC, WQ, WN, Int.reduceToNat, renl, cll, rent, clt, ↓reduceIte, Nat.reduceLeDiff, Nat.reduceEqDiff, Nat.reduceLT, reduceCtorEq, List.append_nil, Nat.reduceAdd, Nat.reduceSub, Nat.reduceBEq, forall_const, implies_true, cond_true, cond_false, AV.ren, AC.ren, AV.cl, AC.cl, eq_self, List.all_cons, List.all_nil, AV.eqv, AC.eqv, eqvl, eqvt, Sl.eqv, List.map_append, List.length_map, List.length_append, List.length_replicate, List.length_set, List.map_replicate, nilVC, zr_25, sz_25, el_22, zr_9, sz_9, cv_3_5, el_46, zr_5, cv_46_9, fl_25_2, sz_23, sd_23, fl_25_1, sz_22, fl_25_0, sz_3, c_laws_big, c_laws_at, c_impl_CacheNew, c_impl_CacheGet, c_impl_CachePut, c_impl_CacheSync, c_spec_CacheOk, c_impl_CacheSee, hkd, hw]
              exact ⟨⟨(i + 1, (D0', R0', rd0', pt0'), W, kd', kr'), by show 1 ≤ i + 1 ∧ i + 1 ≤ 60; omega, hI', by dsimp only; omega, by dsimp only; omega, hp.1, hp.2⟩, Le_intro [0, 1, 2, 3] (by simp only [WL, WNL, swA_new, swA_ne, nest_sw_ne, mapLL, List.mem_cons, Nat.reduceAdd, Nat.reduceLT, Nat.reduceLeDiff, Nat.reduceEqDiff, okU, List.nodup_cons, List.not_mem_nil, toT, toL, toO, keysO, renl, rent, cll, clt, eq_self, AV.eqv, AC.eqv, eqvl, eqvt, Sl.eqv, rowsLe, mapLL, rowsCl, List.map_append, List.length_map, List.length_append, List.length_set, List.map_replicate, rowG, List.getElem?_cons_zero, List.getElem?_cons_succ, List.getElem?_nil, List.append_nil, List.nil_append, List.cons_append, ghosts, St.gh, Option.some.injEq, implies_true, setT, AV.ren, AC.ren, AV.cl, AC.cl, List.replicate_succ, List.replicate_zero, List.nodup_nil, List.length_nil, List.length_cons, List.getD_cons_zero, List.getD_cons_succ, ↓reduceIte]; try simp), by show 60 - (i + 1) < 60 - i; omega⟩
    · have hid : decide ((i : Int) < 60) = false := decide_eq_false (by omega)
      simp only [↓WP, ↓grdD, ↓grdT, ↓un_dead, ↓binVC, ↓buildVC, ↓sliceVC, WQ, WN, Int.reduceToNat, renl, cll, rent, clt, ↓reduceIte, Nat.reduceLeDiff, Nat.reduceEqDiff, Nat.reduceLT, reduceCtorEq, List.append_nil, Nat.reduceAdd, Nat.reduceSub, Nat.reduceBEq, forall_const, implies_true, cond_true, cond_false, AV.ren, AC.ren, AV.cl, AC.cl, eq_self, List.all_cons, List.all_nil, AV.eqv, AC.eqv, eqvl, eqvt, Sl.eqv, List.map_append, List.length_map, List.length_append, List.length_replicate, List.length_set, List.map_replicate, nilVC, zr_25, sz_25, el_22, zr_9, sz_9, cv_3_5, el_46, zr_5, cv_46_9, fl_25_2, sz_23, sd_23, fl_25_1, sz_22, fl_25_0, sz_3, c_laws_big, c_laws_at, c_impl_CacheNew, c_impl_CacheGet, c_impl_CachePut, c_impl_CacheSync, c_spec_CacheOk, c_impl_CacheSee, hid]
end Go.Eng.T
