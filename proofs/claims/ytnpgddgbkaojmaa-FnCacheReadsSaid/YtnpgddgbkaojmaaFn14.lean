/- cache: CachePut and CacheGet as they are programmed. -/
import Derived.Test.YtnpgddgbkaojmaaFn13
set_option linter.unusedVariables false
set_option linter.unusedSimpArgs false
set_option linter.unusedSectionVars false
namespace Go.Eng.T
open Go.Proofs
open Cel (enc dec)
set_option maxRecDepth 100000
set_option maxHeartbeats 4000000
theorem roomSpec_def {M cap a n ca b m cb rd pt v} : roomSpec M cap a n ca b m cb rd pt v = specR ByteArray a n (M a.r) fun ty c D => if 0 ≤ atR (row TR b m (M b.r)) v ∨ cap ≤ m then
    .eff (RowOk TR b m (M b.r) ∧ m ≤ cb ∧ a.r ≠ b.r ∧ cacheOk cap D (row TR b m (M b.r)) rd pt ∧ (0 ≤ v ∧ v ≤ 19) ∧ pt < 1000000) Nat (fun k => (room cap D (row TR b m (M b.r)) pt v).2.1.length ≤ k)
      (fun k => .tup [(true, [.int .i64 cap, .sl a.up n ca, .sl ⟨.loc 0, 0, 0, 0⟩ (room cap D (row TR b m (M b.r)) pt v).2.1.length k, .int .i64 rd, .int .i64 (room cap D (row TR b m (M b.r)) pt v).2.2.1]), (true, [.int .i64 (room cap D (row TR b m (M b.r)) pt v).2.2.2.1.1, .str (room cap D (row TR b m (M b.r)) pt v).2.2.2.1.2.1, .bool (room cap D (row TR b m (M b.r)) pt v).2.2.2.1.2.2]), (false, [.bool (room cap D (row TR b m (M b.r)) pt v).2.2.2.2])])
      (fun k => [rowG true 60 k (room cap D (row TR b m (M b.r)) pt v).2.1]) (fun _ => [(a.r, rowG true ty c (room cap D (row TR b m (M b.r)) pt v).1)])
  else
    .eff (RowOk TR b m (M b.r) ∧ m ≤ cb ∧ a.r ≠ b.r ∧ cacheOk cap D (row TR b m (M b.r)) rd pt ∧ (0 ≤ v ∧ v ≤ 19) ∧ pt < 1000000) Unit (fun _ => True)
      (fun _ => .tup [(true, [.int .i64 cap, .sl a.up n ca, .sl b.up m cb, .int .i64 rd, .int .i64 pt]), (true, [.int .i64 v, .str (D.getD v.toNat default), .bool false]), (false, [.bool false])])
      (fun _ => []) (fun _ => []) := Eq.trans rfl rfl
def mayC (rd pt v : Int) : Prop := (0 ≤ v ∧ v ≤ 19) ∧ rd < 1000000 ∧ pt < 1000000
instance (rd pt v : Int) : Decidable (mayC rd pt v) := by unfold mayC; infer_instance
def getO (cap : Int) (D : List ByteArray) (R : List TR) (rd pt v : Int) : Out :=
  if cacheOk cap D R rd pt then (if mayC rd pt v then (ask cap D R rd pt v true, 0, (room cap D R pt v).2.2.2.1.2.1, true) else ((cap, D, R, rd, pt), 0, ByteArray.empty, false)) else ((0, [], [], 0, 0), 0, ByteArray.empty, false)
def putO (cap : Int) (D : List ByteArray) (R : List TR) (rd pt v : Int) (t : ByteArray) : Out :=
  if cacheOk cap D R rd pt then (if mayC rd pt v ∧ t.size ≤ 20 then ((cap, (room cap D R pt v).1, (room cap D R pt v).2.1 ++ [(v, t, true)], rd, (room cap D R pt v).2.2.1), 0, ByteArray.empty, true) else ((cap, D, R, rd, pt), 0, ByteArray.empty, false)) else ((0, [], [], 0, 0), 0, ByteArray.empty, false)
theorem room_len (cap : Int) (D : List ByteArray) (R : List TR) (pt v : Int) : (room cap D R pt v).1.length = D.length ∧ (room cap D R pt v).2.1.length ≤ R.length := by
  unfold room
  split
  · exact ⟨rfl, by simp [woR]; omega⟩
  · split
    · exact ⟨outD_len D R, by simp [woR]⟩
    · exact ⟨rfl, Nat.le_refl _⟩
def c_impl_CacheGet : Contract := ⟨27, fun args M => match args with
  | [.agg [.int .i64 cap, .sl a n ca, .sl b m cb, .int .i64 rd, .int .i64 pt], .c (.int .i64 v)] => .eff (RowOk ByteArray a n (M a.r) ∧ n ≤ ca ∧ RowOk TR b m (M b.r) ∧ m ≤ cb) (Nat × Nat) (fun p => (getO cap (row ByteArray a n (M a.r)) (row TR b m (M b.r)) rd pt v).1.2.1.length ≤ p.1 ∧ (getO cap (row ByteArray a n (M a.r)) (row TR b m (M b.r)) rd pt v).1.2.2.1.length ≤ p.2) (fun p => .tup [(true, [.int .i64 (getO cap (row ByteArray a n (M a.r)) (row TR b m (M b.r)) rd pt v).1.1, .sl ⟨.loc 0, 0, 0, 0⟩ (getO cap (row ByteArray a n (M a.r)) (row TR b m (M b.r)) rd pt v).1.2.1.length p.1, .sl ⟨.loc 1, 0, 0, 0⟩ (getO cap (row ByteArray a n (M a.r)) (row TR b m (M b.r)) rd pt v).1.2.2.1.length p.2, .int .i64 (getO cap (row ByteArray a n (M a.r)) (row TR b m (M b.r)) rd pt v).1.2.2.2.1, .int .i64 (getO cap (row ByteArray a n (M a.r)) (row TR b m (M b.r)) rd pt v).1.2.2.2.2]), (false, [.str (getO cap (row ByteArray a n (M a.r)) (row TR b m (M b.r)) rd pt v).2.2.1]), (false, [.bool (getO cap (row ByteArray a n (M a.r)) (row TR b m (M b.r)) rd pt v).2.2.2])]) (fun p => [rowG true 9 p.1 (getO cap (row ByteArray a n (M a.r)) (row TR b m (M b.r)) rd pt v).1.2.1, rowG true 60 p.2 (getO cap (row ByteArray a n (M a.r)) (row TR b m (M b.r)) rd pt v).1.2.2.1]) (fun _ => [])
  | _ => .bad⟩
theorem ok_impl_CacheGet : fnP Try.prog c_impl_CacheGet.f = true ∧ ∀ args M, (c_impl_CacheGet.sp args M).OK Try.prog c_impl_CacheGet.f args M := by
  refine ⟨fp_27, fun args M => ?_⟩
  unfold c_impl_CacheGet
  dsimp only
  split
  case h_2 => trivial
  rename_i cap a n ca b m cb rd pt v
  rintro ⟨ha, hc, hb, hd⟩
  obtain ⟨hs, D, hD, rfl, hat⟩ := ha.x
  obtain ⟨hs', R, hR, rfl, hbt⟩ := hb.x
  rw [hD, hR]
  refine goIn hf_27 rfl (nt := 31) rfl (rs := [.cell 4 25, .tmp 5, .tmp 6]) rfl (C := [c_impl_CacheOk, c_impl_asks, c_impl_cloneCache, c_impl_ask]) ⟨(by first | exact .inl ok_impl_CacheOk | exact ok_impl_CacheOk), (by first | exact .inl ok_impl_asks | exact ok_impl_asks), (by first | exact .inl ok_impl_cloneCache | exact ok_impl_cloneCache), (by first | exact .inl ok_impl_ask | exact ok_impl_ask), trivial⟩ (q := fun f => [].contains f) ⟨fun h => absurd h (by decide), fun h => absurd h (by decide), fun h => absurd h (by decide), fun h => absurd h (by decide), trivial⟩ mixed (O := ots [(6, otl [0, 1, 3] (.alt 2 (otl [] (.alt 4 (otl [5, 6] (.alt 7 (otl [8] (.alt 9 (otl [10, 11, 12] .nil) (otl [10, 9, 11, 12] .nil))) (otl [10, 7, 8, 9, 11, 12] .nil))) (otl [10, 4, 5, 6, 7, 8, 9, 11, 12] .nil))) (otl [] (.alt 4 (otl [5, 6] (.alt 2 (otl [] (.alt 7 (otl [8] (.alt 9 (otl [10, 11, 12] .nil) (otl [10, 9, 11, 12] .nil))) (otl [10, 7, 8, 9, 11, 12] .nil))) (otl [10, 2, 7, 8, 9, 11, 12] .nil))) (otl [10, 2, 4, 5, 6, 7, 8, 9, 11, 12] .nil)))))]) (by kernel_rfl) ?_
  by_cases hok : cacheOk cap D R rd pt
  · have hD20 : D.length = 20 := hok.1.2.1
    have hR6 : R.length ≤ 6 := by have := hok.1.2.2.1; have := hok.1.1; omega
    by_cases hmay : mayC rd pt v
    · have hm' : (0 ≤ v ∧ v ≤ 19) ∧ rd < 1000000 ∧ pt < 1000000 := hmay
      have hO : getO cap D R rd pt v = (ask cap D R rd pt v true, 0, (room cap D R pt v).2.2.2.1.2.1, true) := by rw [getO, if_pos hok, if_pos hmay]
      rw [hO]
      have hrl := room_len cap D R pt v
      obtain ⟨⟨E, Y, pt', r, was⟩, hRm⟩ : ∃ z, z = room cap D R pt v := ⟨_, rfl⟩
      rw [← hRm] at hrl ⊢
      have hA : ask cap D R rd pt v true = (cap, E, Y ++ [r], if was = false then rd + 1 else rd, pt') := by rw [ask, ← hRm]; simp
      rw [hA]
      dsimp only at hrl ⊢
      have hwl : IntKind.i64.wrap (((Y.length + 1 : Nat) : Int) - 1) = Y.length := by rw [w64 (by omega) (by omega)]; omega
      have hgl : (List.map enc Y ++ [[AC.int .i64 r.1, AC.str r.2.1, AC.bool r.2.2]]).getD Y.length [] = enc r := by
        have := getD_enc (Y ++ [r]) Y.length (by simp)
        rw [List.map_append] at this
        rw [show List.map enc [r] = [[AC.int .i64 r.1, AC.str r.2.1, AC.bool r.2.2]] from rfl] at this
        rw [this, getD_of_lt (by simp)]
        simp
      simp only [↓WP, ↓grdD, ↓grdT, ↓un_dead, ↓binVC, ↓buildVC, ↓sliceVC, WQ, WN, Int.reduceToNat, renl, cll, rent, clt, ↓reduceIte, Nat.reduceLeDiff, Nat.reduceEqDiff, Nat.reduceLT, reduceCtorEq, List.append_nil, Nat.reduceAdd, Nat.reduceSub, Nat.reduceBEq, forall_const, implies_true, cond_true, cond_false, AV.ren, AC.ren, AV.cl, AC.cl, eq_self, List.all_cons, List.all_nil, AV.eqv, AC.eqv, eqvl, eqvt, Sl.eqv, List.map_append, List.length_map, List.length_append, List.length_replicate, List.length_set, List.map_replicate, nilVC, zr_25, sz_25, fs_25, fl_25_2, sz_23, sd_23, el_23, fl_60_1, sz_9, c_impl_CacheOk, c_impl_asks, c_impl_cloneCache, c_impl_ask, hD, hR, decide_eq_true hok, decide_eq_true hm', hA, hwl, hgl]
      repeat' (first | with_reducible refine And.intro ?_ ?_ | intro _)
      all_goals try omega
      all_goals try assumption
      all_goals try exact hm'.1.1
      all_goals
        rename_i p hp
        obtain ⟨k1, k2⟩ := p
        refine end_ret ?_
        simp only [↓WP, ↓grdD, ↓grdT, ↓un_dead, ↓binVC, ↓buildVC, ↓sliceVC, WQ, WN, Int.reduceToNat, renl, cll, rent, clt, ↓reduceIte, Nat.reduceLeDiff, Nat.reduceEqDiff, Nat.reduceLT, reduceCtorEq, List.append_nil, Nat.reduceAdd, Nat.reduceSub, Nat.reduceBEq, forall_const, implies_true, cond_true, cond_false, AV.ren, AC.ren, AV.cl, AC.cl, eq_self, List.all_cons, List.all_nil, AV.eqv, AC.eqv, eqvl, eqvt, Sl.eqv, List.map_append, List.length_map, List.length_append, List.length_replicate, List.length_set, List.map_replicate, nilVC, zr_25, sz_25, fs_25, fl_25_2, sz_23, sd_23, el_23, fl_60_1, sz_9, c_impl_CacheOk, c_impl_asks, c_impl_cloneCache, c_impl_ask]
        refine ⟨(k1, k2), [], [2, 3], ?_⟩
        simp only [WL, WNL, swA_new, swA_ne, nest_sw_ne, mapLL, List.mem_cons, Nat.reduceAdd, Nat.reduceLT, Nat.reduceLeDiff, Nat.reduceEqDiff, okU, List.nodup_cons, List.not_mem_nil, toT, toL, toO, keysO, renl, rent, cll, clt, eq_self, AV.eqv, AC.eqv, eqvl, eqvt, Sl.eqv, rowsLe, mapLL, rowsCl, List.map_append, List.length_map, List.length_append, List.length_set, List.map_replicate, rowG, List.getElem?_cons_zero, List.getElem?_cons_succ, List.getElem?_nil, List.append_nil, List.nil_append, List.cons_append, ghosts, St.gh, Option.some.injEq, implies_true, setT, AV.ren, AC.ren, AV.cl, AC.cl, List.replicate_succ, List.replicate_zero, List.nodup_nil, List.length_nil, List.length_cons, List.getD_cons_zero, List.getD_cons_succ, ↓reduceIte, retP]
        simp at hp ⊢
        first | exact hp | exact ⟨hp, rfl⟩
    · have hm' : ¬ ((0 ≤ v ∧ v ≤ 19) ∧ rd < 1000000 ∧ pt < 1000000) := hmay
      have hO : getO cap D R rd pt v = ((cap, D, R, rd, pt), 0, ByteArray.empty, false) := by rw [getO, if_pos hok, if_neg hmay]
      rw [hO]
      simp only [↓WP, ↓grdD, ↓grdT, ↓un_dead, ↓binVC, ↓buildVC, ↓sliceVC, WQ, WN, Int.reduceToNat, renl, cll, rent, clt, ↓reduceIte, Nat.reduceLeDiff, Nat.reduceEqDiff, Nat.reduceLT, reduceCtorEq, List.append_nil, Nat.reduceAdd, Nat.reduceSub, Nat.reduceBEq, forall_const, implies_true, cond_true, cond_false, AV.ren, AC.ren, AV.cl, AC.cl, eq_self, List.all_cons, List.all_nil, AV.eqv, AC.eqv, eqvl, eqvt, Sl.eqv, List.map_append, List.length_map, List.length_append, List.length_replicate, List.length_set, List.map_replicate, nilVC, zr_25, sz_25, fs_25, fl_25_2, sz_23, sd_23, el_23, fl_60_1, sz_9, c_impl_CacheOk, c_impl_asks, c_impl_cloneCache, c_impl_ask, hD, hR, decide_eq_true hok, decide_eq_false hm']
      repeat' (first | with_reducible refine And.intro ?_ ?_ | intro _)
      all_goals try omega
      all_goals try assumption
      rename_i p hp
      obtain ⟨k1, k2⟩ := p
      refine end_ret ?_
      simp only [↓WP, ↓grdD, ↓grdT, ↓un_dead, ↓binVC, ↓buildVC, ↓sliceVC, WQ, WN, Int.reduceToNat, renl, cll, rent, clt, ↓reduceIte, Nat.reduceLeDiff, Nat.reduceEqDiff, Nat.reduceLT, reduceCtorEq, List.append_nil, Nat.reduceAdd, Nat.reduceSub, Nat.reduceBEq, forall_const, implies_true, cond_true, cond_false, AV.ren, AC.ren, AV.cl, AC.cl, eq_self, List.all_cons, List.all_nil, AV.eqv, AC.eqv, eqvl, eqvt, Sl.eqv, List.map_append, List.length_map, List.length_append, List.length_replicate, List.length_set, List.map_replicate, nilVC, zr_25, sz_25, fs_25, fl_25_2, sz_23, sd_23, el_23, fl_60_1, sz_9, c_impl_CacheOk, c_impl_asks, c_impl_cloneCache, c_impl_ask]
      refine ⟨(k1, k2), [], [2, 3], ?_⟩
      simp only [WL, WNL, swA_new, swA_ne, nest_sw_ne, mapLL, List.mem_cons, Nat.reduceAdd, Nat.reduceLT, Nat.reduceLeDiff, Nat.reduceEqDiff, okU, List.nodup_cons, List.not_mem_nil, toT, toL, toO, keysO, renl, rent, cll, clt, eq_self, AV.eqv, AC.eqv, eqvl, eqvt, Sl.eqv, rowsLe, mapLL, rowsCl, List.map_append, List.length_map, List.length_append, List.length_set, List.map_replicate, rowG, List.getElem?_cons_zero, List.getElem?_cons_succ, List.getElem?_nil, List.append_nil, List.nil_append, List.cons_append, ghosts, St.gh, Option.some.injEq, implies_true, setT, AV.ren, AC.ren, AV.cl, AC.cl, List.replicate_succ, List.replicate_zero, List.nodup_nil, List.length_nil, List.length_cons, List.getD_cons_zero, List.getD_cons_succ, ↓reduceIte, retP]
      simp at hp ⊢
      first | exact hp | exact ⟨hp, rfl⟩
  · have hO : getO cap D R rd pt v = ((0, [], [], 0, 0), 0, ByteArray.empty, false) := if_neg hok
    rw [hO]
    simp only [↓WP, ↓grdD, ↓grdT, ↓un_dead, ↓binVC, ↓buildVC, ↓sliceVC, WQ, WN, Int.reduceToNat, renl, cll, rent, clt, ↓reduceIte, Nat.reduceLeDiff, Nat.reduceEqDiff, Nat.reduceLT, reduceCtorEq, List.append_nil, Nat.reduceAdd, Nat.reduceSub, Nat.reduceBEq, forall_const, implies_true, cond_true, cond_false, AV.ren, AC.ren, AV.cl, AC.cl, eq_self, List.all_cons, List.all_nil, AV.eqv, AC.eqv, eqvl, eqvt, Sl.eqv, List.map_append, List.length_map, List.length_append, List.length_replicate, List.length_set, List.map_replicate, nilVC, zr_25, sz_25, fs_25, fl_25_2, sz_23, sd_23, el_23, fl_60_1, sz_9, c_impl_CacheOk, c_impl_asks, c_impl_cloneCache, c_impl_ask, hD, hR, decide_eq_false hok]
    refine ⟨⟨ha, hb⟩, end_ret ?_⟩
    simp only [↓WP, ↓grdD, ↓grdT, ↓un_dead, ↓binVC, ↓buildVC, ↓sliceVC, WQ, WN, Int.reduceToNat, renl, cll, rent, clt, ↓reduceIte, Nat.reduceLeDiff, Nat.reduceEqDiff, Nat.reduceLT, reduceCtorEq, List.append_nil, Nat.reduceAdd, Nat.reduceSub, Nat.reduceBEq, forall_const, implies_true, cond_true, cond_false, AV.ren, AC.ren, AV.cl, AC.cl, eq_self, List.all_cons, List.all_nil, AV.eqv, AC.eqv, eqvl, eqvt, Sl.eqv, List.map_append, List.length_map, List.length_append, List.length_replicate, List.length_set, List.map_replicate, nilVC, zr_25, sz_25, fs_25, fl_25_2, sz_23, sd_23, el_23, fl_60_1, sz_9, c_impl_CacheOk, c_impl_asks, c_impl_cloneCache, c_impl_ask]
    refine ⟨(0, 0), [(9, 1), (60, 3)], [2, 3], ?_⟩
    simp [WL, WNL, swA_new, swA_ne, nest_sw_ne, mapLL, List.mem_cons, Nat.reduceAdd, Nat.reduceLT, Nat.reduceLeDiff, Nat.reduceEqDiff, okU, List.nodup_cons, List.not_mem_nil, toT, toL, toO, keysO, renl, rent, cll, clt, eq_self, AV.eqv, AC.eqv, eqvl, eqvt, Sl.eqv, rowsLe, mapLL, rowsCl, List.map_append, List.length_map, List.length_append, List.length_set, List.map_replicate, rowG, List.getElem?_cons_zero, List.getElem?_cons_succ, List.getElem?_nil, List.append_nil, List.nil_append, List.cons_append, ghosts, St.gh, Option.some.injEq, implies_true, setT, AV.ren, AC.ren, AV.cl, AC.cl, List.replicate_succ, List.replicate_zero, List.nodup_nil, List.length_nil, List.length_cons, List.getD_cons_zero, List.getD_cons_succ, ↓reduceIte, retP]
    try rfl
def c_impl_CachePut : Contract := ⟨25, fun args M => match args with
  | [.agg [.int .i64 cap, .sl a n ca, .sl b m cb, .int .i64 rd, .int .i64 pt], .c (.int .i64 v), .c (.str t)] => .eff (RowOk ByteArray a n (M a.r) ∧ n ≤ ca ∧ RowOk TR b m (M b.r) ∧ m ≤ cb) (Nat × Nat) (fun p => (putO cap (row ByteArray a n (M a.r)) (row TR b m (M b.r)) rd pt v t).1.2.1.length ≤ p.1 ∧ (putO cap (row ByteArray a n (M a.r)) (row TR b m (M b.r)) rd pt v t).1.2.2.1.length ≤ p.2) (fun p => .tup [(true, [.int .i64 (putO cap (row ByteArray a n (M a.r)) (row TR b m (M b.r)) rd pt v t).1.1, .sl ⟨.loc 0, 0, 0, 0⟩ (putO cap (row ByteArray a n (M a.r)) (row TR b m (M b.r)) rd pt v t).1.2.1.length p.1, .sl ⟨.loc 1, 0, 0, 0⟩ (putO cap (row ByteArray a n (M a.r)) (row TR b m (M b.r)) rd pt v t).1.2.2.1.length p.2, .int .i64 (putO cap (row ByteArray a n (M a.r)) (row TR b m (M b.r)) rd pt v t).1.2.2.2.1, .int .i64 (putO cap (row ByteArray a n (M a.r)) (row TR b m (M b.r)) rd pt v t).1.2.2.2.2]), (false, [.bool (putO cap (row ByteArray a n (M a.r)) (row TR b m (M b.r)) rd pt v t).2.2.2])]) (fun p => [rowG true 9 p.1 (putO cap (row ByteArray a n (M a.r)) (row TR b m (M b.r)) rd pt v t).1.2.1, rowG true 60 p.2 (putO cap (row ByteArray a n (M a.r)) (row TR b m (M b.r)) rd pt v t).1.2.2.1]) (fun _ => [])
  | _ => .bad⟩
theorem ok_impl_CachePut : fnP Try.prog c_impl_CachePut.f = true ∧ ∀ args M, (c_impl_CachePut.sp args M).OK Try.prog c_impl_CachePut.f args M := by
  refine ⟨fp_25, fun args M => ?_⟩
  unfold c_impl_CachePut
  dsimp only
  split
  case h_2 => trivial
  rename_i cap a n ca b m cb rd pt v t
  rintro ⟨ha, hc, hb, hd⟩
  obtain ⟨hs, D, hD, rfl, hat⟩ := ha.x
  obtain ⟨hs', R, hR, rfl, hbt⟩ := hb.x
  rw [hD, hR]
  refine goIn hf_25 rfl (nt := 38) rfl (rs := [.cell 6 25, .tmp 7]) rfl (C := [c_impl_CacheOk, c_impl_asks, c_impl_cloneCache, c_impl_ask]) ⟨(by first | exact .inl ok_impl_CacheOk | exact ok_impl_CacheOk), (by first | exact .inl ok_impl_asks | exact ok_impl_asks), (by first | exact .inl ok_impl_cloneCache | exact ok_impl_cloneCache), (by first | exact .inl ok_impl_ask | exact ok_impl_ask), trivial⟩ (q := fun _ => false) okQ_none mixed (O := fun _ => .nil) (by kernel_rfl) ?_
  by_cases hok : cacheOk cap D R rd pt
  · have hD20 : D.length = 20 := hok.1.2.1
    have hR6 : R.length ≤ 6 := by have := hok.1.2.2.1; have := hok.1.1; omega
    by_cases hmay : mayC rd pt v
    · have hm' : (0 ≤ v ∧ v ≤ 19) ∧ rd < 1000000 ∧ pt < 1000000 := hmay
      by_cases ht : t.size ≤ 20
      · have hO : putO cap D R rd pt v t = ((cap, (room cap D R pt v).1, (room cap D R pt v).2.1 ++ [(v, t, true)], rd, (room cap D R pt v).2.2.1), 0, ByteArray.empty, true) := by rw [putO, if_pos hok, if_pos ⟨hmay, ht⟩]
        rw [hO]
        have ht' : decide ((20 : Int) < (t.size : Int)) = false := by simp only [decide_eq_false_iff_not]; omega
        have hrl := room_len cap D R pt v
        obtain ⟨⟨E, Y, pt', r, was⟩, hRm⟩ : ∃ z, z = room cap D R pt v := ⟨_, rfl⟩
        rw [← hRm] at hrl ⊢
        have hA : ask cap D R rd pt v false = (cap, E, Y ++ [r], rd, pt') := by rw [ask, ← hRm]; simp
        dsimp only at hrl ⊢
        have hwl : IntKind.i64.wrap (((Y.length + 1 : Nat) : Int) - 1) = Y.length := by rw [w64 (by omega) (by omega)]; omega
        have hst : (List.map enc Y ++ [[AC.int .i64 r.1, AC.str r.2.1, AC.bool r.2.2]]).set Y.length [AC.int .i64 v, AC.str t, AC.bool true] = List.map enc Y ++ [[AC.int .i64 v, AC.str t, AC.bool true]] := by
          rw [List.set_append_right _ _ (by simp)]
          simp
        simp only [↓WP, ↓grdD, ↓grdT, ↓un_dead, ↓binVC, ↓buildVC, ↓sliceVC, WQ, WN, Int.reduceToNat, renl, cll, rent, clt, ↓reduceIte, Nat.reduceLeDiff, Nat.reduceEqDiff, Nat.reduceLT, reduceCtorEq, List.append_nil, Nat.reduceAdd, Nat.reduceSub, Nat.reduceBEq, forall_const, implies_true, cond_true, cond_false, AV.ren, AC.ren, AV.cl, AC.cl, eq_self, List.all_cons, List.all_nil, AV.eqv, AC.eqv, eqvl, eqvt, Sl.eqv, List.map_append, List.length_map, List.length_append, List.length_replicate, List.length_set, List.map_replicate, nilVC, zr_25, sz_25, fs_25, st_9, fl_25_2, sz_23, sd_23, zr_60, fs_60, el_23, sz_60, c_impl_CacheOk, c_impl_asks, c_impl_cloneCache, c_impl_ask, hD, hR, decide_eq_true hok, decide_eq_true hm', ht', hA, hwl, hst]
        repeat' (first | with_reducible refine And.intro ?_ ?_ | intro _)
        all_goals try omega
        all_goals try assumption
        all_goals try exact hm'.1.1
        rename_i p hp
        obtain ⟨k1, k2⟩ := p
        refine end_ret ?_
        simp only [↓WP, ↓grdD, ↓grdT, ↓un_dead, ↓binVC, ↓buildVC, ↓sliceVC, WQ, WN, Int.reduceToNat, renl, cll, rent, clt, ↓reduceIte, Nat.reduceLeDiff, Nat.reduceEqDiff, Nat.reduceLT, reduceCtorEq, List.append_nil, Nat.reduceAdd, Nat.reduceSub, Nat.reduceBEq, forall_const, implies_true, cond_true, cond_false, AV.ren, AC.ren, AV.cl, AC.cl, eq_self, List.all_cons, List.all_nil, AV.eqv, AC.eqv, eqvl, eqvt, Sl.eqv, List.map_append, List.length_map, List.length_append, List.length_replicate, List.length_set, List.map_replicate, nilVC, zr_25, sz_25, fs_25, st_9, fl_25_2, sz_23, sd_23, zr_60, fs_60, el_23, sz_60, c_impl_CacheOk, c_impl_asks, c_impl_cloneCache, c_impl_ask]
        refine ⟨(k1, k2), [], [2, 3], ?_⟩
        simp only [WL, WNL, swA_new, swA_ne, nest_sw_ne, mapLL, List.mem_cons, Nat.reduceAdd, Nat.reduceLT, Nat.reduceLeDiff, Nat.reduceEqDiff, okU, List.nodup_cons, List.not_mem_nil, toT, toL, toO, keysO, renl, rent, cll, clt, eq_self, AV.eqv, AC.eqv, eqvl, eqvt, Sl.eqv, rowsLe, mapLL, rowsCl, List.map_append, List.length_map, List.length_append, List.length_set, List.map_replicate, rowG, List.getElem?_cons_zero, List.getElem?_cons_succ, List.getElem?_nil, List.append_nil, List.nil_append, List.cons_append, ghosts, St.gh, Option.some.injEq, implies_true, setT, AV.ren, AC.ren, AV.cl, AC.cl, List.replicate_succ, List.replicate_zero, List.nodup_nil, List.length_nil, List.length_cons, List.getD_cons_zero, List.getD_cons_succ, ↓reduceIte, retP]
        simp at hp ⊢
        exact hp
      · have ht' : decide ((20 : Int) < (t.size : Int)) = true := by simp only [decide_eq_true_iff]; omega
        have hO : putO cap D R rd pt v t = ((cap, D, R, rd, pt), 0, ByteArray.empty, false) := by rw [putO, if_pos hok, if_neg fun h => ht h.2]
        rw [hO]
        simp only [↓WP, ↓grdD, ↓grdT, ↓un_dead, ↓binVC, ↓buildVC, ↓sliceVC, WQ, WN, Int.reduceToNat, renl, cll, rent, clt, ↓reduceIte, Nat.reduceLeDiff, Nat.reduceEqDiff, Nat.reduceLT, reduceCtorEq, List.append_nil, Nat.reduceAdd, Nat.reduceSub, Nat.reduceBEq, forall_const, implies_true, cond_true, cond_false, AV.ren, AC.ren, AV.cl, AC.cl, eq_self, List.all_cons, List.all_nil, AV.eqv, AC.eqv, eqvl, eqvt, Sl.eqv, List.map_append, List.length_map, List.length_append, List.length_replicate, List.length_set, List.map_replicate, nilVC, zr_25, sz_25, fs_25, st_9, fl_25_2, sz_23, sd_23, zr_60, fs_60, el_23, sz_60, c_impl_CacheOk, c_impl_asks, c_impl_cloneCache, c_impl_ask, hD, hR, decide_eq_true hok, decide_eq_true hm', ht']
        repeat' (first | with_reducible refine And.intro ?_ ?_ | intro _)
        all_goals try omega
        all_goals try assumption
        rename_i p hp
        obtain ⟨k1, k2⟩ := p
        refine end_ret ?_
        simp only [↓WP, ↓grdD, ↓grdT, ↓un_dead, ↓binVC, ↓buildVC, ↓sliceVC, WQ, WN, Int.reduceToNat, renl, cll, rent, clt, ↓reduceIte, Nat.reduceLeDiff, Nat.reduceEqDiff, Nat.reduceLT, reduceCtorEq, List.append_nil, Nat.reduceAdd, Nat.reduceSub, Nat.reduceBEq, forall_const, implies_true, cond_true, cond_false, AV.ren, AC.ren, AV.cl, AC.cl, eq_self, List.all_cons, List.all_nil, AV.eqv, AC.eqv, eqvl, eqvt, Sl.eqv, List.map_append, List.length_map, List.length_append, List.length_replicate, List.length_set, List.map_replicate, nilVC, zr_25, sz_25, fs_25, st_9, fl_25_2, sz_23, sd_23, zr_60, fs_60, el_23, sz_60, c_impl_CacheOk, c_impl_asks, c_impl_cloneCache, c_impl_ask]
        refine ⟨(k1, k2), [], [2, 3], ?_⟩
        simp only [WL, WNL, swA_new, swA_ne, nest_sw_ne, mapLL, List.mem_cons, Nat.reduceAdd, Nat.reduceLT, Nat.reduceLeDiff, Nat.reduceEqDiff, okU, List.nodup_cons, List.not_mem_nil, toT, toL, toO, keysO, renl, rent, cll, clt, eq_self, AV.eqv, AC.eqv, eqvl, eqvt, Sl.eqv, rowsLe, mapLL, rowsCl, List.map_append, List.length_map, List.length_append, List.length_set, List.map_replicate, rowG, List.getElem?_cons_zero, List.getElem?_cons_succ, List.getElem?_nil, List.append_nil, List.nil_append, List.cons_append, ghosts, St.gh, Option.some.injEq, implies_true, setT, AV.ren, AC.ren, AV.cl, AC.cl, List.replicate_succ, List.replicate_zero, List.nodup_nil, List.length_nil, List.length_cons, List.getD_cons_zero, List.getD_cons_succ, ↓reduceIte, retP]
        simp at hp ⊢
        first | exact hp | exact ⟨hp, rfl⟩
    · have hm' : ¬ ((0 ≤ v ∧ v ≤ 19) ∧ rd < 1000000 ∧ pt < 1000000) := hmay
      have hO : putO cap D R rd pt v t = ((cap, D, R, rd, pt), 0, ByteArray.empty, false) := by rw [putO, if_pos hok, if_neg fun h => hmay h.1]
      rw [hO]
      simp only [↓WP, ↓grdD, ↓grdT, ↓un_dead, ↓binVC, ↓buildVC, ↓sliceVC, WQ, WN, Int.reduceToNat, renl, cll, rent, clt, ↓reduceIte, Nat.reduceLeDiff, Nat.reduceEqDiff, Nat.reduceLT, reduceCtorEq, List.append_nil, Nat.reduceAdd, Nat.reduceSub, Nat.reduceBEq, forall_const, implies_true, cond_true, cond_false, AV.ren, AC.ren, AV.cl, AC.cl, eq_self, List.all_cons, List.all_nil, AV.eqv, AC.eqv, eqvl, eqvt, Sl.eqv, List.map_append, List.length_map, List.length_append, List.length_replicate, List.length_set, List.map_replicate, nilVC, zr_25, sz_25, fs_25, st_9, fl_25_2, sz_23, sd_23, zr_60, fs_60, el_23, sz_60, c_impl_CacheOk, c_impl_asks, c_impl_cloneCache, c_impl_ask, hD, hR, decide_eq_true hok, decide_eq_false hm']
      repeat' (first | with_reducible refine And.intro ?_ ?_ | intro _)
      all_goals try omega
      all_goals try assumption
      rename_i p hp
      obtain ⟨k1, k2⟩ := p
      refine end_ret ?_
      simp only [↓WP, ↓grdD, ↓grdT, ↓un_dead, ↓binVC, ↓buildVC, ↓sliceVC, WQ, WN, Int.reduceToNat, renl, cll, rent, clt, ↓reduceIte, Nat.reduceLeDiff, Nat.reduceEqDiff, Nat.reduceLT, reduceCtorEq, List.append_nil, Nat.reduceAdd, Nat.reduceSub, Nat.reduceBEq, forall_const, implies_true, cond_true, cond_false, AV.ren, AC.ren, AV.cl, AC.cl, eq_self, List.all_cons, List.all_nil, AV.eqv, AC.eqv, eqvl, eqvt, Sl.eqv, List.map_append, List.length_map, List.length_append, List.length_replicate, List.length_set, List.map_replicate, nilVC, zr_25, sz_25, fs_25, st_9, fl_25_2, sz_23, sd_23, zr_60, fs_60, el_23, sz_60, c_impl_CacheOk, c_impl_asks, c_impl_cloneCache, c_impl_ask]
      refine ⟨(k1, k2), [], [2, 3], ?_⟩
      simp only [WL, WNL, swA_new, swA_ne, nest_sw_ne, mapLL, List.mem_cons, Nat.reduceAdd, Nat.reduceLT, Nat.reduceLeDiff, Nat.reduceEqDiff, okU, List.nodup_cons, List.not_mem_nil, toT, toL, toO, keysO, renl, rent, cll, clt, eq_self, AV.eqv, AC.eqv, eqvl, eqvt, Sl.eqv, rowsLe, mapLL, rowsCl, List.map_append, List.length_map, List.length_append, List.length_set, List.map_replicate, rowG, List.getElem?_cons_zero, List.getElem?_cons_succ, List.getElem?_nil, List.append_nil, List.nil_append, List.cons_append, ghosts, St.gh, Option.some.injEq, implies_true, setT, AV.ren, AC.ren, AV.cl, AC.cl, List.replicate_succ, List.replicate_zero, List.nodup_nil, List.length_nil, List.length_cons, List.getD_cons_zero, List.getD_cons_succ, ↓reduceIte, retP]
      simp at hp ⊢
      first | exact hp | exact ⟨hp, rfl⟩
  · have hO : putO cap D R rd pt v t = ((0, [], [], 0, 0), 0, ByteArray.empty, false) := if_neg hok
    rw [hO]
    simp only [↓WP, ↓grdD, ↓grdT, ↓un_dead, ↓binVC, ↓buildVC, ↓sliceVC, WQ, WN, Int.reduceToNat, renl, cll, rent, clt, ↓reduceIte, Nat.reduceLeDiff, Nat.reduceEqDiff, Nat.reduceLT, reduceCtorEq, List.append_nil, Nat.reduceAdd, Nat.reduceSub, Nat.reduceBEq, forall_const, implies_true, cond_true, cond_false, AV.ren, AC.ren, AV.cl, AC.cl, eq_self, List.all_cons, List.all_nil, AV.eqv, AC.eqv, eqvl, eqvt, Sl.eqv, List.map_append, List.length_map, List.length_append, List.length_replicate, List.length_set, List.map_replicate, nilVC, zr_25, sz_25, fs_25, st_9, fl_25_2, sz_23, sd_23, zr_60, fs_60, el_23, sz_60, c_impl_CacheOk, c_impl_asks, c_impl_cloneCache, c_impl_ask, hD, hR, decide_eq_false hok]
    refine ⟨⟨ha, hb⟩, end_ret ?_⟩
    simp only [↓WP, ↓grdD, ↓grdT, ↓un_dead, ↓binVC, ↓buildVC, ↓sliceVC, WQ, WN, Int.reduceToNat, renl, cll, rent, clt, ↓reduceIte, Nat.reduceLeDiff, Nat.reduceEqDiff, Nat.reduceLT, reduceCtorEq, List.append_nil, Nat.reduceAdd, Nat.reduceSub, Nat.reduceBEq, forall_const, implies_true, cond_true, cond_false, AV.ren, AC.ren, AV.cl, AC.cl, eq_self, List.all_cons, List.all_nil, AV.eqv, AC.eqv, eqvl, eqvt, Sl.eqv, List.map_append, List.length_map, List.length_append, List.length_replicate, List.length_set, List.map_replicate, nilVC, zr_25, sz_25, fs_25, st_9, fl_25_2, sz_23, sd_23, zr_60, fs_60, el_23, sz_60, c_impl_CacheOk, c_impl_asks, c_impl_cloneCache, c_impl_ask]
    refine ⟨(0, 0), [(9, 1), (60, 3)], [2, 3], ?_⟩
    simp [WL, WNL, swA_new, swA_ne, nest_sw_ne, mapLL, List.mem_cons, Nat.reduceAdd, Nat.reduceLT, Nat.reduceLeDiff, Nat.reduceEqDiff, okU, List.nodup_cons, List.not_mem_nil, toT, toL, toO, keysO, renl, rent, cll, clt, eq_self, AV.eqv, AC.eqv, eqvl, eqvt, Sl.eqv, rowsLe, mapLL, rowsCl, List.map_append, List.length_map, List.length_append, List.length_set, List.map_replicate, rowG, List.getElem?_cons_zero, List.getElem?_cons_succ, List.getElem?_nil, List.append_nil, List.nil_append, List.cons_append, ghosts, St.gh, Option.some.injEq, implies_true, setT, AV.ren, AC.ren, AV.cl, AC.cl, List.replicate_succ, List.replicate_zero, List.nodup_nil, List.length_nil, List.length_cons, List.getD_cons_zero, List.getD_cons_succ, ↓reduceIte, retP]
    try rfl
end Go.Eng.T
