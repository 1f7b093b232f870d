/- cache: asking for a block. -/
import Derived.Test.YtnpgddgbkaojmaaFn11
set_option linter.unusedVariables false
set_option linter.unusedSimpArgs false
set_option linter.unusedSectionVars false
namespace Go.Eng.T
open Go.Proofs
open Cel (enc dec)
set_option maxRecDepth 100000
set_option maxHeartbeats 4000000
theorem win_one {z : List AC} : win (fun _ => z) 1 = [z] := by simp [win, List.range_succ]
theorem putAt_last {Z : List (List AC)} {z : List AC} {m : Nat} (hm : m + 1 = Z.length) : putAt Z m [z] = Z.take m ++ [z] := by
  rw [putAt_in (by omega), List.drop_eq_nil_of_le (by simp; omega), List.append_nil]
theorem putAt_del {Z : List (List AC)} {z : List AC} {m : Nat} (hm : m + 1 < Z.length) :
    putAt (putAt Z m (win (fun k => Z.getD (m + 1 + k) []) (Z.length - (m + 1)))) (Z.length - 1) [z] = Z.take m ++ Z.drop (m + 1) ++ [z] := by
  have hW : win (fun k => Z.getD (m + 1 + k) []) (Z.length - (m + 1)) = Z.drop (m + 1) := by
    rw [win_drop (by omega)]
    exact List.take_of_length_le (by rw [List.length_drop]; exact Nat.le_refl _)
  have h1 : putAt Z m (Z.drop (m + 1)) = (Z.take m ++ Z.drop (m + 1)) ++ Z.drop (m + (Z.drop (m + 1)).length) := putAt_in (by omega)
  have hl : (Z.take m ++ Z.drop (m + 1)).length = Z.length - 1 := by simp; omega
  have hl2 : (Z.drop (m + (Z.drop (m + 1)).length)).length = 1 := by simp; omega
  have e := putAt_in (L := Z.take m ++ Z.drop (m + 1) ++ Z.drop (m + (Z.drop (m + 1)).length)) (N := [z]) (j := Z.length - 1) (by rw [List.length_append, hl]; omega)
  have e2 : (Z.take m ++ Z.drop (m + 1) ++ Z.drop (m + (Z.drop (m + 1)).length)).take (Z.length - 1) = Z.take m ++ Z.drop (m + 1) := by rw [← hl]; exact List.take_left' rfl
  have e3 : (Z.take m ++ Z.drop (m + 1) ++ Z.drop (m + (Z.drop (m + 1)).length)).drop (Z.length - 1 + [z].length) = [] := List.drop_eq_nil_of_le (by rw [List.length_append, hl, hl2]; exact Nat.le_refl _)
  rw [hW, h1, e, e2, e3, List.append_nil]
def c_slices_Delete_Row : Contract := ⟨70, fun args M => match args with
  | [.c (.sl a n c), .c (.int .i64 i), .c (.int .i64 j)] => specR TR a n (M a.r) fun ty cap X => .eff (0 ≤ i ∧ i < n ∧ j = i + 1 ∧ n ≤ c ∧ c ≤ cap) Unit (fun _ => True) (fun _ => .c (.sl a.up (n - 1) c)) (fun _ => []) (fun _ => [(a.r, rowG true ty cap (X.take i.toNat ++ X.drop (i.toNat + 1) ++ [((0, ByteArray.empty, false) : TR)]))])
  | _ => .bad⟩
theorem ok_slices_Delete_Row : fnP Try.prog c_slices_Delete_Row.f = true ∧ ∀ args M, (c_slices_Delete_Row.sp args M).OK Try.prog c_slices_Delete_Row.f args M := by
  refine ⟨fp_70, fun args M => ?_⟩
  unfold c_slices_Delete_Row
  dsimp only
  split
  case h_2 => trivial
  rename_i a n c i j
  refine specR_cases fun ty cap X hM hX hlen hs hi0 hk0 hf0 => ?_
  rintro ⟨h1, h2, rfl, hc, hcap⟩
  subst hlen
  obtain ⟨m, rfl⟩ : ∃ m : Nat, i = m := ⟨i.toNat, by omega⟩
  obtain ⟨r, ai, ak, af⟩ := a
  dsimp only at hi0 hk0 hf0 hM
  subst hi0 hk0 hf0
  have hm : m < X.length := by omega
  refine goIn hf_70 rfl (nt := 33) rfl (rs := [.tmp 6]) rfl (C := []) trivial (q := fun f => [].contains f) trivial mixed (O := ots [(5, otl [0, 1, 3, 4] (.alt 2 (otl [5, 6, 7] .nil) (otl [5, 2, 6, 7] .nil)))]) (by kernel_rfl) ?_
  have htn : ((m : Int) + 1).toNat = m + 1 := by omega
  have hdec : decide ((m : Int) = (m : Int) + 1) = false := by simp only [decide_eq_false_iff_not]; omega
  rcases Nat.eq_zero_or_pos (X.length - (m + 1)) with hr | hr
  · have hx1 : X.length - m = 1 := by omega
    have hml : m + 1 = X.length := by omega
    have hm1 : X.length - 1 = m := by omega
    have hput : putAt (List.map enc X) m [[.int .i64 0, .str ByteArray.empty, .bool false]] = List.map enc (X.take m) ++ [[.int .i64 0, .str ByteArray.empty, .bool false]] := by
      rw [putAt_last (by simp; omega), List.map_take]
    have hdr : X.drop (m + 1) = [] := List.drop_eq_nil_of_le (by omega)
    simp only [↓WP, ↓grdD, ↓grdT, ↓un_dead, ↓binVC, ↓buildVC, ↓sliceVC, WQ, WN, Int.reduceToNat, renl, cll, rent, clt, ↓reduceIte, Nat.reduceLeDiff, Nat.reduceEqDiff, Nat.reduceLT, reduceCtorEq, List.append_nil, Nat.reduceAdd, Nat.reduceSub, Nat.reduceBEq, forall_const, implies_true, cond_true, cond_false, AV.ren, AC.ren, AV.cl, AC.cl, eq_self, List.all_cons, List.all_nil, AV.eqv, AC.eqv, eqvl, eqvt, Sl.eqv, List.map_append, List.length_map, List.length_append, List.length_replicate, List.length_set, List.map_replicate, nilVC, sd_23, el_23, zr_60, hM, htn, hdec, Nat.sub_zero, hr, hx1, win_one, hput, hdr]
    repeat' (first | with_reducible refine And.intro ?_ ?_ | intro _)
    all_goals try omega
    all_goals try rfl
    all_goals
      refine end_ret ?_
      simp only [↓WP, ↓grdD, ↓grdT, ↓un_dead, ↓binVC, ↓buildVC, ↓sliceVC, WQ, WN, Int.reduceToNat, renl, cll, rent, clt, ↓reduceIte, Nat.reduceLeDiff, Nat.reduceEqDiff, Nat.reduceLT, reduceCtorEq, List.append_nil, Nat.reduceAdd, Nat.reduceSub, Nat.reduceBEq, forall_const, implies_true, cond_true, cond_false, AV.ren, AC.ren, AV.cl, AC.cl, eq_self, List.all_cons, List.all_nil, AV.eqv, AC.eqv, eqvl, eqvt, Sl.eqv, List.map_append, List.length_map, List.length_append, List.length_replicate, List.length_set, List.map_replicate, nilVC, sd_23, el_23, zr_60]
      refine ⟨(), [], [], ?_⟩
      simp only [WL, WNL, swA_new, swA_ne, nest_sw_ne, mapLL, List.mem_cons, Nat.reduceAdd, Nat.reduceLT, Nat.reduceLeDiff, Nat.reduceEqDiff, okU, List.nodup_cons, List.not_mem_nil, toT, toL, toO, keysO, renl, rent, cll, clt, eq_self, AV.eqv, AC.eqv, eqvl, eqvt, Sl.eqv, rowsLe, mapLL, rowsCl, List.map_append, List.length_map, List.length_append, List.length_set, List.map_replicate, rowG, List.getElem?_cons_zero, List.getElem?_cons_succ, List.getElem?_nil, List.append_nil, List.nil_append, List.cons_append, ghosts, St.gh, Option.some.injEq, implies_true, setT, AV.ren, AC.ren, AV.cl, AC.cl, List.replicate_succ, List.replicate_zero, List.nodup_nil, List.length_nil, List.length_cons, List.getD_cons_zero, List.getD_cons_succ, ↓reduceIte, retP]
      simp [okU, hM, hm1]
  · have hr2 : X.length - (X.length - 1) = 1 := by omega
    have hml : m + (X.length - (m + 1)) = X.length - 1 := by omega
    have hput : putAt (putAt (List.map enc X) m (win (fun k => (List.map enc X).getD (m + 1 + k) []) (X.length - (m + 1)))) (X.length - 1) [[.int .i64 0, .str ByteArray.empty, .bool false]] = List.map enc (X.take m) ++ List.map enc (X.drop (m + 1)) ++ [[.int .i64 0, .str ByteArray.empty, .bool false]] := by
      have := putAt_del (Z := List.map enc X) (z := [.int .i64 0, .str ByteArray.empty, .bool false]) (m := m) (by simp; omega)
      rw [List.length_map] at this
      rw [this, List.map_take, List.map_drop]
    have hpl : (putAt (List.map enc X) m (win (fun k => (List.map enc X).getD (m + 1 + k) []) (X.length - (m + 1)))).length = X.length := by
      rw [putAt_in (by simp; omega)]
      simp [win_length]
      omega
    simp only [↓WP, ↓grdD, ↓grdT, ↓un_dead, ↓binVC, ↓buildVC, ↓sliceVC, WQ, WN, Int.reduceToNat, renl, cll, rent, clt, ↓reduceIte, Nat.reduceLeDiff, Nat.reduceEqDiff, Nat.reduceLT, reduceCtorEq, List.append_nil, Nat.reduceAdd, Nat.reduceSub, Nat.reduceBEq, forall_const, implies_true, cond_true, cond_false, AV.ren, AC.ren, AV.cl, AC.cl, eq_self, List.all_cons, List.all_nil, AV.eqv, AC.eqv, eqvl, eqvt, Sl.eqv, List.map_append, List.length_map, List.length_append, List.length_replicate, List.length_set, List.map_replicate, nilVC, sd_23, el_23, zr_60, hM, htn, hdec, Nat.sub_zero, hr2, hml, win_one, hput, hpl]
    repeat' (first | with_reducible refine And.intro ?_ ?_ | intro _)
    all_goals try omega
    all_goals try rfl
    all_goals
      refine end_ret ?_
      simp only [↓WP, ↓grdD, ↓grdT, ↓un_dead, ↓binVC, ↓buildVC, ↓sliceVC, WQ, WN, Int.reduceToNat, renl, cll, rent, clt, ↓reduceIte, Nat.reduceLeDiff, Nat.reduceEqDiff, Nat.reduceLT, reduceCtorEq, List.append_nil, Nat.reduceAdd, Nat.reduceSub, Nat.reduceBEq, forall_const, implies_true, cond_true, cond_false, AV.ren, AC.ren, AV.cl, AC.cl, eq_self, List.all_cons, List.all_nil, AV.eqv, AC.eqv, eqvl, eqvt, Sl.eqv, List.map_append, List.length_map, List.length_append, List.length_replicate, List.length_set, List.map_replicate, nilVC, sd_23, el_23, zr_60]
      refine ⟨(), [], [], ?_⟩
      simp only [WL, WNL, swA_new, swA_ne, nest_sw_ne, mapLL, List.mem_cons, Nat.reduceAdd, Nat.reduceLT, Nat.reduceLeDiff, Nat.reduceEqDiff, okU, List.nodup_cons, List.not_mem_nil, toT, toL, toO, keysO, renl, rent, cll, clt, eq_self, AV.eqv, AC.eqv, eqvl, eqvt, Sl.eqv, rowsLe, mapLL, rowsCl, List.map_append, List.length_map, List.length_append, List.length_set, List.map_replicate, rowG, List.getElem?_cons_zero, List.getElem?_cons_succ, List.getElem?_nil, List.append_nil, List.nil_append, List.cons_append, ghosts, St.gh, Option.some.injEq, implies_true, setT, AV.ren, AC.ren, AV.cl, AC.cl, List.replicate_succ, List.replicate_zero, List.nodup_nil, List.length_nil, List.length_cons, List.getD_cons_zero, List.getD_cons_succ, ↓reduceIte, retP]
      simp [okU, hM]

def c_impl_asks : Contract := ⟨52, fun args M => match args with
  | [.agg [.int .i64 _, .sl _ _ _, .sl _ _ _, .int .i64 rd, .int .i64 pt], .c (.int .i64 v)] => .pure True (Eng.B (decide ((0 ≤ v ∧ v ≤ 19) ∧ rd < 1000000 ∧ pt < 1000000)))
  | _ => .bad⟩
theorem ok_impl_asks : fnP Try.prog c_impl_asks.f = true ∧ ∀ args M, (c_impl_asks.sp args M).OK Try.prog c_impl_asks.f args M := by
  refine ⟨fp_52, fun args M => ?_⟩
  unfold c_impl_asks
  dsimp only
  split
  case h_2 => trivial
  rename_i cap a n ca b m cb rd pt v
  intro _
  refine goIn hf_52 rfl (nt := 17) rfl (rs := [.tmp 4]) rfl (C := [c_impl_in]) ⟨(by first | exact .inl ok_impl_in | exact ok_impl_in), trivial⟩ (q := fun _ => false) okQ_none mixed (O := fun _ => .nil) (by kernel_rfl) ?_
  simp only [↓WP, ↓grdD, ↓grdT, ↓un_dead, ↓binVC, ↓buildVC, ↓sliceVC, WQ, WN, Int.reduceToNat, renl, cll, rent, clt, ↓reduceIte, Nat.reduceLeDiff, Nat.reduceEqDiff, Nat.reduceLT, reduceCtorEq, List.append_nil, Nat.reduceAdd, Nat.reduceSub, Nat.reduceBEq, forall_const, implies_true, cond_true, cond_false, AV.ren, AC.ren, AV.cl, AC.cl, eq_self, List.all_cons, List.all_nil, AV.eqv, AC.eqv, eqvl, eqvt, Sl.eqv, List.map_append, List.length_map, List.length_append, List.length_replicate, List.length_set, List.map_replicate, nilVC, fl_25_3, sz_3, fl_25_4, c_impl_in]
  rw [Bool.eq_iff_iff]
  simp only [WB, eq_self]
  exact and_assoc
def c_spec_l30May : Contract := ⟨50, fun args M => match args with
  | [.agg [.int .i64 _, .sl _ n _, .sl _ _ _, .int .i64 rd, .int .i64 pt], .c (.int .i64 v)] => .pure (n = 20) (Eng.B (decide ((0 ≤ v ∧ v ≤ 19) ∧ rd < 1000000 ∧ pt < 1000000)))
  | _ => .bad⟩
theorem ok_spec_l30May : fnP Try.prog c_spec_l30May.f = true ∧ ∀ args M, (c_spec_l30May.sp args M).OK Try.prog c_spec_l30May.f args M := by
  refine ⟨fp_50, fun args M => ?_⟩
  unfold c_spec_l30May
  dsimp only
  split
  case h_2 => trivial
  rename_i cap a n ca b m cb rd pt v
  rintro rfl
  refine goIn hf_50 rfl (nt := 24) rfl (rs := [.tmp 4]) rfl (C := []) trivial (q := fun _ => false) okQ_none mixed (O := fun _ => .nil) (by kernel_rfl) ?_
  simp only [↓WP, ↓grdD, ↓grdT, ↓un_dead, ↓binVC, ↓buildVC, ↓sliceVC, WQ, WN, Int.reduceToNat, renl, cll, rent, clt, ↓reduceIte, Nat.reduceLeDiff, Nat.reduceEqDiff, Nat.reduceLT, reduceCtorEq, List.append_nil, Nat.reduceAdd, Nat.reduceSub, Nat.reduceBEq, forall_const, implies_true, cond_true, cond_false, AV.ren, AC.ren, AV.cl, AC.cl, eq_self, List.all_cons, List.all_nil, AV.eqv, AC.eqv, eqvl, eqvt, Sl.eqv, List.map_append, List.length_map, List.length_append, List.length_replicate, List.length_set, List.map_replicate, nilVC, fl_25_1, sz_22, sd_22, fl_25_3, sz_3, fl_25_4]
  rw [Bool.eq_iff_iff]
  simp only [WB, eq_self]
  constructor
  · rintro ⟨⟨⟨h1, h2⟩, h3⟩, h4⟩
    exact ⟨⟨h1, by omega⟩, h3, h4⟩
  · rintro ⟨⟨h1, h2⟩, h3, h4⟩
    exact ⟨⟨⟨h1, by omega⟩, h3⟩, h4⟩
/-! what is left where there is to be room for a block -/
def woR (R : List TR) (j : Nat) : List TR := R.take j ++ R.drop (j + 1)
theorem woR_len {R : List TR} {j : Nat} (h : j < R.length) : (woR R j).length = R.length - 1 := by simp [woR]; omega
def outD (D : List ByteArray) (R : List TR) : List ByteArray := if (R.getD 0 default).2.2 = true then D.set (R.getD 0 default).1.toNat (R.getD 0 default).2.1 else D
theorem outD_len (D : List ByteArray) (R : List TR) : (outD D R).length = D.length := by
  unfold outD
  split
  · rw [List.length_set]
  · rfl
def room (cap : Int) (D : List ByteArray) (R : List TR) (pt v : Int) : List ByteArray × List TR × Int × TR × Bool :=
  if 0 ≤ atR R v then (D, woR R (atR R v).toNat, pt, R.getD (atR R v).toNat default, true)
  else if cap ≤ R.length then (outD D R, woR R 0, if (R.getD 0 default).2.2 = true then pt + 1 else pt, (v, (outD D R).getD v.toNat default, false), false)
  else (D, R, pt, (v, D.getD v.toNat default, false), false)
def ask (cap : Int) (D : List ByteArray) (R : List TR) (rd pt v : Int) (read : Bool) : Int × List ByteArray × List TR × Int × Int :=
  (cap, (room cap D R pt v).1, (room cap D R pt v).2.1 ++ [(room cap D R pt v).2.2.2.1], if read = true ∧ (room cap D R pt v).2.2.2.2 = false then rd + 1 else rd, (room cap D R pt v).2.2.1)
def c_impl_ask : Contract := ⟨53, fun args M => match args with
  | [.agg [.int .i64 cap, .sl a n ca, .sl b m cb, .int .i64 rd, .int .i64 pt], .c (.int .i64 v), .c (.bool read)] => .eff ((RowOk ByteArray a n (M a.r) ∧ n ≤ ca ∧ RowOk TR b m (M b.r) ∧ m ≤ cb) ∧ cacheOk cap (row ByteArray a n (M a.r)) (row TR b m (M b.r)) rd pt ∧ (0 ≤ v ∧ v ≤ 19) ∧ rd < 1000000 ∧ pt < 1000000) (Nat × Nat) (fun p => (ask cap (row ByteArray a n (M a.r)) (row TR b m (M b.r)) rd pt v read).2.1.length ≤ p.1 ∧ (ask cap (row ByteArray a n (M a.r)) (row TR b m (M b.r)) rd pt v read).2.2.1.length ≤ p.2) (fun p => .agg [.int .i64 (ask cap (row ByteArray a n (M a.r)) (row TR b m (M b.r)) rd pt v read).1, .sl ⟨.loc 0, 0, 0, 0⟩ (ask cap (row ByteArray a n (M a.r)) (row TR b m (M b.r)) rd pt v read).2.1.length p.1, .sl ⟨.loc 1, 0, 0, 0⟩ (ask cap (row ByteArray a n (M a.r)) (row TR b m (M b.r)) rd pt v read).2.2.1.length p.2, .int .i64 (ask cap (row ByteArray a n (M a.r)) (row TR b m (M b.r)) rd pt v read).2.2.2.1, .int .i64 (ask cap (row ByteArray a n (M a.r)) (row TR b m (M b.r)) rd pt v read).2.2.2.2]) (fun p => [rowG true 9 p.1 (ask cap (row ByteArray a n (M a.r)) (row TR b m (M b.r)) rd pt v read).2.1, rowG true 60 p.2 (ask cap (row ByteArray a n (M a.r)) (row TR b m (M b.r)) rd pt v read).2.2.1]) (fun _ => [])
  | _ => .bad⟩
theorem ok_impl_ask : fnP Try.prog c_impl_ask.f = true ∧ ∀ args M, (c_impl_ask.sp args M).OK Try.prog c_impl_ask.f args M := by
  refine ⟨fp_53, fun args M => ?_⟩
  unfold c_impl_ask
  dsimp only
  split
  case h_2 => trivial
  rename_i cap a n ca b m cb rd pt v read
  rintro ⟨⟨ha, hc, hb, hd⟩, hok, hv, hrd, hpt⟩
  obtain ⟨hs, D, hD, rfl, hat⟩ := ha.x
  obtain ⟨hs', R, hR, rfl, hbt⟩ := hb.x
  rw [hD, hR] at hok ⊢
  refine goIn hf_53 rfl (nt := 77) rfl (rs := [.cell 6 25]) rfl (C := [c_impl_cloneCache, c_impl_rowAt, c_slices_Delete_Row]) ⟨(by first | exact .inl ok_impl_cloneCache | exact ok_impl_cloneCache), (by first | exact .inl ok_impl_rowAt | exact ok_impl_rowAt), (by first | exact .inl ok_slices_Delete_Row | exact ok_slices_Delete_Row), trivial⟩ (q := fun f => [].contains f) ⟨fun h => absurd h (by decide), fun h => absurd h (by decide), fun h => absurd h (by decide), trivial⟩ mixed (O := ots [(4, otl [0, 2, 3, 4, 6, 8] (.gob 1 (otl [] (.alt 5 (otl [] (.gob 7 (otl [9, 10, 11, 12, 13, 14] .nil))) (otl [7] (.alt 5 (otl [9, 10, 11, 12, 13, 14] .nil) (otl [9] (.alt 5 (otl [10, 11, 12, 13, 14] .nil) (otl [10] (.alt 5 (otl [11, 12, 13, 14] .nil) (otl [11, 5, 12, 13, 14] .nil))))))))))), (12, otl [0, 1, 2, 3, 5] (.gob 4 (otl [6, 7, 8, 9, 10, 11, 12] .nil)))]) (by kernel_rfl) ?_
  have hD20 : D.length = 20 := hok.1.2.1
  have hR6 : (R.length : Int) ≤ cap := hok.1.2.2.1
  have hcap := hok.1.1
  have hwrd : IntKind.i64.wrap (rd + 1) = rd + 1 := w64 (by have := hok.1.2.2.2.1; omega) (by omega)
  have hwpt : IntKind.i64.wrap (pt + 1) = pt + 1 := w64 (by have := hok.1.2.2.2.2; omega) (by omega)
  obtain ⟨j, hj⟩ : ∃ j, j = atR R v := ⟨_, rfl⟩
  have hjr := atR_range R v
  rw [← hj] at hjr
  by_cases h0 : 0 ≤ j
  · obtain ⟨m, rfl⟩ : ∃ m : Nat, j = m := ⟨j.toNat, by omega⟩
    have hA : ask cap D R rd pt v read = (cap, D, woR R m ++ [R.getD m default], rd, pt) := by
      have : room cap D R pt v = (D, woR R m, pt, R.getD m default, true) := by rw [room, ← hj, if_pos h0, Int.toNat_natCast]
      rw [ask, this]; simp
    have hm : m < R.length := by omega
    obtain ⟨own, ty, cnt, cap1, len, get, hM, hf, hic, hkn, hget⟩ := hbt (by omega)
    have hwm := wS (i := m) (by omega)
    have hb' := hb
    have hR' := hR
    rw [hM] at hb' hR'
    have hXu : row TR b.up R.length (some (Rg.arr own ty 3 cnt cap1 len fun i k => List.map AC.up (get i k))) = R := (row_up (α := TR) (a := b) (n := R.length) (o := some (.arr own ty (Cel.sz TR) cnt cap1 len get))).trans hR'
    have hRu : RowOk TR b.up R.length (some (Rg.arr own ty 3 cnt cap1 len fun i k => List.map AC.up (get i k))) := (RowOk_up (α := TR) (a := b) (n := R.length) (o := some (.arr own ty (Cel.sz TR) cnt cap1 len get))).mpr hb'
    have hwo := woR_len hm
    have hwd : woR R m = R.take m ++ R.drop (m + 1) := rfl
    have h11 : R.length - 1 + 1 = R.length := by omega
    have hput : putAt (List.map enc (List.take m R) ++ List.map enc (List.drop (m + 1) R) ++ [[AC.int .i64 0, AC.str ByteArray.empty, AC.bool false]]) (R.length - 1) [[AC.int .i64 (R.getD m default).1, AC.str (R.getD m default).2.1, AC.bool (R.getD m default).2.2]] = List.map enc (List.take m R) ++ List.map enc (List.drop (m + 1) R) ++ [[AC.int .i64 (R.getD m default).1, AC.str (R.getD m default).2.1, AC.bool (R.getD m default).2.2]] := by
      rw [putAt_last (by simp; omega), List.take_left' (by simp; omega)]
    rw [hA]
    simp only [↓WP, ↓grdD, ↓grdT, ↓un_dead, ↓binVC, ↓buildVC, ↓sliceVC, WQ, WN, Int.reduceToNat, renl, cll, rent, clt, ↓reduceIte, Nat.reduceLeDiff, Nat.reduceEqDiff, Nat.reduceLT, reduceCtorEq, List.append_nil, Nat.reduceAdd, Nat.reduceSub, Nat.reduceBEq, forall_const, implies_true, cond_true, cond_false, AV.ren, AC.ren, AV.cl, AC.cl, eq_self, List.all_cons, List.all_nil, AV.eqv, AC.eqv, eqvl, eqvt, Sl.eqv, List.map_append, List.length_map, List.length_append, List.length_replicate, List.length_set, List.map_replicate, nilVC, zr_25, sz_25, fl_25_2, sz_23, el_23, sz_60, zr_60, sd_23, fl_25_0, sz_3, fl_60_2, sz_4, fl_25_1, sz_22, fl_60_0, fl_60_1, sz_9, el_22, fl_25_4, fs_60, fl_25_3, c_impl_cloneCache, c_impl_rowAt, c_slices_Delete_Row, hD, hM, hf, hXu, hRu, ← hj, decide_eq_true h0, hwm, hget m hm, hput]
    repeat' (first | with_reducible refine And.intro ?_ ?_ | intro _)
    all_goals try omega
    all_goals try assumption
    all_goals try (simp; omega)
    all_goals
      rename_i p hp _
      obtain ⟨k1, k2⟩ := p
      refine end_ret ?_
      simp only [↓WP, ↓grdD, ↓grdT, ↓un_dead, ↓binVC, ↓buildVC, ↓sliceVC, WQ, WN, Int.reduceToNat, renl, cll, rent, clt, ↓reduceIte, Nat.reduceLeDiff, Nat.reduceEqDiff, Nat.reduceLT, reduceCtorEq, List.append_nil, Nat.reduceAdd, Nat.reduceSub, Nat.reduceBEq, forall_const, implies_true, cond_true, cond_false, AV.ren, AC.ren, AV.cl, AC.cl, eq_self, List.all_cons, List.all_nil, AV.eqv, AC.eqv, eqvl, eqvt, Sl.eqv, List.map_append, List.length_map, List.length_append, List.length_replicate, List.length_set, List.map_replicate, nilVC, zr_25, sz_25, fl_25_2, sz_23, el_23, sz_60, zr_60, sd_23, fl_25_0, sz_3, fl_60_2, sz_4, fl_25_1, sz_22, fl_60_0, fl_60_1, sz_9, el_22, fl_25_4, fs_60, fl_25_3, c_impl_cloneCache, c_impl_rowAt, c_slices_Delete_Row, h11]
      refine ⟨(k1, k2), [], [2, 3], ?_⟩
      simp only [WL, WNL, swA_new, swA_ne, nest_sw_ne, mapLL, List.mem_cons, Nat.reduceAdd, Nat.reduceLT, Nat.reduceLeDiff, Nat.reduceEqDiff, okU, List.nodup_cons, List.not_mem_nil, toT, toL, toO, keysO, renl, rent, cll, clt, eq_self, AV.eqv, AC.eqv, eqvl, eqvt, Sl.eqv, rowsLe, mapLL, rowsCl, List.map_append, List.length_map, List.length_append, List.length_set, List.map_replicate, rowG, List.getElem?_cons_zero, List.getElem?_cons_succ, List.getElem?_nil, List.append_nil, List.nil_append, List.cons_append, ghosts, St.gh, Option.some.injEq, implies_true, setT, AV.ren, AC.ren, AV.cl, AC.cl, List.replicate_succ, List.replicate_zero, List.nodup_nil, List.length_nil, List.length_cons, List.getD_cons_zero, List.getD_cons_succ, ↓reduceIte, retP]
      simp [hwd] at hp ⊢
      omega
  · have h0f : decide (0 ≤ j) = false := decide_eq_false h0
    have hgDv : ∀ X : List ByteArray, X.length = 20 → (List.map enc X).getD v.toNat [] = enc (X.getD v.toNat default) := fun X h => getD_enc _ _ (by omega)
    by_cases hfull : cap ≤ R.length
    · have hRp : 0 < R.length := by omega
      obtain ⟨own, ty, cnt, cap1, len, get, hM, hf, hic, hkn, hget⟩ := hbt hRp
      have hb' := hb
      have hR' := hR
      rw [hM] at hb' hR'
      have hXu : row TR b.up R.length (some (Rg.arr own ty 3 cnt cap1 len fun i k => List.map AC.up (get i k))) = R := (row_up (α := TR) (a := b) (n := R.length) (o := some (.arr own ty (Cel.sz TR) cnt cap1 len get))).trans hR'
      have hRu : RowOk TR b.up R.length (some (Rg.arr own ty 3 cnt cap1 len fun i k => List.map AC.up (get i k))) := (RowOk_up (α := TR) (a := b) (n := R.length) (o := some (.arr own ty (Cel.sz TR) cnt cap1 len get))).mpr hb'
      have hfe : decide ((R.length : Int) = cap) = true := by simp only [decide_eq_true_iff]; omega
      have hb0 := (hok.2.2 0 hRp).1
      have hw01 : IntKind.i64.wrap (0 + 1) = 1 := w64 (by omega) (by omega)
      have hgR0 : (List.map enc R).getD 0 [] = enc (R.getD 0 default) := getD_enc _ _ hRp
      have hwo := woR_len hRp
      have hwd : woR R 0 = R.drop 1 := rfl
      have h11 : R.length - 1 + 1 = R.length := by omega
      by_cases hdy : (R.getD 0 default).2.2 = true
      · have hoD : outD D R = D.set (R.getD 0 default).1.toNat (R.getD 0 default).2.1 := if_pos hdy
        have hA : ask cap D R rd pt v read = (cap, D.set (R.getD 0 default).1.toNat (R.getD 0 default).2.1, woR R 0 ++ [(v, (D.set (R.getD 0 default).1.toNat (R.getD 0 default).2.1).getD v.toNat default, false)], if read = true then rd + 1 else rd, pt + 1) := by
          have : room cap D R pt v = (outD D R, woR R 0, pt + 1, (v, (outD D R).getD v.toNat default, false), false) := by rw [room, ← hj, if_neg h0, if_pos hfull, if_pos hdy]
          rw [ask, this, hoD]; simp
        obtain ⟨E, hE⟩ : ∃ E, E = D.set (R.getD 0 default).1.toNat (R.getD 0 default).2.1 := ⟨_, rfl⟩
        have hEl : E.length = 20 := by rw [hE, List.length_set, hD20]
        have hEm : (List.map enc D).set (R.getD 0 default).1.toNat [AC.str (R.getD 0 default).2.1] = List.map enc E := by rw [hE, List.map_set, enc_str]
        rw [hA, ← hE]
        have hput : putAt (List.map enc (List.drop 1 R) ++ [[AC.int .i64 0, AC.str ByteArray.empty, AC.bool false]]) (R.length - 1) [[AC.int .i64 v, AC.str (E.getD v.toNat default), AC.bool false]] = List.map enc (List.drop 1 R) ++ [[AC.int .i64 v, AC.str (E.getD v.toNat default), AC.bool false]] := by
          rw [putAt_last (by simp <;> omega), List.take_left' (by simp)]
        cases read <;> simp only [↓WP, ↓grdD, ↓grdT, ↓un_dead, ↓binVC, ↓buildVC, ↓sliceVC, WQ, WN, Int.reduceToNat, renl, cll, rent, clt, ↓reduceIte, Nat.reduceLeDiff, Nat.reduceEqDiff, Nat.reduceLT, reduceCtorEq, List.append_nil, Nat.reduceAdd, Nat.reduceSub, Nat.reduceBEq, forall_const, implies_true, cond_true, cond_false, AV.ren, AC.ren, AV.cl, AC.cl, eq_self, List.all_cons, List.all_nil, AV.eqv, AC.eqv, eqvl, eqvt, Sl.eqv, List.map_append, List.length_map, List.length_append, List.length_replicate, List.length_set, List.map_replicate, nilVC, zr_25, sz_25, fl_25_2, sz_23, el_23, sz_60, zr_60, sd_23, fl_25_0, sz_3, fl_60_2, sz_4, fl_25_1, sz_22, fl_60_0, fl_60_1, sz_9, el_22, fl_25_4, fs_60, fl_25_3, c_impl_cloneCache, c_impl_rowAt, c_slices_Delete_Row, hD, hM, hf, hXu, hRu, ← hj, h0f, hfe, hdy, hw01, hgR0, hwpt, hwrd, hEm, hgDv E hEl, hput]
        all_goals
          repeat' (first | with_reducible refine And.intro ?_ ?_ | intro _)
          all_goals try omega
          all_goals try assumption
          all_goals try (simp; done)
          all_goals
            rename_i p hp _
            obtain ⟨k1, k2⟩ := p
            refine end_ret ?_
            simp only [↓WP, ↓grdD, ↓grdT, ↓un_dead, ↓binVC, ↓buildVC, ↓sliceVC, WQ, WN, Int.reduceToNat, renl, cll, rent, clt, ↓reduceIte, Nat.reduceLeDiff, Nat.reduceEqDiff, Nat.reduceLT, reduceCtorEq, List.append_nil, Nat.reduceAdd, Nat.reduceSub, Nat.reduceBEq, forall_const, implies_true, cond_true, cond_false, AV.ren, AC.ren, AV.cl, AC.cl, eq_self, List.all_cons, List.all_nil, AV.eqv, AC.eqv, eqvl, eqvt, Sl.eqv, List.map_append, List.length_map, List.length_append, List.length_replicate, List.length_set, List.map_replicate, nilVC, zr_25, sz_25, fl_25_2, sz_23, el_23, sz_60, zr_60, sd_23, fl_25_0, sz_3, fl_60_2, sz_4, fl_25_1, sz_22, fl_60_0, fl_60_1, sz_9, el_22, fl_25_4, fs_60, fl_25_3, c_impl_cloneCache, c_impl_rowAt, c_slices_Delete_Row, h11]
            refine ⟨(k1, k2), [], [2, 3], ?_⟩
            simp only [WL, WNL, swA_new, swA_ne, nest_sw_ne, mapLL, List.mem_cons, Nat.reduceAdd, Nat.reduceLT, Nat.reduceLeDiff, Nat.reduceEqDiff, okU, List.nodup_cons, List.not_mem_nil, toT, toL, toO, keysO, renl, rent, cll, clt, eq_self, AV.eqv, AC.eqv, eqvl, eqvt, Sl.eqv, rowsLe, mapLL, rowsCl, List.map_append, List.length_map, List.length_append, List.length_set, List.map_replicate, rowG, List.getElem?_cons_zero, List.getElem?_cons_succ, List.getElem?_nil, List.append_nil, List.nil_append, List.cons_append, ghosts, St.gh, Option.some.injEq, implies_true, setT, AV.ren, AC.ren, AV.cl, AC.cl, List.replicate_succ, List.replicate_zero, List.nodup_nil, List.length_nil, List.length_cons, List.getD_cons_zero, List.getD_cons_succ, ↓reduceIte, retP]
            simp [hwd] at hp ⊢
            omega
      · have hdy : (R.getD 0 default).2.2 = false := by simpa using hdy
        have hoD : outD D R = D := if_neg (by rw [hdy]; simp)
        have hA : ask cap D R rd pt v read = (cap, D, woR R 0 ++ [(v, D.getD v.toNat default, false)], if read = true then rd + 1 else rd, pt) := by
          have : room cap D R pt v = (outD D R, woR R 0, pt, (v, (outD D R).getD v.toNat default, false), false) := by rw [room, ← hj, if_neg h0, if_pos hfull, if_neg (by rw [hdy]; simp)]
          rw [ask, this, hoD]; simp
        rw [hA]
        have hput : putAt (List.map enc (List.drop 1 R) ++ [[AC.int .i64 0, AC.str ByteArray.empty, AC.bool false]]) (R.length - 1) [[AC.int .i64 v, AC.str (D.getD v.toNat default), AC.bool false]] = List.map enc (List.drop 1 R) ++ [[AC.int .i64 v, AC.str (D.getD v.toNat default), AC.bool false]] := by
          rw [putAt_last (by simp <;> omega), List.take_left' (by simp)]
        cases read <;> simp only [↓WP, ↓grdD, ↓grdT, ↓un_dead, ↓binVC, ↓buildVC, ↓sliceVC, WQ, WN, Int.reduceToNat, renl, cll, rent, clt, ↓reduceIte, Nat.reduceLeDiff, Nat.reduceEqDiff, Nat.reduceLT, reduceCtorEq, List.append_nil, Nat.reduceAdd, Nat.reduceSub, Nat.reduceBEq, forall_const, implies_true, cond_true, cond_false, AV.ren, AC.ren, AV.cl, AC.cl, eq_self, List.all_cons, List.all_nil, AV.eqv, AC.eqv, eqvl, eqvt, Sl.eqv, List.map_append, List.length_map, List.length_append, List.length_replicate, List.length_set, List.map_replicate, nilVC, zr_25, sz_25, fl_25_2, sz_23, el_23, sz_60, zr_60, sd_23, fl_25_0, sz_3, fl_60_2, sz_4, fl_25_1, sz_22, fl_60_0, fl_60_1, sz_9, el_22, fl_25_4, fs_60, fl_25_3, c_impl_cloneCache, c_impl_rowAt, c_slices_Delete_Row, hD, hM, hf, hXu, hRu, ← hj, h0f, hfe, hdy, hw01, hgR0, hwpt, hwrd, hgDv D hD20, hput]
        all_goals
          repeat' (first | with_reducible refine And.intro ?_ ?_ | intro _)
          all_goals try omega
          all_goals try assumption
          all_goals try (simp; done)
          all_goals
            rename_i p hp _
            obtain ⟨k1, k2⟩ := p
            refine end_ret ?_
            simp only [↓WP, ↓grdD, ↓grdT, ↓un_dead, ↓binVC, ↓buildVC, ↓sliceVC, WQ, WN, Int.reduceToNat, renl, cll, rent, clt, ↓reduceIte, Nat.reduceLeDiff, Nat.reduceEqDiff, Nat.reduceLT, reduceCtorEq, List.append_nil, Nat.reduceAdd, Nat.reduceSub, Nat.reduceBEq, forall_const, implies_true, cond_true, cond_false, AV.ren, AC.ren, AV.cl, AC.cl, eq_self, List.all_cons, List.all_nil, AV.eqv, AC.eqv, eqvl, eqvt, Sl.eqv, List.map_append, List.length_map, List.length_append, List.length_replicate, List.length_set, List.map_replicate, nilVC, zr_25, sz_25, fl_25_2, sz_23, el_23, sz_60, zr_60, sd_23, fl_25_0, sz_3, fl_60_2, sz_4, fl_25_1, sz_22, fl_60_0, fl_60_1, sz_9, el_22, fl_25_4, fs_60, fl_25_3, c_impl_cloneCache, c_impl_rowAt, c_slices_Delete_Row, h11]
            refine ⟨(k1, k2), [], [2, 3], ?_⟩
            simp only [WL, WNL, swA_new, swA_ne, nest_sw_ne, mapLL, List.mem_cons, Nat.reduceAdd, Nat.reduceLT, Nat.reduceLeDiff, Nat.reduceEqDiff, okU, List.nodup_cons, List.not_mem_nil, toT, toL, toO, keysO, renl, rent, cll, clt, eq_self, AV.eqv, AC.eqv, eqvl, eqvt, Sl.eqv, rowsLe, mapLL, rowsCl, List.map_append, List.length_map, List.length_append, List.length_set, List.map_replicate, rowG, List.getElem?_cons_zero, List.getElem?_cons_succ, List.getElem?_nil, List.append_nil, List.nil_append, List.cons_append, ghosts, St.gh, Option.some.injEq, implies_true, setT, AV.ren, AC.ren, AV.cl, AC.cl, List.replicate_succ, List.replicate_zero, List.nodup_nil, List.length_nil, List.length_cons, List.getD_cons_zero, List.getD_cons_succ, ↓reduceIte, retP]
            simp [hwd] at hp ⊢
            omega
    · have hfe : decide ((R.length : Int) = cap) = false := by simp only [decide_eq_false_iff_not]; omega
      have hA : ask cap D R rd pt v read = (cap, D, R ++ [(v, D.getD v.toNat default, false)], if read = true then rd + 1 else rd, pt) := by
        have : room cap D R pt v = (D, R, pt, (v, D.getD v.toNat default, false), false) := by rw [room, ← hj, if_neg h0, if_neg hfull]
        rw [ask, this]; simp
      rw [hA]
      have hput : putAt (List.map enc R) R.length [[AC.int .i64 v, AC.str (D.getD v.toNat default), AC.bool false]] = List.map enc R ++ [[AC.int .i64 v, AC.str (D.getD v.toNat default), AC.bool false]] := putAt_end (by rw [List.length_map])
      cases read <;> simp only [↓WP, ↓grdD, ↓grdT, ↓un_dead, ↓binVC, ↓buildVC, ↓sliceVC, WQ, WN, Int.reduceToNat, renl, cll, rent, clt, ↓reduceIte, Nat.reduceLeDiff, Nat.reduceEqDiff, Nat.reduceLT, reduceCtorEq, List.append_nil, Nat.reduceAdd, Nat.reduceSub, Nat.reduceBEq, forall_const, implies_true, cond_true, cond_false, AV.ren, AC.ren, AV.cl, AC.cl, eq_self, List.all_cons, List.all_nil, AV.eqv, AC.eqv, eqvl, eqvt, Sl.eqv, List.map_append, List.length_map, List.length_append, List.length_replicate, List.length_set, List.map_replicate, nilVC, zr_25, sz_25, fl_25_2, sz_23, el_23, sz_60, zr_60, sd_23, fl_25_0, sz_3, fl_60_2, sz_4, fl_25_1, sz_22, fl_60_0, fl_60_1, sz_9, el_22, fl_25_4, fs_60, fl_25_3, c_impl_cloneCache, c_impl_rowAt, c_slices_Delete_Row, hD, hR, ← hj, h0f, hfe, hwrd, hgDv D hD20, hput]
      all_goals
        repeat' (first | with_reducible refine And.intro ?_ ?_ | intro _)
        all_goals try omega
        all_goals try assumption
        all_goals try (simp; done)
        · rename_i p hp _
          obtain ⟨k1, k2⟩ := p
          refine end_ret ?_
          simp only [↓WP, ↓grdD, ↓grdT, ↓un_dead, ↓binVC, ↓buildVC, ↓sliceVC, WQ, WN, Int.reduceToNat, renl, cll, rent, clt, ↓reduceIte, Nat.reduceLeDiff, Nat.reduceEqDiff, Nat.reduceLT, reduceCtorEq, List.append_nil, Nat.reduceAdd, Nat.reduceSub, Nat.reduceBEq, forall_const, implies_true, cond_true, cond_false, AV.ren, AC.ren, AV.cl, AC.cl, eq_self, List.all_cons, List.all_nil, AV.eqv, AC.eqv, eqvl, eqvt, Sl.eqv, List.map_append, List.length_map, List.length_append, List.length_replicate, List.length_set, List.map_replicate, nilVC, zr_25, sz_25, fl_25_2, sz_23, el_23, sz_60, zr_60, sd_23, fl_25_0, sz_3, fl_60_2, sz_4, fl_25_1, sz_22, fl_60_0, fl_60_1, sz_9, el_22, fl_25_4, fs_60, fl_25_3, c_impl_cloneCache, c_impl_rowAt, c_slices_Delete_Row]
          refine ⟨(k1, k2), [], [2, 3], ?_⟩
          simp only [WL, WNL, swA_new, swA_ne, nest_sw_ne, mapLL, List.mem_cons, Nat.reduceAdd, Nat.reduceLT, Nat.reduceLeDiff, Nat.reduceEqDiff, okU, List.nodup_cons, List.not_mem_nil, toT, toL, toO, keysO, renl, rent, cll, clt, eq_self, AV.eqv, AC.eqv, eqvl, eqvt, Sl.eqv, rowsLe, mapLL, rowsCl, List.map_append, List.length_map, List.length_append, List.length_set, List.map_replicate, rowG, List.getElem?_cons_zero, List.getElem?_cons_succ, List.getElem?_nil, List.append_nil, List.nil_append, List.cons_append, ghosts, St.gh, Option.some.injEq, implies_true, setT, AV.ren, AC.ren, AV.cl, AC.cl, List.replicate_succ, List.replicate_zero, List.nodup_nil, List.length_nil, List.length_cons, List.getD_cons_zero, List.getD_cons_succ, ↓reduceIte, retP]
          simp at hp ⊢
          omega
        · rename_i p hp _ k3 hk3 _
          obtain ⟨k1, k2⟩ := p
          refine end_ret ?_
          simp only [↓WP, ↓grdD, ↓grdT, ↓un_dead, ↓binVC, ↓buildVC, ↓sliceVC, WQ, WN, Int.reduceToNat, renl, cll, rent, clt, ↓reduceIte, Nat.reduceLeDiff, Nat.reduceEqDiff, Nat.reduceLT, reduceCtorEq, List.append_nil, Nat.reduceAdd, Nat.reduceSub, Nat.reduceBEq, forall_const, implies_true, cond_true, cond_false, AV.ren, AC.ren, AV.cl, AC.cl, eq_self, List.all_cons, List.all_nil, AV.eqv, AC.eqv, eqvl, eqvt, Sl.eqv, List.map_append, List.length_map, List.length_append, List.length_replicate, List.length_set, List.map_replicate, nilVC, zr_25, sz_25, fl_25_2, sz_23, el_23, sz_60, zr_60, sd_23, fl_25_0, sz_3, fl_60_2, sz_4, fl_25_1, sz_22, fl_60_0, fl_60_1, sz_9, el_22, fl_25_4, fs_60, fl_25_3, c_impl_cloneCache, c_impl_rowAt, c_slices_Delete_Row]
          refine ⟨(k1, k3), [], [2, 6], ?_⟩
          simp only [WL, WNL, swA_new, swA_ne, nest_sw_ne, mapLL, List.mem_cons, Nat.reduceAdd, Nat.reduceLT, Nat.reduceLeDiff, Nat.reduceEqDiff, okU, List.nodup_cons, List.not_mem_nil, toT, toL, toO, keysO, renl, rent, cll, clt, eq_self, AV.eqv, AC.eqv, eqvl, eqvt, Sl.eqv, rowsLe, mapLL, rowsCl, List.map_append, List.length_map, List.length_append, List.length_set, List.map_replicate, rowG, List.getElem?_cons_zero, List.getElem?_cons_succ, List.getElem?_nil, List.append_nil, List.nil_append, List.cons_append, ghosts, St.gh, Option.some.injEq, implies_true, setT, AV.ren, AC.ren, AV.cl, AC.cl, List.replicate_succ, List.replicate_zero, List.nodup_nil, List.length_nil, List.length_cons, List.getD_cons_zero, List.getD_cons_succ, ↓reduceIte, retP]
          simp at hp ⊢
          omega
end Go.Eng.T
