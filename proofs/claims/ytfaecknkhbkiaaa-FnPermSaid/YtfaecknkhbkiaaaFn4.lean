/- CONTRACTS: ShowMode. -/
import Derived.Test.YtfaecknkhbkiaaaFn3
set_option linter.unusedVariables false
set_option linter.unusedSimpArgs false
set_option linter.unusedSectionVars false
namespace Go.Eng.T
open Go.Proofs
open Cel (enc dec)
set_option maxRecDepth 100000
set_option maxHeartbeats 4000000

/-- the sign at place k -/
def sgn (b : Int) (k : Nat) : UInt8 := if b / 2 ^ (8 - k) % 2 = 0 then 45 else [114, 119, 120].getD (k % 3) 0
def signs (b : Int) : List UInt8 := (List.range 9).map (sgn b)
def shown (b : Int) : ByteArray := bytes (signs b)
def dig (b : Int) : List Int := [b / 64, b / 8 % 8, b % 8]
theorem signs_length (b : Int) : (signs b).length = 9 := by simp [signs]
theorem signs_get (b : Int) {k : Nat} (h : k < 9) : (signs b).getD k default = sgn b k := by
  rw [getD_of_lt (by rw [signs_length]; exact h)]; simp [signs]

theorem sgn_dig {b : Int} (h0 : 0 ≤ b) (h1 : b ≤ 511) {i k : Nat} (hi : i < 3) (hk : k < 3) :
    bits .and .i64 (((dig b).getD i default).fdiv (2 ^ min (IntKind.i64.wrap (2 - (k : Int))).toNat IntKind.i64.bits)) 1 = b / 2 ^ (8 - (3 * i + k)) % 2 := by
  rw [w64 (n := 2 - (k : Int)) (by omega) (by omega), fdiv_pow]
  have hi : i = 0 ∨ i = 1 ∨ i = 2 := by omega
  have hk : k = 0 ∨ k = 1 ∨ k = 2 := by omega
  rcases hi with rfl | rfl | rfl <;> rcases hk with rfl | rfl | rfl <;>
    simp only [dig, List.getD_cons_zero, List.getD_cons_succ] <;>
    (rw [and_1 (by first | (show (0 : Int) ≤ _ / 4; omega) | (show (0 : Int) ≤ _ / 2; omega) | (show (0 : Int) ≤ _ / 1; omega)) (by first | (show _ / (4 : Int) ≤ _; omega) | (show _ / (2 : Int) ≤ _; omega) | (show _ / (1 : Int) ≤ _; omega))]) <;>
    (first
      | (show _ / (4 : Int) % 2 = _ / (256 : Int) % 2; omega)
      | (show _ / (2 : Int) % 2 = _ / (128 : Int) % 2; omega)
      | (show _ / (1 : Int) % 2 = _ / (64 : Int) % 2; omega)
      | (show _ / (4 : Int) % 2 = _ / (32 : Int) % 2; omega)
      | (show _ / (2 : Int) % 2 = _ / (16 : Int) % 2; omega)
      | (show _ / (1 : Int) % 2 = _ / (8 : Int) % 2; omega)
      | (show _ / (4 : Int) % 2 = _ / (4 : Int) % 2; omega)
      | (show _ / (2 : Int) % 2 = _ / (2 : Int) % 2; omega)
      | (show _ / (1 : Int) % 2 = _ / (1 : Int) % 2; omega))

def c_impl_ShowMode : Contract := ⟨14, fun args M => match args with
  | [.agg [.int .i64 o, .int .i64 g, .int .i64 b]] => .pure True (.c (.str (if modeOk o g b then shown b else .empty)))
  | _ => .bad⟩
theorem ok_impl_ShowMode : SpecOK Try.prog c_impl_ShowMode := by
  refine ⟨fp_14, fun args M => ?_⟩
  unfold c_impl_ShowMode
  dsimp only
  split
  case h_2 => trivial
  rename_i o g b
  intro _
  refine goIn hf_14 rfl (nt := 42) rfl (rs := [.tmp 2]) rfl (C := [c_impl_modeOk, c_impl_digits]) ⟨ok_impl_modeOk, ok_impl_digits, trivial⟩ (q := fun _ => false) okQ_none mixed (O := fun _ => .nil) (by kernel_rfl) ?_
  by_cases hm : modeOk o g b
  · have hb := hm.2.2
    simp only [↓WP, ↓grdD, ↓grdT, ↓binVC, ↓buildVC, ↓sliceVC, WQ, WN, Int.reduceToNat, renl, cll, rent, clt, ↓reduceIte, Nat.reduceLeDiff, Nat.reduceEqDiff, Nat.reduceLT, reduceCtorEq, List.append_nil, Nat.reduceAdd, Nat.reduceSub, Nat.reduceBEq, forall_const, implies_true, cond_true, cond_false, AV.ren, AC.ren, AV.cl, AC.cl, eq_self, List.all_cons, List.all_nil, AV.eqv, AC.eqv, eqvl, eqvt, Sl.eqv, List.map_append, List.length_map, List.length_append, List.length_replicate, List.length_set, List.map_replicate, nilVC, sz_27, el_46, zr_5, fl_27_2, sz_3, sd_30, el_30, cv_46_46, sd_46, sz_5, cv_46_9, c_impl_modeOk, c_impl_digits, decide_eq_true hm, if_pos hm]
    refine ⟨by omega, hb, ?_⟩
    obtain ⟨D, hD⟩ : ∃ D, D = dig b := ⟨_, rfl⟩
    have hDl : D.length = 3 := by rw [hD]; rfl
    have hS := signs_length b
    refine loopI (J := {p : Nat × Nat // p.1 ≤ 3}) (fun p => ⟨slots 42 [(3, .c (.sl ⟨.loc 0, 0, 0, 0⟩ (3 * p.1.1) p.1.2)), (14, .c (.sl ⟨.loc 1, 0, 0, 0⟩ 3 3)), (15, I 3), (16, I p.1.1)], M, [], [rowG true 5 p.1.2 ((signs b).take (3 * p.1.1)), rowG true 3 3 D]⟩) (fun p => 3 - p.1.1) ⟨(0, 0), by omega⟩ ((Le_gh _ [(5, 1)]).trans (Le_intro [2, 1] (by simp [WL, WNL, swA_new, swA_ne, nest_sw_ne, mapLL, List.mem_cons, Nat.reduceAdd, Nat.reduceLT, Nat.reduceLeDiff, Nat.reduceEqDiff, okU, List.nodup_cons, List.not_mem_nil, toT, toL, toO, keysO, renl, rent, cll, clt, eq_self, AV.eqv, AC.eqv, eqvl, eqvt, Sl.eqv, rowsLe, mapLL, rowsCl, List.map_append, List.length_map, List.length_append, List.length_set, List.map_replicate, rowG, List.getElem?_cons_zero, List.getElem?_cons_succ, List.getElem?_nil, List.append_nil, List.nil_append, List.cons_append, ghosts, St.gh, Option.some.injEq, implies_true, setT, AV.ren, AC.ren, AV.cl, AC.cl, List.replicate_succ, List.replicate_zero, List.nodup_nil, List.length_nil, List.length_cons, List.getD_cons_zero, List.getD_cons_succ, ↓reduceIte, hD, dig]))) ?_
    rintro ⟨⟨i, c⟩, hi⟩
    dsimp only at hi
    have hw := wS (i := i) (by omega)
    rcases Nat.lt_or_ge i 3 with hlt | hge
    · simp only [↓WP, ↓grdD, ↓grdT, ↓binVC, ↓buildVC, ↓sliceVC, WQ, WN, Int.reduceToNat, renl, cll, rent, clt, ↓reduceIte, Nat.reduceLeDiff, Nat.reduceEqDiff, Nat.reduceLT, reduceCtorEq, List.append_nil, Nat.reduceAdd, Nat.reduceSub, Nat.reduceBEq, forall_const, implies_true, cond_true, cond_false, AV.ren, AC.ren, AV.cl, AC.cl, eq_self, List.all_cons, List.all_nil, AV.eqv, AC.eqv, eqvl, eqvt, Sl.eqv, List.map_append, List.length_map, List.length_append, List.length_replicate, List.length_set, List.map_replicate, nilVC, sz_27, el_46, zr_5, fl_27_2, sz_3, sd_30, el_30, cv_46_46, sd_46, sz_5, cv_46_9, c_impl_modeOk, c_impl_digits, hw, decide_eq_true (show (i : Int) < 3 by omega), getD_enc D i (by omega), hDl]
      repeat refine ⟨by omega, ?_⟩
      obtain ⟨R, hR⟩ : ∃ R : List UInt8, R = [114, 119, 120] := ⟨_, rfl⟩
      have hRl : R.length = 3 := by rw [hR]; rfl
      refine loopI (J := {p : Nat × Nat // p.1 ≤ 3}) (fun p => ⟨slots 42 [(3, .c (.sl ⟨.loc 0, 0, 0, 0⟩ (3 * i + p.1.1) p.1.2)), (5, I (D.getD i default)), (14, .c (.sl ⟨.loc 1, 0, 0, 0⟩ 3 3)), (15, I 3), (16, I i), (21, .c (.sl ⟨.loc 2, 0, 0, 0⟩ 3 3)), (22, I 3), (23, I p.1.1)], M, [], [rowG true 5 p.1.2 ((signs b).take (3 * i + p.1.1)), rowG true 3 3 D, rowG false 5 3 R]⟩) (fun p => 3 - p.1.1) ⟨(0, c), by omega⟩ (Le_intro [0, 1, 2] (by simp only [WL, WNL, swA_new, swA_ne, nest_sw_ne, mapLL, List.mem_cons, Nat.reduceAdd, Nat.reduceLT, Nat.reduceLeDiff, Nat.reduceEqDiff, okU, List.nodup_cons, List.not_mem_nil, toT, toL, toO, keysO, renl, rent, cll, clt, eq_self, AV.eqv, AC.eqv, eqvl, eqvt, Sl.eqv, rowsLe, mapLL, rowsCl, List.map_append, List.length_map, List.length_append, List.length_set, List.map_replicate, rowG, List.getElem?_cons_zero, List.getElem?_cons_succ, List.getElem?_nil, List.append_nil, List.nil_append, List.cons_append, ghosts, St.gh, Option.some.injEq, implies_true, setT, AV.ren, AC.ren, AV.cl, AC.cl, List.replicate_succ, List.replicate_zero, List.nodup_nil, List.length_nil, List.length_cons, List.getD_cons_zero, List.getD_cons_succ, ↓reduceIte, hR, Nat.add_zero]; simp)) ?_
      rintro ⟨⟨k, d⟩, hk⟩
      dsimp only at hk
      have hw2 := wS (i := k) (by omega)
      rcases Nat.lt_or_ge k 3 with hlt2 | hge2
      · have hlen : ((signs b).take (3 * i + k)).length = 3 * i + k := by rw [List.length_take]; omega
        have hx : R.getD k default = [114, 119, 120].getD ((3 * i + k) % 3) 0 := by rw [hR, show (3 * i + k) % 3 = k by omega]; rfl
        have hst := take_step (signs b) (3 * i + k) default (by omega)
        rw [signs_get b (by omega)] at hst
        have hsd := sgn_dig hb.1 hb.2 hlt hlt2
        rw [← hD] at hsd
        simp only [↓WP, ↓grdD, ↓grdT, ↓binVC, ↓buildVC, ↓sliceVC, WQ, WN, Int.reduceToNat, renl, cll, rent, clt, ↓reduceIte, Nat.reduceLeDiff, Nat.reduceEqDiff, Nat.reduceLT, reduceCtorEq, List.append_nil, Nat.reduceAdd, Nat.reduceSub, Nat.reduceBEq, forall_const, implies_true, cond_true, cond_false, AV.ren, AC.ren, AV.cl, AC.cl, eq_self, List.all_cons, List.all_nil, AV.eqv, AC.eqv, eqvl, eqvt, Sl.eqv, List.map_append, List.length_map, List.length_append, List.length_replicate, List.length_set, List.map_replicate, nilVC, sz_27, el_46, zr_5, fl_27_2, sz_3, sd_30, el_30, cv_46_46, sd_46, sz_5, cv_46_9, c_impl_modeOk, c_impl_digits, hw2, decide_eq_true (show (k : Int) < 3 by omega), getD_enc R k (by omega), hRl, hDl, hlen, hsd]
        simp only [WB, eq_self]
        repeat refine ⟨by omega, ?_⟩
        rw [w64 (n := 2 - (k : Int)) (by omega) (by omega)]
        refine ⟨by omega, fun hz => ?_, fun hz => ?_⟩
        · have hv : sgn b (3 * i + k) = 45 := if_pos hz
          repeat refine ⟨by omega, ?_⟩
          refine ⟨fun hcap => ?_, fun hcap => ?_⟩
          · repeat refine ⟨by omega, ?_⟩
            refine ⟨⟨(k + 1, d), by omega⟩, Le_intro [0, 1, 2] ?_, by show 3 - (k + 1) < 3 - k; omega⟩
            simp only [WL, WNL, swA_new, swA_ne, nest_sw_ne, mapLL, List.mem_cons, Nat.reduceAdd, Nat.reduceLT, Nat.reduceLeDiff, Nat.reduceEqDiff, okU, List.nodup_cons, List.not_mem_nil, toT, toL, toO, keysO, renl, rent, cll, clt, eq_self, AV.eqv, AC.eqv, eqvl, eqvt, Sl.eqv, rowsLe, mapLL, rowsCl, List.map_append, List.length_map, List.length_append, List.length_set, List.map_replicate, rowG, List.getElem?_cons_zero, List.getElem?_cons_succ, List.getElem?_nil, List.append_nil, List.nil_append, List.cons_append, ghosts, St.gh, Option.some.injEq, implies_true, setT, AV.ren, AC.ren, AV.cl, AC.cl, List.replicate_succ, List.replicate_zero, List.nodup_nil, List.length_nil, List.length_cons, List.getD_cons_zero, List.getD_cons_succ, ↓reduceIte, ← Nat.add_assoc, hst, hv]
            try simp
          · repeat refine ⟨by omega, ?_⟩
            intro cc h1 h2
            refine ⟨⟨(k + 1, cc), by omega⟩, Le_intro [4, 1, 2] ?_, by show 3 - (k + 1) < 3 - k; omega⟩
            simp only [WL, WNL, swA_new, swA_ne, nest_sw_ne, mapLL, List.mem_cons, Nat.reduceAdd, Nat.reduceLT, Nat.reduceLeDiff, Nat.reduceEqDiff, okU, List.nodup_cons, List.not_mem_nil, toT, toL, toO, keysO, renl, rent, cll, clt, eq_self, AV.eqv, AC.eqv, eqvl, eqvt, Sl.eqv, rowsLe, mapLL, rowsCl, List.map_append, List.length_map, List.length_append, List.length_set, List.map_replicate, rowG, List.getElem?_cons_zero, List.getElem?_cons_succ, List.getElem?_nil, List.append_nil, List.nil_append, List.cons_append, ghosts, St.gh, Option.some.injEq, implies_true, setT, AV.ren, AC.ren, AV.cl, AC.cl, List.replicate_succ, List.replicate_zero, List.nodup_nil, List.length_nil, List.length_cons, List.getD_cons_zero, List.getD_cons_succ, ↓reduceIte, ← Nat.add_assoc, hst, hv]
            try simp
        · have hv : sgn b (3 * i + k) = R.getD k default := by unfold sgn; rw [if_neg hz, hx]
          repeat refine ⟨by omega, ?_⟩
          refine ⟨fun hcap => ?_, fun hcap => ?_⟩
          · repeat refine ⟨by omega, ?_⟩
            refine ⟨⟨(k + 1, d), by omega⟩, Le_intro [0, 1, 2] ?_, by show 3 - (k + 1) < 3 - k; omega⟩
            simp only [WL, WNL, swA_new, swA_ne, nest_sw_ne, mapLL, List.mem_cons, Nat.reduceAdd, Nat.reduceLT, Nat.reduceLeDiff, Nat.reduceEqDiff, okU, List.nodup_cons, List.not_mem_nil, toT, toL, toO, keysO, renl, rent, cll, clt, eq_self, AV.eqv, AC.eqv, eqvl, eqvt, Sl.eqv, rowsLe, mapLL, rowsCl, List.map_append, List.length_map, List.length_append, List.length_set, List.map_replicate, rowG, List.getElem?_cons_zero, List.getElem?_cons_succ, List.getElem?_nil, List.append_nil, List.nil_append, List.cons_append, ghosts, St.gh, Option.some.injEq, implies_true, setT, AV.ren, AC.ren, AV.cl, AC.cl, List.replicate_succ, List.replicate_zero, List.nodup_nil, List.length_nil, List.length_cons, List.getD_cons_zero, List.getD_cons_succ, ↓reduceIte, ← Nat.add_assoc, hst, hv]
            try simp
          · repeat refine ⟨by omega, ?_⟩
            intro cc h1 h2
            refine ⟨⟨(k + 1, cc), by omega⟩, Le_intro [4, 1, 2] ?_, by show 3 - (k + 1) < 3 - k; omega⟩
            simp only [WL, WNL, swA_new, swA_ne, nest_sw_ne, mapLL, List.mem_cons, Nat.reduceAdd, Nat.reduceLT, Nat.reduceLeDiff, Nat.reduceEqDiff, okU, List.nodup_cons, List.not_mem_nil, toT, toL, toO, keysO, renl, rent, cll, clt, eq_self, AV.eqv, AC.eqv, eqvl, eqvt, Sl.eqv, rowsLe, mapLL, rowsCl, List.map_append, List.length_map, List.length_append, List.length_set, List.map_replicate, rowG, List.getElem?_cons_zero, List.getElem?_cons_succ, List.getElem?_nil, List.append_nil, List.nil_append, List.cons_append, ghosts, St.gh, Option.some.injEq, implies_true, setT, AV.ren, AC.ren, AV.cl, AC.cl, List.replicate_succ, List.replicate_zero, List.nodup_nil, List.length_nil, List.length_cons, List.getD_cons_zero, List.getD_cons_succ, ↓reduceIte, ← Nat.add_assoc, hst, hv]
            try simp
      · obtain rfl : k = 3 := by omega
        simp only [↓WP, ↓grdD, ↓grdT, ↓binVC, ↓buildVC, ↓sliceVC, WQ, WN, Int.reduceToNat, renl, cll, rent, clt, ↓reduceIte, Nat.reduceLeDiff, Nat.reduceEqDiff, Nat.reduceLT, reduceCtorEq, List.append_nil, Nat.reduceAdd, Nat.reduceSub, Nat.reduceBEq, forall_const, implies_true, cond_true, cond_false, AV.ren, AC.ren, AV.cl, AC.cl, eq_self, List.all_cons, List.all_nil, AV.eqv, AC.eqv, eqvl, eqvt, Sl.eqv, List.map_append, List.length_map, List.length_append, List.length_replicate, List.length_set, List.map_replicate, nilVC, sz_27, el_46, zr_5, fl_27_2, sz_3, sd_30, el_30, cv_46_46, sd_46, sz_5, cv_46_9, c_impl_modeOk, c_impl_digits, hw2, hw, decide_eq_false (show ¬ (((3 : Nat) : Int) < 3) by omega)]
        refine ⟨⟨(i + 1, d), by omega⟩, Le_intro [0, 1] ?_, by show 3 - (i + 1) < 3 - i; omega⟩
        simp only [WL, WNL, swA_new, swA_ne, nest_sw_ne, mapLL, List.mem_cons, Nat.reduceAdd, Nat.reduceLT, Nat.reduceLeDiff, Nat.reduceEqDiff, okU, List.nodup_cons, List.not_mem_nil, toT, toL, toO, keysO, renl, rent, cll, clt, eq_self, AV.eqv, AC.eqv, eqvl, eqvt, Sl.eqv, rowsLe, mapLL, rowsCl, List.map_append, List.length_map, List.length_append, List.length_set, List.map_replicate, rowG, List.getElem?_cons_zero, List.getElem?_cons_succ, List.getElem?_nil, List.append_nil, List.nil_append, List.cons_append, ghosts, St.gh, Option.some.injEq, implies_true, setT, AV.ren, AC.ren, AV.cl, AC.cl, List.replicate_succ, List.replicate_zero, List.nodup_nil, List.length_nil, List.length_cons, List.getD_cons_zero, List.getD_cons_succ, ↓reduceIte, Nat.mul_add]
    · obtain rfl : i = 3 := by omega
      have hS9 : (signs b).take (3 * 3) = signs b := List.take_of_length_le (by omega)
      simp only [↓WP, ↓grdD, ↓grdT, ↓binVC, ↓buildVC, ↓sliceVC, WQ, WN, Int.reduceToNat, renl, cll, rent, clt, ↓reduceIte, Nat.reduceLeDiff, Nat.reduceEqDiff, Nat.reduceLT, reduceCtorEq, List.append_nil, Nat.reduceAdd, Nat.reduceSub, Nat.reduceBEq, forall_const, implies_true, cond_true, cond_false, AV.ren, AC.ren, AV.cl, AC.cl, eq_self, List.all_cons, List.all_nil, AV.eqv, AC.eqv, eqvl, eqvt, Sl.eqv, List.map_append, List.length_map, List.length_append, List.length_replicate, List.length_set, List.map_replicate, nilVC, sz_27, el_46, zr_5, fl_27_2, sz_3, sd_30, el_30, cv_46_46, sd_46, sz_5, cv_46_9, c_impl_modeOk, c_impl_digits, hw, decide_eq_false (show ¬ (((3 : Nat) : Int) < 3) by omega), hS9, hS]
      exact ⟨signs b, ⟨hS, fun j hj => row_bytes (by omega)⟩, by rw [if_pos hm]; rfl⟩
  · simp only [↓WP, ↓grdD, ↓grdT, ↓binVC, ↓buildVC, ↓sliceVC, WQ, WN, Int.reduceToNat, renl, cll, rent, clt, ↓reduceIte, Nat.reduceLeDiff, Nat.reduceEqDiff, Nat.reduceLT, reduceCtorEq, List.append_nil, Nat.reduceAdd, Nat.reduceSub, Nat.reduceBEq, forall_const, implies_true, cond_true, cond_false, AV.ren, AC.ren, AV.cl, AC.cl, eq_self, List.all_cons, List.all_nil, AV.eqv, AC.eqv, eqvl, eqvt, Sl.eqv, List.map_append, List.length_map, List.length_append, List.length_replicate, List.length_set, List.map_replicate, nilVC, sz_27, el_46, zr_5, fl_27_2, sz_3, sd_30, el_30, cv_46_46, sd_46, sz_5, cv_46_9, c_impl_modeOk, c_impl_digits, decide_eq_false hm, if_neg hm]
    rfl

/-- the first k signs, as a string -/
def shownK (b : Int) (k : Nat) : ByteArray := bytes ((signs b).take k)
def c_spec_ShowMode : Contract := ⟨12, fun args M => match args with
  | [.agg [.int .i64 o, .int .i64 g, .int .i64 b]] => .pure True (.c (.str (if modeOk o g b then shown b else .empty)))
  | _ => .bad⟩
theorem ok_spec_ShowMode : SpecOK Try.prog c_spec_ShowMode := by
  refine ⟨fp_12, fun args M => ?_⟩
  unfold c_spec_ShowMode
  dsimp only
  split
  case h_2 => trivial
  rename_i o g b
  intro _
  refine goIn hf_12 rfl (nt := 33) rfl (rs := [.tmp 2]) rfl (C := [c_spec_PermOk]) ⟨ok_spec_PermOk, trivial⟩ (q := fun _ => false) okQ_none mixed (O := fun _ => .nil) (by kernel_rfl) ?_
  have hcr : permOk 0 [] o g b ↔ modeOk o g b := by
    unfold permOk credOk
    simp
  by_cases hm : modeOk o g b
  · have hb := hm.2.2
    simp only [↓WP, ↓grdD, ↓grdT, ↓binVC, ↓buildVC, ↓sliceVC, WQ, WN, Int.reduceToNat, renl, cll, rent, clt, ↓reduceIte, Nat.reduceLeDiff, Nat.reduceEqDiff, Nat.reduceLT, reduceCtorEq, List.append_nil, Nat.reduceAdd, Nat.reduceSub, Nat.reduceBEq, forall_const, implies_true, cond_true, cond_false, AV.ren, AC.ren, AV.cl, AC.cl, eq_self, List.all_cons, List.all_nil, AV.eqv, AC.eqv, eqvl, eqvt, Sl.eqv, List.map_append, List.length_map, List.length_append, List.length_replicate, List.length_set, List.map_replicate, nilVC, zr_35, fs_35, sz_27, fl_27_2, sz_3, st_9, c_spec_PermOk, decide_eq_true (hcr.2 hm), if_pos hm]
    repeat refine ⟨by omega, ?_⟩
    refine loopI (J := {i : Nat // i ≤ 9}) (fun i => ⟨slots 33 [(1, .c (.ptr ⟨.loc 0, 0, 0, 0⟩)), (3, .c (.str (shownK b i.1))), (4, I (2 ^ (8 - i.1) / (if i.1 = 9 then 2 else 1))), (5, I i.1)], M, [], [.box 27 [.int .i64 o, .int .i64 g, .int .i64 b]]⟩) (fun i => 9 - i.1) ⟨0, by omega⟩ (Le_intro [0] (by simp [WL, WNL, swA_new, swA_ne, nest_sw_ne, mapLL, List.mem_cons, Nat.reduceAdd, Nat.reduceLT, Nat.reduceLeDiff, Nat.reduceEqDiff, okU, List.nodup_cons, List.not_mem_nil, toT, toL, toO, keysO, renl, rent, cll, clt, eq_self, AV.eqv, AC.eqv, eqvl, eqvt, Sl.eqv, rowsLe, mapLL, rowsCl, List.map_append, List.length_map, List.length_append, List.length_set, List.map_replicate, rowG, List.getElem?_cons_zero, List.getElem?_cons_succ, List.getElem?_nil, List.append_nil, List.nil_append, List.cons_append, ghosts, St.gh, Option.some.injEq, implies_true, setT, AV.ren, AC.ren, AV.cl, AC.cl, List.replicate_succ, List.replicate_zero, List.nodup_nil, List.length_nil, List.length_cons, List.getD_cons_zero, List.getD_cons_succ, ↓reduceIte]; rfl)) ?_
    rintro ⟨i, hi⟩
    have hw := wS (i := i) (by omega)
    rcases Nat.lt_or_ge i 9 with hlt | hge
    · simp only [↓WP, ↓grdD, ↓grdT, ↓binVC, ↓buildVC, ↓sliceVC, WQ, WN, Int.reduceToNat, renl, cll, rent, clt, ↓reduceIte, Nat.reduceLeDiff, Nat.reduceEqDiff, Nat.reduceLT, reduceCtorEq, List.append_nil, Nat.reduceAdd, Nat.reduceSub, Nat.reduceBEq, forall_const, implies_true, cond_true, cond_false, AV.ren, AC.ren, AV.cl, AC.cl, eq_self, List.all_cons, List.all_nil, AV.eqv, AC.eqv, eqvl, eqvt, Sl.eqv, List.map_append, List.length_map, List.length_append, List.length_replicate, List.length_set, List.map_replicate, nilVC, zr_35, fs_35, sz_27, fl_27_2, sz_3, st_9, c_spec_PermOk, hw, decide_eq_true (show (i : Int) < 9 by omega), if_neg (show ¬ i = 9 by omega)]
      have hst : shownK b (i + 1) = shownK b i ++ bytes [sgn b i] := by
        unfold shownK
        rw [bytes_append, take_step (signs b) i default (by rw [signs_length]; exact hlt), signs_get b hlt]
      have hsz : (shownK b i).size ≤ 9 := by unfold shownK; rw [bytes_size, List.length_take]; omega
      have hx : sgn b i = (if b / 2 ^ (8 - i) % 2 = 0 then 45 else [114, 119, 120].getD (i % 3) 0) := rfl
      have hcs : i = 0 ∨ i = 1 ∨ i = 2 ∨ i = 3 ∨ i = 4 ∨ i = 5 ∨ i = 6 ∨ i = 7 ∨ i = 8 := by omega
      have key : ∀ (q : Int) (h : q = b / 2 ^ (8 - i)), IntKind.i64.wrap (b.tdiv (2 ^ (8 - i) / 1)) = q ∧ q.tmod 2 = q % 2 ∧ 0 ≤ q := by
        intro q h
        have h1 : (2 : Int) ^ (8 - i) / 1 = 2 ^ (8 - i) := by omega
        have h2 : 0 ≤ b / (2 : Int) ^ (8 - i) := Int.ediv_nonneg hb.1 (Int.le_of_lt (Int.pow_pos (by omega)))
        have h3 : b / (2 : Int) ^ (8 - i) ≤ b := Int.ediv_le_self _ hb.1
        rw [h1, Int.tdiv_eq_ediv_of_nonneg hb.1, ← h, w64 (by omega) (by omega), Int.tmod_eq_emod_of_nonneg (by omega)]
        exact ⟨rfl, rfl, by omega⟩
      obtain ⟨k1, k2, k3⟩ := key _ rfl
      rw [k1, k2]
      have hp : IntKind.i64.wrap ((2 ^ (8 - i) / 1 : Int).tdiv 2) = 2 ^ (8 - (i + 1)) / (if i + 1 = 9 then 2 else 1) := by
        rcases hcs with rfl | rfl | rfl | rfl | rfl | rfl | rfl | rfl | rfl <;> rfl
      rw [hp]
      have h0 : (2 : Int) ^ (8 - i) / 1 ≠ 0 := by
        rcases hcs with rfl | rfl | rfl | rfl | rfl | rfl | rfl | rfl | rfl <;> decide
      refine ⟨h0, by omega, fun hc => ?_, fun hc => ?_⟩
      · have hc : b / 2 ^ (8 - i) % 2 = 1 := by simpa using hc
        rw [if_neg (by omega)] at hx
        have hm3 : (i : Int).tmod 3 = ((i % 3 : Nat) : Int) := tmod_nat i 3
        have hw3 : IntKind.i64.wrap ((i : Int).tmod 3 + 1) = (i : Int).tmod 3 + 1 := w64 (by omega) (by omega)
        rw [hw3]
        have hex : (ByteArray.mk #[114, 119, 120]).extract ((i : Int).tmod 3).toNat ((i : Int).tmod 3 + 1).toNat = bytes [sgn b i] := by
          rw [hx]
          rcases hcs with rfl | rfl | rfl | rfl | rfl | rfl | rfl | rfl | rfl <;> rfl
        rw [hex, ← hst]
        refine ⟨by omega, by omega, ⟨by omega, by omega, ?_⟩, ?_, by omega, ⟨i + 1, hlt⟩, Le_intro [0] ?_, by show 9 - (i + 1) < 9 - i; omega⟩
        · show (i : Int).tmod 3 + 1 ≤ 3
          omega
        · rw [bytes_size]
          simp
          omega
        · simp only [WL, WNL, swA_new, swA_ne, nest_sw_ne, mapLL, List.mem_cons, Nat.reduceAdd, Nat.reduceLT, Nat.reduceLeDiff, Nat.reduceEqDiff, okU, List.nodup_cons, List.not_mem_nil, toT, toL, toO, keysO, renl, rent, cll, clt, eq_self, AV.eqv, AC.eqv, eqvl, eqvt, Sl.eqv, rowsLe, mapLL, rowsCl, List.map_append, List.length_map, List.length_append, List.length_set, List.map_replicate, rowG, List.getElem?_cons_zero, List.getElem?_cons_succ, List.getElem?_nil, List.append_nil, List.nil_append, List.cons_append, ghosts, St.gh, Option.some.injEq, implies_true, setT, AV.ren, AC.ren, AV.cl, AC.cl, List.replicate_succ, List.replicate_zero, List.nodup_nil, List.length_nil, List.length_cons, List.getD_cons_zero, List.getD_cons_succ, ↓reduceIte]
      · have hc : b / 2 ^ (8 - i) % 2 = 0 := by
          have : ¬ b / 2 ^ (8 - i) % 2 = 1 := by simpa using hc
          omega
        rw [if_pos hc] at hx
        have hex : (ByteArray.mk #[45]) = bytes [sgn b i] := by rw [hx]; rfl
        rw [hex, ← hst]
        refine ⟨?_, by omega, ⟨i + 1, hlt⟩, Le_intro [0] ?_, by show 9 - (i + 1) < 9 - i; omega⟩
        · rw [bytes_size]
          simp
          omega
        · simp only [WL, WNL, swA_new, swA_ne, nest_sw_ne, mapLL, List.mem_cons, Nat.reduceAdd, Nat.reduceLT, Nat.reduceLeDiff, Nat.reduceEqDiff, okU, List.nodup_cons, List.not_mem_nil, toT, toL, toO, keysO, renl, rent, cll, clt, eq_self, AV.eqv, AC.eqv, eqvl, eqvt, Sl.eqv, rowsLe, mapLL, rowsCl, List.map_append, List.length_map, List.length_append, List.length_set, List.map_replicate, rowG, List.getElem?_cons_zero, List.getElem?_cons_succ, List.getElem?_nil, List.append_nil, List.nil_append, List.cons_append, ghosts, St.gh, Option.some.injEq, implies_true, setT, AV.ren, AC.ren, AV.cl, AC.cl, List.replicate_succ, List.replicate_zero, List.nodup_nil, List.length_nil, List.length_cons, List.getD_cons_zero, List.getD_cons_succ, ↓reduceIte]
    · obtain rfl : i = 9 := by omega
      simp only [↓WP, ↓grdD, ↓grdT, ↓binVC, ↓buildVC, ↓sliceVC, WQ, WN, Int.reduceToNat, renl, cll, rent, clt, ↓reduceIte, Nat.reduceLeDiff, Nat.reduceEqDiff, Nat.reduceLT, reduceCtorEq, List.append_nil, Nat.reduceAdd, Nat.reduceSub, Nat.reduceBEq, forall_const, implies_true, cond_true, cond_false, AV.ren, AC.ren, AV.cl, AC.cl, eq_self, List.all_cons, List.all_nil, AV.eqv, AC.eqv, eqvl, eqvt, Sl.eqv, List.map_append, List.length_map, List.length_append, List.length_replicate, List.length_set, List.map_replicate, nilVC, zr_35, fs_35, sz_27, fl_27_2, sz_3, st_9, c_spec_PermOk, hw, decide_eq_false (show ¬ (((9 : Nat) : Int) < 9) by omega)]
      unfold shownK shown
      rw [List.take_of_length_le (by rw [signs_length]; omega), if_pos hm]
  · simp only [↓WP, ↓grdD, ↓grdT, ↓binVC, ↓buildVC, ↓sliceVC, WQ, WN, Int.reduceToNat, renl, cll, rent, clt, ↓reduceIte, Nat.reduceLeDiff, Nat.reduceEqDiff, Nat.reduceLT, reduceCtorEq, List.append_nil, Nat.reduceAdd, Nat.reduceSub, Nat.reduceBEq, forall_const, implies_true, cond_true, cond_false, AV.ren, AC.ren, AV.cl, AC.cl, eq_self, List.all_cons, List.all_nil, AV.eqv, AC.eqv, eqvl, eqvt, Sl.eqv, List.map_append, List.length_map, List.length_append, List.length_replicate, List.length_set, List.map_replicate, nilVC, zr_35, fs_35, sz_27, fl_27_2, sz_3, st_9, c_spec_PermOk, decide_eq_false (mt hcr.1 hm), if_neg hm]
    rfl
end Go.Eng.T
