/- CONTRACTS: bits, modes. -/
import Derived.Test.YtfaecknkhbkiaaaFn1
set_option linter.unusedVariables false
set_option linter.unusedSimpArgs false
set_option linter.unusedSectionVars false
namespace Go.Eng.T
open Go.Proofs
open Cel (enc dec)
set_option maxRecDepth 100000
set_option maxHeartbeats 4000000

def c_impl_isBits : Contract := ⟨33, fun args M => match args with
  | [.c (.int .i64 n)] => .pure True (Eng.B (decide (0 ≤ n ∧ n ≤ 511)))
  | _ => .bad⟩
theorem ok_impl_isBits : SpecOK Try.prog c_impl_isBits := by
  refine ⟨fp_33, fun args M => ?_⟩
  unfold c_impl_isBits
  dsimp only
  split
  case h_2 => trivial
  rename_i n
  intro _
  refine goIn hf_33 rfl (nt := 5) rfl (rs := [.tmp 2]) rfl (C := [c_impl_in]) ⟨ok_impl_in, trivial⟩ (q := fun _ => false) okQ_none mixed (O := fun _ => .nil) (by kernel_rfl) ?_
  simp only [↓WP, ↓grdD, ↓grdT, ↓binVC, ↓buildVC, ↓sliceVC, WQ, WN, Int.reduceToNat, renl, cll, rent, clt, ↓reduceIte, Nat.reduceLeDiff, Nat.reduceEqDiff, Nat.reduceLT, reduceCtorEq, List.append_nil, Nat.reduceAdd, Nat.reduceSub, Nat.reduceBEq, forall_const, implies_true, cond_true, cond_false, AV.ren, AC.ren, AV.cl, AC.cl, eq_self, List.all_cons, List.all_nil, AV.eqv, AC.eqv, eqvl, eqvt, Sl.eqv, List.map_append, List.length_map, List.length_append, List.length_replicate, List.length_set, List.map_replicate, nilVC, c_impl_in]
theorem q_impl_isBits : Quiet c_impl_isBits := by
  intro args M
  unfold c_impl_isBits
  dsimp only
  split <;> first | trivial | (intro _; rfl)
def c_impl_isName : Contract := ⟨42, fun args M => match args with
  | [.c (.int .i64 n)] => .pure True (Eng.B (decide (0 ≤ n ∧ n ≤ 999)))
  | _ => .bad⟩
theorem ok_impl_isName : SpecOK Try.prog c_impl_isName := by
  refine ⟨fp_42, fun args M => ?_⟩
  unfold c_impl_isName
  dsimp only
  split
  case h_2 => trivial
  rename_i n
  intro _
  refine goIn hf_42 rfl (nt := 5) rfl (rs := [.tmp 2]) rfl (C := [c_impl_in]) ⟨ok_impl_in, trivial⟩ (q := fun _ => false) okQ_none mixed (O := fun _ => .nil) (by kernel_rfl) ?_
  simp only [↓WP, ↓grdD, ↓grdT, ↓binVC, ↓buildVC, ↓sliceVC, WQ, WN, Int.reduceToNat, renl, cll, rent, clt, ↓reduceIte, Nat.reduceLeDiff, Nat.reduceEqDiff, Nat.reduceLT, reduceCtorEq, List.append_nil, Nat.reduceAdd, Nat.reduceSub, Nat.reduceBEq, forall_const, implies_true, cond_true, cond_false, AV.ren, AC.ren, AV.cl, AC.cl, eq_self, List.all_cons, List.all_nil, AV.eqv, AC.eqv, eqvl, eqvt, Sl.eqv, List.map_append, List.length_map, List.length_append, List.length_replicate, List.length_set, List.map_replicate, nilVC, c_impl_in]
theorem q_impl_isName : Quiet c_impl_isName := by
  intro args M
  unfold c_impl_isName
  dsimp only
  split <;> first | trivial | (intro _; rfl)

def masked (n m : Int) : Int := if (0 ≤ n ∧ n ≤ 511) ∧ (0 ≤ m ∧ m ≤ 511) then bits .andNot .i64 n m else 0
def c_impl_Masked : Contract := ⟨11, fun args M => match args with
  | [.c (.int .i64 n), .c (.int .i64 m)] => .pure True (.c (.int .i64 (masked n m)))
  | _ => .bad⟩
theorem ok_impl_Masked : SpecOK Try.prog c_impl_Masked := by
  refine ⟨fp_11, fun args M => ?_⟩
  unfold c_impl_Masked
  dsimp only
  split
  case h_2 => trivial
  rename_i n m
  intro _
  refine goIn hf_11 rfl (nt := 16) rfl (rs := [.tmp 4]) rfl (C := [c_impl_isBits]) ⟨ok_impl_isBits, trivial⟩ (q := fun _ => false) okQ_none mixed (O := fun _ => .nil) (by kernel_rfl) ?_
  simp only [↓WP, ↓grdD, ↓grdT, ↓binVC, ↓buildVC, ↓sliceVC, WQ, WN, Int.reduceToNat, renl, cll, rent, clt, ↓reduceIte, Nat.reduceLeDiff, Nat.reduceEqDiff, Nat.reduceLT, reduceCtorEq, List.append_nil, Nat.reduceAdd, Nat.reduceSub, Nat.reduceBEq, forall_const, implies_true, cond_true, cond_false, AV.ren, AC.ren, AV.cl, AC.cl, eq_self, List.all_cons, List.all_nil, AV.eqv, AC.eqv, eqvl, eqvt, Sl.eqv, List.map_append, List.length_map, List.length_append, List.length_replicate, List.length_set, List.map_replicate, nilVC, c_impl_isBits]
  unfold masked
  by_cases h : (0 ≤ n ∧ n ≤ 511) <;> by_cases k : (0 ≤ m ∧ m ≤ 511) <;> simp [h, k]

def maskUp (n m : Int) : Nat → Int
  | 0 => 0
  | i + 1 => maskUp n m i + if (n.tdiv (2 ^ i)).tmod 2 = 1 ∧ (m.tdiv (2 ^ i)).tmod 2 = 0 then 2 ^ i else 0
def maskedS (n m : Int) : Int := if (0 ≤ n ∧ n ≤ 511) ∧ (0 ≤ m ∧ m ≤ 511) then maskUp n m 9 else 0
theorem maskUp_bound (n m : Int) : ∀ i : Nat, 0 ≤ maskUp n m i ∧ maskUp n m i < 2 ^ i
  | 0 => by simp [maskUp]
  | i + 1 => by
    have := maskUp_bound n m i
    have hp : (2 : Int) ^ (i + 1) = 2 ^ i * 2 := Int.pow_succ _ _
    simp only [maskUp]
    split <;> omega
theorem maskUp_eq (n m : Int) (hn : 0 ≤ n ∧ n ≤ 511) (hm : 0 ≤ m ∧ m ≤ 511) : maskUp n m 9 = bits .andNot .i64 n m := by
  obtain ⟨a, rfl⟩ : ∃ a : Nat, n = a := ⟨n.toNat, by omega⟩
  obtain ⟨b, rfl⟩ : ∃ b : Nat, m = b := ⟨m.toNat, by omega⟩
  obtain ⟨r, hr, hlt, hbit⟩ := andNot_nat a b (by omega) (by omega)
  have key : ∀ k : Nat, maskUp (a : Int) (b : Int) k = ((r % 2 ^ k : Nat) : Int) := by
    intro k
    induction k with
    | zero => simp [maskUp, Nat.mod_one]
    | succ k ih =>
      rw [maskUp, ih, mod_up]
      have hp : ((2 : Int) ^ k) = ((2 ^ k : Nat) : Int) := by simp
      have hc : ((((a : Int).tdiv (2 ^ k)).tmod 2 = 1 ∧ ((b : Int).tdiv (2 ^ k)).tmod 2 = 0)) ↔ r.testBit k = true := by
        rw [hp, tdiv_nat, tdiv_nat, show (2 : Int) = ((2 : Nat) : Int) from rfl, tmod_nat, tmod_nat, hbit, Bool.and_eq_true, Bool.not_eq_true', bit_iff]
        have hb : b.testBit k = false ↔ b / 2 ^ k % 2 = 0 := by
          have h1 := bit_iff b k
          constructor
          · intro h
            have : ¬ b / 2 ^ k % 2 = 1 := fun h2 => by rw [h1.2 h2] at h; cases h
            omega
          · intro h
            cases hh : b.testBit k with
            | false => rfl
            | true => have := h1.1 hh; omega
        rw [hb]
        omega
      by_cases hbk : r.testBit k = true
      · rw [if_pos (hc.2 hbk), if_pos hbk, hp]; omega
      · rw [if_neg (fun h => hbk (hc.1 h)), if_neg hbk]; omega
  rw [hr, key 9, Nat.mod_eq_of_lt hlt]

def c_spec_Masked : Contract := ⟨10, fun args M => match args with
  | [.c (.int .i64 n), .c (.int .i64 m)] => .pure True (.c (.int .i64 (maskedS n m)))
  | _ => .bad⟩
theorem ok_spec_Masked : SpecOK Try.prog c_spec_Masked := by
  refine ⟨fp_10, fun args M => ?_⟩
  unfold c_spec_Masked
  dsimp only
  split
  case h_2 => trivial
  rename_i n m
  intro _
  refine goIn hf_10 rfl (nt := 38) rfl (rs := [.tmp 4]) rfl (C := [c_spec_l1In]) ⟨ok_spec_l1In, trivial⟩ (q := fun _ => false) okQ_none mixed (O := fun _ => .nil) (by kernel_rfl) ?_
  simp only [↓WP, ↓grdD, ↓grdT, ↓binVC, ↓buildVC, ↓sliceVC, WQ, WN, Int.reduceToNat, renl, cll, rent, clt, ↓reduceIte, Nat.reduceLeDiff, Nat.reduceEqDiff, Nat.reduceLT, reduceCtorEq, List.append_nil, Nat.reduceAdd, Nat.reduceSub, Nat.reduceBEq, forall_const, implies_true, cond_true, cond_false, AV.ren, AC.ren, AV.cl, AC.cl, eq_self, List.all_cons, List.all_nil, AV.eqv, AC.eqv, eqvl, eqvt, Sl.eqv, List.map_append, List.length_map, List.length_append, List.length_replicate, List.length_set, List.map_replicate, nilVC, c_spec_l1In]
  refine ⟨fun h => ?_, fun h => ?_⟩
  · unfold maskedS
    rw [if_neg]
    rintro ⟨k, k'⟩
    simp [k, k'] at h
  · have hn : (0 ≤ n ∧ n ≤ 511) ∧ (0 ≤ m ∧ m ≤ 511) := by
      by_cases k : (0 ≤ n ∧ n ≤ 511) <;> by_cases k' : (0 ≤ m ∧ m ≤ 511) <;> simp [k, k'] at h
      exact ⟨k, k'⟩
    refine loopI (J := {i : Nat // i ≤ 9}) (fun i => ⟨slots 38 [(0, I n), (1, I m), (5, I (maskUp n m i.1)), (6, I (2 ^ i.1)), (7, I i.1)], M, [], []⟩) (fun i => 9 - i.1) ⟨0, by omega⟩ (Le_intro [] (by simp [WL, WNL, swA_new, swA_ne, nest_sw_ne, mapLL, List.mem_cons, Nat.reduceAdd, Nat.reduceLT, Nat.reduceLeDiff, Nat.reduceEqDiff, okU, List.nodup_cons, List.not_mem_nil, toT, toL, toO, keysO, renl, rent, cll, clt, eq_self, AV.eqv, AC.eqv, eqvl, eqvt, Sl.eqv, rowsLe, mapLL, rowsCl, List.map_append, List.length_map, List.length_append, List.length_set, List.map_replicate, rowG, List.getElem?_cons_zero, List.getElem?_cons_succ, List.getElem?_nil, List.append_nil, List.nil_append, List.cons_append, ghosts, St.gh, Option.some.injEq, implies_true, setT, AV.ren, AC.ren, AV.cl, AC.cl, List.replicate_succ, List.replicate_zero, List.nodup_nil, List.length_nil, List.length_cons, List.getD_cons_zero, List.getD_cons_succ, ↓reduceIte, maskUp])) ?_
    rintro ⟨i, hi⟩
    have hb := maskUp_bound n m i
    have hp0 : (1 : Int) ≤ 2 ^ i := by
      have : (0 : Int) < 2 ^ i := Int.pow_pos (by omega)
      omega
    have hp1 : (2 : Int) ^ i ≤ 512 := by
      have : 2 ^ i ≤ 2 ^ 9 := Nat.pow_le_pow_right (by omega) hi
      have h2 : ((2 ^ i : Nat) : Int) = (2 : Int) ^ i := by simp
      omega
    have hn0 : 0 ≤ n.tdiv (2 ^ i) := Int.tdiv_nonneg hn.1.1 (by omega)
    have hn1 : n.tdiv (2 ^ i) ≤ n := Int.tdiv_le_self _ hn.1.1
    have hm0 : 0 ≤ m.tdiv (2 ^ i) := Int.tdiv_nonneg hn.2.1 (by omega)
    have hm1 : m.tdiv (2 ^ i) ≤ m := Int.tdiv_le_self _ hn.2.1
    simp only [↓WP, ↓grdD, ↓grdT, ↓binVC, ↓buildVC, ↓sliceVC, WQ, WN, Int.reduceToNat, renl, cll, rent, clt, ↓reduceIte, Nat.reduceLeDiff, Nat.reduceEqDiff, Nat.reduceLT, reduceCtorEq, List.append_nil, Nat.reduceAdd, Nat.reduceSub, Nat.reduceBEq, forall_const, implies_true, cond_true, cond_false, AV.ren, AC.ren, AV.cl, AC.cl, eq_self, List.all_cons, List.all_nil, AV.eqv, AC.eqv, eqvl, eqvt, Sl.eqv, List.map_append, List.length_map, List.length_append, List.length_replicate, List.length_set, List.map_replicate, nilVC, c_spec_l1In, w64 (n := n.tdiv (2 ^ i)) (by omega) (by omega), w64 (n := m.tdiv (2 ^ i)) (by omega) (by omega), w64 (n := maskUp n m i + 2 ^ i) (by omega) (by omega), w64 (n := (2 : Int) ^ i * 2) (by omega) (by omega), wS (i := i) (by omega)]
    refine ⟨fun hlt => ?_, fun hge => ?_⟩
    · have hlt : i < 9 := by simp at hlt; omega
      refine ⟨by omega, by omega, fun _ => by omega, fun _ => by omega, fun hc => ?_, fun hc => ?_⟩
      · have hcc : (n.tdiv (2 ^ i)).tmod 2 = 1 ∧ (m.tdiv (2 ^ i)).tmod 2 = 0 := by
          by_cases h1 : (n.tdiv (2 ^ i)).tmod 2 = 1 <;> simp [h1] at hc
          exact ⟨h1, hc⟩
        refine ⟨⟨i + 1, by omega⟩, Le_intro [] ?_, by show 9 - (i + 1) < 9 - i; omega⟩
        simp only [WL, WNL, swA_new, swA_ne, nest_sw_ne, mapLL, List.mem_cons, Nat.reduceAdd, Nat.reduceLT, Nat.reduceLeDiff, Nat.reduceEqDiff, okU, List.nodup_cons, List.not_mem_nil, toT, toL, toO, keysO, renl, rent, cll, clt, eq_self, AV.eqv, AC.eqv, eqvl, eqvt, Sl.eqv, rowsLe, mapLL, rowsCl, List.map_append, List.length_map, List.length_append, List.length_set, List.map_replicate, rowG, List.getElem?_cons_zero, List.getElem?_cons_succ, List.getElem?_nil, List.append_nil, List.nil_append, List.cons_append, ghosts, St.gh, Option.some.injEq, implies_true, setT, AV.ren, AC.ren, AV.cl, AC.cl, List.replicate_succ, List.replicate_zero, List.nodup_nil, List.length_nil, List.length_cons, List.getD_cons_zero, List.getD_cons_succ, ↓reduceIte, maskUp, if_pos hcc, Int.pow_succ]
      · have hcc : ¬ ((n.tdiv (2 ^ i)).tmod 2 = 1 ∧ (m.tdiv (2 ^ i)).tmod 2 = 0) := by
          rintro ⟨h1, h2⟩
          simp [h1, h2] at hc
        refine ⟨⟨i + 1, by omega⟩, Le_intro [] ?_, by show 9 - (i + 1) < 9 - i; omega⟩
        simp only [WL, WNL, swA_new, swA_ne, nest_sw_ne, mapLL, List.mem_cons, Nat.reduceAdd, Nat.reduceLT, Nat.reduceLeDiff, Nat.reduceEqDiff, okU, List.nodup_cons, List.not_mem_nil, toT, toL, toO, keysO, renl, rent, cll, clt, eq_self, AV.eqv, AC.eqv, eqvl, eqvt, Sl.eqv, rowsLe, mapLL, rowsCl, List.map_append, List.length_map, List.length_append, List.length_set, List.map_replicate, rowG, List.getElem?_cons_zero, List.getElem?_cons_succ, List.getElem?_nil, List.append_nil, List.nil_append, List.cons_append, ghosts, St.gh, Option.some.injEq, implies_true, setT, AV.ren, AC.ren, AV.cl, AC.cl, List.replicate_succ, List.replicate_zero, List.nodup_nil, List.length_nil, List.length_cons, List.getD_cons_zero, List.getD_cons_succ, ↓reduceIte, maskUp, if_neg hcc, Int.pow_succ, Int.add_zero]
    · have : i = 9 := by simp at hge; omega
      subst this
      simp [maskedS, hn]
theorem masked_same (n m : Int) : masked n m = maskedS n m := by
  unfold masked maskedS
  split
  · rename_i h; exact (maskUp_eq n m h.1 h.2).symm
  · rfl

def c_laws_toMode : Contract := ⟨13, fun args M => match args with
  | [.agg [.int .i64 o, .int .i64 g, .int .i64 b]] => .pure True (.agg [.int .i64 o, .int .i64 g, .int .i64 b])
  | _ => .bad⟩
theorem ok_laws_toMode : SpecOK Try.prog c_laws_toMode := by
  refine ⟨fp_13, fun args M => ?_⟩
  unfold c_laws_toMode
  dsimp only
  split
  case h_2 => trivial
  rename_i o g b
  intro _
  refine goIn hf_13 rfl (nt := 14) rfl (rs := [.cell 2 27]) rfl (C := []) trivial (q := fun _ => false) okQ_none mixed (O := fun _ => .nil) (by kernel_rfl) ?_
  simp only [↓WP, ↓grdD, ↓grdT, ↓binVC, ↓buildVC, ↓sliceVC, WQ, WN, Int.reduceToNat, renl, cll, rent, clt, ↓reduceIte, Nat.reduceLeDiff, Nat.reduceEqDiff, Nat.reduceLT, reduceCtorEq, List.append_nil, Nat.reduceAdd, Nat.reduceSub, Nat.reduceBEq, forall_const, implies_true, cond_true, cond_false, AV.ren, AC.ren, AV.cl, AC.cl, eq_self, List.all_cons, List.all_nil, AV.eqv, AC.eqv, eqvl, eqvt, Sl.eqv, List.map_append, List.length_map, List.length_append, List.length_replicate, List.length_set, List.map_replicate, nilVC, zr_27, fl_25_0, sz_3, fl_27_0, fl_25_1, fl_27_1, fl_25_2, fl_27_2, sz_27]
theorem q_laws_toMode : Quiet c_laws_toMode := by
  intro args M
  unfold c_laws_toMode
  dsimp only
  split <;> first | trivial | (intro _; rfl)

def modeOk (o g b : Int) : Prop := (0 ≤ o ∧ o ≤ 999) ∧ (0 ≤ g ∧ g ≤ 999) ∧ (0 ≤ b ∧ b ≤ 511)
instance (o g b : Int) : Decidable (modeOk o g b) := by unfold modeOk; infer_instance
def c_impl_modeOk : Contract := ⟨34, fun args M => match args with
  | [.agg [.int .i64 o, .int .i64 g, .int .i64 b]] => .pure True (Eng.B (decide (modeOk o g b)))
  | _ => .bad⟩
theorem ok_impl_modeOk : SpecOK Try.prog c_impl_modeOk := by
  refine ⟨fp_34, fun args M => ?_⟩
  unfold c_impl_modeOk
  dsimp only
  split
  case h_2 => trivial
  rename_i o g b
  intro _
  refine goIn hf_34 rfl (nt := 16) rfl (rs := [.tmp 2]) rfl (C := [c_impl_isName, c_impl_isBits]) ⟨ok_impl_isName, ok_impl_isBits, trivial⟩ (q := fun _ => false) okQ_none mixed (O := fun _ => .nil) (by kernel_rfl) ?_
  simp only [↓WP, ↓grdD, ↓grdT, ↓binVC, ↓buildVC, ↓sliceVC, WQ, WN, Int.reduceToNat, renl, cll, rent, clt, ↓reduceIte, Nat.reduceLeDiff, Nat.reduceEqDiff, Nat.reduceLT, reduceCtorEq, List.append_nil, Nat.reduceAdd, Nat.reduceSub, Nat.reduceBEq, forall_const, implies_true, cond_true, cond_false, AV.ren, AC.ren, AV.cl, AC.cl, eq_self, List.all_cons, List.all_nil, AV.eqv, AC.eqv, eqvl, eqvt, Sl.eqv, List.map_append, List.length_map, List.length_append, List.length_replicate, List.length_set, List.map_replicate, nilVC, fl_27_0, sz_3, fl_27_1, fl_27_2, c_impl_isName, c_impl_isBits]
  unfold modeOk
  by_cases h1 : (0 ≤ o ∧ o ≤ 999) <;> by_cases h2 : (0 ≤ g ∧ g ≤ 999) <;> by_cases h3 : (0 ≤ b ∧ b ≤ 511) <;> simp [h1, h2, h3]

/-- the three digits of small bits -/
def c_impl_digits : Contract := ⟨35, fun args M => match args with
  | [.c (.int .i64 b)] => .eff (0 ≤ b ∧ b ≤ 511) Unit (fun _ => True) (fun _ => .c (.sl ⟨.loc 0, 0, 0, 0⟩ 3 3)) (fun _ => [rowG true 3 3 [b / 64, b / 8 % 8, b % 8]]) (fun _ => [])
  | _ => .bad⟩
theorem ok_impl_digits : SpecOK Try.prog c_impl_digits := by
  refine ⟨fp_35, fun args M => ?_⟩
  unfold c_impl_digits
  dsimp only
  split
  case h_2 => trivial
  rename_i b
  intro hb
  refine goIn hf_35 rfl (nt := 12) rfl (rs := [.tmp 2]) rfl (C := []) trivial (q := fun _ => false) okQ_none mixed (O := fun _ => .nil) (by kernel_rfl) ?_
  simp only [↓WP, ↓grdD, ↓grdT, ↓binVC, ↓buildVC, ↓sliceVC, WQ, WN, Int.reduceToNat, renl, cll, rent, clt, ↓reduceIte, Nat.reduceLeDiff, Nat.reduceEqDiff, Nat.reduceLT, reduceCtorEq, List.append_nil, Nat.reduceAdd, Nat.reduceSub, Nat.reduceBEq, forall_const, implies_true, cond_true, cond_false, AV.ren, AC.ren, AV.cl, AC.cl, eq_self, List.all_cons, List.all_nil, AV.eqv, AC.eqv, eqvl, eqvt, Sl.eqv, List.map_append, List.length_map, List.length_append, List.length_replicate, List.length_set, List.map_replicate, nilVC, el_30, zr_3]
  refine ⟨by omega, by omega, by omega, end_ret ?_⟩
  simp only [↓WP, ↓grdD, ↓grdT, ↓binVC, ↓buildVC, ↓sliceVC, WQ, WN, Int.reduceToNat, renl, cll, rent, clt, ↓reduceIte, Nat.reduceLeDiff, Nat.reduceEqDiff, Nat.reduceLT, reduceCtorEq, List.append_nil, Nat.reduceAdd, Nat.reduceSub, Nat.reduceBEq, forall_const, implies_true, cond_true, cond_false, AV.ren, AC.ren, AV.cl, AC.cl, eq_self, List.all_cons, List.all_nil, AV.eqv, AC.eqv, eqvl, eqvt, Sl.eqv, List.map_append, List.length_map, List.length_append, List.length_replicate, List.length_set, List.map_replicate, nilVC, el_30, zr_3]
  refine ⟨(), [], [0], ?_⟩
  rw [show min 6 IntKind.i64.bits = 6 from rfl, show min 3 IntKind.i64.bits = 3 from rfl, fdiv_pow, fdiv_pow, show ((2 : Int) ^ 6) = 64 from rfl, show ((2 : Int) ^ 3) = 8 from rfl,
    and_7 (x := b / 64) (by omega) (by omega), and_7 (x := b / 8) (by omega) (by omega), and_7 (x := b) (by omega) (by omega), show b / 64 % 8 = b / 64 by omega]
  simp [WL, WNL, swA_new, swA_ne, nest_sw_ne, mapLL, List.mem_cons, Nat.reduceAdd, Nat.reduceLT, Nat.reduceLeDiff, Nat.reduceEqDiff, okU, List.nodup_cons, List.not_mem_nil, toT, toL, toO, keysO, renl, rent, cll, clt, eq_self, AV.eqv, AC.eqv, eqvl, eqvt, Sl.eqv, rowsLe, mapLL, rowsCl, List.map_append, List.length_map, List.length_append, List.length_set, List.map_replicate, rowG, List.getElem?_cons_zero, List.getElem?_cons_succ, List.getElem?_nil, List.append_nil, List.nil_append, List.cons_append, ghosts, St.gh, Option.some.injEq, implies_true, setT, AV.ren, AC.ren, AV.cl, AC.cl, List.replicate_succ, List.replicate_zero, List.nodup_nil, List.length_nil, List.length_cons, List.getD_cons_zero, List.getD_cons_succ, ↓reduceIte, retP]
def c_laws_eqMode : Contract := ⟨22, fun args M => match args with
  | [.agg [.int .i64 o, .int .i64 g, .int .i64 b], .agg [.int .i64 o', .int .i64 g', .int .i64 b']] => .pure True (Eng.B (decide (o = o' ∧ g = g' ∧ b = b')))
  | _ => .bad⟩
theorem ok_laws_eqMode : SpecOK Try.prog c_laws_eqMode := by
  refine ⟨fp_22, fun args M => ?_⟩
  unfold c_laws_eqMode
  dsimp only
  split
  case h_2 => trivial
  rename_i o g b o' g' b'
  intro _
  refine goIn hf_22 rfl (nt := 20) rfl (rs := [.tmp 4]) rfl (C := []) trivial (q := fun _ => false) okQ_none mixed (O := fun _ => .nil) (by kernel_rfl) ?_
  simp only [↓WP, ↓grdD, ↓grdT, ↓binVC, ↓buildVC, ↓sliceVC, WQ, WN, Int.reduceToNat, renl, cll, rent, clt, ↓reduceIte, Nat.reduceLeDiff, Nat.reduceEqDiff, Nat.reduceLT, reduceCtorEq, List.append_nil, Nat.reduceAdd, Nat.reduceSub, Nat.reduceBEq, forall_const, implies_true, cond_true, cond_false, AV.ren, AC.ren, AV.cl, AC.cl, eq_self, List.all_cons, List.all_nil, AV.eqv, AC.eqv, eqvl, eqvt, Sl.eqv, List.map_append, List.length_map, List.length_append, List.length_replicate, List.length_set, List.map_replicate, nilVC, fl_27_0, sz_3, fl_27_1, fl_27_2]
  by_cases h1 : o = o' <;> by_cases h2 : g = g' <;> by_cases h3 : b = b' <;> simp [h1, h2, h3]
theorem q_laws_eqMode : Quiet c_laws_eqMode := by
  intro args M
  unfold c_laws_eqMode
  dsimp only
  split <;> first | trivial | (intro _; rfl)
end Go.Eng.T
