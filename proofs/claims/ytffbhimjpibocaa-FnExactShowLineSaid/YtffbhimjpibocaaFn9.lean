/- line: a word as it is shown. -/
import Derived.Test.YtffbhimjpibocaaFn8
set_option linter.unusedVariables false
set_option linter.unusedSimpArgs false
set_option linter.unusedSectionVars false
namespace Go.Eng
def sgI (b : Int) : Bool := decide (b = 124) || decide (b = 60) || decide (b = 62) || decide (b = 38) || decide (b = 39) || decide (b = 92)
theorem u8k (x : UInt8) (k : Nat) (hk : k < 256) : ((x.toNat : Int) = (k : Int)) ↔ x = UInt8.ofNat k := by
  constructor
  · intro h
    have : x.toNat = k := by omega
    exact UInt8.toNat_inj.1 (by rw [this, UInt8.toNat_ofNat']; omega)
  · rintro rfl
    rw [UInt8.toNat_ofNat']
    omega
theorem sgI_u8 (x : UInt8) : sgI (x.toNat : Int) = sgn x := by
  unfold sgI sgn
  have h1 : ((x.toNat : Int) = 124) ↔ x = 124 := u8k x 124 (by omega); have h2 : ((x.toNat : Int) = 60) ↔ x = 60 := u8k x 60 (by omega); have h3 : ((x.toNat : Int) = 62) ↔ x = 62 := u8k x 62 (by omega)
  have h4 : ((x.toNat : Int) = 38) ↔ x = 38 := u8k x 38 (by omega); have h5 : ((x.toNat : Int) = 39) ↔ x = 39 := u8k x 39 (by omega); have h6 : ((x.toNat : Int) = 92) ↔ x = 92 := u8k x 92 (by omega)
  rw [decide_eq_decide.2 h1, decide_eq_decide.2 h2, decide_eq_decide.2 h3, decide_eq_decide.2 h4, decide_eq_decide.2 h5, decide_eq_decide.2 h6]
  rfl
/-- what is written of the first bytes -/
def shY (s : ByteArray) (i : Nat) : List UInt8 := 39 :: (s.data.toList.take i).flatMap shB
theorem shY_succ {s : ByteArray} {i : Nat} (h : i < s.size) : shY s (i + 1) = shY s i ++ shB (s.data.toList.getD i 0) := by
  unfold shY
  have e : s.data.toList.take (i + 1) = s.data.toList.take i ++ [s.data.toList.getD i 0] := take_step _ _ 0 h
  rw [e, List.flatMap_append, List.cons_append]
  simp
theorem shY_len (s : ByteArray) (i : Nat) (h : i ≤ s.size) : (shY s i).length ≤ 2 * s.size + 1 := by
  unfold shY
  have h1 := flat_len (s.data.toList.take i)
  rw [List.length_take] at h1
  rw [List.length_cons]
  omega
theorem any_succ {s : ByteArray} {i : Nat} (h : i < s.size) : (s.data.toList.take (i + 1)).any sgn = ((s.data.toList.take i).any sgn || sgn (s.data.toList.getD i 0)) := by
  have e : s.data.toList.take (i + 1) = s.data.toList.take i ++ [s.data.toList.getD i 0] := take_step _ _ 0 h
  rw [e, List.any_append]
  simp
theorem shY_all (s : ByteArray) : shY s s.size = 39 :: s.data.toList.flatMap shB := by
  unfold shY
  rw [List.take_of_length_le (l := s.data.toList) (i := s.size) (Nat.le_refl _)]
theorem any_all (s : ByteArray) : (s.data.toList.take s.size).any sgn = s.data.toList.any sgn := by
  rw [List.take_of_length_le (l := s.data.toList) (i := s.size) (Nat.le_refl _)]
theorem show_no {s : ByteArray} (h : s.data.toList.any sgn = false) : (⟨(showW s).toArray⟩ : ByteArray) = s := by
  unfold showW showB
  rw [h]
  rfl
theorem show_yes {s : ByteArray} (h : s.data.toList.any sgn = true) : showW s = shY s s.size ++ [39] := by
  unfold showW showB
  rw [h, if_pos rfl, shY_all]
theorem any_special (s : ByteArray) : Lib.containsAny s.data.toList [124, 60, 62, 38, 39, 92] = s.data.toList.any sgn := by
  unfold Lib.containsAny
  have key : ∀ l : List UInt8, (0 ≤ Lib.indexAny l [124, 60, 62, 38, 39, 92] ↔ l.any sgn = true) := by
    intro l
    induction l with
    | nil => simp [Lib.indexAny]
    | cons b l ih =>
      have hc : ([124, 60, 62, 38, 39, 92] : List UInt8).contains b = sgn b := by
        unfold sgn
        simp only [List.contains_cons, List.contains_nil, Bool.or_false]
        cases b == 124 <;> cases b == 60 <;> cases b == 62 <;> cases b == 38 <;> cases b == 39 <;> cases b == 92 <;> rfl
      have hge := Lib.indexAny_ge [124, 60, 62, 38, 39, 92] l
      unfold Lib.indexAny
      rw [hc, List.any_cons]
      cases hb : sgn b
      · simp only [Bool.false_eq_true, if_false, Bool.false_or]
        rw [← ih]
        split
        · rename_i h
          have : Lib.indexAny l [124, 60, 62, 38, 39, 92] = -1 := by simpa using h
          omega
        · rename_i h
          have : Lib.indexAny l [124, 60, 62, 38, 39, 92] ≠ -1 := by simpa using h
          omega
      · simp
  have := key s.data.toList
  rw [Bool.eq_iff_iff, decide_eq_true_iff]
  exact this
end Go.Eng
namespace Go.Eng.T
open Go.Proofs
open Cel (enc dec)
set_option maxRecDepth 100000
set_option maxHeartbeats 8000000
def c_spec_l34Sign : Contract := ⟨31, fun args M => match args with
  | [.c (.int .u8 b)] => .pure True (Eng.B (sgI b))
  | _ => .bad⟩
theorem ok_spec_l34Sign : fnP Try.prog c_spec_l34Sign.f = true ∧ ∀ args M, (c_spec_l34Sign.sp args M).OK Try.prog c_spec_l34Sign.f args M := by
  refine ⟨fp_31, fun args M => ?_⟩
  unfold c_spec_l34Sign
  dsimp only
  split
  case h_2 => trivial
  rename_i b
  intro _
  refine goIn hf_31 rfl (nt := 25) rfl (rs := [.tmp 2]) rfl (C := []) trivial (q := fun _ => false) okQ_none mixed (O := fun _ => .nil) (by kernel_rfl) ?_
  simp only [↓WP, ↓grdD, ↓grdT, ↓un_dead, ↓binVC, ↓buildVC, ↓sliceVC, WQ, WN, Int.reduceToNat, renl, cll, rent, clt, ↓reduceIte, Nat.reduceLeDiff, Nat.reduceEqDiff, Nat.reduceLT, reduceCtorEq, List.append_nil, Nat.reduceAdd, Nat.reduceSub, Nat.reduceBEq, forall_const, implies_true, cond_true, cond_false, AV.ren, AC.ren, AV.cl, AC.cl, eq_self, List.all_cons, List.all_nil, AV.eqv, AC.eqv, eqvl, eqvt, Sl.eqv, List.map_append, List.length_map, List.length_append, List.length_replicate, List.length_set, List.map_replicate, nilVC, ]
  unfold sgI
  by_cases h1 : b = 124 <;> by_cases h2 : b = 60 <;> by_cases h3 : b = 62 <;> by_cases h4 : b = 38 <;> by_cases h5 : b = 39 <;> by_cases h6 : b = 92 <;> simp [h1, h2, h3, h4, h5, h6]
end Go.Eng.T
