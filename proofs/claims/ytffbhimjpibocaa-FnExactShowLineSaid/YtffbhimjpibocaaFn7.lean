/- line: ShowLine in plain terms. -/
import Derived.Test.YtffbhimjpibocaaFn6
set_option linter.unusedVariables false
set_option linter.unusedSimpArgs false
set_option linter.unusedSectionVars false
namespace Go.Eng
def shB (b : UInt8) : List UInt8 := if b = 39 ∨ b = 92 then [92, b] else [b]
def sgn (b : UInt8) : Bool := b == 124 || b == 60 || b == 62 || b == 38 || b == 39 || b == 92
def showB (l : List UInt8) : List UInt8 := if l.any sgn = true then 39 :: l.flatMap shB ++ [39] else l
def showW (s : ByteArray) : List UInt8 := showB s.data.toList
theorem shB_len (b : UInt8) : (shB b).length ≤ 2 := by unfold shB; split <;> simp
theorem flat_len : ∀ l : List UInt8, (l.flatMap shB).length ≤ 2 * l.length
  | [] => by simp
  | b :: l => by
    have := flat_len l
    have := shB_len b
    rw [List.flatMap_cons, List.length_append, List.length_cons]
    omega
theorem showB_len (l : List UInt8) : (showB l).length ≤ 2 * l.length + 2 := by
  unfold showB
  split
  · have := flat_len l
    rw [List.length_append, List.length_cons, List.length_singleton]
    omega
  · omega
/-- parts, one blank between them -/
def jn (P : List (List UInt8)) : List UInt8 := [32].intercalate P
theorem jn_one (p : List UInt8) : jn [p] = p := by simp [jn, List.intercalate]
theorem jn_cons {p : List UInt8} {P : List (List UInt8)} (h : P ≠ []) : jn (p :: P) = p ++ 32 :: jn P := by
  cases P with
  | nil => exact absurd rfl h
  | cons q P => simp [jn, List.intercalate, List.intersperse]
theorem jn_snoc {p : List UInt8} : ∀ {P : List (List UInt8)}, P ≠ [] → jn (P ++ [p]) = jn P ++ 32 :: p
  | [], h => absurd rfl h
  | [q], _ => by rw [List.singleton_append, jn_cons (by simp), jn_one, jn_one]
  | q :: r :: P, _ => by
    rw [List.cons_append, jn_cons (by simp), jn_snoc (by simp), jn_cons (P := r :: P) (by simp)]
    simp
theorem jn_len {k : Nat} : ∀ {P : List (List UInt8)}, (∀ p ∈ P, p.length ≤ k) → (jn P).length ≤ P.length * (k + 1)
  | [], _ => by simp [jn, List.intercalate]
  | [q], h => by rw [jn_one]; have := h q (by simp); simp; omega
  | q :: r :: P, h => by
    rw [jn_cons (by simp), List.length_append, List.length_cons]
    have h1 := h q (by simp)
    have h2 := jn_len (P := r :: P) fun p hp => h p (List.mem_cons_of_mem _ hp)
    have e : (q :: r :: P).length * (k + 1) = (r :: P).length * (k + 1) + (k + 1) := by rw [List.length_cons, Nat.succ_mul]
    omega
/-- what is written of the first programs -/
def partsC (X : List (List ByteArray)) : Nat → List (List UInt8)
  | 0 => []
  | i + 1 => partsC X i ++ (if 0 < i then [[124]] else []) ++ (X.getD i default).map showW
def partsK (X : List (List ByteArray)) (i k : Nat) : List (List UInt8) := partsC X i ++ (if 0 < i then [[124]] else []) ++ ((X.getD i default).take k).map showW
theorem partsK_full (X : List (List ByteArray)) (i : Nat) : partsK X i (X.getD i default).length = partsC X (i + 1) := by
  unfold partsK
  rw [List.take_length]
  rfl
theorem partsK_succ {X : List (List ByteArray)} {i k : Nat} (h : k < (X.getD i default).length) : partsK X i (k + 1) = partsK X i k ++ [showW ((X.getD i default).getD k default)] := by
  unfold partsK
  rw [take_step _ _ default h, List.map_append, ← List.append_assoc]
  rfl
/-- what the specification has so far -/
def specK (X : List (List ByteArray)) (i k : Nat) : List UInt8 := if k = 0 then (if i = 0 then [] else jn (partsK X i 0) ++ [32]) else jn (partsK X i k)
theorem partsC_ne {X : List (List ByteArray)} (h : ∀ i, i < X.length → 1 ≤ (X.getD i default).length) {i : Nat} (h0 : 0 < i) (hi : i ≤ X.length) : partsC X i ≠ [] := by
  cases i with
  | zero => omega
  | succ i =>
    have := h i (by omega)
    intro e
    have e2 := congrArg List.length e
    simp only [partsC, List.length_append, List.length_map, List.length_nil] at e2
    omega
theorem specK_bar {X : List (List ByteArray)} (h : ∀ i, i < X.length → 1 ≤ (X.getD i default).length) {i : Nat} (h0 : 0 < i) (hi : i ≤ X.length) : jn (partsC X i) ++ [32, 124, 32] = specK X i 0 := by
  unfold specK partsK
  rw [if_pos rfl, if_neg (by omega), if_pos h0, List.take_zero, List.map_nil, List.append_nil, jn_snoc (partsC_ne h h0 hi)]
  simp
theorem specK_first (X : List (List ByteArray)) : specK X 0 0 = [] := rfl
theorem specK_one {X : List (List ByteArray)} {i : Nat} (h : 0 < (X.getD i default).length) : specK X i 0 ++ showW ((X.getD i default).getD 0 default) = specK X i 1 := by
  have e0 : specK X i 0 = if i = 0 then [] else jn (partsK X i 0) ++ [32] := rfl
  have e1 : specK X i 1 = jn (partsK X i 1) := rfl
  rw [e0, e1, partsK_succ h]
  by_cases h0 : i = 0
  · subst h0
    rw [if_pos rfl]
    simp [partsK, partsC, jn_one]
  · rw [if_neg h0, jn_snoc]
    · simp
    · unfold partsK
      rw [if_pos (by omega)]
      simp
theorem specK_more {X : List (List ByteArray)} {i k : Nat} (hk : 0 < k) (h : k < (X.getD i default).length) : specK X i k ++ [32] ++ showW ((X.getD i default).getD k default) = specK X i (k + 1) := by
  unfold specK
  rw [if_neg (by omega), if_neg (by omega), partsK_succ h, jn_snoc]
  · simp
  · unfold partsK
    intro e
    have e2 := congrArg List.length e
    simp only [List.length_append, List.length_map, List.length_take, List.length_nil] at e2
    omega
theorem specK_full {X : List (List ByteArray)} {i : Nat} (h : 0 < (X.getD i default).length) : specK X i (X.getD i default).length = jn (partsC X (i + 1)) := by
  unfold specK
  rw [if_neg (by omega), partsK_full]
/-- all of it -/
def partsAll (X : List (List ByteArray)) (i o : ByteArray) (more back : Bool) : List (List UInt8) :=
  partsC X X.length ++ (if i = ⟨#[]⟩ then [] else [[60], showW i]) ++ (if o = ⟨#[]⟩ then [] else [if more then [62, 62] else [62], showW o]) ++ if back then [[38]] else []
def showO (X : List (List ByteArray)) (i o : ByteArray) (more back : Bool) : ByteArray := if lineOk X i o more then ⟨(jn (partsAll X i o more back)).toArray⟩ else ⟨#[]⟩
theorem partsC_small {X : List (List ByteArray)} (h : ∀ x ∈ X, (1 ≤ x.length ∧ x.length ≤ 6) ∧ ∀ w ∈ x, lw w) : ∀ {i}, i ≤ X.length → (partsC X i).length ≤ 7 * i ∧ ∀ p ∈ partsC X i, p.length ≤ 42
  | 0, _ => ⟨by simp [partsC], fun p hp => by simp [partsC] at hp⟩
  | i + 1, hi => by
    obtain ⟨h1, h2⟩ := partsC_small h (i := i) (by omega)
    obtain ⟨h3, h4⟩ := h (X.getD i default) (getD_mem (by omega))
    refine ⟨?_, fun p hp => ?_⟩
    · rw [partsC, List.length_append, List.length_append, List.length_map]
      split
      · rw [List.length_singleton]; omega
      · rw [List.length_nil]; omega
    · rcases List.mem_append.1 hp with hp | hp
      · rcases List.mem_append.1 hp with hp | hp
        · exact h2 p hp
        · split at hp
          · rw [List.mem_singleton.1 hp]; simp
          · simp at hp
      · obtain ⟨w, hw, rfl⟩ := List.mem_map.1 hp
        have := showB_len w.data.toList
        have hws := (h4 w hw).1.2
        have hl : w.data.toList.length = w.size := rfl
        unfold showW
        omega
theorem partsK_small {X : List (List ByteArray)} (h : ∀ x ∈ X, (1 ≤ x.length ∧ x.length ≤ 6) ∧ ∀ w ∈ x, lw w) {i k : Nat} (hi : i < X.length) : (partsK X i k).length ≤ 7 * i + 7 ∧ ∀ p ∈ partsK X i k, p.length ≤ 42 := by
  obtain ⟨h1, h2⟩ := partsC_small h (i := i) (by omega)
  obtain ⟨h3, h4⟩ := partsC_small h (i := i + 1) (by omega)
  obtain ⟨h5, h6⟩ := h (X.getD i default) (getD_mem hi)
  refine ⟨?_, fun p hp => h4 p ?_⟩
  · unfold partsK
    rw [List.length_append, List.length_append, List.length_map, List.length_take]
    split
    · rw [List.length_singleton]; omega
    · rw [List.length_nil]; omega
  · unfold partsK at hp
    rcases List.mem_append.1 hp with hp | hp
    · exact List.mem_append.2 (.inl hp)
    · refine List.mem_append.2 (.inr ?_)
      obtain ⟨w, hw, rfl⟩ := List.mem_map.1 hp
      exact List.mem_map.2 ⟨w, List.mem_of_mem_take hw, rfl⟩
theorem specK_len {X : List (List ByteArray)} (h : ∀ x ∈ X, (1 ≤ x.length ∧ x.length ≤ 6) ∧ ∀ w ∈ x, lw w) (hX : X.length ≤ 5) {i k : Nat} (hi : i < X.length) : (specK X i k).length ≤ 2000 := by
  obtain ⟨a1, a2⟩ := partsK_small h (k := k) hi
  obtain ⟨b1, b2⟩ := partsK_small h (k := 0) hi
  have c1 := jn_len a2
  have c2 := jn_len b2
  have d1 : (partsK X i k).length * (42 + 1) ≤ 35 * 43 := Nat.mul_le_mul (by omega) (by omega)
  have d2 : (partsK X i 0).length * (42 + 1) ≤ 35 * 43 := Nat.mul_le_mul (by omega) (by omega)
  unfold specK
  split
  · split
    · simp
    · rw [List.length_append, List.length_singleton]; omega
  · omega
end Go.Eng
