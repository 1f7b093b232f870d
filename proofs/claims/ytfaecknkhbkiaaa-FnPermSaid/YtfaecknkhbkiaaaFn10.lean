/- perm: the plain laws that FnPerm asks. -/
import Derived.Test.YtfaecknkhbkiaaaFn9
set_option linter.unusedVariables false
set_option linter.unusedSimpArgs false
set_option linter.unusedSectionVars false
namespace Go.Eng.T
open Go.Proofs
open Cel (enc dec)
theorem may_range (u : Int) (X : List Int) (o g b : Int) : 0 ≤ may u X o g b ∧ may u X o g b ≤ 7 := by
  unfold may
  split
  · rename_i h
    obtain ⟨_, _, _, hb0, hb1⟩ := h
    split
    · split <;> omega
    · split
      · omega
      · split <;> omega
  · omega
theorem chmod_law {u : Int} {X : List Int} {o g b n : Int} (h : permOk u X o g b) : ((chmodV u X o g b n).2.2.2 = true → (chmodV u X o g b n).2.2.1 = n ∧ (u = 0 ∨ u = o)) ∧ ((chmodV u X o g b n).2.2.2 = false → (chmodV u X o g b n).1 = o ∧ (chmodV u X o g b n).2.1 = g ∧ (chmodV u X o g b n).2.2.1 = b) := by
  by_cases hc : (u ≠ 0 ∧ u ≠ o) ∨ ¬ (0 ≤ n ∧ n ≤ 511)
  · have e : chmodV u X o g b n = (o, g, b, false) := by unfold chmodV; rw [if_pos h, if_pos hc]
    rw [e]
    exact ⟨fun h => Bool.noConfusion h, fun _ => ⟨rfl, rfl, rfl⟩⟩
  · have e : chmodV u X o g b n = (o, g, n, true) := by unfold chmodV; rw [if_pos h, if_neg hc]
    rw [e]
    exact ⟨fun _ => ⟨rfl, by omega⟩, fun h => Bool.noConfusion h⟩
theorem chown_law {u : Int} {X : List Int} {o g b n m : Int} (h : (chownV u X o g b n m).2.2.2 = true) (hu : u ≠ 0) : (chownV u X o g b n m).1 = o := by
  unfold chownV at h ⊢
  split
  · rename_i hp
    rw [if_pos hp] at h
    split
    · rfl
    · rename_i hn
      show n = o
      have : ¬ ¬ (u = o ∧ n = o ∧ hasG X m = true) := fun hx => hn (.inr (.inr ⟨hu, hx⟩))
      exact (Decidable.of_not_not this).2.1
  · rename_i hp
    rw [if_neg hp] at h; cases h
theorem masked_law (p q : Int) : (0 ≤ p → masked p q ≤ p) ∧ (0 ≤ q → q ≤ 511 → masked (masked p q) q = masked p q) := by
  by_cases hp : 0 ≤ p ∧ p ≤ 511
  · by_cases hq : 0 ≤ q ∧ q ≤ 511
    · obtain ⟨a, rfl⟩ : ∃ a : Nat, p = a := ⟨p.toNat, by omega⟩
      obtain ⟨b, rfl⟩ : ∃ b : Nat, q = b := ⟨q.toNat, by omega⟩
      obtain ⟨r, hr, hlt, hbit⟩ := andNot_nat a b (by omega) (by omega)
      obtain ⟨s, hs, hls, hsb⟩ := andNot_nat r b hlt (by omega)
      have hra : r ≤ a := by
        have : r = r &&& a := by
          refine Nat.eq_of_testBit_eq fun j => ?_
          rw [Nat.testBit_and, hbit]
          cases a.testBit j <;> cases b.testBit j <;> rfl
        rw [this]; exact Nat.and_le_right
      have hsr : s = r := by
        refine Nat.eq_of_testBit_eq fun j => ?_
        rw [hsb, hbit]
        cases a.testBit j <;> cases b.testBit j <;> rfl
      have h1 : masked (a : Int) (b : Int) = (r : Int) := by unfold masked; rw [if_pos ⟨hp, hq⟩, hr]
      have h2 : masked (r : Int) (b : Int) = (r : Int) := by unfold masked; rw [if_pos ⟨⟨by omega, by omega⟩, hq⟩, hs, hsr]
      rw [h1, h2]
      exact ⟨fun _ => by omega, fun _ _ => rfl⟩
    · have h1 : masked p q = 0 := by unfold masked; rw [if_neg fun h => hq h.2]
      rw [h1]
      exact ⟨fun h => h, fun h k => absurd ⟨h, k⟩ hq⟩
  · have h1 : masked p q = 0 := by unfold masked; rw [if_neg fun h => hp h.1]
    rw [h1]
    refine ⟨fun h => h, fun h k => ?_⟩
    obtain ⟨b, rfl⟩ : ∃ b : Nat, q = b := ⟨q.toNat, by omega⟩
    obtain ⟨s, hs, hls, hsb⟩ := andNot_nat 0 b (by omega) (by omega)
    have : s = 0 := by
      refine Nat.eq_of_testBit_eq fun j => ?_
      rw [hsb]; simp
    unfold masked
    rw [if_pos ⟨⟨by omega, by omega⟩, h, k⟩]
    have hs' : bits .andNot .i64 0 (b : Int) = (s : Int) := hs
    rw [hs', this]; rfl
theorem shown_size (b : Int) : (shown b).size = 9 := by rw [shown, bytes_size, signs_length]
theorem shown_at (b : Int) {k : Nat} (h : k < 9) : (shown b).data.toList.getD k 0 = sgn b k := signs_get b h
theorem sgn_w {b : Int} {k : Nat} (h : ¬ b / 2 ^ (8 - k) % 2 = 0) (hk : k % 3 = 1) : (sgn b k).toNat = 119 := by
  unfold sgn; rw [if_neg h, hk]; rfl
theorem fin_law {u : Int} {X : List Int} {o g b : Int} (h : permOk u X o g b) (hu : ¬ u = 0) (hm : ¬ (IntKind.i64.wrap ((may u X o g b).tdiv 2)).tmod 2 = 0) :
    (sgn b 1).toNat = 119 ∨ (sgn b 4).toNat = 119 ∨ (sgn b 7).toNat = 119 := by
  obtain ⟨hr0, hr1⟩ := may_range u X o g b
  have hb := h.2.2.2
  rw [Int.tdiv_eq_ediv_of_nonneg hr0, w64 (by omega) (by omega), Int.tmod_eq_emod_of_nonneg (by omega)] at hm
  unfold may at hm
  rw [if_pos h, if_neg hu] at hm
  split at hm
  · refine .inl (sgn_w ?_ rfl)
    show ¬ b / 128 % 2 = 0
    omega
  · split at hm
    · refine .inr (.inl (sgn_w ?_ rfl))
      show ¬ b / 16 % 2 = 0
      omega
    · refine .inr (.inr (sgn_w ?_ rfl))
      show ¬ b / 2 % 2 = 0
      omega
end Go.Eng.T
