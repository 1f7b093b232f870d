/- wheel: WheelDrop as it is specified. -/
import Derived.Test.YtmeedopbpdfeaaaFn5
set_option linter.unusedVariables false
set_option linter.unusedSimpArgs false
set_option linter.unusedSectionVars false
namespace Go.Eng.T
open Go.Proofs
open Cel (enc dec)
set_option maxRecDepth 100000
set_option maxHeartbeats 4000000
def fl (X : List T3) (d : Int) (i : Nat) : List T3 := (X.take i).filter fun x => decide (¬ x.1 = d)
theorem fl_zero (X : List T3) (d : Int) : fl X d 0 = [] := by simp [fl]
theorem fl_len (X : List T3) (d : Int) (i : Nat) : (fl X d i).length ≤ i := Nat.le_trans (List.length_filter_le _ _) (by simp; omega)
theorem fl_hit {X : List T3} {d : Int} {i : Nat} (hi : i < X.length) (h : (X.getD i default).1 = d) : fl X d (i + 1) = fl X d i := by
  unfold fl
  rw [take_step X i default hi, List.filter_append, List.filter_cons_of_neg (p := fun x : T3 => decide (¬ x.1 = d)) (by rw [h]; simp)]
  simp
theorem fl_miss {X : List T3} {d : Int} {i : Nat} (hi : i < X.length) (h : ¬ (X.getD i default).1 = d) : fl X d (i + 1) = fl X d i ++ [X.getD i default] := by
  unfold fl
  rw [take_step X i default hi, List.filter_append, List.filter_cons_of_pos (p := fun x : T3 => decide (¬ x.1 = d)) (decide_eq_true h)]
  simp
theorem fl_all {X : List T3} {d : Int} (hu : ∀ i, i < X.length → ∀ j, j < i → (X.getD j default).1 ≠ (X.getD i default).1) :
    fl X d X.length = if 0 ≤ idx (fun x : T3 => decide (x.1 = d)) X then X.take (idx (fun x : T3 => decide (x.1 = d)) X).toNat ++ X.drop ((idx (fun x : T3 => decide (x.1 = d)) X).toNat + 1) else X := by
  unfold fl
  rw [List.take_length]
  split
  · rename_i h
    obtain ⟨m, hm, h1, h2, h3⟩ := idx_nonneg h
    rw [hm, Int.toNat_natCast]
    have e : X = X.take m ++ X[m] :: X.drop (m + 1) := by rw [← List.drop_eq_getElem_cons h1, List.take_append_drop]
    have h2 : X[m].1 = d := by rw [getD_of_lt h1] at h2; simpa using h2
    have f1 : (X.take m).filter (fun x => decide (¬ x.1 = d)) = X.take m := by
      rw [List.filter_eq_self]
      intro x hx
      obtain ⟨j, hj, rfl⟩ := List.getElem_of_mem hx
      have hj2 : j < m := by simp at hj; omega
      rw [List.getElem_take]
      have := h3 j hj2
      rw [getD_of_lt (by omega)] at this
      simpa using this
    have f2 : (X.drop (m + 1)).filter (fun x => decide (¬ x.1 = d)) = X.drop (m + 1) := by
      rw [List.filter_eq_self]
      intro x hx
      obtain ⟨j, hj, rfl⟩ := List.getElem_of_mem hx
      have hj2 : m + 1 + j < X.length := by simp at hj; omega
      rw [List.getElem_drop]
      have := hu (m + 1 + j) hj2 m (by omega)
      rw [getD_of_lt h1, getD_of_lt hj2, h2] at this
      simpa using fun e => this e.symm
    have f3 : X.filter (fun x => decide (¬ x.1 = d)) = (X.take m ++ X[m] :: X.drop (m + 1)).filter (fun x => decide (¬ x.1 = d)) := congrArg (List.filter _) e
    rw [f3, List.filter_append, f1, List.filter_cons_of_neg (by simp [h2]), f2]
  · rename_i h
    rw [List.filter_eq_self]
    intro x hx
    obtain ⟨j, hj, rfl⟩ := List.getElem_of_mem hx
    have hr := idx_range (fun x : T3 => decide (x.1 = d)) X
    have hm : idx (fun x : T3 => decide (x.1 = d)) X = -1 := by omega
    unfold idx at hm
    cases hf : X.findIdx? (fun x : T3 => decide (x.1 = d)) with
    | some i => rw [hf] at hm; simp at hm
    | none =>
      have := List.findIdx?_eq_none_iff.1 hf _ (List.getElem_mem hj)
      simpa using this
end Go.Eng.T
