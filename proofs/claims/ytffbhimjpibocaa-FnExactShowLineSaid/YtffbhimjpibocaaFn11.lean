/- line: ShowLine as it is specified. -/
import Derived.Test.YtffbhimjpibocaaFn10
set_option linter.unusedVariables false
set_option linter.unusedSimpArgs false
set_option linter.unusedSectionVars false
namespace Go.Eng
theorem jn_two {P : List (List UInt8)} (h : P ≠ []) (a b : List UInt8) : jn (P ++ [a, b]) = jn P ++ (32 :: a ++ 32 :: b) := by
  have e : P ++ [a, b] = (P ++ [a]) ++ [b] := by simp
  rw [e, jn_snoc (by simp), jn_snoc h]
  simp
theorem show_tail {X : List (List ByteArray)} {i o : ByteArray} {more back : Bool} (hP : partsC X X.length ≠ []) : bytes (jn (partsAll X i o more back)) =
    (fun A0 : ByteArray => (fun A1 : ByteArray => (fun A2 : ByteArray => if back = true then A2 ++ ⟨#[32, 38]⟩ else A2) (if o = ⟨#[]⟩ then A1 else if more = true then A1 ++ ⟨#[32, 62, 62, 32]⟩ ++ ⟨(showW o).toArray⟩ else A1 ++ ⟨#[32, 62, 32]⟩ ++ ⟨(showW o).toArray⟩)) (if i = ⟨#[]⟩ then A0 else A0 ++ ⟨#[32, 60, 32]⟩ ++ ⟨(showW i).toArray⟩)) (bytes (jn (partsC X X.length))) := by
  have cat : ∀ (A B : List UInt8), bytes A ++ (⟨B.toArray⟩ : ByteArray) = bytes (A ++ B) := fun A B => bytes_append A B
  have c1 : ∀ A, bytes A ++ (⟨#[32, 60, 32]⟩ : ByteArray) = bytes (A ++ [32, 60, 32]) := fun A => cat A [32, 60, 32]
  have c2 : ∀ A, bytes A ++ (⟨#[32, 62, 62, 32]⟩ : ByteArray) = bytes (A ++ [32, 62, 62, 32]) := fun A => cat A [32, 62, 62, 32]
  have c3 : ∀ A, bytes A ++ (⟨#[32, 62, 32]⟩ : ByteArray) = bytes (A ++ [32, 62, 32]) := fun A => cat A [32, 62, 32]
  have c4 : ∀ A, bytes A ++ (⟨#[32, 38]⟩ : ByteArray) = bytes (A ++ [32, 38]) := fun A => cat A [32, 38]
  unfold partsAll
  obtain ⟨P, hP0⟩ : ∃ P, P = partsC X X.length := ⟨_, rfl⟩
  rw [← hP0] at hP ⊢
  dsimp only
  by_cases e1 : i = ⟨#[]⟩ <;> by_cases e2 : o = ⟨#[]⟩ <;> cases more <;> cases back
  all_goals simp only [e1, e2, if_true, if_false, Bool.false_eq_true, List.append_nil, c1, c2, c3, c4, cat]
  all_goals first
    | rfl
    | (rw [jn_snoc hP]; done)
    | (rw [jn_two hP]; congr 1; simp; done)
    | (rw [jn_snoc (by simp), jn_two hP]; congr 1; simp; done)
    | (rw [jn_two (by simp), jn_two hP]; congr 1; simp; done)
    | (rw [jn_snoc (by simp), jn_two (by simp), jn_two hP]; congr 1; simp; done)
end Go.Eng
namespace Go.Eng.T
open Go.Proofs
open Cel (enc dec)
set_option maxRecDepth 100000
set_option maxHeartbeats 8000000
end Go.Eng.T
