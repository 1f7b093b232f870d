/- line: plain functions. -/
import Derived.Test.YtffbhimjpibocaaTab
set_option linter.unusedVariables false
set_option linter.unusedSimpArgs false
set_option linter.unusedSectionVars false
namespace Go.Eng
open Cel (enc dec)
section
variable {α : Type}
/-- rows, each with no more room than it takes -/
def own1 (X : List (List α)) : List (Nat × List α) := X.map fun l => (l.length, l)
theorem own1_length (X : List (List α)) : (own1 X).length = X.length := by simp [own1]
theorem own1_get {X : List (List α)} {i : Nat} (h : i < X.length) : (own1 X).getD i default = ((X.getD i default).length, X.getD i default) := getD_map (f := fun l : List α => (l.length, l)) h
theorem own1_snd (X : List (List α)) : (own1 X).map (·.2) = X := by simp [own1, Function.comp_def]
end
/-- a byte of a string -/
def bt (s : ByteArray) (i : Nat) : Nat := (s.data.toList.getD i 0).toNat
/-- a word of a command line -/
def lw (s : ByteArray) : Prop := (1 ≤ s.size ∧ s.size ≤ 20) ∧ ∀ i, i < s.size → 33 ≤ bt s i ∧ bt s i ≤ 126
instance (s : ByteArray) : Decidable (lw s) := by unfold lw; infer_instance
abbrev small (s : ByteArray) : Prop := s.size ≤ 9223372036854775807
/-- a row of strings that is not too long -/
def RowS (a : AA) (n : Nat) (o : Option Rg) : Prop := n ≤ 1048576 → RowOk ByteArray a n o ∧ ∀ x ∈ row ByteArray a n o, small x
theorem RowS_up {a : AA} {n : Nat} {o : Option Rg} : RowS a.up n (o.map Rg.up) = RowS a n o := by unfold RowS; rw [RowOk_up, row_up]
def Row2S (a : AA) (n : Nat) (M : RId → Option Rg) : Prop := n ≤ 1048576 → ∃ Ls : List Nat, lens2 a n (M a.r) = Ls ∧ Ls.length = n ∧ (0 < n → ∃ own ty cnt cap len get, ∃ (b : Nat → AA) (c : Nat → Nat), M a.r = some (.arr own ty 1 cnt cap len get) ∧ a.f = 0 ∧ a.i < cnt ∧ a.k + n ≤ len a.i ∧
  ∀ k, k < n → get a.i (a.k + k) = [.sl (b k) (Ls.getD k 0) (c k)] ∧ Ls.getD k 0 ≤ 9223372036854775807 ∧ RowS (b k) (Ls.getD k 0) (M (b k).r))
theorem Row2S_up {T : List Sl} {L : List Rg} {a : AA} {n : Nat} {M : RId → Option Rg} (h : Row2S a n M) : Row2S a.up n (St.look ⟨T, M, [], L⟩) := by
  intro hn
  obtain ⟨Ls, h1, h2, h3⟩ := h hn
  refine ⟨Ls, ?_, h2, fun h0 => ?_⟩
  · rw [← h1]; exact lens2_up
  · obtain ⟨own, ty, cnt, cap, len, get, b, c, hM, h4, h5, h6, hg⟩ := h3 h0
    refine ⟨own, ty, cnt, cap, len, fun i k => (get i k).map AC.up, fun k => (b k).up, c, ?_, h4, h5, h6, fun k hk => ?_⟩
    · show (M a.r).map Rg.up = _
      rw [hM]; rfl
    · obtain ⟨e1, e2, e3⟩ := hg k hk
      refine ⟨?_, e2, ?_⟩
      · show (get a.i (a.k + k)).map AC.up = _
        rw [e1]; rfl
      · show RowS (b k).up _ ((M (b k).r).map Rg.up)
        rw [RowS_up]; exact e3
/-- a right command line -/
def lineOk (X : List (List ByteArray)) (i o : ByteArray) (more : Bool) : Prop := ((1 ≤ X.length ∧ X.length ≤ 5) ∧ (i ≠ ⟨#[]⟩ → lw i) ∧ (o ≠ ⟨#[]⟩ → lw o) ∧ (more = true → o ≠ ⟨#[]⟩)) ∧ ∀ x ∈ X, (1 ≤ x.length ∧ x.length ≤ 6) ∧ ∀ w ∈ x, lw w
instance (X : List (List ByteArray)) (i o : ByteArray) (more : Bool) : Decidable (lineOk X i o more) := by unfold lineOk; infer_instance
end Go.Eng
