/- cow: what is drawn: rows of rows beside a cursor that is written. -/
import Derived.Test.YtjdppjomhkbljaaFn27
set_option linter.unusedVariables false
set_option linter.unusedSimpArgs false
set_option linter.unusedSectionVars false
namespace Go.Eng
section
variable {α : Type} [Inhabited α] [Cel α]
theorem Rows2_box {T : List Sl} {L : List Rg} {a : AA} {n : Nat} {M : RId → Option Rg} {X : List (List α)} {r : RId} {t t' : TypeId} {cs cs' : List AC} (h : Rows2 α a n M X) (hr : M r = some (.box t' cs')) : Rows2 α a.up n (St.look ⟨T, M, [(r, .box t cs)], L⟩) X := by
  obtain ⟨h1, h2, h3⟩ := h
  refine ⟨h1, h2, fun h0 => ?_⟩
  obtain ⟨own, ty, cnt, cap, len, get, b, c, hM, h4, h5, h6, hg⟩ := h3 h0
  have hlk : ∀ y, r ≠ y → St.look ⟨T, M, [(r, .box t cs)], L⟩ (.out y) = (M y).map Rg.up := fun y hne => by
    simp [St.look, findO, hne]
  have hne : r ≠ a.r := by rintro rfl; rw [hr] at hM; cases hM
  refine ⟨own, ty, cnt, cap, len, fun i k => (get i k).map AC.up, fun k => (b k).up, c, ?_, h4, h5, h6, fun k hk => ?_⟩
  · show St.look ⟨T, M, [(r, .box t cs)], L⟩ (.out a.r) = _
    rw [hlk _ hne, hM]; rfl
  · obtain ⟨e1, e2, e3, e4⟩ := hg k hk
    refine ⟨?_, e2, ?_⟩
    · show (get a.i (a.k + k)).map AC.up = _
      rw [e1]; rfl
    · show RowOk α (b k).up _ (St.look ⟨T, M, [(r, .box t cs)], L⟩ (.out (b k).r)) ∧ row α (b k).up _ (St.look ⟨T, M, [(r, .box t cs)], L⟩ (.out (b k).r)) = _
      by_cases hb : r = (b k).r
      · have hz : (X.getD k default).length = 0 := by
          rw [← hb, hr] at e3
          exact e3.2.resolve_right fun h => h.elim
        have hn : X.getD k default = [] := List.eq_nil_of_length_eq_zero hz
        rw [hz, hn]
        exact ⟨⟨by omega, .inl rfl⟩, rfl⟩
      · rw [hlk _ hb, RowOk_up, row_up]
        exact ⟨e3, e4⟩
theorem Row2Ok_box {a : AA} {n : Nat} {M : RId → Option Rg} {X : List (List α)} {r : RId} {t' : TypeId} {cs' : List AC} (h : Row2Ok α a n M) (hX : row2 α a n M = X) (hr : M r = some (.box t' cs')) (T : List Sl) (L : List Rg) (t : TypeId) (cs : List AC) : Row2Ok α a.up n (St.look ⟨T, M, [(r, .box t cs)], L⟩) = True := by
  have h' : Rows2 α a n M X := hX ▸ h
  exact eq_true (Rows2_box h' hr).ok
theorem row2_box {a : AA} {n : Nat} {M : RId → Option Rg} {X : List (List α)} {r : RId} {t' : TypeId} {cs' : List AC} (h : Row2Ok α a n M) (hX : row2 α a n M = X) (hr : M r = some (.box t' cs')) (T : List Sl) (L : List Rg) (t : TypeId) (cs : List AC) : row2 α a.up n (St.look ⟨T, M, [(r, .box t cs)], L⟩) = X := by
  have h' : Rows2 α a n M X := hX ▸ h
  exact (Rows2_box h' hr).eq
end
end Go.Eng
