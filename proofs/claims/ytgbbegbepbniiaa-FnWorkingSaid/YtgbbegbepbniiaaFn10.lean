/- faults: slices.Compact; what was asked for of late, in plain terms. -/
import Derived.Test.YtgbbegbepbniiaaFn9
set_option linter.unusedVariables false
set_option linter.unusedSimpArgs false
set_option linter.unusedSectionVars false
namespace Go.Eng.T
open Go.Proofs
open Cel (enc dec)
set_option maxRecDepth 100000
set_option maxHeartbeats 8000000
/-- what stands twice in a row stands once -/
def dd (X : List Int) : Nat → List Int
  | 0 => []
  | j + 1 => if 0 < j ∧ X.getD j default = X.getD (j - 1) default then dd X j else dd X j ++ [X.getD j default]
theorem dd_len (X : List Int) : ∀ j, (dd X j).length ≤ j
  | 0 => Nat.le_refl _
  | j + 1 => by
    have := dd_len X j
    unfold dd
    split
    · omega
    · rw [List.length_append, List.length_singleton]; omega
theorem dd_all {X : List Int} : ∀ {j}, j ≤ X.length → (∀ i, i < j → ¬ (0 < i ∧ X.getD i default = X.getD (i - 1) default)) → dd X j = X.take j
  | 0, _, _ => by simp [dd]
  | j + 1, hj, h => by
    rw [dd, if_neg (h j (by omega)), dd_all (by omega) fun i hi => h i (by omega), getD_of_lt hj, List.take_append_getElem]
theorem dd_mem {X : List Int} {x : Int} : ∀ {j}, j ≤ X.length → (x ∈ dd X j ↔ x ∈ X.take j)
  | 0, _ => by simp [dd]
  | j + 1, hj => by
    have ih := dd_mem (x := x) (j := j) (by omega : j ≤ X.length)
    have e : X.take (j + 1) = X.take j ++ [X.getD j default] := by rw [getD_of_lt hj, List.take_append_getElem]
    rw [e, dd]
    split
    · rename_i h
      rw [ih, List.mem_append, List.mem_singleton]
      refine ⟨.inl, fun hx => hx.elim id fun hx => ?_⟩
      rw [hx, h.2, getD_of_lt (by omega)]
      exact List.mem_iff_getElem.2 ⟨j - 1, by simp; omega, by rw [List.getElem_take]⟩
    · rw [List.mem_append, List.mem_append, ih]
/-- a sorted row's one is strictly sorted -/
theorem dd_sorted {X : List Int} (hs : X.Pairwise (· ≤ ·)) : ∀ {j}, j ≤ X.length → (dd X j).Pairwise (· < ·) ∧ ∀ x ∈ dd X j, ∀ h : 0 < j, x ≤ X.getD (j - 1) default
  | 0, _ => ⟨List.Pairwise.nil, fun x hx => by simp [dd] at hx⟩
  | j + 1, hj => by
    obtain ⟨ih1, ih2⟩ := dd_sorted hs (j := j) (by omega)
    rw [List.pairwise_iff_getElem] at hs
    have hstep : ∀ h : 0 < j, X.getD (j - 1) default ≤ X.getD j default := fun h => by
      have := hs (j - 1) j (by omega) hj (by omega)
      rwa [← getD_of_lt (by omega), ← getD_of_lt hj] at this
    rw [dd]
    split
    · rename_i h
      refine ⟨ih1, fun x hx _ => ?_⟩
      have := ih2 x hx h.1
      have := hstep h.1
      rw [Nat.add_sub_cancel]
      omega
    · rename_i h
      have hlt : ∀ x ∈ dd X j, x < X.getD j default := fun x hx => by
        have hj0 : 0 < j := by
          rcases Nat.eq_zero_or_pos j with h0 | h0
          · subst h0; simp [dd] at hx
          · exact h0
        have h1 := ih2 x hx hj0
        have h2 := hstep hj0
        have h3 : X.getD j default ≠ X.getD (j - 1) default := fun e => h ⟨hj0, e⟩
        omega
      refine ⟨?_, fun x hx _ => ?_⟩
      · rw [List.pairwise_append]
        exact ⟨ih1, List.pairwise_singleton _ _, fun x hx y hy => by rw [List.mem_singleton.1 hy]; exact hlt x hx⟩
      · rw [Nat.add_sub_cancel]
        rcases List.mem_append.1 hx with hx | hx
        · exact Int.le_of_lt (hlt x hx)
        · rw [List.mem_singleton.1 hx]; exact Int.le_refl _
/-- strictly sorted rows of the same are one -/
theorem sorted_ext : ∀ {A B : List Int}, A.Pairwise (· < ·) → B.Pairwise (· < ·) → (∀ x, x ∈ A ↔ x ∈ B) → A = B
  | [], [], _, _, _ => rfl
  | [], b :: B, _, _, h => by have := (h b).2 List.mem_cons_self; simp at this
  | a :: A, [], _, _, h => by have := (h a).1 List.mem_cons_self; simp at this
  | a :: A, b :: B, ha, hb, h => by
    obtain ⟨a1, a2⟩ := List.pairwise_cons.1 ha
    obtain ⟨b1, b2⟩ := List.pairwise_cons.1 hb
    have e : a = b := by
      rcases List.mem_cons.1 ((h a).1 List.mem_cons_self) with e | e
      · exact e
      · rcases List.mem_cons.1 ((h b).2 List.mem_cons_self) with f | f
        · exact f.symm
        · have := a1 b f; have := b1 a e; omega
    subst e
    rw [sorted_ext a2 b2 fun x => ?_]
    constructor
    · intro hx
      rcases List.mem_cons.1 ((h x).1 (List.mem_cons_of_mem _ hx)) with f | f
      · have := a1 x hx; omega
      · exact f
    · intro hx
      rcases List.mem_cons.1 ((h x).2 (List.mem_cons_of_mem _ hx)) with f | f
      · have := b1 x hx; omega
      · exact f
/-! what was asked for of late -/
def wsIn (X : List Int) (w : Int) (q : Nat) (p : Int) (i : Nat) : Bool := (List.range i).any fun j => decide (X.getD j default = p) && decide (((q : Int) - (j : Int)) < w)
def wsL (X : List Int) (w : Int) (q m : Nat) : List Int := ((List.range m).filter fun (p : Nat) => wsIn X w q (p : Int) (q + 1)).map fun (p : Nat) => (p : Int)
def wsMay (X : List Int) (q w : Int) : Prop := (X.length ≤ 200 ∧ ∀ i, i < X.length → 0 ≤ X.getD i default ∧ X.getD i default ≤ 99) ∧ (0 ≤ q ∧ q < X.length) ∧ 1 ≤ w
instance (X : List Int) (q w : Int) : Decidable (wsMay X q w) := by unfold wsMay; infer_instance
def wsO (X : List Int) (q w : Int) : List Int := if wsMay X q w then wsL X w q.toNat 100 else []
theorem wsIn_succ (X : List Int) (w : Int) (q : Nat) (p : Int) (i : Nat) : wsIn X w q p (i + 1) = (wsIn X w q p i || (decide (X.getD i default = p) && decide (((q : Int) - (i : Int)) < w))) := by
  unfold wsIn
  rw [List.range_succ, List.any_append]
  simp
theorem wsL_succ (X : List Int) (w : Int) (q m : Nat) : wsL X w q (m + 1) = if wsIn X w q (m : Int) (q + 1) = true then wsL X w q m ++ [(m : Int)] else wsL X w q m := by
  unfold wsL
  rw [List.range_succ, List.filter_append, List.map_append]
  split
  · rename_i h; rw [List.filter_cons_of_pos (by simpa using h)]; simp
  · rename_i h; rw [List.filter_cons_of_neg (by simpa using h)]; simp
theorem wsL_len (X : List Int) (w : Int) (q m : Nat) : (wsL X w q m).length ≤ m := by
  unfold wsL
  rw [List.length_map]
  exact Nat.le_trans (List.length_filter_le _ _) (by simp)
theorem wsL_sorted (X : List Int) (w : Int) (q : Nat) : ∀ m, (wsL X w q m).Pairwise (· < ·) ∧ ∀ x ∈ wsL X w q m, x < m
  | 0 => ⟨by simp [wsL], fun x hx => by simp [wsL] at hx⟩
  | m + 1 => by
    obtain ⟨h1, h2⟩ := wsL_sorted X w q m
    rw [wsL_succ]
    split
    · refine ⟨?_, fun x hx => ?_⟩
      · rw [List.pairwise_append]
        exact ⟨h1, List.pairwise_singleton _ _, fun x hx y hy => by rw [List.mem_singleton.1 hy]; exact h2 x hx⟩
      · rcases List.mem_append.1 hx with hx | hx
        · have := h2 x hx; omega
        · rw [List.mem_singleton.1 hx]; omega
    · exact ⟨h1, fun x hx => by have := h2 x hx; omega⟩
theorem wsIn_iff {X : List Int} {w : Int} {q : Nat} {p : Int} {i : Nat} : wsIn X w q p i = true ↔ ∃ j, j < i ∧ X.getD j default = p ∧ (q : Int) - j < w := by
  unfold wsIn
  rw [List.any_eq_true]
  constructor
  · rintro ⟨j, hj, h⟩
    rw [Bool.and_eq_true, decide_eq_true_eq, decide_eq_true_eq] at h
    exact ⟨j, List.mem_range.1 hj, h⟩
  · rintro ⟨j, hj, h⟩
    exact ⟨j, List.mem_range.2 hj, by rw [Bool.and_eq_true, decide_eq_true_eq, decide_eq_true_eq]; exact h⟩
theorem wsL_mem {X : List Int} {w : Int} {q m : Nat} {x : Int} : x ∈ wsL X w q m ↔ (0 ≤ x ∧ x < m) ∧ ∃ j, j < q + 1 ∧ X.getD j default = x ∧ (q : Int) - j < w := by
  unfold wsL
  rw [List.mem_map]
  constructor
  · rintro ⟨p, hp, rfl⟩
    rw [List.mem_filter, List.mem_range, wsIn_iff] at hp
    exact ⟨by omega, hp.2⟩
  · rintro ⟨h1, h2⟩
    refine ⟨x.toNat, ?_, by omega⟩
    rw [List.mem_filter, List.mem_range, wsIn_iff]
    exact ⟨by omega, by rw [Int.toNat_of_nonneg h1.1]; exact h2⟩
/-- the window itself -/
def winW (X : List Int) (w : Int) (q : Nat) : List Int := (X.take (q + 1)).drop ((q : Int) - w + 1).toNat
theorem winW_mem {X : List Int} {w : Int} {q : Nat} (hq : q < X.length) {x : Int} : x ∈ winW X w q ↔ ∃ j, j < q + 1 ∧ X.getD j default = x ∧ (q : Int) - j < w := by
  unfold winW
  constructor
  · intro h
    obtain ⟨k, hk, e⟩ := List.getElem_of_mem h
    rw [List.length_drop, List.length_take] at hk
    rw [List.getElem_drop, List.getElem_take] at e
    exact ⟨((q : Int) - w + 1).toNat + k, by omega, by rw [getD_of_lt (by omega)]; exact e, by omega⟩
  · rintro ⟨j, h1, h2, h3⟩
    rw [List.mem_iff_getElem]
    refine ⟨j - ((q : Int) - w + 1).toNat, by rw [List.length_drop, List.length_take]; omega, ?_⟩
    rw [List.getElem_drop, List.getElem_take]
    rw [getD_of_lt (by omega)] at h2
    rw [← h2]
    congr 1
    omega
theorem ws_same {X : List Int} {w : Int} {q : Nat} (h : wsMay X q w) {S : List Int} (hs : S.Pairwise (· ≤ ·)) (hp : S.Perm (winW X w q)) : dd S S.length = wsO X q w := by
  obtain ⟨⟨h1, h2⟩, h3, h4⟩ := id h
  unfold wsO
  rw [if_pos h, Int.toNat_natCast]
  refine sorted_ext (dd_sorted hs (Nat.le_refl _)).1 (wsL_sorted X w q 100).1 fun x => ?_
  rw [dd_mem (Nat.le_refl _), List.take_length, hp.mem_iff, winW_mem (by omega), wsL_mem]
  constructor
  · rintro ⟨j, a1, a2, a3⟩
    have := h2 j (by omega)
    exact ⟨by omega, j, a1, a2, a3⟩
  · exact fun h => h.2
/-! what FnWorking says -/
theorem wsO_has {X : List Int} {q w : Int} (h : wsMay X q w) : X.getD q.toNat default ∈ wsO X q w := by
  obtain ⟨⟨h1, h2⟩, h3, h4⟩ := id h
  unfold wsO
  rw [if_pos h, wsL_mem]
  have := h2 q.toNat (by omega)
  exact ⟨by omega, q.toNat, by omega, rfl, by omega⟩
theorem cnt_sub {A B : List Int} (ha : A.Pairwise (· < ·)) (h : ∀ x ∈ A, x ∈ B) : A.length ≤ B.length := by
  have key : ∀ {A B : List Int}, A.Nodup → (∀ x ∈ A, x ∈ B) → A.length ≤ B.length := by
    intro A
    induction A with
    | nil => intro B _ _; simp
    | cons a A ih =>
      intro B hn h
      obtain ⟨h1, h2⟩ := List.nodup_cons.1 hn
      have hb := h a List.mem_cons_self
      have h3 := ih (B := B.erase a) h2 fun x hx => (List.mem_erase_of_ne (fun e => h1 (by rw [← e]; exact hx))).2 (h x (List.mem_cons_of_mem _ hx))
      rw [List.length_erase_of_mem hb] at h3
      have h4 := List.length_pos_of_mem hb
      rw [List.length_cons]
      omega
  exact key (ha.imp fun h e => by omega) h
theorem wsO_grow {X : List Int} {q w : Int} (h : wsMay X q w) : (∀ x ∈ wsO X q w, x ∈ wsO X q (w + 1)) ∧ (wsO X q (w + 1)).length ≤ (wsO X q w).length + 1 ∧ (wsO X q w).length ≤ w := by
  obtain ⟨⟨h1, h2⟩, h3, h4⟩ := id h
  have h' : wsMay X q (w + 1) := ⟨⟨h1, h2⟩, h3, by omega⟩
  obtain ⟨n, rfl⟩ : ∃ n : Nat, q = n := ⟨q.toNat, by omega⟩
  unfold wsO
  rw [if_pos h, if_pos h', Int.toNat_natCast]
  refine ⟨fun x hx => ?_, ?_, ?_⟩
  · rw [wsL_mem] at hx ⊢
    obtain ⟨a, j, b, c, d⟩ := hx
    exact ⟨a, j, b, c, by omega⟩
  · have : (wsL X (w + 1) n 100).length ≤ (X.getD ((n : Int) - w).toNat default :: wsL X w n 100).length := by
      refine cnt_sub (wsL_sorted X (w + 1) n 100).1 fun x hx => ?_
      rw [wsL_mem] at hx
      obtain ⟨a, j, b, c, d⟩ := hx
      rw [List.mem_cons, wsL_mem]
      by_cases e : (n : Int) - j < w
      · exact .inr ⟨a, j, b, c, e⟩
      · left
        rw [← c]
        congr 1
        omega
    simpa using this
  · have : (wsL X w n 100).length ≤ (winW X w n).length := by
      refine cnt_sub (wsL_sorted X w n 100).1 fun x hx => ?_
      rw [winW_mem (by omega)]
      exact (wsL_mem.1 hx).2
    have hl : (winW X w n).length = n + 1 - ((n : Int) - w + 1).toNat := by
      unfold winW
      rw [List.length_drop, List.length_take]
      omega
    omega
end Go.Eng.T
