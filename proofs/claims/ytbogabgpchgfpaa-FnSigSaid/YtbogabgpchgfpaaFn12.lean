/- sig: what is done to a good Sig leaves a good one. -/
import Derived.Test.YtbogabgpchgfpaaFn11
set_option linter.unusedVariables false
set_option linter.unusedSimpArgs false
set_option linter.unusedSectionVars false
namespace Go.Eng.T
open Go.Proofs
open Cel (enc dec)
set_option maxRecDepth 100000
set_option maxHeartbeats 4000000
theorem sub_len : ∀ {L R : List Int}, L.Nodup → (∀ x ∈ L, x ∈ R) → L.length ≤ R.length
  | [], _, _, _ => Nat.zero_le _
  | a :: L, R, hn, hs => by
    have hn' := List.nodup_cons.1 hn
    have ha := hs a (by simp)
    have h1 : L.length ≤ (R.erase a).length := sub_len hn'.2 fun x hx => by
      refine (List.mem_erase_of_ne ?_).2 (hs x (by simp [hx]))
      rintro rfl
      exact hn'.1 hx
    rw [List.length_erase_of_mem ha] at h1
    have := List.length_pos_of_mem ha
    simp only [List.length_cons]
    omega
abbrev okS (s : SO) : Prop := sigOk s.1 s.2.1 s.2.2.1 s.2.2.2.1 s.2.2.2.2
theorem gset {α : Type} [Inhabited α] {L : List α} {i j : Nat} {x : α} (hj : j < L.length) : (L.set i x).getD j default = if i = j then x else L.getD j default := by
  rw [getD_of_lt (by rw [List.length_set]; exact hj), List.getElem_set, getD_of_lt hj]
theorem mask_ok {P K : List Bool} {D I : List Int} {u : Int} (h : sigOk P K D I u) (n : Int) (on : Bool) : okS (maskO P K D I u n on).1 := by
  unfold maskO
  rw [if_pos h]
  split
  · rename_i hc
    obtain ⟨⟨h1, h2, h3, h4, h5⟩, h6, h7, h8, h9, h10⟩ := h
    refine ⟨⟨h1, by simpa using h2, h3, h4, h5⟩, h6, ?_, h8, h9, h10⟩
    show (K.set _ _).getD 8 default = false
    rw [gset (by omega), if_neg (by omega)]; exact h7
  · exact h
theorem send_ok {P K : List Bool} {D I : List Int} {u : Int} (h : sigOk P K D I u) (n : Int) : okS (sendO P K D I u n).1 := by
  unfold sendO
  rw [if_pos h]
  split
  · rename_i hc
    split
    · exact h
    · obtain ⟨⟨h1, h2, h3, h4, h5⟩, h6, h7, h8, h9, h10⟩ := h
      exact ⟨⟨by simpa using h1, h2, h3, h4, h5⟩, h6, h7, h8, h9, .inl hc.2⟩
  · exact h
theorem set_ok {P K : List Bool} {D I : List Int} {u : Int} (h : sigOk P K D I u) (n d : Int) : okS (setO P K D I u n d).1 := by
  unfold setO
  rw [if_pos h]
  split
  · rename_i hc
    obtain ⟨⟨h1, h2, h3, h4, h5⟩, h6, h7, h8, h9, h10⟩ := h
    have a1 : ∀ i, i < 16 → 0 ≤ (D.set (n - 1).toNat d).getD i default ∧ (D.set (n - 1).toNat d).getD i default ≤ 2 := fun i hi => by
      rw [gset (by omega)]
      split
      · exact hc.2.2.1
      · exact h6 i hi
    have a2 : (D.set (n - 1).toNat d).getD 8 default = 0 := by rw [gset (by omega), if_neg (by omega)]; exact h8
    split
    · exact ⟨⟨by simpa using h1, h2, by simpa using h3, h4, h5⟩, a1, h7, a2, h9, .inl hc.2.2.2⟩
    · exact ⟨⟨h1, h2, by simpa using h3, h4, h5⟩, a1, h7, a2, h9, h10⟩
  · exact h
theorem iOk_take {I : List Int} {m i : Nat} (h : iOk I i) (hi : i < m) (hm : m ≤ I.length) : iOk (I.take m) i := by
  have e : ∀ j, j < m → (I.take m).getD j default = I.getD j default := fun j hj => by
    rw [getD_of_lt (by rw [List.length_take]; omega), getD_of_lt (by omega), List.getElem_take]
  refine ⟨by rw [e i hi]; exact h.1, fun j hj => ?_⟩
  rw [e i hi, e j (by omega)]; exact h.2 j hj
theorem back_ok {P K : List Bool} {D I : List Int} {u : Int} (h : sigOk P K D I u) : okS (backO P K D I u).1 := by
  unfold backO
  rw [if_pos h]
  split
  · exact h
  · rename_i hc
    obtain ⟨⟨h1, h2, h3, h4, h5⟩, h6, h7, h8, h9, h10⟩ := h
    have hl : (I.take (I.length - 1)).length = I.length - 1 := by simp
    refine ⟨⟨h1, h2, h3, by show (I.take (I.length - 1)).length ≤ 16; omega, h5⟩, h6, h7, h8, fun i hi => ?_, ?_⟩
    · have hi' : i < I.length - 1 := by rw [← hl]; exact hi
      exact iOk_take (h9 i (by omega)) hi' (by omega)
    · rcases h10 with h | h
      · exact .inl h
      · exact .inr ⟨by show (I.take (I.length - 1)).length = 0; omega, h.2⟩
theorem iOk_nodup {I : List Int} (h : ∀ i, i < I.length → iOk I i) : I.Nodup := by
  refine List.pairwise_iff_getElem.2 fun i j hi hj hij => ?_
  have := (h j hj).2 i hij
  rwa [getD_of_lt hi, getD_of_lt hj] at this
theorem iOk_mem {I : List Int} (h : ∀ i, i < I.length → iOk I i) {x : Int} (hx : x ∈ I) : 1 ≤ x ∧ x ≤ 16 := by
  obtain ⟨i, hi, rfl⟩ := List.getElem_of_mem hx
  have := (h i hi).1
  rwa [getD_of_lt hi] at this
theorem iOk_snoc {I : List Int} {n : Int} (h : ∀ i, i < I.length → iOk I i) (hn : 1 ≤ n ∧ n ≤ 16) (hm : n ∉ I) : ∀ i, i < (I ++ [n]).length → iOk (I ++ [n]) i := by
  intro i hi
  rw [List.length_append, List.length_singleton] at hi
  have e : ∀ j, j < I.length → (I ++ [n]).getD j default = I.getD j default := fun j hj => by
    rw [getD_of_lt (by rw [List.length_append]; omega), getD_of_lt hj, List.getElem_append_left hj]
  have e2 : (I ++ [n]).getD I.length default = n := by
    rw [getD_of_lt (by simp), List.getElem_append_right (Nat.le_refl _)]; simp
  rcases Nat.lt_or_ge i I.length with hlt | hge
  · refine ⟨by rw [e i hlt]; exact (h i hlt).1, fun j hj => ?_⟩
    rw [e i hlt, e j (by omega)]; exact (h i hlt).2 j hj
  · obtain rfl : i = I.length := by omega
    refine ⟨by rw [e2]; exact hn, fun j hj => ?_⟩
    rw [e2, e j hj, getD_of_lt hj]
    rintro rfl
    exact hm (List.getElem_mem hj)
theorem iOk_room {I : List Int} {n : Int} (h : ∀ i, i < I.length → iOk I i) (hn : 1 ≤ n ∧ n ≤ 16) (hm : n ∉ I) : I.length + 1 ≤ 16 := by
  have := sub_len (L := n :: I) (R := [1, 2, 3, 4, 5, 6, 7, 8, 9, 10, 11, 12, 13, 14, 15, 16]) (List.nodup_cons.2 ⟨hm, iOk_nodup h⟩) fun x hx => by
    have hx' : 1 ≤ x ∧ x ≤ 16 := by
      rcases List.mem_cons.1 hx with rfl | hx
      · exact hn
      · exact iOk_mem h hx
    simp only [List.mem_cons, List.not_mem_nil, or_false]
    omega
  simpa using this
theorem fst16_some {s : Nat → Bool} : ∀ {f i k : Nat}, fst16 s f i = some k → s k = false ∧ i ≤ k ∧ k < i + f
  | 0, i, k, h => by cases h
  | f + 1, i, k, h => by
    unfold fst16 at h
    split at h
    · obtain ⟨h1, h2, h3⟩ := fst16_some h; exact ⟨h1, by omega, by omega⟩
    · rename_i hs
      cases h
      exact ⟨by simpa using hs, Nat.le_refl _, by omega⟩
theorem next_ok {P K : List Bool} {D I : List Int} {u : Int} (h : sigOk P K D I u) : okS (nextO P K D I u).1 := by
  unfold nextO
  rw [if_pos h]
  split
  · rename_i i hi
    obtain ⟨h0, _, hi16⟩ := fst16_some hi
    obtain ⟨⟨h1, h2, h3, h4, h5⟩, h6, h7, h8, h9, h10⟩ := h
    simp only [skip, Bool.or_eq_false_iff, Bool.not_eq_false', List.any_eq_false, decide_eq_true_eq] at h0
    obtain ⟨⟨g1, g2⟩, g3⟩ := h0
    have hu : u = 0 := by
      rcases h10 with h | ⟨_, h⟩
      · exact h
      · rw [h i (by omega)] at g1; cases g1
    have hm : ((i + 1 : Nat) : Int) ∉ I := fun hx => g3 _ hx rfl
    have hn : (1 : Int) ≤ ((i + 1 : Nat) : Int) ∧ ((i + 1 : Nat) : Int) ≤ 16 := by omega
    show okS (hitO P K D I u i)
    unfold hitO
    split
    · refine ⟨⟨by simp, h2, h3, by simp, .inr hn⟩, h6, h7, h8, fun j hj => by simp at hj, .inr ⟨rfl, fun j hj => ?_⟩⟩
      show (List.replicate 16 false).getD j default = false
      rw [getD_of_lt (by simpa using hj), List.getElem_replicate]
    · split
      · exact ⟨⟨by simpa using h1, h2, h3, by simpa using iOk_room h9 hn hm, h5⟩, h6, h7, h8, iOk_snoc h9 hn hm, .inl hu⟩
      · exact ⟨⟨by simpa using h1, h2, h3, h4, h5⟩, h6, h7, h8, h9, .inl hu⟩
  · exact h
end Go.Eng.T
