/- sig: FnSig in plain terms. -/
import Derived.Test.YtbogabgpchgfpaaFn12
set_option linter.unusedVariables false
set_option linter.unusedSimpArgs false
set_option linter.unusedSectionVars false
namespace Go.Eng.T
open Go.Proofs
open Cel (enc dec)
/-- what is told is what stands to come -/
def tel (T P : List Bool) (u : Int) : Prop := T.length = 17 ∧ (u = 0 → ∀ k, k < 16 → P.getD k default = T.getD (k + 1) default)
def sgood (s : SO) (T : List Bool) : Prop := okS s ∧ (9 : Int) ∉ s.2.2.2.1 ∧ tel T s.1 s.2.2.2.2
theorem sgood_new : sgood (List.replicate 16 false, List.replicate 16 false, List.replicate 16 (0 : Int), [], 0) (List.replicate 17 false) := by
  refine ⟨by decide, by simp, by simp, fun _ k hk => ?_⟩
  show (List.replicate 16 false).getD k default = _
  rw [getD_of_lt (by simpa using hk), getD_of_lt (by simp; omega), List.getElem_replicate, List.getElem_replicate]
theorem tel_set {T P : List Bool} {u : Int} (h : tel T P u) (hP : P.length = 16) {n : Int} (hn : 1 ≤ n ∧ n ≤ 16) (b : Bool) : tel (T.set n.toNat b) (P.set (n - 1).toNat b) u := by
  refine ⟨by simpa using h.1, fun hu k hk => ?_⟩
  have h1 := h.1
  rw [gset (by omega), gset (by omega), h.2 hu k hk]
  by_cases e : (n - 1).toNat = k
  · rw [if_pos e, if_pos (by omega)]
  · rw [if_neg e, if_neg (by omega)]
theorem set_good1 {P K : List Bool} {D I : List Int} {u : Int} {T : List Bool} (h : sgood (P, K, D, I, u) T) {n : Int} (hn : 1 ≤ n ∧ n ≤ 16) (hs : (setO P K D I u n 1).2 = true) : sgood (setO P K D I u n 1).1 (T.set n.toNat false) := by
  obtain ⟨h1, h2, h3⟩ := h
  refine ⟨set_ok h1 n 1, ?_⟩
  have h1' : sigOk P K D I u := h1
  unfold setO at hs ⊢
  rw [if_pos h1'] at hs ⊢
  split at hs
  · rename_i hc
    rw [if_pos hc, if_pos rfl]
    exact ⟨h2, tel_set h3 h1'.1.1 hn false⟩
  · cases hs
theorem set_good0 {P K : List Bool} {D I : List Int} {u : Int} {T : List Bool} (h : sgood (P, K, D, I, u) T) {n d : Int} (hs : d = 1 → (setO P K D I u n d).2 = false) : sgood (setO P K D I u n d).1 T := by
  obtain ⟨h1, h2, h3⟩ := h
  refine ⟨set_ok h1 n d, ?_⟩
  have h1' : sigOk P K D I u := h1
  unfold setO at hs ⊢
  rw [if_pos h1'] at hs ⊢
  split
  · rename_i hc
    rw [if_pos hc] at hs
    by_cases e : d = 1
    · rw [if_pos e] at hs; exact absurd (hs e) (by simp)
    · rw [if_neg e]; exact ⟨h2, h3⟩
  · exact ⟨h2, h3⟩
theorem mask_good {P K : List Bool} {D I : List Int} {u : Int} {T : List Bool} (h : sgood (P, K, D, I, u) T) (n : Int) (b : Bool) : sgood (maskO P K D I u n b).1 T := by
  obtain ⟨h1, h2, h3⟩ := h
  refine ⟨mask_ok h1 n b, ?_⟩
  have h1' : sigOk P K D I u := h1
  unfold maskO
  rw [if_pos h1']
  split <;> exact ⟨h2, h3⟩
theorem send_good1 {P K : List Bool} {D I : List Int} {u : Int} {T : List Bool} (h : sgood (P, K, D, I, u) T) {n : Int} (hn : 1 ≤ n ∧ n ≤ 16) (hs : (sendO P K D I u n).2 = true) (hd : D.getD (n - 1).toNat default ≠ 1) : sgood (sendO P K D I u n).1 (T.set n.toNat true) := by
  obtain ⟨h1, h2, h3⟩ := h
  refine ⟨send_ok h1 n, ?_⟩
  have h1' : sigOk P K D I u := h1
  unfold sendO at hs ⊢
  rw [if_pos h1'] at hs ⊢
  split at hs
  · rename_i hc
    rw [if_pos hc, if_neg hd]
    exact ⟨h2, tel_set h3 h1'.1.1 hn true⟩
  · cases hs
theorem send_good0 {P K : List Bool} {D I : List Int} {u : Int} {T : List Bool} (h : sgood (P, K, D, I, u) T) {n : Int} (hs : (sendO P K D I u n).2 = true → D.getD (n - 1).toNat default = 1) : sgood (sendO P K D I u n).1 T := by
  obtain ⟨h1, h2, h3⟩ := h
  refine ⟨send_ok h1 n, ?_⟩
  have h1' : sigOk P K D I u := h1
  unfold sendO at hs ⊢
  rw [if_pos h1'] at hs ⊢
  split
  · rename_i hc
    rw [if_pos hc] at hs
    split
    · exact ⟨h2, h3⟩
    · rename_i hd
      rw [if_neg hd] at hs
      exact absurd (hs rfl) hd
  · exact ⟨h2, h3⟩
theorem back_good {P K : List Bool} {D I : List Int} {u : Int} {T : List Bool} (h : sgood (P, K, D, I, u) T) : sgood (backO P K D I u).1 T := by
  obtain ⟨h1, h2, h3⟩ := h
  refine ⟨back_ok h1, ?_⟩
  have h1' : sigOk P K D I u := h1
  unfold backO
  rw [if_pos h1']
  split
  · exact ⟨h2, h3⟩
  · exact ⟨fun hx => h2 (List.mem_of_mem_take hx), h3⟩
theorem fst16_none {s : Nat → Bool} : ∀ {f i : Nat}, fst16 s f i = none → ∀ k, i ≤ k → k < i + f → s k = true
  | 0, i, _, k, h1, h2 => by omega
  | f + 1, i, h, k, h1, h2 => by
    unfold fst16 at h
    split at h
    · rename_i hs
      rcases Nat.eq_or_lt_of_le h1 with rfl | hlt
      · exact hs
      · exact fst16_none h k hlt (by omega)
    · cases h
theorem fst16_le {s : Nat → Bool} : ∀ {f i k : Nat}, i ≤ k → k < i + f → s k = false → ∃ j, fst16 s f i = some j ∧ j ≤ k
  | 0, i, k, h1, h2, _ => by omega
  | f + 1, i, k, h1, h2, hs => by
    unfold fst16
    split
    · rename_i h
      have : i ≠ k := by rintro rfl; rw [hs] at h; cases h
      exact fst16_le (by omega) (by omega) hs
    · exact ⟨i, rfl, h1⟩
theorem next_hit {P K : List Bool} {D I : List Int} {u : Int} {T : List Bool} (h : sgood (P, K, D, I, u) T) (hu : u = 0) {i : Nat} (hi : (nextO P K D I u).2 = ((i + 1 : Nat) : Int)) : i < 16 ∧ T.getD (i + 1) default = true ∧ K.getD i default = false ∧ ((i + 1 : Nat) : Int) ∉ I := by
  obtain ⟨h1, h2, h3⟩ := h
  have h1' : sigOk P K D I u := h1
  unfold nextO at hi
  rw [if_pos h1'] at hi
  split at hi
  · rename_i j hj
    obtain ⟨h0, _, hi16⟩ := fst16_some hj
    obtain rfl : j = i := by dsimp only at hi; omega
    simp only [skip, Bool.or_eq_false_iff, Bool.not_eq_false', List.any_eq_false, decide_eq_true_eq] at h0
    refine ⟨by omega, ?_, h0.1.2, fun hx => h0.2 _ hx rfl⟩
    rw [← h3.2 hu j (by omega)]; exact h0.1.1
  · dsimp only at hi; omega
theorem next_bd {P K : List Bool} {D I : List Int} {u : Int} : 0 ≤ (nextO P K D I u).2 ∧ (nextO P K D I u).2 ≤ 16 := by
  unfold nextO
  split
  · split
    · rename_i j hj
      obtain ⟨h0, _, hi16⟩ := fst16_some hj
      dsimp only; omega
    · exact ⟨Int.le_refl _, by show (0 : Int) ≤ 16; omega⟩
  · exact ⟨Int.le_refl _, by show (0 : Int) ≤ 16; omega⟩
theorem next_none {P K : List Bool} {D I : List Int} {u : Int} {T : List Bool} (h : sgood (P, K, D, I, u) T) (hu : u = 0) (hi : (nextO P K D I u).2 = 0) {k : Nat} (hk : k < 16) (ht : T.getD (k + 1) default = true) (hK : K.getD k default = false) : ((k + 1 : Nat) : Int) ∈ I := by
  obtain ⟨h1, h2, h3⟩ := h
  have h1' : sigOk P K D I u := h1
  unfold nextO at hi
  rw [if_pos h1'] at hi
  split at hi
  · dsimp only at hi; omega
  · rename_i hf
    have hs := fst16_none hf k (by omega) (by omega)
    simp only [skip, hK, h3.2 hu k hk, ht] at hs
    simp only [Bool.not_true, Bool.or_false, Bool.false_or, List.any_eq_true, decide_eq_true_eq] at hs
    obtain ⟨x, hx, rfl⟩ := hs
    exact hx
theorem tel_zero {T P : List Bool} {u : Int} (h : tel T P u) : tel (T.set 0 false) P u := by
  refine ⟨by simpa using h.1, fun hu k hk => ?_⟩
  have h1 := h.1
  rw [gset (by omega), h.2 hu k hk, if_neg (by omega)]
theorem next_good {P K : List Bool} {D I : List Int} {u : Int} {T : List Bool} (h : sgood (P, K, D, I, u) T) : sgood (nextO P K D I u).1 (T.set (nextO P K D I u).2.toNat false) := by
  obtain ⟨h1, h2, h3⟩ := h
  refine ⟨next_ok h1, ?_⟩
  have h1' : sigOk P K D I u := h1
  unfold nextO
  rw [if_pos h1']
  split
  · rename_i j hj
    obtain ⟨h0, _, hi16⟩ := fst16_some hj
    have hT := h3.1
    unfold hitO
    split
    · exact ⟨by simp, by simpa using hT, fun hu => absurd hu (by dsimp only; omega)⟩
    · rename_i hd
      have hj8 : j ≠ 8 := by rintro rfl; exact hd h1'.2.2.2.1
      have ht := tel_set (n := ((j + 1 : Nat) : Int)) h3 h1'.1.1 (by omega) false
      have e : (((j + 1 : Nat) : Int) - 1).toNat = j := by omega
      rw [e] at ht
      split
      · refine ⟨fun hx => ?_, ht⟩
        rcases List.mem_append.1 hx with hx | hx
        · exact h2 hx
        · have := List.mem_singleton.1 hx; omega
      · exact ⟨h2, ht⟩
  · exact ⟨h2, tel_zero h3⟩
def pc (f : Nat → Bool) : Nat → Nat
  | 0 => 0
  | k + 1 => pc f k + (if f k = true then 1 else 0)
theorem pc_le (f : Nat → Bool) : ∀ k, pc f k ≤ k
  | 0 => Nat.le_refl _
  | k + 1 => by have := pc_le f k; unfold pc; split <;> omega
theorem pc_same {f g : Nat → Bool} : ∀ k, (∀ j, j < k → f j = g j) → pc f k = pc g k
  | 0, _ => rfl
  | k + 1, h => by unfold pc; rw [pc_same k fun j hj => h j (by omega), h k (by omega)]
theorem pc_drop {f g : Nat → Bool} {i : Nat} (hf : f i = true) (hg : g i = false) (he : ∀ j, j ≠ i → g j = f j) : ∀ k, i < k → pc g k + 1 = pc f k
  | 0, h => by omega
  | k + 1, h => by
    unfold pc
    rcases Nat.lt_or_ge i k with hlt | hge
    · have := pc_drop hf hg he k hlt
      rw [he k (by omega)]; omega
    · obtain rfl : i = k := by omega
      rw [hf, hg, pc_same i fun j hj => he j (by omega)]
      simp
/-- how far it is from the end -/
def toll (s : SO) (i : Nat) : Prop := okS s ∧ (9 : Int) ∉ s.2.2.2.1 ∧ (s.2.2.2.2 = 0 → s.1.getD 8 default = true ∧ pc (fun k => s.1.getD k default) 8 + i ≤ 8)
theorem toll_send {P K : List Bool} {D I : List Int} {u : Int} {T : List Bool} (h : sgood (P, K, D, I, u) T) (hu : u = 0) : (sendO P K D I u 9).2 = true ∧ toll (sendO P K D I u 9).1 0 := by
  obtain ⟨h1, h2, h3⟩ := h
  have hok := send_ok (n := 9) h1
  have h1' : sigOk P K D I u := h1
  have hd : ¬ D.getD ((9 : Int) - 1).toNat default = 1 := by
    show ¬ D.getD 8 default = 1
    rw [h1'.2.2.2.1]; decide
  have e : sendO P K D I u 9 = ((P.set 8 true, K, D, I, u), true) := by
    unfold sendO
    rw [if_pos h1', if_pos ⟨by omega, hu⟩, if_neg hd]
    rfl
  rw [e] at hok ⊢
  refine ⟨rfl, hok, h2, fun _ => ⟨?_, by have := pc_le (fun k => (P.set 8 true).getD k default) 8; exact this⟩⟩
  show (P.set 8 true).getD 8 default = true
  rw [gset (by have := h1'.1.1; omega), if_pos rfl]
theorem toll_next {P K : List Bool} {D I : List Int} {u : Int} {i : Nat} (h : toll (P, K, D, I, u) i) (hu : u = 0) : toll (nextO P K D I u).1 (i + 1) := by
  obtain ⟨h1, h2, h3⟩ := h
  have hok := next_ok h1
  have h1' : sigOk P K D I u := h1
  obtain ⟨g1, g2⟩ := h3 hu
  dsimp only at g1 g2 h2
  have hs8 : skip P K I 8 = false := by
    simp only [skip, g1, h1'.2.2.1, Bool.not_true, Bool.or_false, Bool.false_or, List.any_eq_false, decide_eq_true_eq]
    rintro x hx rfl
    exact h2 hx
  obtain ⟨j, hj, hj8⟩ := fst16_le (f := 16) (Nat.zero_le 8) (by omega) hs8
  obtain ⟨h0, _, hi16⟩ := fst16_some hj
  refine ⟨hok, ?_⟩
  have e : nextO P K D I u = (hitO P K D I u j, ((j + 1 : Nat) : Int)) := by
    unfold nextO
    rw [if_pos h1', hj]
  rw [e]
  show (9 : Int) ∉ (hitO P K D I u j).2.2.2.1 ∧ _
  unfold hitO
  split
  · exact ⟨by simp, fun hu => absurd hu (by dsimp only; omega)⟩
  · rename_i hd
    have hj8 : j ≠ 8 := by rintro rfl; exact hd h1'.2.2.2.1
    have hP := h1'.1.1
    simp only [skip, Bool.or_eq_false_iff, Bool.not_eq_false', List.any_eq_false, decide_eq_true_eq] at h0
    have hs : (P.set j false).getD 8 default = true ∧ pc (fun k => (P.set j false).getD k default) 8 + (i + 1) ≤ 8 := by
      refine ⟨by rw [gset (by omega), if_neg (by omega)]; exact g1, ?_⟩
      have := pc_drop (f := fun k => P.getD k default) (g := fun k => (P.set j false).getD k default) (i := j) h0.1.1 (by show (P.set j false).getD j default = false; rw [gset (by omega), if_pos rfl]) (fun k hk => by
        show (P.set j false).getD k default = P.getD k default
        rcases Nat.lt_or_ge k P.length with hlt | hge
        · rw [gset hlt, if_neg (by omega)]
        · rw [List.getD_eq_getElem?_getD, List.getD_eq_getElem?_getD, List.getElem?_eq_none (by simpa using hge), List.getElem?_eq_none hge]) 8 (by omega)
      omega
    split
    · refine ⟨fun hx => ?_, fun _ => hs⟩
      rcases List.mem_append.1 hx with hx | hx
      · exact h2 hx
      · have := List.mem_singleton.1 hx; omega
    · exact ⟨h2, fun _ => hs⟩
theorem sig_dead {P K : List Bool} {D I : List Int} {u : Int} (h : sigOk P K D I u) (hu : u ≠ 0) : (sendO P K D I u 1).2 = false ∧ (nextO P K D I u).2 = 0 := by
  refine ⟨?_, ?_⟩
  · unfold sendO
    rw [if_pos h, if_neg (fun hc => hu hc.2)]
  · unfold nextO
    rw [if_pos h]
    split
    · rename_i j hj
      obtain ⟨h0, _, hi16⟩ := fst16_some hj
      simp only [skip, Bool.or_eq_false_iff, Bool.not_eq_false', List.any_eq_false, decide_eq_true_eq] at h0
      rcases h.2.2.2.2.2 with h | ⟨_, h⟩
      · exact absurd h hu
      · have := h j (by omega)
        rw [h0.1.1] at this; cases this
    · rfl
end Go.Eng.T
