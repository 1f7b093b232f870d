/- sched: SchedAdd and FnSched in plain terms. -/
import Derived.Test.YtmlenialhmeomaaFn8
set_option linter.unusedVariables false
set_option linter.unusedSimpArgs false
set_option linter.unusedSectionVars false
namespace Go.Eng.T
open Go.Proofs
open Cel (enc dec)
set_option maxRecDepth 100000
/-- where a task comes in -/
def fi (X : List T3) (id : Int) : Nat := X.findIdx fun x => decide (id ≤ x.1)
def insL (X : List T3) (v : T3) : List T3 := X.take (fi X v.1) ++ v :: X.drop (fi X v.1)
def addOf (X : List T3) (t id nice : Int) : List T3 × Int × Bool :=
  if schedOk X t then (if ¬ 0 ≤ idx (fun x : T3 => decide (x.1 = id)) X ∧ ((1 ≤ id ∧ id ≤ 999) ∧ 0 ≤ nice ∧ nice ≤ 9) ∧ X.length < 8 then (insL X (id, nice, 0), t, true) else (X, t, false)) else ([], 0, false)
theorem fi_le (X : List T3) (id : Int) : fi X id ≤ X.length := List.findIdx_le_length
theorem insL_length (X : List T3) (v : T3) : (insL X v).length = X.length + 1 := by
  have := fi_le X v.1
  simp [insL]; omega
theorem addOf_len (X : List T3) (t id nice : Int) : (addOf X t id nice).1.length ≤ X.length + 1 := by
  unfold addOf
  split
  · split
    · exact Nat.le_of_eq (insL_length _ _)
    · exact Nat.le_succ _
  · exact Nat.zero_le _
theorem fi_hit {X : List T3} {id : Int} {i : Nat} (h : clear (fun x : T3 => decide (id ≤ x.1)) X i) (hi : i < X.length) (k : id ≤ (X.getD i default).1) : fi X id = i := by
  refine (List.findIdx_eq hi).2 ⟨?_, fun j hj => ?_⟩
  · rw [getD_of_lt hi] at k; simpa using k
  · have := h j hj
    rw [getD_of_lt (by omega)] at this
    exact this
theorem fi_end {X : List T3} {id : Int} (h : clear (fun x : T3 => decide (id ≤ x.1)) X X.length) : fi X id = X.length := by
  refine List.findIdx_eq_length.2 fun x hx => ?_
  obtain ⟨j, hj, rfl⟩ := List.getElem_of_mem hx
  have := h j hj
  rw [getD_of_lt hj] at this
  exact this
theorem fi_lt {X : List T3} {id : Int} {j : Nat} (hj : j < fi X id) : (X.getD j default).1 < id := by
  have h1 := List.not_of_lt_findIdx hj
  have := fi_le X id
  rw [getD_of_lt (by omega)]
  simpa using h1
theorem fi_ge {X : List T3} {id : Int} (h : fi X id < X.length) : id ≤ (X.getD (fi X id) default).1 := by
  have := List.findIdx_getElem (w := h)
  rw [getD_of_lt h]
  exact of_decide_eq_true this
theorem insL_get {X : List T3} {v : T3} {j : Nat} (hj : j < X.length + 1) : (insL X v).getD j default = if j < fi X v.1 then X.getD j default else if j = fi X v.1 then v else X.getD (j - 1) default := by
  have hf := fi_le X v.1
  unfold insL
  rw [List.getD_eq_getElem?_getD, List.getElem?_append]
  simp only [List.length_take, Nat.min_eq_left hf]
  split
  · rw [List.getElem?_take, if_pos (by assumption), List.getD_eq_getElem?_getD]
  · rename_i h1
    split
    · rename_i h2; subst h2; simp
    · rename_i h2
      obtain ⟨q, hq⟩ : ∃ q, j - fi X v.1 = q + 1 := ⟨j - fi X v.1 - 1, by omega⟩
      rw [hq, List.getElem?_cons_succ, List.getElem?_drop, List.getD_eq_getElem?_getD]
      congr 2; omega
/-- the ids rise -/
theorem ids_up {X : List T3} {t : Int} (h : schedOk X t) : ∀ {i j : Nat}, i < j → j < X.length → (X.getD i default).1 < (X.getD j default).1
  | i, 0, hij, _ => by omega
  | i, j + 1, hij, hj => by
    have h1 := (h.2.2 (j + 1) hj).2.2.2 (by omega)
    rw [show j + 1 - 1 = j by omega] at h1
    rcases Nat.lt_or_ge i j with hlt | hge
    · have := ids_up h hlt (show j < X.length by omega); omega
    · obtain rfl : i = j := by omega
      exact h1
theorem add_ok {X : List T3} {t : Int} (h : schedOk X t) (id nice : Int) : schedOk (addOf X t id nice).1 t ∧ ((addOf X t id nice).1.length : Int) = X.length + if (addOf X t id nice).2.2 = true then 1 else 0 := by
  unfold addOf
  rw [if_pos h]
  split
  · rename_i hc
    obtain ⟨hno, ⟨hid, hni⟩, hlen⟩ := hc
    refine ⟨⟨by rw [insL_length]; omega, h.2.1, fun i hi => ?_⟩, by dsimp only; rw [insL_length, if_pos rfl]; omega⟩
    dsimp only at hi ⊢
    rw [insL_length] at hi
    have hne : ∀ j, j < X.length → (X.getD j default).1 ≠ id := fun j hj e => by
      have := idx_any (fun x : T3 => decide (x.1 = id)) X
      rw [decide_eq_false hno] at this
      have := List.any_eq_false.1 this.symm _ (getD_mem hj)
      exact this (decide_eq_true e)
    have hfl := fi_le X id
    obtain ⟨f, hf⟩ : ∃ f, f = fi X id := ⟨_, rfl⟩
    have hlt : ∀ j, j < f → (X.getD j default).1 < id := fun j hj => fi_lt (by rw [← hf]; exact hj)
    have hge : f < X.length → id ≤ (X.getD f default).1 := fun h => by rw [hf] at h ⊢; exact fi_ge h
    have hget : ∀ j, j < X.length + 1 → (insL X (id, nice, 0)).getD j default = if j < f then X.getD j default else if j = f then (id, nice, 0) else X.getD (j - 1) default := fun j hj => by rw [insL_get hj, hf]
    rw [← hf] at hfl
    have hpre : 0 < i → ((insL X (id, nice, 0)).getD (i - 1) default).1 < ((insL X (id, nice, 0)).getD i default).1 := fun h0 => by
      rw [hget _ (by omega), hget _ hi]
      by_cases h1 : i < f
      · rw [if_pos h1, if_pos (by omega)]
        exact ids_up h (by omega) (by omega)
      · rw [if_neg h1]
        by_cases h2 : i = f
        · rw [if_pos h2, if_pos (by omega)]
          exact hlt _ (by omega)
        · rw [if_neg h2, if_neg (by omega)]
          by_cases h3 : i - 1 = f
          · rw [if_pos h3]
            have k1 := hge (by omega)
            have k2 := hne f (by omega)
            rw [h3]; dsimp only; omega
          · rw [if_neg h3]
            exact ids_up h (by omega) (by omega)
    unfold tOk
    have key : ∀ x : T3, x = (insL X (id, nice, 0)).getD i default → (1 ≤ x.1 ∧ x.1 ≤ 999) ∧ (0 ≤ x.2.1 ∧ x.2.1 ≤ 9) ∧ 0 ≤ x.2.2 ∧ x.2.2 ≤ 1000 := by
      intro x hx
      rw [hget _ hi] at hx
      split at hx
      · subst hx; have := h.2.2 i (by omega); exact ⟨this.1, this.2.1, this.2.2.1⟩
      · split at hx
        · subst hx; exact ⟨hid, hni, by dsimp only; omega⟩
        · subst hx; have := h.2.2 (i - 1) (by omega); exact ⟨this.1, this.2.1, this.2.2.1⟩
    obtain ⟨k1, k2, k3⟩ := key _ rfl
    exact ⟨k1, k2, k3, hpre⟩
  · exact ⟨h, by dsimp only; rw [if_neg (by simp)]; omega⟩
/-! FnSched -/
def cnt (f : Nat → Bool) : Nat → Nat
  | 0 => 0
  | k + 1 => cnt f k + (if f k = true then 1 else 0)
theorem cnt_le (f : Nat → Bool) : ∀ k, cnt f k ≤ k
  | 0 => Nat.le_refl _
  | k + 1 => by have := cnt_le f k; unfold cnt; split <;> omega
theorem cnt_mono {f g : Nat → Bool} : ∀ k, (∀ j, j < k → f j = true → g j = true) → cnt f k ≤ cnt g k
  | 0, _ => Nat.le_refl _
  | k + 1, h => by
    have := cnt_mono k fun j hj => h j (by omega)
    have := h k (by omega)
    unfold cnt
    split
    · rw [if_pos (this (by assumption))]; omega
    · omega
theorem cnt_add {f g : Nat → Bool} {b : Nat} (hf : f b = false) (hg : g b = true) : ∀ k, (∀ j, j < k → f j = true → g j = true) → b < k → cnt f k + 1 ≤ cnt g k
  | 0, _, h => by omega
  | k + 1, h, hb => by
    unfold cnt
    rcases Nat.lt_or_ge b k with hlt | hge
    · have := cnt_add hf hg k (fun j hj => h j (by omega)) hlt
      have := h k (by omega)
      split
      · rw [if_pos (this (by assumption))]; omega
      · omega
    · obtain rfl : b = k := by omega
      have := cnt_mono b fun j hj => h j (by omega)
      rw [hf, hg]
      simp
      omega
theorem bestOf_min (X : List T3) : ∀ i, ∀ m, m < i → prio (X.getD (bestOf X i) default) ≤ prio (X.getD m default)
  | 0, m, h => by omega
  | i + 1, m, h => by
    rw [bestOf]
    split
    · rename_i hc
      rcases Nat.lt_or_ge m i with hlt | hge
      · have := bestOf_min X i m hlt; omega
      · obtain rfl : m = i := by omega
        omega
    · rename_i hc
      rcases Nat.lt_or_ge m i with hlt | hge
      · exact bestOf_min X i m hlt
      · obtain rfl : m = i := by omega
        omega
/-- who waits for how long; the ids are 1, 2, .. -/
def wok (X : List T3) (W : List Int) (r : Nat) : Prop :=
  W.length = 20 ∧ 0 < X.length ∧ schedOk X r ∧ ∀ j, j < X.length → (X.getD j default).1 = j + 1 ∧ W.getD (j + 1) default = (X.getD j default).2.2 ∧ (X.getD j default).2.2 ≤ r ∧
    (X.getD j default).2.2 ≤ 9 + cnt (fun m => decide ((X.getD m default).2.2 + 10 ≤ (X.getD j default).2.2)) X.length
theorem wok_bound {X : List T3} {W : List Int} {r : Nat} (h : wok X W r) {j : Nat} (hj : j < X.length) : W.getD (j + 1) default ≤ 10 + 2 * X.length := by
  obtain ⟨h1, h0, h2, h3⟩ := h
  obtain ⟨a1, a2, a3, a4⟩ := h3 j hj
  have := cnt_le (fun m => decide ((X.getD m default).2.2 + 10 ≤ (X.getD j default).2.2)) X.length
  omega
theorem nextL_get {X : List T3} {b j : Nat} (hj : j < X.length) (hb : b < X.length) : (nextL X b).getD j default = if b = j then ((X.getD b default).1, (X.getD b default).2.1, 0) else aged (X.getD j default) := by
  unfold nextL
  rw [getD_of_lt (by simpa using hj), List.getElem_set]
  split
  · rfl
  · rw [List.getElem_map, getD_of_lt hj]
theorem wok_next {X : List T3} {W W' : List Int} {r : Nat} (h : wok X W r) (hr : r < 60) (hl : W'.length = 20) (hW : ∀ j, j < X.length → W'.getD (j + 1) default = if j = bestOf X X.length then 0 else W.getD (j + 1) default + 1) :
    nextOf X r = (nextL X (bestOf X X.length), ((r + 1 : Nat) : Int), ((bestOf X X.length + 1 : Nat) : Int)) ∧ bestOf X X.length < X.length ∧ wok (nextL X (bestOf X X.length)) W' (r + 1) := by
  obtain ⟨h1, h0, h2, h3⟩ := h
  have hb := bestOf_le X X.length h0 (Nat.le_refl _)
  obtain ⟨b, hbb⟩ : ∃ b, b = bestOf X X.length := ⟨_, rfl⟩
  have hmin : ∀ m, m < X.length → prio (X.getD b default) ≤ prio (X.getD m default) := by rw [hbb]; exact fun m hm => bestOf_min X _ m hm
  rw [← hbb] at hb hW ⊢
  refine ⟨?_, hb, hl, by rw [nextL_length]; exact h0, ⟨by rw [nextL_length]; exact h2.1, by omega, fun i hi => ?_⟩, fun j hj => ?_⟩
  · unfold nextOf
    rw [if_pos h2, if_neg (by omega), ← hbb, (h3 b hb).1]
    rfl
  · rw [nextL_length] at hi
    have hag : ∀ k, k < X.length → (aged (X.getD k default)).2.2 = (X.getD k default).2.2 + 1 := fun k hk => by
      have := (h3 k hk).2.2.1
      rw [aged_lt (by omega)]
    have hk : ∀ k, k < X.length → ((nextL X b).getD k default).1 = (X.getD k default).1 ∧ ((nextL X b).getD k default).2.1 = (X.getD k default).2.1 := fun k hk => by
      rw [nextL_get hk hb]
      split
      · rename_i e; subst e; exact ⟨rfl, rfl⟩
      · exact ⟨rfl, rfl⟩
    obtain ⟨t1, t2, t3, t4⟩ := h2.2.2 i hi
    refine ⟨by rw [(hk i hi).1]; exact t1, by rw [(hk i hi).2]; exact t2, ?_, fun h => by rw [(hk i hi).1, (hk (i - 1) (by omega)).1]; exact t4 h⟩
    rw [nextL_get hi hb]
    have := (h3 i hi).2.2.1
    split
    · dsimp only; omega
    · rw [hag i hi]; omega
  · rw [nextL_length] at hj ⊢
    have hag : ∀ k, k < X.length → (aged (X.getD k default)).2.2 = (X.getD k default).2.2 + 1 := fun k hk => by
      have := (h3 k hk).2.2.1
      rw [aged_lt (by omega)]
    have h2k : ∀ k, k < X.length → ((nextL X b).getD k default).2.2 = if b = k then 0 else (X.getD k default).2.2 + 1 := fun k hk => by
      rw [nextL_get hk hb]
      split
      · rfl
      · exact hag k hk
    obtain ⟨a1, a2, a3, a4⟩ := h3 j hj
    have hn := (h2.2.2 j hj)
    obtain ⟨n1, n2, n3, n4⟩ := hn
    refine ⟨?_, ?_, ?_, ?_⟩
    · rw [nextL_get hj hb]
      split
      · rename_i e; subst e; exact a1
      · exact a1
    · rw [hW j hj, h2k j hj, a2]
      by_cases e : j = b
      · rw [if_pos e, if_pos e.symm]
      · rw [if_neg e, if_neg (Ne.symm e)]
    · rw [h2k j hj]; split <;> omega
    · rw [h2k j hj]
      by_cases e : b = j
      · rw [if_pos e]; omega
      · rw [if_neg e]
        by_cases h9 : (X.getD j default).2.2 < 9
        · omega
        · have hp := hmin j hj
          unfold prio at hp
          have hnb := (h2.2.2 b hb).2.1
          have := cnt_add (f := fun m => decide ((X.getD m default).2.2 + 10 ≤ (X.getD j default).2.2)) (g := fun m => decide (((nextL X b).getD m default).2.2 + 10 ≤ (X.getD j default).2.2 + 1)) (b := b) (by simp only [decide_eq_false_iff_not]; omega) (by simp only [decide_eq_true_eq]; rw [h2k b hb, if_pos rfl]; omega) X.length (fun m hm hf => by
            simp only [decide_eq_true_eq] at hf ⊢
            rw [h2k m hm]
            split <;> omega) hb
          omega
/-- the tasks 1 .. i are in -/
def uok (X : List T3) (i : Nat) : Prop := X.length = i ∧ schedOk X 0 ∧ ∀ j, j < i → (X.getD j default).1 = j + 1 ∧ (X.getD j default).2.2 = 0
theorem uok_zero : uok [] 0 := ⟨rfl, ⟨by simp, by omega, fun i hi => by simp at hi⟩, fun j hj => by omega⟩
theorem uok_add {X : List T3} {i : Nat} (h : uok X i) (hi : i < 8) {v : Int} (hv : 0 ≤ v ∧ v ≤ 9) : addOf X 0 ((i + 1 : Nat) : Int) v = (X ++ [(((i + 1 : Nat) : Int), v, 0)], 0, true) ∧ uok (X ++ [(((i + 1 : Nat) : Int), v, 0)]) (i + 1) := by
  obtain ⟨h1, h2, h3⟩ := h
  have hno : ¬ 0 ≤ idx (fun x : T3 => decide (x.1 = ((i + 1 : Nat) : Int))) X := fun h => by
    obtain ⟨k, _, hk, hx, _⟩ := idx_nonneg h
    have := (h3 k (by omega)).1
    simp only [decide_eq_true_eq] at hx
    omega
  have hf : fi X ((i + 1 : Nat) : Int) = X.length := fi_end fun k hk => by
    have := (h3 k (by omega)).1
    simp only [decide_eq_false_iff_not]
    omega
  have e : addOf X 0 ((i + 1 : Nat) : Int) v = (X ++ [(((i + 1 : Nat) : Int), v, 0)], 0, true) := by
    unfold addOf
    rw [if_pos h2, if_pos ⟨hno, ⟨by omega, hv⟩, by omega⟩]
    unfold insL
    rw [hf, List.take_length, List.drop_length]
  refine ⟨e, by simp [h1], ?_, fun j hj => ?_⟩
  · have := (add_ok h2 ((i + 1 : Nat) : Int) v).1
    rw [e] at this
    exact this
  · rcases Nat.lt_or_ge j i with hlt | hge
    · rw [getD_of_lt (by simp; omega), List.getElem_append_left (by omega), ← getD_of_lt]
      exact h3 j hlt
    · obtain rfl : j = i := by omega
      rw [getD_of_lt (by simp; omega), List.getElem_append_right (by omega)]
      simp [h1]
theorem uok_wok {X : List T3} {i : Nat} (h : uok X i) (hi : 0 < i) : wok X (List.replicate 20 (0 : Int)) 0 := by
  obtain ⟨h1, h2, h3⟩ := h
  refine ⟨by simp, by omega, h2, fun j hj => ?_⟩
  obtain ⟨a1, a2⟩ := h3 j (by omega)
  have := h2.1
  refine ⟨a1, ?_, by omega, by omega⟩
  rw [a2, getD_of_lt (by simp; omega), List.getElem_replicate]
theorem drop_len {X : List T3} {t : Int} (h : schedOk X t) (v : Int) : ((dropOf X t v).1.length : Int) = X.length - if (dropOf X t v).2.2 = true then 1 else 0 := by
  unfold dropOf
  rw [if_pos h]
  split
  · rename_i hc
    obtain ⟨k, e, hk, _⟩ := idx_nonneg hc
    dsimp only
    rw [if_pos rfl, e]
    simp
    omega
  · dsimp only; rw [if_neg (by simp)]; omega
end Go.Eng.T
