/- wheel: timers in plain terms: putting one in, going on. -/
import Derived.Test.YtmeedopbpdfeaaaFn7
set_option linter.unusedVariables false
set_option linter.unusedSimpArgs false
set_option linter.unusedSectionVars false
namespace Go.Eng.T
/-- x comes before y -/
def blt (x y : T3) : Prop := x.2.1 < y.2.1 ∨ (x.2.1 = y.2.1 ∧ x.1 < y.1)
instance (x y : T3) : Decidable (blt x y) := by unfold blt; infer_instance
theorem blt_trans {x y z : T3} (h : blt x y) (k : blt y z) : blt x z := by unfold blt at *; omega
theorem blt_flip {x y : T3} (h : ¬ blt x y) (k : x.1 ≠ y.1) : blt y x := by unfold blt at *; omega
theorem blt_asym {x y : T3} (h : blt x y) : ¬ blt y x := by unfold blt at *; omega
def putW : List T3 → T3 → List T3
  | [], t => [t]
  | x :: L, t => if blt t x then t :: x :: L else x :: putW L t
def pI (L : List T3) (t : T3) : Nat := L.findIdx fun x => decide (blt t x)
theorem putW_at (t : T3) : ∀ L : List T3, putW L t = L.take (pI L t) ++ t :: L.drop (pI L t)
  | [] => rfl
  | x :: L => by
    unfold putW
    by_cases h : blt t x
    · rw [if_pos h]
      have : pI (x :: L) t = 0 := by unfold pI; rw [List.findIdx_cons, decide_eq_true h]; rfl
      rw [this]; rfl
    · rw [if_neg h, putW_at t L]
      have : pI (x :: L) t = pI L t + 1 := by unfold pI; rw [List.findIdx_cons, decide_eq_false h]; rfl
      rw [this]; rfl
theorem pI_le (L : List T3) (t : T3) : pI L t ≤ L.length := List.findIdx_le_length
theorem pI_before {L : List T3} {t : T3} {j : Nat} (h : j < pI L t) (hj : j < L.length) : ¬ blt t (L.getD j default) := by
  have := List.not_of_lt_findIdx (xs := L) (p := fun x => decide (blt t x)) h
  rw [getD_of_lt hj]
  simpa using this
theorem pI_at {L : List T3} {t : T3} (h : pI L t < L.length) : blt t (L.getD (pI L t) default) := by
  have := List.findIdx_getElem (xs := L) (p := fun x => decide (blt t x)) (w := h)
  rw [getD_of_lt h]
  exact of_decide_eq_true this
theorem pI_eq {L : List T3} {t : T3} {i : Nat} (hi : i ≤ L.length) (h1 : ∀ j, j < i → ¬ blt t (L.getD j default)) (h2 : i < L.length → blt t (L.getD i default)) : pI L t = i := by
  rcases Nat.lt_trichotomy (pI L t) i with h | h | h
  · exact absurd (pI_at (by omega)) (h1 _ h)
  · exact h
  · have := pI_le L t
    exact absurd (h2 (by omega)) (pI_before h (by omega))
theorem putW_perm (t : T3) : ∀ L : List T3, (putW L t).Perm (t :: L)
  | [] => List.Perm.refl _
  | x :: L => by
    unfold putW
    split
    · exact List.Perm.refl _
    · exact ((putW_perm t L).cons x).trans (List.Perm.swap _ _ _)
theorem putW_len (L : List T3) (t : T3) : (putW L t).length = L.length + 1 := by rw [(putW_perm t L).length_eq]; rfl
theorem putW_mem {L : List T3} {t x : T3} : x ∈ putW L t ↔ x = t ∨ x ∈ L := by rw [(putW_perm t L).mem_iff, List.mem_cons]
theorem putW_sorted {t : T3} : ∀ {L : List T3}, L.Pairwise blt → (∀ x ∈ L, x.1 ≠ t.1) → (putW L t).Pairwise blt
  | [], _, _ => List.pairwise_singleton _ _
  | x :: L, h, hd => by
    unfold putW
    obtain ⟨h1, h2⟩ := List.pairwise_cons.1 h
    split
    · rename_i hc
      refine List.pairwise_cons.2 ⟨fun y hy => ?_, h⟩
      rcases List.mem_cons.1 hy with rfl | hy
      · exact hc
      · exact blt_trans hc (h1 y hy)
    · rename_i hc
      refine List.pairwise_cons.2 ⟨fun y hy => ?_, putW_sorted h2 fun y hy => hd y (List.mem_cons_of_mem _ hy)⟩
      rcases putW_mem.1 hy with rfl | hy
      · exact blt_flip hc fun e => hd x List.mem_cons_self e.symm
      · exact h1 y hy
/-- timers as they should be -/
def tmOk (u v : Int) (t : T3) : Prop := (u + 1 ≤ t.2.1 ∧ t.2.1 ≤ 2000000) ∧ (1 ≤ t.1 ∧ t.1 ≤ v - 1) ∧ (0 ≤ t.2.2 ∧ t.2.2 ≤ 1000)
def wk (u v : Int) (T : List T3) : Prop := T.Pairwise blt ∧ T.Pairwise (fun x y => x.1 ≠ y.1) ∧ ∀ t ∈ T, tmOk u v t
theorem sorted_adj {X : List T3} (h : ∀ i, 0 < i → i < X.length → blt (X.getD (i - 1) default) (X.getD i default)) : X.Pairwise blt := by
  rw [List.pairwise_iff_getElem]
  intro i j hi hj hij
  rw [← getD_of_lt hi, ← getD_of_lt hj]
  induction j with
  | zero => omega
  | succ j ih =>
    have := h (j + 1) (by omega) hj
    rcases Nat.lt_or_ge i j with hlt | hge
    · exact blt_trans (ih (by omega) hlt) this
    · obtain rfl : i = j := by omega
      exact this
theorem wheelOk_wk {u v : Int} {X : List T3} : wheelOk u v X ↔ (0 ≤ u ∧ u ≤ 1000000) ∧ (1 ≤ v ∧ v ≤ 10000) ∧ X.length ≤ 12 ∧ wk u v X := by
  unfold wheelOk
  constructor
  · rintro ⟨h1, h2, h3, h4⟩
    refine ⟨h1, h2, h3, sorted_adj fun i hi hl => ?_, ?_, fun t ht => ?_⟩
    · have := (h4 i hl).2.2.2.1 hi
      unfold blt
      omega
    · rw [List.pairwise_iff_getElem]
      intro i j hi hj hij
      have := (h4 j hj).2.2.2.2 i hij
      rwa [getD_of_lt hi, getD_of_lt hj] at this
    · obtain ⟨i, hi, rfl⟩ := List.getElem_of_mem ht
      obtain ⟨a1, a2, a3, _⟩ := h4 i hi
      rw [getD_of_lt hi] at a1 a2 a3
      exact ⟨a1, a2, a3⟩
  · rintro ⟨h1, h2, h3, k1, k2, k3⟩
    refine ⟨h1, h2, h3, fun i hi => ?_⟩
    obtain ⟨a1, a2, a3⟩ := k3 _ (getD_mem hi)
    rw [List.pairwise_iff_getElem] at k1 k2
    refine ⟨a1, a2, a3, fun h0 => ?_, fun j hj => ?_⟩
    · have := k1 (i - 1) i (by omega) hi (by omega)
      rw [← getD_of_lt hi, ← getD_of_lt (by omega)] at this
      unfold blt at this
      omega
    · have := k2 j i (by omega) hi hj
      rwa [← getD_of_lt hi, ← getD_of_lt (by omega)] at this
theorem wk_tail {u v : Int} {t : T3} {T : List T3} (h : wk u v (t :: T)) : wk u v T ∧ (∀ x ∈ T, blt t x) ∧ (∀ x ∈ T, t.1 ≠ x.1) ∧ tmOk u v t := by
  obtain ⟨h1, h2, h3⟩ := h
  obtain ⟨a1, a2⟩ := List.pairwise_cons.1 h1
  obtain ⟨b1, b2⟩ := List.pairwise_cons.1 h2
  exact ⟨⟨a2, b2, fun x hx => h3 x (List.mem_cons_of_mem _ hx)⟩, a1, b1, h3 t List.mem_cons_self⟩
theorem wk_put {u v : Int} {t : T3} {T : List T3} (h : wk u v T) (ht : tmOk u v t) (hd : ∀ x ∈ T, x.1 ≠ t.1) : wk u v (putW T t) := by
  obtain ⟨h1, h2, h3⟩ := h
  refine ⟨putW_sorted h1 hd, ?_, fun x hx => ?_⟩
  · rw [(putW_perm t T).pairwise_iff (fun h e => h e.symm)]
    exact List.pairwise_cons.2 ⟨fun x hx e => hd x hx e.symm, h2⟩
  · rcases putW_mem.1 hx with rfl | hx
    · exact ht
    · exact h3 x hx
theorem wk_weaken {u v v' : Int} {T : List T3} (h : wk u v T) (hv : v ≤ v') : wk u v' T :=
  ⟨h.1, h.2.1, fun t ht => by have := h.2.2 t ht; unfold tmOk at *; omega⟩
/-- adding one -/
def mayAdd (v : Int) (T : List T3) (w e : Int) : Prop := (1 ≤ w ∧ w ≤ 1000) ∧ (0 ≤ e ∧ e ≤ 1000) ∧ T.length < 12 ∧ v < 10000
instance (v : Int) (T : List T3) (w e : Int) : Decidable (mayAdd v T w e) := by unfold mayAdd; infer_instance
def addW (u v : Int) (T : List T3) (w e : Int) : Int × Int × List T3 × Int :=
  if wheelOk u v T then (if mayAdd v T w e then (u, v + 1, putW T (v, u + w, e), v) else (u, v, T, 0)) else (0, 0, [], 0)
theorem addW_len (u v : Int) (T : List T3) (w e : Int) : (addW u v T w e).2.2.1.length ≤ T.length + 1 := by
  unfold addW
  split
  · split
    · dsimp only; rw [putW_len]; omega
    · dsimp only; omega
  · dsimp only; simp
theorem add_fresh {u v : Int} {T : List T3} (h : wk u v T) {w e : Int} : ∀ x ∈ T, x.1 ≠ (v, u + w, e).1 := fun x hx => by
  have := (h.2.2 x hx).2.1
  dsimp only
  omega
theorem addW_ok {u v : Int} {T : List T3} {w e : Int} (h : wheelOk u v T) (hm : mayAdd v T w e) : wheelOk u (v + 1) (putW T (v, u + w, e)) := by
  obtain ⟨h1, h2, h3, h4⟩ := wheelOk_wk.1 h
  obtain ⟨m1, m2, m3, m4⟩ := hm
  refine wheelOk_wk.2 ⟨h1, by omega, by rw [putW_len]; omega, wk_put (wk_weaken h4 (by omega)) ?_ (add_fresh h4)⟩
  unfold tmOk
  dsimp only
  omega
/-! going on -/
def stepW (now : Int) : List T3 × List Int → List T3 × List Int
  | ([], I) => ([], I)
  | (t :: T, I) => if t.2.1 ≤ now then ((if 0 < t.2.2 then putW T (t.1, t.2.1 + t.2.2, t.2.2) else T), I ++ [t.1]) else (t :: T, I)
def runW (now : Int) (s : List T3 × List Int) : Nat → List T3 × List Int
  | 0 => s
  | k + 1 => stepW now (runW now s k)
def doneW (now : Int) : List T3 → Prop
  | [] => True
  | t :: _ => now < t.2.1
theorem step_done {now : Int} {s : List T3 × List Int} (h : doneW now s.1) : stepW now s = s := by
  obtain ⟨T, I⟩ := s
  match T, h with
  | [], _ => rfl
  | t :: T, h => rw [stepW, if_neg (by simp only [doneW] at h; omega)]
theorem run_add (now : Int) (s : List T3 × List Int) (j : Nat) : ∀ k, runW now s (j + k) = runW now (runW now s j) k
  | 0 => rfl
  | k + 1 => by rw [← Nat.add_assoc, runW, run_add now s j k, runW]
theorem run_done {now : Int} {s : List T3 × List Int} (h : doneW now s.1) : ∀ k, runW now s k = s
  | 0 => rfl
  | k + 1 => by rw [runW, run_done h k, step_done h]
def meas (now : Int) (T : List T3) : Nat := (T.map fun t => (now + 1 - t.2.1).toNat).sum
theorem meas_put (now : Int) (T : List T3) (t : T3) : meas now (putW T t) = (now + 1 - t.2.1).toNat + meas now T := by
  unfold meas
  rw [((putW_perm t T).map _).sum_nat]
  simp
theorem meas_step {now : Int} {t : T3} {T : List T3} {I : List Int} (h : t.2.1 ≤ now) (he : 0 ≤ t.2.2) : meas now (stepW now (t :: T, I)).1 < meas now (t :: T) := by
  rw [stepW, if_pos h]
  have e : meas now (t :: T) = (now + 1 - t.2.1).toNat + meas now T := by simp [meas]
  rw [e]
  dsimp only
  split
  · rw [meas_put]
    dsimp only
    omega
  · omega
theorem each_step {now : Int} {s : List T3 × List Int} (h : ∀ t ∈ s.1, 0 ≤ t.2.2) : ∀ t ∈ (stepW now s).1, 0 ≤ t.2.2 := by
  obtain ⟨T, I⟩ := s
  match T, h with
  | [], h => exact h
  | t :: T, h =>
    rw [stepW]
    split
    · dsimp only
      split
      · intro x hx
        rcases putW_mem.1 hx with rfl | hx
        · exact h t List.mem_cons_self
        · exact h x (List.mem_cons_of_mem _ hx)
      · exact fun x hx => h x (List.mem_cons_of_mem _ hx)
    · exact h
theorem run_each {now : Int} {s : List T3 × List Int} (h : ∀ t ∈ s.1, 0 ≤ t.2.2) : ∀ k, ∀ t ∈ (runW now s k).1, 0 ≤ t.2.2
  | 0 => h
  | k + 1 => each_step (run_each h k)
theorem run_meas {now : Int} {s : List T3 × List Int} (h : ∀ t ∈ s.1, 0 ≤ t.2.2) : ∀ k, doneW now (runW now s k).1 ∨ meas now (runW now s k).1 + k ≤ meas now s.1
  | 0 => .inr (Nat.le_refl _)
  | k + 1 => by
    rw [runW]
    rcases run_meas h k with hd | hm
    · exact .inl (by rw [step_done hd]; exact hd)
    · have he := run_each (now := now) h k
      revert hm he
      obtain ⟨T, I⟩ := runW now s k
      intro hm he
      match T, hm, he with
      | [], _, _ => exact .inl trivial
      | t :: T, hm, he =>
        by_cases hc : t.2.1 ≤ now
        · have := meas_step (T := T) (I := I) hc (he t List.mem_cons_self)
          right
          dsimp only at hm
          omega
        · have hd : doneW now (t :: T, I).1 := by simp only [doneW]; omega
          exact .inl (by rw [step_done hd]; exact hd)
theorem done_of_meas {now : Int} {T : List T3} (h : meas now T = 0) : doneW now T := by
  match T, h with
  | [], _ => trivial
  | t :: T, h =>
    simp only [meas, List.map_cons, List.sum_cons] at h
    simp only [doneW]
    omega
def goW (now : Int) (T : List T3) : List T3 × List Int := runW now (T, []) (meas now T)
theorem goW_done {now : Int} {T : List T3} (h : ∀ t ∈ T, 0 ≤ t.2.2) : doneW now (goW now T).1 := by
  rcases run_meas (now := now) (s := (T, [])) h (meas now T) with hd | hm
  · exact hd
  · exact done_of_meas (by dsimp only at hm; unfold goW; omega)
theorem goW_eq {now : Int} {T : List T3} (h : ∀ t ∈ T, 0 ≤ t.2.2) {k : Nat} (hd : doneW now (runW now (T, []) k).1) : goW now T = runW now (T, []) k := by
  rcases Nat.le_total k (meas now T) with hle | hle
  · obtain ⟨j, hj⟩ := Nat.exists_eq_add_of_le hle
    unfold goW
    rw [hj, run_add, run_done hd]
  · obtain ⟨j, hj⟩ := Nat.exists_eq_add_of_le hle
    have := goW_done (now := now) h
    rw [hj, run_add]
    exact (run_done this j).symm
theorem step_pre (now : Int) (T : List T3) (I J : List Int) : stepW now (T, I ++ J) = ((stepW now (T, J)).1, I ++ (stepW now (T, J)).2) := by
  match T with
  | [] => rfl
  | t :: T =>
    rw [stepW, stepW]
    split
    · rw [List.append_assoc]
    · rfl
theorem run_pre (now : Int) (T : List T3) (I : List Int) : ∀ k, runW now (T, I) k = ((runW now (T, []) k).1, I ++ (runW now (T, []) k).2)
  | 0 => by simp [runW]
  | k + 1 => by
    rw [runW, run_pre now T I k, step_pre, runW]
theorem run_two {a b : Int} (hab : a ≤ b) (s : List T3 × List Int) : ∀ k, ∃ j, runW b s j = runW a s k
  | 0 => ⟨0, rfl⟩
  | k + 1 => by
    obtain ⟨j, hj⟩ := run_two hab s k
    rw [runW, ← hj]
    rcases hs : runW b s j with ⟨_ | ⟨t, T⟩, I⟩
    · exact ⟨j, hs⟩
    · by_cases hc : t.2.1 ≤ a
      · refine ⟨j + 1, ?_⟩
        rw [runW, hs, stepW, stepW, if_pos hc, if_pos (by omega)]
      · exact ⟨j, by rw [hs, stepW, if_neg hc]⟩
theorem goW_two {a b : Int} (hab : a ≤ b) {T : List T3} (h : ∀ t ∈ T, 0 ≤ t.2.2) : goW b T = ((goW b (goW a T).1).1, (goW a T).2 ++ (goW b (goW a T).1).2) := by
  obtain ⟨j, hj⟩ := run_two hab (T, []) (meas a T)
  have h2 : ∀ t ∈ (goW a T).1, 0 ≤ t.2.2 := run_each (s := (T, [])) h _
  have hd := goW_done (now := b) h2
  have e : runW b (T, []) (j + meas b (goW a T).1) = ((goW b (goW a T).1).1, (goW a T).2 ++ (goW b (goW a T).1).2) := by
    rw [run_add, hj]
    exact run_pre b (goW a T).1 (goW a T).2 _
  rw [goW_eq h (k := j + meas b (goW a T).1) (by rw [e]; exact hd), e]
/-! what stays right -/
theorem step_wk {u v now : Int} {s : List T3 × List Int} (h : wk u v s.1) (hn : now ≤ 1000000) : wk u v (stepW now s).1 ∧ (stepW now s).1.length ≤ s.1.length := by
  obtain ⟨T, I⟩ := s
  match T, h with
  | [], h => exact ⟨h, Nat.le_refl _⟩
  | t :: T, h =>
    rw [stepW]
    split
    · rename_i hc
      obtain ⟨h1, h2, h3, h4⟩ := wk_tail h
      dsimp only
      split
      · refine ⟨wk_put h1 ?_ fun x hx e => h3 x hx e.symm, by rw [putW_len]; simp⟩
        unfold tmOk at *
        dsimp only
        omega
      · exact ⟨h1, by simp⟩
    · exact ⟨h, Nat.le_refl _⟩
theorem run_wk {u v now : Int} {s : List T3 × List Int} (h : wk u v s.1) (hn : now ≤ 1000000) : ∀ k, wk u v (runW now s k).1 ∧ (runW now s k).1.length ≤ s.1.length
  | 0 => ⟨h, Nat.le_refl _⟩
  | k + 1 => by
    obtain ⟨h1, h2⟩ := run_wk h hn k
    obtain ⟨h3, h4⟩ := step_wk h1 hn
    exact ⟨h3, Nat.le_trans h4 h2⟩
theorem run_ids {now : Int} {s : List T3 × List Int} : ∀ k, (runW now s k).2.length ≤ s.2.length + k
  | 0 => Nat.le_refl _
  | k + 1 => by
    have ih := run_ids (now := now) (s := s) k
    rw [runW]
    revert ih
    obtain ⟨T, I⟩ := runW now s k
    intro ih
    match T with
    | [] => exact Nat.le_succ_of_le ih
    | t :: T =>
      rw [stepW]
      split
      · dsimp only at ih ⊢; rw [List.length_append]; simp; omega
      · exact Nat.le_succ_of_le ih
theorem done_all {now u v : Int} {T : List T3} (h : wk u v T) (hd : doneW now T) : ∀ t ∈ T, now < t.2.1 := by
  match T, h, hd with
  | [], _, _ => intro t ht; simp at ht
  | t :: T, h, hd =>
    obtain ⟨h1, h2, h3, h4⟩ := wk_tail h
    intro x hx
    simp only [doneW] at hd
    rcases List.mem_cons.1 hx with rfl | hx
    · exact hd
    · have := h2 x hx
      unfold blt at this
      omega
def mayGo (u n : Int) : Prop := (1 ≤ n ∧ n ≤ 1000) ∧ u + n ≤ 1000000
instance (u n : Int) : Decidable (mayGo u n) := by unfold mayGo; infer_instance
def goO (u v : Int) (T : List T3) (n : Int) : Int × Int × List T3 × List Int :=
  if wheelOk u v T then (if mayGo u n then (u + n, v, (goW (u + n) T).1, (goW (u + n) T).2) else (u, v, T, [])) else (0, 0, [], [])
theorem wk_each {u v : Int} {T : List T3} (h : wk u v T) : ∀ t ∈ T, 0 ≤ t.2.2 := fun t ht => (h.2.2 t ht).2.2.1
theorem goW_ok {u v n : Int} {T : List T3} (h : wheelOk u v T) (hm : mayGo u n) : wheelOk (u + n) v (goW (u + n) T).1 := by
  obtain ⟨h1, h2, h3, h4⟩ := wheelOk_wk.1 h
  obtain ⟨m1, m2⟩ := hm
  obtain ⟨r1, r2⟩ := run_wk (s := (T, [])) h4 m2 (meas (u + n) T)
  have hd := done_all r1 (goW_done (now := u + n) (wk_each h4))
  refine wheelOk_wk.2 ⟨by omega, h2, Nat.le_trans r2 h3, r1.1, r1.2.1, fun t ht => ?_⟩
  have a := hd t ht
  have b := r1.2.2 t ht
  unfold tmOk at *
  omega
theorem meas_le {u v n : Int} {T : List T3} (h : wk u v T) (hn : 0 ≤ n) : meas (u + n) T ≤ n.toNat * T.length := by
  unfold meas
  have : ∀ L : List T3, (∀ t ∈ L, u + 1 ≤ t.2.1) → (L.map fun t => (u + n + 1 - t.2.1).toNat).sum ≤ n.toNat * L.length := by
    intro L
    induction L with
    | nil => simp
    | cons t L ih =>
      intro hL
      have h1 := ih fun x hx => hL x (List.mem_cons_of_mem _ hx)
      have h2 := hL t List.mem_cons_self
      simp only [List.map_cons, List.sum_cons, List.length_cons]
      rw [Nat.mul_add]
      omega
  exact this T fun t ht => (h.2.2 t ht).1.1
theorem goW_ids {u v n : Int} {T : List T3} (h : wheelOk u v T) (hm : mayGo u n) : (goW (u + n) T).2.length ≤ 12000 := by
  obtain ⟨h1, h2, h3, h4⟩ := wheelOk_wk.1 h
  obtain ⟨m1, m2⟩ := hm
  have a := run_ids (now := u + n) (s := (T, [])) (meas (u + n) T)
  have b := meas_le (n := n) h4 (by omega)
  have c : n.toNat * T.length ≤ 1000 * 12 := Nat.mul_le_mul (by omega) h3
  simp only [List.length_nil, Nat.zero_add] at a
  unfold goW
  omega
/-! how often each one comes -/
def wantT (now : Int) (t : T3) : Int := if t.2.1 ≤ now then (if 0 < t.2.2 then 1 + (now - t.2.1).tdiv t.2.2 else 1) else 0
def wantL (now d : Int) (T : List T3) : Int := (T.map fun t => if t.1 = d then wantT now t else 0).sum
theorem wantL_cons (now d : Int) (t : T3) (T : List T3) : wantL now d (t :: T) = (if t.1 = d then wantT now t else 0) + wantL now d T := by simp [wantL]
theorem wantL_put (now d : Int) (t : T3) : ∀ T : List T3, wantL now d (putW T t) = (if t.1 = d then wantT now t else 0) + wantL now d T
  | [] => rfl
  | x :: T => by
    unfold putW
    split
    · rw [wantL_cons]
    · rw [wantL_cons, wantL_cons, wantL_put now d t T]; omega
theorem want_again {now : Int} {t : T3} (h : t.2.1 ≤ now) (he : 0 < t.2.2) : wantT now t = 1 + wantT now (t.1, t.2.1 + t.2.2, t.2.2) := by
  unfold wantT
  dsimp only
  rw [if_pos h, if_pos he]
  by_cases h2 : t.2.1 + t.2.2 ≤ now
  · rw [if_pos h2, if_pos he]
    have e : now - t.2.1 = (now - (t.2.1 + t.2.2)) + t.2.2 * 1 := by omega
    rw [e, Int.tdiv_eq_ediv_of_nonneg (by omega), Int.tdiv_eq_ediv_of_nonneg (by omega), Int.add_mul_ediv_left _ _ (by omega)]
    omega
  · rw [if_neg h2, Int.tdiv_eq_ediv_of_nonneg (by omega), Int.ediv_eq_zero_of_lt (by omega) (by omega)]
theorem step_want {now d : Int} {s : List T3 × List Int} (h : ∀ t ∈ s.1, 0 ≤ t.2.2) : ((stepW now s).2.count d : Int) + wantL now d (stepW now s).1 = (s.2.count d : Int) + wantL now d s.1 := by
  obtain ⟨T, I⟩ := s
  match T, h with
  | [], _ => rfl
  | t :: T, h =>
    rw [stepW]
    have e : wantL now d (t :: T) = (if t.1 = d then wantT now t else 0) + wantL now d T := by simp [wantL]
    split
    · rename_i hc
      dsimp only
      rw [e, List.count_append, List.count_cons, List.count_nil]
      by_cases hd : t.1 = d
      · rw [if_pos hd, if_pos (by simpa using hd)]
        split
        · rename_i he
          rw [wantL_put, want_again hc he]
          dsimp only
          rw [if_pos hd]
          omega
        · rename_i he
          have : wantT now t = 1 := by unfold wantT; rw [if_pos hc, if_neg he]
          rw [this]
          omega
      · rw [if_neg hd, if_neg (by simpa using hd)]
        split
        · rw [wantL_put]
          dsimp only
          rw [if_neg hd]
          omega
        · omega
    · rfl
theorem run_want {now d : Int} {s : List T3 × List Int} (h : ∀ t ∈ s.1, 0 ≤ t.2.2) : ∀ k, ((runW now s k).2.count d : Int) + wantL now d (runW now s k).1 = (s.2.count d : Int) + wantL now d s.1
  | 0 => rfl
  | k + 1 => by rw [runW, step_want (run_each h k), run_want h k]
theorem wantL_zero {now d : Int} {T : List T3} (h : ∀ t ∈ T, now < t.2.1) : wantL now d T = 0 := by
  induction T with
  | nil => rfl
  | cons t T ih =>
    have e : wantL now d (t :: T) = (if t.1 = d then wantT now t else 0) + wantL now d T := by simp [wantL]
    rw [e, ih fun x hx => h x (List.mem_cons_of_mem _ hx)]
    have : wantT now t = 0 := by unfold wantT; rw [if_neg (by have := h t List.mem_cons_self; omega)]
    rw [this]; simp
theorem wantL_one {now d : Int} : ∀ {T : List T3}, T.Pairwise (fun x y => x.1 ≠ y.1) → ∀ {t : T3}, t ∈ T → t.1 = d → wantL now d T = wantT now t
  | [], _, t, ht, _ => by simp at ht
  | x :: T, h, t, ht, hd => by
    have e : wantL now d (x :: T) = (if x.1 = d then wantT now x else 0) + wantL now d T := by simp [wantL]
    obtain ⟨h1, h2⟩ := List.pairwise_cons.1 h
    rw [e]
    rcases List.mem_cons.1 ht with rfl | ht
    · rw [if_pos hd]
      have : wantL now d T = 0 := by
        have : ∀ L : List T3, (∀ y ∈ L, y.1 ≠ d) → wantL now d L = 0 := by
          intro L
          induction L with
          | nil => intro _; rfl
          | cons y L ih =>
            intro hL
            have e : wantL now d (y :: L) = (if y.1 = d then wantT now y else 0) + wantL now d L := by simp [wantL]
            rw [e, if_neg (hL y List.mem_cons_self), ih fun z hz => hL z (List.mem_cons_of_mem _ hz)]
            rfl
        exact this T fun y hy => by have := h1 y hy; omega
      omega
    · rw [if_neg (by have := h1 t ht; omega), wantL_one h2 ht hd]
      omega
theorem goW_count {u v n : Int} {T : List T3} (h : wheelOk u v T) (hm : mayGo u n) {t : T3} (ht : t ∈ T) : ((goW (u + n) T).2.count t.1 : Int) = wantT (u + n) t := by
  obtain ⟨h1, h2, h3, h4⟩ := wheelOk_wk.1 h
  obtain ⟨m1, m2⟩ := hm
  have a := run_want (now := u + n) (d := t.1) (s := (T, [])) (wk_each h4) (meas (u + n) T)
  have b := wantL_one (now := u + n) h4.2.1 ht rfl
  obtain ⟨r1, r2⟩ := run_wk (s := (T, [])) h4 m2 (meas (u + n) T)
  have c := wantL_zero (d := t.1) (done_all r1 (goW_done (now := u + n) (wk_each h4)))
  unfold goW at c ⊢
  rw [c, b] at a
  simpa using a
/-- going on in two steps -/
theorem goO_two {u v n k : Int} {T : List T3} (h : wheelOk u v T) (hm : mayGo u n) (hk : 1 ≤ k ∧ k < n) :
    mayGo u k ∧ mayGo (u + k) (n - k) ∧ goW (u + n) T = ((goW (u + k + (n - k)) (goW (u + k) T).1).1, (goW (u + k) T).2 ++ (goW (u + k + (n - k)) (goW (u + k) T).1).2) := by
  obtain ⟨m1, m2⟩ := hm
  refine ⟨⟨by omega, by omega⟩, ⟨by omega, by omega⟩, ?_⟩
  rw [show u + k + (n - k) = u + n by omega]
  exact goW_two (by omega) (wk_each (wheelOk_wk.1 h).2.2.2)
/-! adding and dropping -/
theorem idx_mem {T : List T3} (hu : T.Pairwise fun x y => x.1 ≠ y.1) {t : T3} (ht : t ∈ T) : ∃ i : Nat, idx (fun x : T3 => decide (x.1 = t.1)) T = i ∧ i < T.length ∧ T.getD i default = t := by
  have h := idx_any (fun x : T3 => decide (x.1 = t.1)) T
  rw [List.any_eq_true.2 ⟨t, ht, decide_eq_true rfl⟩] at h
  obtain ⟨i, e, hi, hp, _⟩ := idx_nonneg (of_decide_eq_true h)
  refine ⟨i, e, hi, ?_⟩
  have hp : (T.getD i default).1 = t.1 := of_decide_eq_true hp
  obtain ⟨j, hj, rfl⟩ := List.getElem_of_mem ht
  rw [getD_of_lt hi] at hp ⊢
  rw [List.pairwise_iff_getElem] at hu
  rcases Nat.lt_trichotomy i j with hlt | rfl | hgt
  · exact absurd hp (hu i j hi hj hlt)
  · rfl
  · exact absurd hp.symm (hu j i hj hi hgt)
theorem addW_left {u v : Int} {T : List T3} {w e : Int} (h : wheelOk u v T) (hm : mayAdd v T w e) : leftOf u (v + 1) (putW T (v, u + w, e)) v = w := by
  have hok := addW_ok h hm
  obtain ⟨_, _, _, h4⟩ := wheelOk_wk.1 hok
  obtain ⟨i, e1, e2, e3⟩ := idx_mem h4.2.1 (putW_mem.2 (.inl rfl))
  dsimp only at e1
  unfold leftOf
  have hb := (wheelOk_wk.1 h).1
  have hw := hm.1
  rw [e1, if_pos ⟨hok, by omega⟩, Int.toNat_natCast, e3]
  dsimp only
  rw [show u + w - u = w by omega]
  exact w64 (by omega) (by omega)
theorem addW_drop {u v : Int} {T : List T3} {w e : Int} (h : wheelOk u v T) (hm : mayAdd v T w e) : (dropW u (v + 1) (putW T (v, u + w, e)) v).2.2.2 = true ∧ (dropW u (v + 1) (putW T (v, u + w, e)) v).2.2.1.length = T.length := by
  have hok := addW_ok h hm
  obtain ⟨_, _, _, h4⟩ := wheelOk_wk.1 hok
  obtain ⟨i, e1, e2, e3⟩ := idx_mem h4.2.1 (putW_mem.2 (.inl rfl))
  dsimp only at e1
  have hl := putW_len T (v, u + w, e)
  unfold dropW
  rw [if_pos hok, e1, if_pos (by omega)]
  refine ⟨rfl, ?_⟩
  dsimp only
  rw [Int.toNat_natCast, List.length_append, List.length_take, List.length_drop]
  omega
theorem drop_left {u v : Int} {T : List T3} {d : Int} (h : (dropW u v T d).2.2.2 = true) : leftOf (dropW u v T d).1 (dropW u v T d).2.1 (dropW u v T d).2.2.1 d = 0 := by
  unfold dropW at h ⊢
  by_cases hok : wheelOk u v T
  · rw [if_pos hok] at h ⊢
    by_cases hc : 0 ≤ idx (fun x : T3 => decide (x.1 = d)) T
    · rw [if_pos hc] at h ⊢
      obtain ⟨m, e, h1, h2, h3⟩ := idx_nonneg hc
      have h2 : (T.getD m default).1 = d := of_decide_eq_true h2
      have hu := (wheelOk_wk.1 hok).2.2.2.2.1
      rw [e, Int.toNat_natCast]
      dsimp only
      have hn : idx (fun x : T3 => decide (x.1 = d)) (T.take m ++ T.drop (m + 1)) = -1 := by
        refine idx_miss fun j hj => ?_
        have hm := getD_mem hj
        rw [decide_eq_false_iff_not]
        rw [List.pairwise_iff_getElem] at hu
        intro e2
        rcases List.mem_append.1 hm with hm | hm
        · obtain ⟨k, hk, e3⟩ := List.getElem_of_mem hm
          have hk2 : k < m := by simp at hk; omega
          rw [List.getElem_take] at e3
          have := h3 k hk2
          rw [getD_of_lt (by omega), e3] at this
          exact absurd e2 (of_decide_eq_false this)
        · obtain ⟨k, hk, e3⟩ := List.getElem_of_mem hm
          have hk2 : m + 1 + k < T.length := by simp at hk; omega
          rw [List.getElem_drop] at e3
          have := hu m (m + 1 + k) h1 hk2 (by omega)
          rw [e3, e2, ← getD_of_lt h1, h2] at this
          exact this rfl
      unfold leftOf
      rw [hn]
      rw [if_neg fun h => by have := h.2; omega]
    · rw [if_neg hc] at h; cases h
  · rw [if_neg hok] at h; cases h
end Go.Eng.T
