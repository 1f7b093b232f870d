/- faults: pages and frames in plain terms: the best way, the way of recency, how many there are. -/
import Derived.Test.YtgbbegbepbniiaaFn0
set_option linter.unusedVariables false
set_option linter.unusedSimpArgs false
set_option linter.unusedSectionVars false
namespace Go.Eng.T
/-- when p is asked for, from place i on -/
def key (X : List Int) (i : Nat) (p : Int) : Nat := i + (X.drop i).findIdx (fun x => decide (x = p))
theorem key_ge (X : List Int) (i : Nat) (p : Int) : i ≤ key X i p := Nat.le_add_right _ _
theorem key_hit {X : List Int} {i : Nat} (hi : i < X.length) : key X i (X.getD i default) = i := by
  unfold key
  rw [List.drop_eq_getElem_cons hi, List.findIdx_cons, getD_of_lt hi]
  simp
theorem key_miss {X : List Int} {i : Nat} {p : Int} (hi : i < X.length) (h : X.getD i default ≠ p) : key X i p = key X (i + 1) p := by
  unfold key
  rw [getD_of_lt hi] at h
  rw [List.drop_eq_getElem_cons hi, List.findIdx_cons, decide_eq_false h]
  simp
  omega
theorem idx_findIdx (p : Int → Bool) (L : List Int) : (idx p L = -1 ∧ L.findIdx p = L.length) ∨ (0 ≤ idx p L ∧ idx p L = (L.findIdx p : Int) ∧ L.findIdx p < L.length) := by
  unfold idx
  rcases h : L.findIdx? p with _ | i
  · left
    refine ⟨rfl, List.findIdx_eq_length.2 ?_⟩
    rw [List.findIdx?_eq_none_iff] at h
    intro x hx
    simpa using h x hx
  · right
    rw [List.findIdx?_eq_some_iff_findIdx_eq] at h
    obtain ⟨h1, h2⟩ := h
    dsimp only
    omega
theorem again_key {X : List Int} {i : Nat} (hi : i < X.length) (p : Int) : again X i p = (key X (i + 1) p : Nat) := by
  have := idx_findIdx (fun x => decide (x = p)) (X.drop (i + 1))
  unfold again key
  rw [List.length_drop] at this
  rcases this with ⟨h1, h2⟩ | ⟨h1, h2, h3⟩
  · rw [if_neg (by omega)]; omega
  · rw [if_pos h1]; omega
theorem at1_mem {l : List Int} {p : Int} : 0 ≤ at1 l p ↔ p ∈ l := by
  have := idx_any (fun x => decide (x = p)) l
  constructor
  · intro h
    rw [decide_eq_true h] at this
    obtain ⟨x, hx, hp⟩ := List.any_eq_true.1 this.symm
    exact of_decide_eq_true hp ▸ hx
  · intro h
    have h2 : l.any (fun x => decide (x = p)) = true := List.any_eq_true.2 ⟨p, h, decide_eq_true rfl⟩
    rw [h2] at this
    exact of_decide_eq_true this
theorem at1_get {l : List Int} {p : Int} (h : p ∈ l) : ∃ k : Nat, at1 l p = k ∧ ∃ h : k < l.length, l[k] = p := by
  obtain ⟨k, e, hk, hp, _⟩ := idx_nonneg (at1_mem.2 h)
  refine ⟨k, e, hk, ?_⟩
  rw [getD_of_lt hk] at hp
  exact of_decide_eq_true hp
theorem wo_count {l : List Int} {j : Nat} (P : Int → Bool) (h : j < l.length) : l.countP P = (wo l j).countP P + if P l[j] then 1 else 0 := by
  have : l = l.take j ++ l[j] :: l.drop (j + 1) := by rw [← List.drop_eq_getElem_cons h, List.take_append_drop]
  conv => lhs; rw [this]
  rw [wo, List.countP_append, List.countP_append, List.countP_cons]
  omega
theorem key_old {X : List Int} {i t : Nat} (hi : i < X.length) (ht : i < t) : ∀ L : List Int, L.countP (fun q => decide (key X i q < t)) = L.countP (fun q => decide (key X (i + 1) q < t)) + if key X (i + 1) (X.getD i default) < t then 0 else L.count (X.getD i default)
  | [] => by simp
  | q :: L => by
    rw [List.countP_cons, List.countP_cons, key_old hi ht L, List.count_cons]
    by_cases e : X.getD i default = q
    · subst e
      rw [key_hit hi, if_pos (decide_eq_true ht)]
      by_cases h : key X (i + 1) (X.getD i default) < t
      · rw [if_pos h, if_pos h, if_pos (decide_eq_true h)]
      · rw [if_neg h, if_neg h, if_neg (by simpa using h)]; simp; omega
    · have e2 : (q == X.getD i default) = false := by simp; exact fun h => e h.symm
      rw [key_miss hi e, e2]
      simp only [Bool.false_eq_true, if_false, Nat.add_zero]
      omega
theorem key_zero {X : List Int} {i t : Nat} (ht : t ≤ i) (L : List Int) : L.countP (fun q => decide (key X i q < t)) = 0 := by
  rw [List.countP_eq_zero]
  intro q _
  have := key_ge X i q
  simp; omega
/-- what a step does -/
theorem run_step {rc : Bool} {vic : List Int → Nat → Nat} {f : Int} {X : List Int} (i : Nat) :
    (X.getD i default ∈ runL rc vic f X i ∧ runN rc vic f X (i + 1) = runN rc vic f X i ∧ (runL rc vic f X (i + 1)).length = (runL rc vic f X i).length ∧ ∀ P, (runL rc vic f X (i + 1)).countP P = (runL rc vic f X i).countP P) ∨
    (X.getD i default ∉ runL rc vic f X i ∧ runN rc vic f X (i + 1) = runN rc vic f X i + 1 ∧
      ((¬ f ≤ (runL rc vic f X i).length ∧ runL rc vic f X (i + 1) = runL rc vic f X i ++ [X.getD i default]) ∨ (f ≤ (runL rc vic f X i).length ∧ runL rc vic f X (i + 1) = wo (runL rc vic f X i) (vic (runL rc vic f X i) i) ++ [X.getD i default]))) := by
  by_cases h : 0 ≤ at1 (runL rc vic f X i) (X.getD i default)
  · left
    refine ⟨at1_mem.1 h, runN_hit h, ?_⟩
    cases rc with
    | false => rw [runL_stay h]; exact ⟨rfl, fun _ => rfl⟩
    | true =>
      obtain ⟨k, e, hk, hp⟩ := at1_get (at1_mem.1 h)
      rw [runL_end h, e, Int.toNat_natCast]
      constructor
      · rw [List.length_append, wo_len hk]; simp; omega
      · intro P
        rw [wo_count P hk, List.countP_append, hp]
        simp [List.countP_cons]
  · right
    refine ⟨fun hm => h (at1_mem.2 hm), runN_miss h, ?_⟩
    by_cases hf : f ≤ (runL rc vic f X i).length
    · exact .inr ⟨hf, runL_full h hf⟩
    · exact .inl ⟨hf, runL_room h hf⟩
theorem run_nodup {rc : Bool} {vic : List Int → Nat → Nat} {f : Int} {X : List Int} (hf : 1 ≤ f) (hv : ∀ l i, 1 ≤ l.length → vic l i < l.length) : ∀ i, ∀ q, (runL rc vic f X i).count q ≤ 1
  | 0, q => by simp [runL]
  | i + 1, q => by
    have ih := run_nodup (rc := rc) (X := X) hf hv i q
    rcases run_step (rc := rc) (vic := vic) (f := f) (X := X) i with ⟨_, _, _, h⟩ | ⟨hm, _, h⟩
    · rw [List.count, h]; exact ih
    · have h0 : ∀ L : List Int, L.count q ≤ (runL rc vic f X i).count q → (L ++ [X.getD i default]).count q ≤ 1 := fun L hL => by
        rw [List.count_append, List.count_cons, List.count_nil]
        by_cases e : X.getD i default = q
        · have : (runL rc vic f X i).count q = 0 := List.count_eq_zero.2 (e ▸ hm)
          split <;> omega
        · have e2 : (X.getD i default == q) = false := by simpa using e
          rw [e2]
          simp
          omega
      rcases h with ⟨_, h⟩ | ⟨hfl, h⟩
      · rw [h]; exact h0 _ (Nat.le_refl _)
      · rw [h]
        refine h0 _ ?_
        have := wo_count (fun x => x == q) (hv (runL rc vic f X i) i (by omega))
        unfold List.count
        omega
/-- a way of keeping pages in f frames -/
def way (X : List Int) (f : Nat) (A : Nat → List Int) (N : Nat → Nat) : Prop :=
  A 0 = [] ∧ N 0 = 0 ∧ (∀ i, (A i).length ≤ f) ∧ ∀ i, i < X.length →
    (X.getD i default ∈ A i ∧ N (i + 1) = N i ∧ ∀ P, (A (i + 1)).countP P = (A i).countP P) ∨
    (X.getD i default ∉ A i ∧ N (i + 1) = N i + 1 ∧ ∃ L, A (i + 1) = L ++ [X.getD i default] ∧ ∀ P, L.countP P ≤ (A i).countP P)
theorem run_way {rc : Bool} {vic : List Int → Nat → Nat} {f g : Nat} {X : List Int} (hf : 1 ≤ f) (hg : f ≤ g) (hv : ∀ l i, 1 ≤ l.length → vic l i < l.length) : way X g (runL rc vic f X) (runN rc vic f X) := by
  refine ⟨rfl, rfl, fun i => by have := runL_len (rc := rc) (vic := vic) (f := f) (X := X) (by omega) hv i; omega, fun i _ => ?_⟩
  rcases run_step (rc := rc) (vic := vic) (f := f) (X := X) i with ⟨h1, h2, _, h⟩ | ⟨hm, h2, h⟩
  · exact .inl ⟨h1, h2, h⟩
  · refine .inr ⟨hm, h2, ?_⟩
    rcases h with ⟨_, h⟩ | ⟨hfl, h⟩
    · exact ⟨_, h, fun _ => Nat.le_refl _⟩
    · refine ⟨_, h, fun P => ?_⟩
      rw [wo_count P (hv (runL rc vic f X i) i (by omega))]
      exact Nat.le_add_right _ _
theorem wst_max (key : Int → Int) (l : List Int) : ∀ k, 0 < k → ∀ j, j < k → key (l.getD j default) ≤ key (l.getD (wst key l k) default)
  | k + 1, _, j, hj => by
    unfold wst
    by_cases h0 : k = 0
    · rw [if_pos h0]
      obtain rfl : j = 0 := by omega
      exact Int.le_refl _
    · rw [if_neg h0]
      have ih := wst_max key l k (by omega)
      by_cases hw : worse key l k (wst key l k)
      · rw [if_pos hw]
        rcases Nat.lt_or_ge j k with hlt | hge
        · have := ih j hlt
          unfold worse at hw
          omega
        · obtain rfl : j = k := by omega
          exact Int.le_refl _
      · rw [if_neg hw]
        rcases Nat.lt_or_ge j k with hlt | hge
        · exact ih j hlt
        · obtain rfl : j = k := by omega
          unfold worse at hw
          omega
/-- the best way is the best one -/
theorem best_inv {X : List Int} {f : Nat} (hf : 1 ≤ f) {A : Nat → List Int} {N : Nat → Nat} (hA : way X f A N) : ∀ i, i ≤ X.length → ∀ t,
    runN false (vicB X) f X i + (A i).countP (fun q => decide (key X i q < t)) ≤ N i + (runL false (vicB X) f X i).countP (fun q => decide (key X i q < t))
  | 0, _, t => by rw [hA.1]; simp [runN]
  | i + 1, hi, t => by
    have ih := best_inv hf hA i (by omega)
    obtain ⟨hA0, hN0, hAl, hAs⟩ := hA
    have hlt : i < X.length := hi
    have hvB : ∀ l i, 1 ≤ l.length → vicB X l i < l.length := fun l i h => vicB_lt X l i h
    have hBl := runL_len (rc := false) (vic := vicB X) (f := f) (X := X) (by omega) hvB i
    have hBn := run_nodup (rc := false) (X := X) (f := f) (by omega) hvB i
    have h0 := ih 0
    rw [key_zero (Nat.zero_le _), key_zero (Nat.zero_le _)] at h0
    have hA' := hAs i hlt
    have hB' := run_step (rc := false) (vic := vicB X) (f := f) (X := X) i
    obtain ⟨p, hp⟩ : ∃ p, p = X.getD i default := ⟨_, rfl⟩
    obtain ⟨B, hB⟩ : ∃ B, B = runL false (vicB X) f X i := ⟨_, rfl⟩
    rw [← hp] at hA' hB'
    rw [← hB] at hB' hBl hBn ih
    have hold := fun (u : Nat) (hu : i < u) => key_old hlt hu
    rw [← hp] at hold
    -- where p is there, it counts
    have one : p ∈ B → B.count p = 1 := fun h => by have := hBn p; have := List.count_pos_iff.2 h; omega
    have none : ∀ {L : List Int}, p ∉ L → L.count p = 0 := fun h => List.count_eq_zero.2 h
    have some : ∀ {L : List Int}, p ∈ L → 0 < L.count p := fun h => List.count_pos_iff.2 h
    have ih1 := ih (i + 1)
    rw [hold (i + 1) (by omega), hold (i + 1) (by omega), key_zero (Nat.le_refl _), key_zero (Nat.le_refl _)] at ih1
    have hk1 : ¬ key X (i + 1) p < i + 1 := by have := key_ge X (i + 1) p; omega
    rw [if_neg hk1, if_neg hk1] at ih1
    rcases Nat.lt_or_ge i t with ht | ht
    · have iht := ih t
      rw [hold t ht, hold t ht] at iht
      have hnew : ∀ L : List Int, (L ++ [p]).countP (fun q => decide (key X (i + 1) q < t)) = L.countP (fun q => decide (key X (i + 1) q < t)) + if key X (i + 1) p < t then 1 else 0 := fun L => by
        rw [List.countP_append, List.countP_cons, List.countP_nil]
        simp
      have hAc : (A i).countP (fun q => decide (key X (i + 1) q < t)) + (if key X (i + 1) p < t then 0 else (A i).count p) ≤ (A i).length := by
        rw [← hold t ht]; exact List.countP_le_length
      have hAL := hAl i
      -- what goes from B
      have gone : f ≤ B.length → p ∉ B → (wo B (vicB X B i)).countP (fun q => decide (key X (i + 1) q < t)) = B.countP (fun q => decide (key X (i + 1) q < t)) ∨ f ≤ (wo B (vicB X B i)).countP (fun q => decide (key X (i + 1) q < t)) + 1 := fun hfl hm => by
        have hw := hvB B i (by omega)
        have hc := wo_count (fun q => decide (key X (i + 1) q < t)) hw
        by_cases hq : key X (i + 1) B[vicB X B i] < t
        · right
          rw [if_pos (by simpa using hq)] at hc
          have : B.countP (fun q => decide (key X (i + 1) q < t)) = B.length := by
            rw [List.countP_eq_length]
            intro q hqm
            obtain ⟨j, hj, rfl⟩ := List.getElem_of_mem hqm
            have hn : ¬ 0 ≤ at1 B (X.getD i default) := fun h => hm (hp ▸ at1_mem.1 h)
            have hv := vicB_again hlt hn
            have hmx := wst_max (again X i) B B.length (by omega) j hj
            rw [← hv, again_key hlt, again_key hlt, getD_of_lt hj, getD_of_lt hw] at hmx
            simp only [decide_eq_true_eq]
            omega
          omega
        · left
          rw [if_neg (by simpa using hq)] at hc
          omega
      rcases hA' with ⟨a1, a2, a3⟩ | ⟨a1, a2, L, a3, a4⟩
      · have sA := some a1
        rcases hB' with ⟨b1, b2, b4, b3⟩ | ⟨b1, b2, b3⟩
        · rw [a2, a3, b2, b3]
          rw [one b1] at iht
          split at iht <;> omega
        · rw [none b1] at iht ih1
          rw [a2, a3, b2]
          rcases b3 with ⟨_, b3⟩ | ⟨hfl, b3⟩
          · rw [b3, hnew]
            split at iht <;> split <;> omega
          · rw [b3, hnew]
            rcases gone (by omega) b1 with e | e
            · rw [e]
              split at iht <;> split <;> omega
            · split at iht <;> split at hAc <;> split <;> omega
      · have nA := none a1
        rw [nA] at iht hAc
        have a5 := a4 (fun q => decide (key X (i + 1) q < t))
        have a6 : L.length + 1 ≤ f := by have := hAl (i + 1); rw [a3] at this; simpa using this
        have a7 : L.countP (fun q => decide (key X (i + 1) q < t)) ≤ L.length := List.countP_le_length
        rw [a3, hnew, a2]
        rcases hB' with ⟨b1, b2, b4, b3⟩ | ⟨b1, b2, b3⟩
        · rw [b2, b3]
          rw [one b1] at iht
          split at iht <;> split <;> omega
        · rw [none b1] at iht
          rw [b2]
          rcases b3 with ⟨_, b3⟩ | ⟨hfl, b3⟩
          · rw [b3, hnew]
            split at iht <;> split <;> omega
          · rw [b3, hnew]
            rcases gone (by omega) b1 with e | e
            · rw [e]
              split at iht <;> split <;> omega
            · split <;> omega
    · rw [key_zero (by omega), key_zero (by omega)]
      rcases hA' with ⟨a1, a2, a3⟩ | ⟨a1, a2, L, a3, a4⟩
      · have sA := some a1
        rcases hB' with ⟨b1, b2, b4, b3⟩ | ⟨b1, b2, b3⟩
        · omega
        · rw [none b1] at ih1; omega
      · rcases hB' with ⟨b1, b2, b4, b3⟩ | ⟨b1, b2, b3⟩ <;> omega
theorem best_le {X : List Int} {f : Nat} (hf : 1 ≤ f) {A : Nat → List Int} {N : Nat → Nat} (hA : way X f A N) : runN false (vicB X) f X X.length ≤ N X.length := by
  have := best_inv hf hA X.length (Nat.le_refl _) 0
  rw [key_zero (Nat.zero_le _), key_zero (Nat.zero_le _)] at this
  omega
/-! recency -/
theorem wo_zero (x : Int) (L : List Int) : wo (x :: L) 0 = L := by simp [wo]
theorem wo_succ (x : Int) (L : List Int) (k : Nat) : wo (x :: L) (k + 1) = x :: wo L k := by simp [wo]
theorem stepL_hit {f : Int} {i : Nat} {l : List Int} {p : Int} (h : p ∈ l) : stepL true (fun _ _ => 0) f i l p = wo l (at1 l p).toNat ++ [p] := by
  rw [stepL, if_pos (at1_mem.2 h)]; rfl
theorem stepL_room {f : Int} {i : Nat} {l : List Int} {p : Int} (h : p ∉ l) (hf : ¬ f ≤ l.length) : stepL true (fun _ _ => 0) f i l p = l ++ [p] := by
  rw [stepL, if_neg fun e => h (at1_mem.1 e), if_neg hf]
theorem stepL_full {f : Int} {i : Nat} {l : List Int} {p : Int} (h : p ∉ l) (hf : f ≤ l.length) : stepL true (fun _ _ => 0) f i l p = wo l 0 ++ [p] := by
  rw [stepL, if_neg fun e => h (at1_mem.1 e), if_pos hf]
theorem lru_inv {X : List Int} {f : Nat} (hf : 1 ≤ f) : ∀ i, runN true (fun _ _ => 0) (f + 1 : Nat) X i ≤ runN true (fun _ _ => 0) f X i ∧
    (runL true (fun _ _ => 0) (f + 1 : Nat) X i = runL true (fun _ _ => 0) f X i ∨ ∃ x, runL true (fun _ _ => 0) (f + 1 : Nat) X i = x :: runL true (fun _ _ => 0) f X i ∧ x ∉ runL true (fun _ _ => 0) f X i ∧ (runL true (fun _ _ => 0) f X i).length = f)
  | 0 => ⟨Nat.le_refl _, .inl rfl⟩
  | i + 1 => by
    obtain ⟨ih1, ih2⟩ := lru_inv (X := X) hf i
    have hl := runL_len (rc := true) (vic := fun _ _ => 0) (f := f) (X := X) (by omega) (fun l i h => h) i
    have hn := run_nodup (rc := true) (vic := fun _ _ => 0) (X := X) (f := f) (by omega) (fun l i h => h) i
    obtain ⟨L, hL⟩ : ∃ L, L = runL true (fun _ _ => 0) f X i := ⟨_, rfl⟩
    obtain ⟨S, hS⟩ : ∃ S, S = runL true (fun _ _ => 0) (f + 1 : Nat) X i := ⟨_, rfl⟩
    obtain ⟨p, hp⟩ : ∃ p, p = X.getD i default := ⟨_, rfl⟩
    have e1 : ∀ g, runL true (fun _ _ => 0) g X (i + 1) = stepL true (fun _ _ => 0) g i (runL true (fun _ _ => 0) g X i) p := fun g => by rw [hp]; rfl
    have e2 : ∀ g, p ∈ runL true (fun _ _ => 0) g X i → runN true (fun _ _ => 0) g X (i + 1) = runN true (fun _ _ => 0) g X i := fun g h => runN_hit (at1_mem.2 (hp ▸ h))
    have e3 : ∀ g, p ∉ runL true (fun _ _ => 0) g X i → runN true (fun _ _ => 0) g X (i + 1) = runN true (fun _ _ => 0) g X i + 1 := fun g h => runN_miss fun e => h (hp ▸ at1_mem.1 e)
    have f2 := e2 (f + 1 : Nat)
    have f3 := e3 (f + 1 : Nat)
    have g2 := e2 f
    have g3 := e3 f
    rw [e1, e1]
    rw [← hL] at hl hn ih2 g2 g3 ⊢
    rw [← hS] at ih2 f2 f3 ⊢
    by_cases hm : p ∈ L
    · rw [g2 hm]
      rcases ih2 with rfl | ⟨x, rfl, hx, hlf⟩
      · rw [f2 hm, stepL_hit hm, stepL_hit hm]
        exact ⟨ih1, .inl rfl⟩
      · have hmS : p ∈ x :: L := List.mem_cons_of_mem _ hm
        obtain ⟨k, hk, hkl, hkp⟩ := at1_get hm
        have hxp : ¬ x = p := fun e => hx (e ▸ hm)
        have hk2 : at1 (x :: L) p = (k + 1 : Nat) := by
          unfold at1
          rw [idx_cons (by simpa using hxp), if_pos (by unfold at1 at hk; omega)]
          unfold at1 at hk
          omega
        rw [f2 hmS, stepL_hit hm, stepL_hit hmS, hk, hk2, Int.toNat_natCast, Int.toNat_natCast, wo_succ]
        refine ⟨ih1, .inr ⟨x, rfl, ?_, ?_⟩⟩
        · rw [List.mem_append, List.mem_singleton, not_or]
          exact ⟨fun h => hx (by
            rcases List.mem_append.1 h with h | h
            · exact List.mem_of_mem_take h
            · exact List.mem_of_mem_drop h), hxp⟩
        · rw [List.length_append, wo_len hkl]; simp; omega
    · rw [g3 hm]
      rcases ih2 with rfl | ⟨x, rfl, hx, hlf⟩
      · rw [f3 hm]
        by_cases hfl : (f : Int) ≤ S.length
        · rw [stepL_full hm hfl, stepL_room hm (by omega)]
          match S, hfl, hn, hl with
          | [], h, _, _ => simp at h; omega
          | y :: T, h, hn, hl =>
            rw [wo_zero]
            refine ⟨by omega, .inr ⟨y, rfl, ?_, ?_⟩⟩
            · rw [List.mem_append, List.mem_singleton, not_or]
              refine ⟨fun h => ?_, fun h => hm (h ▸ List.mem_cons_self)⟩
              have hc := hn y
              rw [List.count_cons_self] at hc
              have := List.count_pos_iff.2 h
              omega
            · simp at h hl ⊢; omega
        · rw [stepL_room hm hfl, stepL_room hm (by omega)]
          exact ⟨by omega, .inl rfl⟩
      · rw [stepL_full hm (by omega)]
        match L, hlf, hx, hm, hn with
        | [], h, _, _, _ => simp at h; omega
        | y :: T, h, hx, hm, hn =>
          have hnew : y ∉ T ++ [p] := by
            rw [List.mem_append, List.mem_singleton, not_or]
            refine ⟨fun h => ?_, fun h => hm (h ▸ List.mem_cons_self)⟩
            have hc := hn y
            rw [List.count_cons_self] at hc
            have := List.count_pos_iff.2 h
            omega
          have hlen : (T ++ [p]).length = f := by simp at h ⊢; omega
          rw [wo_zero]
          by_cases hxp : p = x
          · subst hxp
            have hk : at1 (p :: y :: T) p = (0 : Nat) := by
              unfold at1 idx
              rw [List.findIdx?_cons]
              simp
            rw [f2 List.mem_cons_self, stepL_hit List.mem_cons_self, hk, Int.toNat_natCast, wo_zero]
            exact ⟨by omega, .inr ⟨y, rfl, hnew, hlen⟩⟩
          · have hm2 : p ∉ x :: y :: T := fun h => by
              rcases List.mem_cons.1 h with h | h
              · exact hxp h
              · exact hm h
            rw [f3 hm2, stepL_full hm2 (by simp at h ⊢; omega), wo_zero]
            exact ⟨by omega, .inr ⟨y, rfl, hnew, hlen⟩⟩
/-! how many pages there are -/
def kn (X : List Int) (m : Nat) : Nat := (List.range m).countP fun (q : Nat) => decide ((q : Int) ∈ X)
theorem kn_succ (X : List Int) (m : Nat) : kn X (m + 1) = kn X m + if ((m : Int) ∈ X) then 1 else 0 := by
  unfold kn
  rw [List.range_succ, List.countP_append, List.countP_cons, List.countP_nil]
  simp
theorem kn_snoc (Y : List Int) (p : Int) : ∀ m, kn Y m ≤ kn (Y ++ [p]) m ∧ kn (Y ++ [p]) m ≤ kn Y m + (if p ∈ Y then 0 else 1) ∧ ((0 ≤ p ∧ p < m) → p ∉ Y → kn (Y ++ [p]) m = kn Y m + 1) ∧ (((m : Int) ≤ p ∨ p < 0) → kn (Y ++ [p]) m = kn Y m)
  | 0 => ⟨Nat.le_refl _, Nat.zero_le _, fun h => by omega, fun _ => rfl⟩
  | m + 1 => by
    obtain ⟨h1, h2, h3, h4⟩ := kn_snoc Y p m
    rw [kn_succ, kn_succ]
    by_cases e : p = (m : Int)
    · have h4 := h4 (.inl (by omega))
      subst e
      by_cases hy : (m : Int) ∈ Y
      · rw [if_pos hy] at h2
        rw [if_pos hy, if_pos hy, if_pos (List.mem_append_left _ hy)]
        exact ⟨by omega, by omega, fun _ h => absurd hy h, fun h => by omega⟩
      · rw [if_neg hy, if_neg hy, if_pos (List.mem_append_right _ (by simp))]
        exact ⟨by omega, by omega, fun _ _ => by omega, fun h => by omega⟩
    · have hi : ((m : Int) ∈ Y ++ [p]) ↔ (m : Int) ∈ Y := by
        rw [List.mem_append, List.mem_singleton]
        exact ⟨fun h => h.resolve_right fun h => e h.symm, .inl⟩
      simp only [hi]
      refine ⟨by omega, by omega, fun h hy => ?_, fun h => ?_⟩
      · rw [h3 (by omega) hy]; omega
      · rw [h4 (by omega)]
theorem kn_mono (Y Z : List Int) (m : Nat) : kn Y m ≤ kn (Y ++ Z) m := by
  unfold kn
  refine List.countP_mono_left fun q _ h => ?_
  simp only [decide_eq_true_eq] at h ⊢
  exact List.mem_append_left _ h
theorem take_snoc {X : List Int} {i : Nat} (h : i < X.length) : X.take (i + 1) = X.take i ++ [X.getD i default] := by
  rw [getD_of_lt h, List.take_append_getElem]
theorem mem_take_of {rc : Bool} {vic : List Int → Nat → Nat} {f : Int} {X : List Int} (hf : 1 ≤ f) (hv : ∀ l i, 1 ≤ l.length → vic l i < l.length) : ∀ i, i ≤ X.length → ∀ q ∈ runL rc vic f X i, q ∈ X.take i
  | 0, _, q, h => by simp [runL] at h
  | i + 1, hi, q, h => by
    have ih := mem_take_of (rc := rc) (X := X) hf hv i (by omega)
    rw [take_snoc hi]
    rcases run_step (rc := rc) (vic := vic) (f := f) (X := X) i with ⟨h1, _, _, h3⟩ | ⟨hm, _, h3⟩
    · have := h3 (fun x => x == q)
      have h4 : 0 < (runL rc vic f X (i + 1)).count q := List.count_pos_iff.2 h
      rw [List.count, this] at h4
      exact List.mem_append_left _ (ih q (List.count_pos_iff.1 h4))
    · rcases h3 with ⟨_, h3⟩ | ⟨hfl, h3⟩
      · rw [h3] at h
        rcases List.mem_append.1 h with h | h
        · exact List.mem_append_left _ (ih q h)
        · exact List.mem_append_right _ h
      · rw [h3] at h
        rcases List.mem_append.1 h with h | h
        · refine List.mem_append_left _ (ih q ?_)
          rcases List.mem_append.1 h with h | h
          · exact List.mem_of_mem_take h
          · exact List.mem_of_mem_drop h
        · exact List.mem_append_right _ h
theorem kinds_le {rc : Bool} {vic : List Int → Nat → Nat} {f : Int} {X : List Int} (hf : 1 ≤ f) (hv : ∀ l i, 1 ≤ l.length → vic l i < l.length) : ∀ i, i ≤ X.length → kn (X.take i) 100 ≤ runN rc vic f X i
  | 0, _ => by simp [kn]
  | i + 1, hi => by
    have ih := kinds_le (rc := rc) (X := X) hf hv i (by omega)
    rw [take_snoc hi]
    have hk := (kn_snoc (X.take i) (X.getD i default) 100).2.1
    rcases run_step (rc := rc) (vic := vic) (f := f) (X := X) i with ⟨h1, h2, _, _⟩ | ⟨hm, h2, _⟩
    · rw [if_pos (mem_take_of hf hv i (by omega) _ h1)] at hk
      omega
    · rw [h2]
      split at hk <;> omega
theorem kinds_eq {rc : Bool} {vic : List Int → Nat → Nat} {f : Nat} {X : List Int} (hX : ∀ i, i < X.length → 0 ≤ X.getD i default ∧ X.getD i default ≤ 99) (hf : kn X 100 ≤ f) : ∀ i, i ≤ X.length →
    runN rc vic f X i = kn (X.take i) 100 ∧ (runL rc vic f X i).length = kn (X.take i) 100 ∧ ∀ q, q ∈ runL rc vic f X i ↔ q ∈ X.take i
  | 0, _ => by simp [kn, runN, runL]
  | i + 1, hi => by
    obtain ⟨h1, h2, h3⟩ := kinds_eq (rc := rc) (vic := vic) hX hf i (by omega)
    have hb := hX i hi
    obtain ⟨k1, k2, k3, _⟩ := kn_snoc (X.take i) (X.getD i default) 100
    have hle : kn (X.take (i + 1)) 100 ≤ kn X 100 := by
      have := kn_mono (X.take (i + 1)) (X.drop (i + 1)) 100
      rwa [List.take_append_drop] at this
    rw [take_snoc hi] at hle ⊢
    rcases run_step (rc := rc) (vic := vic) (f := f) (X := X) i with ⟨s1, s2, s3, s4⟩ | ⟨hm, s2, s3⟩
    · have hmt := (h3 _).1 s1
      rw [if_pos hmt] at k2
      refine ⟨by omega, by omega, fun q => ?_⟩
      have : (runL rc vic f X (i + 1)).count q = (runL rc vic f X i).count q := s4 _
      rw [← List.count_pos_iff, this, List.count_pos_iff, h3, List.mem_append, List.mem_singleton]
      exact ⟨.inl, fun h => h.elim id fun e => e ▸ hmt⟩
    · have hmt : X.getD i default ∉ X.take i := fun h => hm ((h3 _).2 h)
      have k3 := k3 (by omega) hmt
      rcases s3 with ⟨_, s3⟩ | ⟨hfl, _⟩
      · rw [s3]
        refine ⟨by omega, by rw [List.length_append, List.length_cons, List.length_nil]; omega, fun q => ?_⟩
        rw [List.mem_append, List.mem_append, h3]
      · omega
end Go.Eng.T
