/- cow: spaces of their own, in plain terms. -/
import Derived.Test.YtjdppjomhkbljaaFn28
set_option linter.unusedVariables false
set_option linter.unusedSimpArgs false
set_option linter.unusedSectionVars false
namespace Go.Eng
/-- W is what the spaces read as -/
def relW (X : List (List Int)) (Z : List (List Int)) (W : List (List Int)) : Prop := W.length = 4 ∧ ∀ t, t < 4 → (W.getD t default).length = 4 * (Z.getD t default).length ∧
  ∀ k, k < (W.getD t default).length → (W.getD t default).getD k default = (X.getD ((Z.getD t default).getD (k / 4) default).toNat default).getD (k % 4) default
theorem rel_read {X : List (List Int)} {R : List Int} {Z W : List (List Int)} (hok : cowOk X R Z) (h : relW X Z W) {t k : Nat} (ht : t < 4) :
    readO X R Z (t : Int) (k : Int) = if k < (W.getD t default).length then ((W.getD t default).getD k default, true) else (0, false) := by
  obtain ⟨h1, h2⟩ := h.2 t ht
  unfold readO
  by_cases hk : k < (W.getD t default).length
  · have hi : inR Z (t : Int) (k : Int) := ⟨by omega, by omega, by rw [Int.toNat_natCast]; omega⟩
    rw [if_pos ⟨hok, hi⟩, if_pos hk, h2 k hk]
    unfold frameOf
    rw [Int.toNat_natCast, Int.toNat_natCast]
  · have hi : ¬ inR Z (t : Int) (k : Int) := fun hi => by
      have := hi.2.2
      rw [Int.toNat_natCast] at this
      omega
    rw [if_neg fun hh => hi hh.2, if_neg hk]
theorem zeros_of {X : List (List Int)} {R : List Int} {Z : List (List Int)} (hok : cowOk X R Z) {f : Nat} (hf : f < 12) (h0 : R.getD f default = 0) {j : Nat} (hj : j < 4) : (X.getD f default).getD j default = 0 := by
  obtain ⟨a1, a2, a3⟩ := hok.2.2.1 f hf
  exact a3 h0 _ (getD_mem (by omega))
theorem grow_no {X : List (List Int)} {R : List Int} {Z : List (List Int)} (h : cowOk X R Z) {s : Int} (hs : (growO X R Z s).2 = false) : (growO X R Z s).1 = (X, R, Z) := by
  unfold growO at hs ⊢
  rw [if_pos h] at hs ⊢
  split at hs
  · cases hs
  · rename_i hc; rw [if_neg hc]
theorem fork_no {X : List (List Int)} {R : List Int} {Z : List (List Int)} (h : cowOk X R Z) {a b : Int} (hs : (forkO X R Z a b).2 = false) : (forkO X R Z a b).1 = (X, R, Z) := by
  unfold forkO at hs ⊢
  rw [if_pos h] at hs ⊢
  split at hs
  · cases hs
  · rename_i hc; rw [if_neg hc]
theorem free_no {X : List (List Int)} {R : List Int} {Z : List (List Int)} (h : cowOk X R Z) {s : Int} (hs : (freeO X R Z s).2 = false) : (freeO X R Z s).1 = (X, R, Z) := by
  unfold freeO at hs ⊢
  rw [if_pos h] at hs ⊢
  split at hs
  · cases hs
  · rename_i hc; rw [if_neg hc]
theorem get_app_left {β : Type} {A B : List β} {i : Nat} {d : β} (h : i < A.length) : (A ++ B).getD i d = A.getD i d := by
  rw [List.getD_eq_getElem?_getD, List.getD_eq_getElem?_getD, List.getElem?_append_left h]
theorem get_app_right {β : Type} {A B : List β} {i : Nat} {d : β} (h : A.length ≤ i) : (A ++ B).getD i d = B.getD (i - A.length) d := by
  rw [List.getD_eq_getElem?_getD, List.getD_eq_getElem?_getD, List.getElem?_append_right h]
theorem rel_grow {X : List (List Int)} {R : List Int} {Z W : List (List Int)} (hok : cowOk X R Z) (h : relW X Z W) {s : Int} (hs : (growO X R Z s).2 = true) :
    relW (growO X R Z s).1.1 (growO X R Z s).1.2.2 (W.set s.toNat (W.getD s.toNat default ++ [0, 0, 0, 0])) := by
  unfold growO at hs ⊢
  rw [if_pos hok] at hs ⊢
  split at hs
  · rename_i hc
    rw [if_pos hc]
    obtain ⟨⟨hs0, hs3⟩, hlen, hf⟩ := hc
    obtain ⟨f1, f2⟩ := fr0_hit hf
    obtain ⟨⟨l1, l2, l3⟩, k1, k2, k3⟩ := id hok
    refine ⟨by rw [List.length_set]; exact h.1, fun t ht => ?_⟩
    obtain ⟨h1, h2⟩ := h.2 t ht
    dsimp only
    rw [gset2 (by have := h.1; omega), gset2 (by omega)]
    by_cases e : s.toNat = t
    · subst e
      rw [if_pos rfl, if_pos rfl, List.length_append, List.length_append, h1]
      refine ⟨by simp; omega, fun k hk => ?_⟩
      rcases Nat.lt_or_ge k (W.getD s.toNat default).length with hk1 | hk1
      · rw [get_app_left hk1, h2 k hk1, get_app_left (by omega)]
      · rw [get_app_right hk1, h1, get_app_right (by omega)]
        have hk2 : k < 4 * (Z.getD s.toNat default).length + 4 := by simpa using hk
        have e1 : k / 4 - (Z.getD s.toNat default).length = 0 := by omega
        rw [e1]
        show ([0, 0, 0, 0] : List Int).getD _ default = (X.getD (fr0 R).toNat default).getD (k % 4) default
        rw [zeros_of hok (by omega) f2 (by omega)]
        obtain ⟨j, hj⟩ : ∃ j, j = k - 4 * (Z.getD s.toNat default).length := ⟨_, rfl⟩
        rw [← hj]
        have : j < 4 := by omega
        match j, this with
        | 0, _ => rfl
        | 1, _ => rfl
        | 2, _ => rfl
        | 3, _ => rfl
    · rw [if_neg e, if_neg e]
      exact ⟨h1, h2⟩
  · cases hs
theorem rel_fork {X : List (List Int)} {R : List Int} {Z W : List (List Int)} (hok : cowOk X R Z) (h : relW X Z W) {a b : Int} (hs : (forkO X R Z a b).2 = true) :
    relW (forkO X R Z a b).1.1 (forkO X R Z a b).1.2.2 (W.set b.toNat (W.getD a.toNat default)) := by
  unfold forkO at hs ⊢
  rw [if_pos hok] at hs ⊢
  split at hs
  · rename_i hc
    rw [if_pos hc]
    obtain ⟨⟨ha0, ha3⟩, ⟨hb0, hb3⟩, hl, h0⟩ := hc
    obtain ⟨⟨l1, l2, l3⟩, k1, k2, k3⟩ := id hok
    refine ⟨by rw [List.length_set]; exact h.1, fun t ht => ?_⟩
    obtain ⟨h1, h2⟩ := h.2 t ht
    obtain ⟨g1, g2⟩ := h.2 a.toNat (by omega)
    dsimp only
    rw [gset2 (by have := h.1; omega), gset2 (by omega)]
    by_cases e : b.toNat = t
    · rw [if_pos e, if_pos e]
      exact ⟨g1, g2⟩
    · rw [if_neg e, if_neg e]
      exact ⟨h1, h2⟩
  · cases hs
theorem rel_free {X : List (List Int)} {R : List Int} {Z W : List (List Int)} (hok : cowOk X R Z) (h : relW X Z W) {s : Int} (hs : (freeO X R Z s).2 = true) :
    relW (freeO X R Z s).1.1 (freeO X R Z s).1.2.2 (W.set s.toNat []) := by
  unfold freeO at hs ⊢
  rw [if_pos hok] at hs ⊢
  split at hs
  · rename_i hc
    rw [if_pos hc]
    obtain ⟨⟨hs0, hs3⟩, hl⟩ := hc
    obtain ⟨⟨l1, l2, l3⟩, k1, k2, k3⟩ := id hok
    refine ⟨by rw [List.length_set]; exact h.1, fun t ht => ?_⟩
    obtain ⟨h1, h2⟩ := h.2 t ht
    dsimp only
    rw [gset2 (by have := h.1; omega), gset2 (by omega)]
    by_cases e : s.toNat = t
    · rw [if_pos e, if_pos e]
      exact ⟨rfl, fun k hk => by simp at hk⟩
    · rw [if_neg e, if_neg e]
      refine ⟨h1, fun k hk => ?_⟩
      rw [h2 k hk]
      obtain ⟨f, hf⟩ : ∃ f, f = (Z.getD t default).getD (k / 4) default := ⟨_, rfl⟩
      rw [← hf]
      have hkl : k / 4 < (Z.getD t default).length := by omega
      have hfm : f ∈ Z.getD t default := by rw [hf]; exact getD_mem hkl
      obtain ⟨y0, y1⟩ := (k1 t ht).2 f hfm
      have hcl : (clr (refs (Z.set s.toNat []).flatten) X).getD f.toNat default = X.getD f.toNat default := by
        have e1 : (clr (refs (Z.set s.toNat []).flatten) X).getD f.toNat default = if (refs (Z.set s.toNat []).flatten).getD f.toNat default = 0 then zr4 else X.getD f.toNat default := by
          rw [getD_of_lt (by rw [clr_len]; omega)]
          simp only [clr, List.getElem_map, List.getElem_range]
        rw [e1, if_neg]
        rw [refs_get _ (by omega), Int.toNat_of_nonneg y0]
        have hg := cn_ge (Z := Z.set s.toNat []) (b := t) (by rw [List.length_set]; omega) f
        rw [getD_set_ne e] at hg
        have hp := List.count_pos_iff.2 hfm
        unfold cn at hg
        omega
      rw [hcl]
  · cases hs
theorem rel_write {X : List (List Int)} {R : List Int} {Z W : List (List Int)} (hok : cowOk X R Z) (h : relW X Z W) {s ad w : Int} (hs : (writeO X R Z s ad w).2 = true) :
    (s.toNat < 4 ∧ ad.toNat < (W.getD s.toNat default).length ∧ 0 ≤ s ∧ 0 ≤ ad) ∧ relW (writeO X R Z s ad w).1.1 (writeO X R Z s ad w).1.2.2 (W.set s.toNat ((W.getD s.toNat default).set ad.toNat w)) := by
  unfold writeO at hs ⊢
  rw [if_pos hok] at hs ⊢
  split at hs
  · rename_i hc
    rw [if_pos hc]
    obtain ⟨hi, hw⟩ := hc
    obtain ⟨f0, f1, f2, f3, f4⟩ := frame_ok hok hi
    obtain ⟨r1, r2⟩ := ref_pos hok hi
    obtain ⟨⟨l1, l2, l3⟩, k1, k2, k3⟩ := id hok
    obtain ⟨⟨s0, s3⟩, a0, a1⟩ := hi
    obtain ⟨gs1, gs2⟩ := h.2 s.toNat (by omega)
    refine ⟨⟨by omega, by omega, s0, a0⟩, ?_⟩
    obtain ⟨F, hF⟩ : ∃ F, F = frameOf Z s ad := ⟨_, rfl⟩
    have hFe : (Z.getD s.toNat default).getD (ad.toNat / 4) default = F := hF.symm
    rw [← hF] at f0 f1 f4 r1 r2 hs ⊢
    split at hs
    · rename_i hr
      rw [if_pos hr]
      split at hs
      · rename_i hg
        rw [if_pos hg]
        obtain ⟨g1, g2⟩ := fr0_hit hg
        -- a frame that is named is not the free one
        have hnf : ∀ t, t < 4 → ∀ j, j < (Z.getD t default).length → ((Z.getD t default).getD j default).toNat ≠ (fr0 R).toNat := by
          intro t ht j hj e
          obtain ⟨y0, y1⟩ := (k1 t ht).2 _ (getD_mem hj)
          have hcf := cow_ref hok (i := (fr0 R).toNat) (by omega)
          have hge := cn_ge (Z := Z) (b := t) (by omega) ((fr0 R).toNat : Int)
          have hp : 0 < (Z.getD t default).count ((fr0 R).toNat : Int) := List.count_pos_iff.2 (by
            have hm := getD_mem hj
            have e2 : (Z.getD t default).getD j default = ((fr0 R).toNat : Int) := by omega
            rw [e2] at hm
            exact hm)
          omega
        refine ⟨by rw [List.length_set]; exact h.1, fun t ht => ?_⟩
        obtain ⟨h1, h2⟩ := h.2 t ht
        dsimp only
        rw [gset2 (by have := h.1; omega), gset2 (by omega)]
        by_cases e : s.toNat = t
        · subst e
          rw [if_pos rfl, if_pos rfl, List.length_set, List.length_set]
          refine ⟨h1, fun k hk => ?_⟩
          rw [gset2 (by omega), gset2 f3]
          by_cases ek : ad.toNat = k
          · subst ek
            rw [if_pos rfl, if_pos rfl, gset2 (by omega), if_pos rfl, gset2 (by omega), if_pos rfl]
          · rw [if_neg ek, h2 k hk]
            by_cases ep : ad.toNat / 4 = k / 4
            · rw [if_pos ep, gset2 (by omega), if_pos rfl, gset2 (by omega), if_neg (by omega), ← ep, hFe]
            · rw [if_neg ep, gset2 (by omega), if_neg fun e2 => hnf s.toNat ht (k / 4) (by omega) e2.symm]
        · rw [if_neg e, if_neg e]
          refine ⟨h1, fun k hk => ?_⟩
          rw [h2 k hk, gset2 (by omega), if_neg fun e2 => hnf t ht (k / 4) (by omega) e2.symm]
      · cases hs
    · rename_i hr
      rw [if_neg hr]
      -- one names it
      have hone : R.getD F.toNat default = 1 := by omega
      have hcF := cow_ref hok (i := F.toNat) (by omega)
      rw [Int.toNat_of_nonneg f0, hone] at hcF
      have hsF : ∀ t, t < 4 → ∀ j, j < (Z.getD t default).length → (t ≠ s.toNat ∨ j ≠ ad.toNat / 4) → ((Z.getD t default).getD j default).toNat ≠ F.toNat := by
        intro t ht j hj hne e
        obtain ⟨y0, y1⟩ := (k1 t ht).2 _ (getD_mem hj)
        have e2 : (Z.getD t default).getD j default = F := by omega
        by_cases et : t = s.toNat
        · subst et
          have := ct_two (x := F) hj f3 (hne.resolve_left fun h => h rfl) e2 hFe
          have hge := cn_ge (Z := Z) (b := s.toNat) f2 F
          omega
        · have h1 := ct_one (x := F) hj e2
          have h2 := ct_one (x := F) f3 hFe
          have := cn_two (Z := Z) (a := t) (b := s.toNat) (by omega) f2 et F
          omega
      refine ⟨by rw [List.length_set]; exact h.1, fun t ht => ?_⟩
      obtain ⟨h1, h2⟩ := h.2 t ht
      dsimp only
      rw [gset2 (by have := h.1; omega)]
      by_cases e : s.toNat = t
      · subst e
        rw [if_pos rfl, List.length_set]
        refine ⟨h1, fun k hk => ?_⟩
        rw [gset2 (by omega)]
        by_cases ek : ad.toNat = k
        · subst ek
          rw [if_pos rfl, hFe, gset2 (by omega), if_pos rfl, gset2 (by omega), if_pos rfl]
        · rw [if_neg ek, h2 k hk]
          by_cases ep : ad.toNat / 4 = k / 4
          · rw [← ep, hFe, gset2 (by omega), if_pos rfl, gset2 (by omega), if_neg (by omega)]
          · rw [gset2 (by omega), if_neg fun e2 => hsF s.toNat ht (k / 4) (by omega) (.inr fun h => ep h.symm) e2.symm]
      · rw [if_neg e]
        refine ⟨h1, fun k hk => ?_⟩
        rw [h2 k hk, gset2 (by omega), if_neg fun e2 => hsF t ht (k / 4) (by omega) (.inl fun h => e h.symm) e2.symm]
  · cases hs
end Go.Eng
