/- cow: what is done to a right Cow leaves a right one; what is read. -/
import Derived.Test.YtjdppjomhkbljaaFn22
set_option linter.unusedVariables false
set_option linter.unusedSimpArgs false
set_option linter.unusedSectionVars false
namespace Go.Eng
theorem get_ge {β : Type} {L : List β} {i : Nat} {d : β} (h : L.length ≤ i) : L.getD i d = d := by
  rw [List.getD_eq_getElem?_getD, List.getElem?_eq_none h]; rfl
theorem gset2 {β : Type} {L : List β} {i j : Nat} {x d : β} (hi : i < L.length) : (L.set i x).getD j d = if i = j then x else L.getD j d := by
  by_cases e : i = j
  · subst e; rw [if_pos rfl, getD_set_self hi]
  · rw [if_neg e, getD_set_ne e]
/-- how often a frame is named -/
def cn (Z : List (List Int)) (i : Int) : Nat := Z.flatten.count i
theorem cn_set {Z : List (List Int)} {b : Nat} {Y : List Int} (hb : b < Z.length) (i : Int) : cn (Z.set b Y) i + (Z.getD b default).count i = cn Z i + Y.count i := by
  unfold cn
  have h := congrArg (List.count i) (get_flat hb)
  rw [set_flat hb]
  simp only [List.count_append] at h ⊢
  omega
theorem cn_ge {Z : List (List Int)} {b : Nat} (hb : b < Z.length) (i : Int) : (Z.getD b default).count i ≤ cn Z i := by
  have h := congrArg (List.count i) (get_flat hb)
  unfold cn
  simp only [List.count_append] at h
  omega
theorem cn_two {Z : List (List Int)} {a b : Nat} (ha : a < Z.length) (hb : b < Z.length) (hne : a ≠ b) (i : Int) : (Z.getD a default).count i + (Z.getD b default).count i ≤ cn Z i := by
  have h1 := cn_set (Y := []) ha i
  have h2 := cn_ge (Z := Z.set a []) (b := b) (by simpa using hb) i
  rw [getD_set_ne hne] at h2
  simp only [List.count_nil] at h1
  omega
theorem ct_set {L : List Int} {j : Nat} {g : Int} (hj : j < L.length) (i : Int) : (L.set j g).count i + (if L.getD j default = i then 1 else 0) = L.count i + if g = i then 1 else 0 := by
  have e : L.take j ++ L.getD j default :: L.drop (j + 1) = L := by
    rw [getD_of_lt hj, ← List.drop_eq_getElem_cons hj, List.take_append_drop]
  have h := congrArg (List.count i) e
  rw [List.set_eq_take_append_cons_drop, if_pos hj]
  simp only [List.count_append, List.count_cons, beq_iff_eq] at h ⊢
  omega
theorem ct_two {L : List Int} {i j : Nat} {x : Int} (hi : i < L.length) (hj : j < L.length) (hne : i ≠ j) (h1 : L.getD i default = x) (h2 : L.getD j default = x) : 2 ≤ L.count x := by
  have h := ct_set (g := x + 1) hi x
  rw [if_pos h1, if_neg (by omega)] at h
  have hm : x ∈ L.set i (x + 1) := by
    have hj' : j < (L.set i (x + 1)).length := by simpa using hj
    have := getD_mem hj'
    rw [getD_set_ne hne] at this
    exact h2 ▸ this
  have := List.count_pos_iff.2 hm
  omega
theorem ct_one {L : List Int} {i : Nat} {x : Int} (hi : i < L.length) (h1 : L.getD i default = x) : 1 ≤ L.count x := List.count_pos_iff.2 (h1 ▸ getD_mem hi)
theorem refs_ext {R : List Int} {Z : List (List Int)} (hl : R.length = 12) (h : ∀ i, i < 12 → R.getD i default = ((cn Z (i : Int) : Nat) : Int)) : R = refs Z.flatten := by
  refine List.ext_getElem (by rw [hl, refs_length]) fun i hi hi' => ?_
  have := h i (by omega)
  rw [getD_of_lt hi] at this
  rw [this]
  simp [refs, cn]
theorem cow_ref {X : List (List Int)} {R : List Int} {Z : List (List Int)} (h : cowOk X R Z) {i : Nat} (hi : i < 12) : R.getD i default = ((cn Z (i : Int) : Nat) : Int) := by
  rw [h.2.2.2, refs_get _ hi]; rfl
theorem fr0_hit {R : List Int} (h : 0 ≤ fr0 R) : (fr0 R).toNat < R.length ∧ R.getD (fr0 R).toNat default = 0 := by
  obtain ⟨i, e, h1, h2, _⟩ := idx_nonneg h
  rw [show fr0 R = (i : Int) from e]
  exact ⟨by simpa using h1, by simpa using h2⟩
theorem sp_set {Z : List (List Int)} {b : Nat} {Y : List Int} (hl : Z.length = 4) (h : ∀ k, k < 4 → spOk (Z.getD k default)) (hb : b < 4) (hY : spOk Y) : ∀ k, k < 4 → spOk ((Z.set b Y).getD k default) := fun k hk => by
  rw [gset2 (by omega)]
  split
  · exact hY
  · exact h k hk
theorem grow_ok {X : List (List Int)} {R : List Int} {Z : List (List Int)} (h : cowOk X R Z) (s : Int) : cowOk (growO X R Z s).1.1 (growO X R Z s).1.2.1 (growO X R Z s).1.2.2 := by
  unfold growO
  rw [if_pos h]
  split
  · rename_i hc
    obtain ⟨hs, hlen, hf⟩ := hc
    obtain ⟨f1, f2⟩ := fr0_hit hf
    obtain ⟨⟨l1, l2, l3⟩, k1, k2, k3⟩ := id h
    have hf12 : (fr0 R).toNat < 12 := by omega
    have hcf := cow_ref h hf12
    rw [f2, Int.toNat_of_nonneg hf] at hcf
    refine ⟨⟨l1, by simpa using l2, by simpa using l3⟩, sp_set l3 k1 (by omega) ⟨by rw [List.length_append, List.length_singleton]; omega, fun f hfm => ?_⟩, fun k hk => ?_, refs_ext (by simpa using l2) fun i hi => ?_⟩
    · rcases List.mem_append.1 hfm with hfm | hfm
      · exact (k1 _ (by omega)).2 f hfm
      · rw [List.mem_singleton.1 hfm]; omega
    · dsimp only
      rw [gset2 (by omega)]
      obtain ⟨a1, a2, a3⟩ := k2 k hk
      split
      · exact ⟨a1, a2, fun h => by omega⟩
      · exact ⟨a1, a2, a3⟩
    · have hs' := cn_set (Z := Z) (b := s.toNat) (Y := Z.getD s.toNat default ++ [fr0 R]) (by omega) i
      have hr := cow_ref h hi
      rw [List.count_append, List.count_singleton] at hs'
      dsimp only
      rw [gset2 (by omega), hr]
      by_cases e : (fr0 R).toNat = i
      · have e2 : fr0 R = (i : Int) := by omega
        rw [if_pos e]
        rw [e2] at hcf
        simp only [e2, beq_self_eq_true, if_true] at hs'
        rw [e2]
        omega
      · have e2 : (fr0 R == (i : Int)) = false := by simp; omega
        rw [if_neg e]
        simp only [e2] at hs'
        simp only [Bool.false_eq_true, if_false] at hs'
        omega
  · exact h
theorem fork_ok {X : List (List Int)} {R : List Int} {Z : List (List Int)} (h : cowOk X R Z) (a b : Int) : cowOk (forkO X R Z a b).1.1 (forkO X R Z a b).1.2.1 (forkO X R Z a b).1.2.2 := by
  unfold forkO
  rw [if_pos h]
  split
  · rename_i hc
    obtain ⟨ha, hb, hl, h0⟩ := hc
    obtain ⟨⟨l1, l2, l3⟩, k1, k2, k3⟩ := id h
    refine ⟨⟨l1, refs_length _, by simpa using l3⟩, sp_set l3 k1 (by omega) (k1 _ (by omega)), fun k hk => ?_, rfl⟩
    obtain ⟨a1, a2, a3⟩ := k2 k hk
    refine ⟨a1, a2, fun h' => a3 ?_⟩
    have hs' := cn_set (Z := Z) (b := b.toNat) (Y := Z.getD a.toNat default) (by omega) (k : Int)
    rw [List.eq_nil_of_length_eq_zero h0] at hs'
    dsimp only at h'
    rw [refs_get _ hk] at h'
    rw [cow_ref h hk]
    have : cn (Z.set b.toNat (Z.getD a.toNat default)) (k : Int) = 0 := by unfold cn; omega
    simp only [List.count_nil] at hs'
    omega
  · exact h
theorem free_ok {X : List (List Int)} {R : List Int} {Z : List (List Int)} (h : cowOk X R Z) (s : Int) : cowOk (freeO X R Z s).1.1 (freeO X R Z s).1.2.1 (freeO X R Z s).1.2.2 := by
  unfold freeO
  rw [if_pos h]
  split
  · rename_i hc
    obtain ⟨hs, hl⟩ := hc
    obtain ⟨⟨l1, l2, l3⟩, k1, k2, k3⟩ := id h
    refine ⟨⟨clr_len _ _, refs_length _, by simpa using l3⟩, sp_set l3 k1 (by omega) sp_nil, fun k hk => ?_, rfl⟩
    dsimp only
    have e : (clr (refs (Z.set s.toNat []).flatten) X).getD k default = if (refs (Z.set s.toNat []).flatten).getD k default = 0 then zr4 else X.getD k default := by
      rw [getD_of_lt (by rw [clr_len]; exact hk)]
      simp only [clr, List.getElem_map, List.getElem_range]
    rw [e]
    obtain ⟨a1, a2, a3⟩ := k2 k hk
    split
    · refine ⟨rfl, fun x hx => ?_, fun _ x hx => ?_⟩ <;> (have := List.eq_of_mem_replicate hx; omega)
    · rename_i hn
      exact ⟨a1, a2, fun h => absurd h hn⟩
  · exact h
theorem set_word {w : List Int} {k : Nat} {v : Int} (hl : w.length = 4) (h : ∀ x ∈ w, -1000000 ≤ x ∧ x ≤ 1000000) (hv : -1000000 ≤ v ∧ v ≤ 1000000) : (w.set k v).length = 4 ∧ ∀ x ∈ w.set k v, -1000000 ≤ x ∧ x ≤ 1000000 := by
  refine ⟨by simpa using hl, fun x hx => ?_⟩
  rcases List.mem_or_eq_of_mem_set hx with hx | rfl
  · exact h x hx
  · exact hv
theorem write_ok {X : List (List Int)} {R : List Int} {Z : List (List Int)} (h : cowOk X R Z) (s ad w : Int) : cowOk (writeO X R Z s ad w).1.1 (writeO X R Z s ad w).1.2.1 (writeO X R Z s ad w).1.2.2 := by
  unfold writeO
  rw [if_pos h]
  split
  · rename_i hc
    obtain ⟨hi, hw⟩ := hc
    obtain ⟨f0, f1, f2, f3, f4⟩ := frame_ok h hi
    obtain ⟨r1, r2⟩ := ref_pos h hi
    obtain ⟨⟨l1, l2, l3⟩, k1, k2, k3⟩ := id h
    have hf12 : (frameOf Z s ad).toNat < 12 := by omega
    obtain ⟨b1, b2, b3⟩ := k2 _ hf12
    obtain ⟨c1, c2⟩ := set_word (k := ad.toNat % 4) b1 b2 hw
    split
    · rename_i hr
      split
      · rename_i hg
        obtain ⟨g1, g2⟩ := fr0_hit hg
        have hg12 : (fr0 R).toNat < 12 := by omega
        have hne : (frameOf Z s ad).toNat ≠ (fr0 R).toNat := by
          intro e; rw [e, g2] at hr; omega
        have hsp := k1 s.toNat (by omega)
        refine ⟨⟨by simpa using l1, by simpa using l2, by simpa using l3⟩, sp_set l3 k1 (by omega) ⟨by simpa using hsp.1, fun x hx => ?_⟩, fun k hk => ?_, refs_ext (by simpa using l2) fun i hi' => ?_⟩
        · rcases List.mem_or_eq_of_mem_set hx with hx | rfl
          · exact hsp.2 x hx
          · omega
        · dsimp only
          rw [gset2 (by omega), gset2 (by rw [List.length_set]; omega), gset2 (by omega)]
          obtain ⟨a1, a2, a3⟩ := k2 k hk
          split
          · exact ⟨c1, c2, fun h => by omega⟩
          · split
            · exact ⟨a1, a2, fun h => by omega⟩
            · exact ⟨a1, a2, a3⟩
        · have hs' := cn_set (Z := Z) (b := s.toNat) (Y := (Z.getD s.toNat default).set (ad.toNat / 4) (fr0 R)) f2 i
          have hct := ct_set (g := fr0 R) f3 (i : Int)
          have hr1 := cow_ref h hi'
          have hr2 := cow_ref h hf12
          have hr3 := cow_ref h hg12
          rw [Int.toNat_of_nonneg f0] at hr2
          rw [Int.toNat_of_nonneg hg, g2] at hr3
          have hfe : (Z.getD s.toNat default).getD (ad.toNat / 4) default = frameOf Z s ad := rfl
          rw [hfe] at hct
          dsimp only
          rw [gset2 (by rw [List.length_set]; omega), gset2 (by omega), hr1]
          by_cases e1 : (fr0 R).toNat = i
          · have e2 : fr0 R = (i : Int) := by omega
            have e3 : ¬ frameOf Z s ad = (i : Int) := by omega
            rw [if_pos e1]
            rw [if_neg e3, if_pos e2] at hct
            rw [e2] at hr3
            omega
          · have e2 : ¬ fr0 R = (i : Int) := by omega
            rw [if_neg e1]
            rw [if_neg e2] at hct
            by_cases e3 : (frameOf Z s ad).toNat = i
            · have e4 : frameOf Z s ad = (i : Int) := by omega
              rw [if_pos e3]
              rw [if_pos e4] at hct
              rw [e4] at hr2
              rw [e3]
              omega
            · have e4 : ¬ frameOf Z s ad = (i : Int) := by omega
              rw [if_neg e3]
              rw [if_neg e4] at hct
              omega
      · exact h
    · refine ⟨⟨by simpa using l1, l2, l3⟩, k1, fun k hk => ?_, k3⟩
      dsimp only
      rw [gset2 (by omega)]
      obtain ⟨a1, a2, a3⟩ := k2 k hk
      split
      · rename_i e; rw [← e]; exact ⟨c1, c2, fun h => by omega⟩
      · exact ⟨a1, a2, a3⟩
  · exact h
theorem write_read {X : List (List Int)} {R : List Int} {Z : List (List Int)} (h : cowOk X R Z) {s ad w : Int} (hs : (writeO X R Z s ad w).2 = true) : readO (writeO X R Z s ad w).1.1 (writeO X R Z s ad w).1.2.1 (writeO X R Z s ad w).1.2.2 s ad = (w, true) := by
  have hok := write_ok h s ad w
  unfold readO
  unfold writeO at hs hok ⊢
  rw [if_pos h] at hs hok ⊢
  split at hs
  · rename_i hc
    rw [if_pos hc] at hok ⊢
    obtain ⟨hi, hw⟩ := hc
    obtain ⟨f0, f1, f2, f3, f4⟩ := frame_ok h hi
    obtain ⟨⟨l1, l2, l3⟩, k1, k2, k3⟩ := id h
    split at hs
    · rename_i hr
      rw [if_pos hr] at hok ⊢
      split at hs
      · rename_i hg
        obtain ⟨g1, g2⟩ := fr0_hit hg
        rw [if_pos hg] at hok ⊢
        have hin : inR (Z.set s.toNat ((Z.getD s.toNat default).set (ad.toNat / 4) (fr0 R))) s ad := by
          refine ⟨hi.1, hi.2.1, ?_⟩
          rw [gset2 f2, if_pos rfl, List.length_set]; exact hi.2.2
        have hfr : frameOf (Z.set s.toNat ((Z.getD s.toNat default).set (ad.toNat / 4) (fr0 R))) s ad = fr0 R := by
          unfold frameOf
          rw [gset2 f2, if_pos rfl, gset2 f3, if_pos rfl]
        rw [if_pos ⟨hok, hin⟩]
        dsimp only
        rw [hfr, gset2 (by omega), if_pos rfl, gset2 (by omega), if_pos rfl]
      · cases hs
    · rename_i hr
      rw [if_neg hr] at hok ⊢
      rw [if_pos ⟨hok, hi⟩]
      dsimp only
      rw [gset2 (by omega), if_pos rfl, gset2 (by omega), if_pos rfl]
  · cases hs
theorem write_no {X : List (List Int)} {R : List Int} {Z : List (List Int)} (h : cowOk X R Z) {s ad w : Int} (hs : (writeO X R Z s ad w).2 = false) : (writeO X R Z s ad w).1 = (X, R, Z) := by
  unfold writeO at hs ⊢
  rw [if_pos h] at hs ⊢
  split at hs
  · rename_i hc
    rw [if_pos hc]
    split at hs
    · rename_i hr
      rw [if_pos hr]
      split at hs
      · cases hs
      · rename_i hg; rw [if_neg hg]
    · cases hs
  · rename_i hc; rw [if_neg hc]
theorem used_set {R : List Int} {f : Nat} (hf : f < R.length) (h0 : R.getD f default = 0) : (R.set f 1).countP (fun r => decide (0 < r)) = R.countP (fun r => decide (0 < r)) + 1 := by
  have e : R.take f ++ R.getD f default :: R.drop (f + 1) = R := by
    rw [getD_of_lt hf, ← List.drop_eq_getElem_cons hf, List.take_append_drop]
  have h := congrArg (List.countP fun r => decide (0 < r)) e
  rw [List.set_eq_take_append_cons_drop, if_pos hf]
  simp only [List.countP_append, List.countP_cons, h0] at h ⊢
  simp at h ⊢
  omega
theorem grow_used {X : List (List Int)} {R : List Int} {Z : List (List Int)} (h : cowOk X R Z) (s : Int) : usedO (growO X R Z s).1.1 (growO X R Z s).1.2.1 (growO X R Z s).1.2.2 = usedO X R Z + if (growO X R Z s).2 = true then 1 else 0 := by
  have hok := grow_ok h s
  unfold usedO
  rw [if_pos hok, if_pos h]
  unfold growO at hok ⊢
  rw [if_pos h] at hok ⊢
  split
  · rename_i hc
    obtain ⟨hs, hlen, hf⟩ := hc
    obtain ⟨f1, f2⟩ := fr0_hit hf
    dsimp only
    rw [used_set f1 f2, if_pos rfl]
    omega
  · simp
end Go.Eng
