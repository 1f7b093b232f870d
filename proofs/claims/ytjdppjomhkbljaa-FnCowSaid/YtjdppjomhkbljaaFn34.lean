/- cow: the law FnCow. -/
import Derived.Test.YtjdppjomhkbljaaFn33
set_option linter.unusedVariables false
set_option linter.unusedSimpArgs false
set_option linter.unusedSectionVars false
namespace Go.Eng
theorem fork_used {X : List (List Int)} {R : List Int} {Z : List (List Int)} (hok : cowOk X R Z) (a b : Int) : usedO (forkO X R Z a b).1.1 (forkO X R Z a b).1.2.1 (forkO X R Z a b).1.2.2 = usedO X R Z := by
  have hok' := fork_ok hok a b
  unfold usedO
  rw [if_pos hok', if_pos hok]
  unfold forkO
  rw [if_pos hok]
  split
  · rename_i hc
    obtain ⟨⟨ha0, ha3⟩, ⟨hb0, hb3⟩, hl, h0⟩ := hc
    obtain ⟨⟨l1, l2, l3⟩, k1, k2, k3⟩ := id hok
    dsimp only
    congr 1
    rw [k3]
    unfold refs
    rw [List.countP_map, List.countP_map]
    refine List.countP_congr fun i hi => ?_
    have hi12 : i < 12 := List.mem_range.1 hi
    have hs' := cn_set (Z := Z) (b := b.toNat) (Y := Z.getD a.toNat default) (by omega) (i : Int)
    rw [List.eq_nil_of_length_eq_zero h0] at hs'
    have hge := cn_ge (Z := Z) (b := a.toNat) (by omega) (i : Int)
    simp only [List.count_nil] at hs'
    unfold cn at hs' hge
    simp only [Function.comp, decide_eq_true_eq]
    omega
  · rfl
theorem free_gone {X : List (List Int)} {R : List Int} {Z : List (List Int)} (hok : cowOk X R Z) {s : Nat} (hs : s < 4) (hd : ∀ j, j < s → Z.getD j default = []) : ∀ j, j < s + 1 → (freeO X R Z (s : Int)).1.2.2.getD j default = [] := by
  intro j hj
  obtain ⟨⟨l1, l2, l3⟩, _⟩ := id hok
  unfold freeO
  rw [if_pos hok]
  split
  · dsimp only
    rw [Int.toNat_natCast, gset2 (by omega)]
    split
    · rfl
    · exact hd j (by omega)
  · rename_i hc
    dsimp only
    rcases Nat.lt_or_ge j s with h | h
    · exact hd j h
    · obtain rfl : j = s := by omega
      refine List.eq_nil_of_length_eq_zero ?_
      by_cases h0 : (Z.getD j default).length = 0
      · exact h0
      · exact absurd ⟨⟨by omega, by omega⟩, by rw [Int.toNat_natCast]; exact h0⟩ hc
theorem none_used {X : List (List Int)} {R : List Int} {Z : List (List Int)} (hok : cowOk X R Z) (hd : ∀ j, j < 4 → Z.getD j default = []) : usedO X R Z = 0 := by
  obtain ⟨⟨l1, l2, l3⟩, k1, k2, k3⟩ := id hok
  have hz : Z.flatten = [] := by
    rw [List.flatten_eq_nil_iff]
    intro l hl
    obtain ⟨j, hj, rfl⟩ := List.getElem_of_mem hl
    have := hd j (by omega)
    rwa [getD_of_lt hj] at this
  unfold usedO
  rw [if_pos hok, k3, hz, refs_nil]
  rfl
end Go.Eng
namespace Go.Eng.T
open Go.Proofs
open Cel (enc dec)
set_option maxRecDepth 100000
set_option maxHeartbeats 8000000
def c_laws_big : Contract := ⟨34, fun args M => match args with
  | [.c (.sl _ n _)] => .pure True (Eng.B (decide (1048576 < n)))
  | _ => .bad⟩
theorem ok_laws_big : fnP Try.prog c_laws_big.f = true ∧ ∀ args M, (c_laws_big.sp args M).OK Try.prog c_laws_big.f args M := by
  refine ⟨fp_34, fun args M => ?_⟩
  unfold c_laws_big
  dsimp only
  split
  case h_2 => trivial
  rename_i _ n _
  intro _
  refine goIn hf_34 rfl (nt := 6) rfl (rs := [.tmp 2]) rfl (C := []) trivial (q := fun _ => false) okQ_none mixed (O := fun _ => .nil) (by kernel_rfl) ?_
  simp only [↓WP, ↓grdD, ↓grdT, ↓un_dead, ↓binVC, ↓buildVC, ↓sliceVC, WQ, WN, Int.reduceToNat, renl, cll, rent, clt, ↓reduceIte, Nat.reduceLeDiff, Nat.reduceEqDiff, Nat.reduceLT, reduceCtorEq, List.append_nil, Nat.reduceAdd, Nat.reduceSub, Nat.reduceBEq, forall_const, implies_true, cond_true, cond_false, AV.ren, AC.ren, AV.cl, AC.cl, eq_self, List.all_cons, List.all_nil, AV.eqv, AC.eqv, eqvl, eqvt, Sl.eqv, List.map_append, List.length_map, List.length_append, List.length_replicate, List.length_set, List.map_replicate, nilVC, sd_45]
  simp
  omega
theorem q_laws_big : Quiet c_laws_big := by
  intro args M
  unfold c_laws_big
  dsimp only
  split <;> first | trivial | (intro _; rfl)
/-- a number that code gives at a place -/
def atO (L : List UInt8) (i : Int) : Int := if i < L.length then ((L.getD i.toNat default).toNat : Int) else (i * 37 + (L.length : Int) * 11).tmod 256
theorem atO_range (L : List UInt8) (i : Int) (h : 0 ≤ i) : 0 ≤ atO L i ∧ atO L i ≤ 255 := by
  unfold atO
  split
  · have := (L.getD i.toNat default).toNat_lt
    omega
  · have h0 : 0 ≤ i * 37 + (L.length : Int) * 11 := by omega
    rw [Int.tmod_eq_emod_of_nonneg h0]
    omega
theorem atO_mod (L : List UInt8) {i k : Int} (h : 0 ≤ i) (hk : 0 < k) : 0 ≤ (atO L i).tmod k ∧ (atO L i).tmod k < k := by
  rw [Int.tmod_eq_emod_of_nonneg (atO_range L i h).1]
  exact ⟨Int.emod_nonneg _ (by omega), Int.emod_lt_of_pos _ hk⟩
def c_laws_at : Contract := ⟨35, fun args M => match args with
  | [.c (.sl a n _), .c (.int .i64 i)] => .pure (RowOk UInt8 a n (M a.r) ∧ 0 ≤ i ∧ i ≤ 1000000) (I (atO (row UInt8 a n (M a.r)) i))
  | _ => .bad⟩
theorem ok_laws_at : fnP Try.prog c_laws_at.f = true ∧ ∀ args M, (c_laws_at.sp args M).OK Try.prog c_laws_at.f args M := by
  refine ⟨fp_35, fun args M => ?_⟩
  unfold c_laws_at
  dsimp only
  split
  case h_2 => trivial
  rename_i a n ca i
  rintro ⟨ha, hi0, hi1⟩
  obtain ⟨hs, X, hX, rfl, hat⟩ := ha.x
  rw [hX]
  refine goIn hf_35 rfl (nt := 21) rfl (rs := [.tmp 4]) rfl (C := []) trivial (q := fun _ => false) okQ_none mixed (O := fun _ => .nil) (by kernel_rfl) ?_
  by_cases hp : i < X.length
  · obtain ⟨own, ty, cnt, cap, len, get, hM, hf, hic, hkn, hget⟩ := hat (by omega)
    have hv : atO X i = ((X.getD i.toNat default).toNat : Int) := if_pos hp
    have hu := (X.getD i.toNat default).toNat_lt
    simp only [↓WP, ↓grdD, ↓grdT, ↓un_dead, ↓binVC, ↓buildVC, ↓sliceVC, WQ, WN, Int.reduceToNat, renl, cll, rent, clt, ↓reduceIte, Nat.reduceLeDiff, Nat.reduceEqDiff, Nat.reduceLT, reduceCtorEq, List.append_nil, Nat.reduceAdd, Nat.reduceSub, Nat.reduceBEq, forall_const, implies_true, cond_true, cond_false, AV.ren, AC.ren, AV.cl, AC.cl, eq_self, List.all_cons, List.all_nil, AV.eqv, AC.eqv, eqvl, eqvt, Sl.eqv, List.map_append, List.length_map, List.length_append, List.length_replicate, List.length_set, List.map_replicate, nilVC, sd_45, el_45, sz_5, cv_5_3, hM, hf, decide_eq_true hp, hget i.toNat (by omega), hv]
    repeat refine ⟨by omega, ?_⟩
    first | trivial | rfl | (rw [w64 (by omega) (by omega)]) | skip
  · have hv : atO X i = (i * 37 + (X.length : Int) * 11).tmod 256 := if_neg hp
    have w1 : IntKind.i64.wrap (i * 37) = i * 37 := w64 (by omega) (by omega)
    have w2 : IntKind.i64.wrap ((X.length : Int) * 11) = (X.length : Int) * 11 := w64 (by omega) (by omega)
    have w3 : IntKind.i64.wrap (i * 37 + (X.length : Int) * 11) = i * 37 + (X.length : Int) * 11 := w64 (by omega) (by omega)
    have h0 : 0 ≤ i * 37 + (X.length : Int) * 11 := by omega
    have w4 : IntKind.i64.wrap ((i * 37 + (X.length : Int) * 11).tmod 256) = (i * 37 + (X.length : Int) * 11).tmod 256 := by
      rw [Int.tmod_eq_emod_of_nonneg h0]
      exact w64 (by omega) (by omega)
    simp only [↓WP, ↓grdD, ↓grdT, ↓un_dead, ↓binVC, ↓buildVC, ↓sliceVC, WQ, WN, Int.reduceToNat, renl, cll, rent, clt, ↓reduceIte, Nat.reduceLeDiff, Nat.reduceEqDiff, Nat.reduceLT, reduceCtorEq, List.append_nil, Nat.reduceAdd, Nat.reduceSub, Nat.reduceBEq, forall_const, implies_true, cond_true, cond_false, AV.ren, AC.ren, AV.cl, AC.cl, eq_self, List.all_cons, List.all_nil, AV.eqv, AC.eqv, eqvl, eqvt, Sl.eqv, List.map_append, List.length_map, List.length_append, List.length_replicate, List.length_set, List.map_replicate, nilVC, sd_45, el_45, sz_5, cv_5_3, decide_eq_false hp, w1, w2, w3, w4, hv]
    repeat refine ⟨by omega, ?_⟩
    first | trivial | rfl | skip
theorem q_laws_at : Quiet c_laws_at := by
  intro args M
  unfold c_laws_at
  dsimp only
  split <;> first | trivial | (intro _; rfl)
abbrev CowV2 := List (List Int) × List Int × List (List Int)
abbrev CowF2 := Nat × List (Nat × List Int) × Nat × Nat × List (Nat × List Int)
theorem new_okC : cowOk (newF.map (·.2)) zr12 (newZ.map (·.2)) := by decide
theorem rel_new : relW (newF.map (·.2)) (newZ.map (·.2)) (newZ.map (·.2)) := by
  refine ⟨by rw [List.length_map, newZ_len], fun t ht => ?_⟩
  have e : (newZ.map (·.2)).getD t default = [] := by
    match t, ht with
    | 0, _ => rfl
    | 1, _ => rfl
    | 2, _ => rfl
    | 3, _ => rfl
  rw [e]
  exact ⟨rfl, fun k hk => by simp at hk⟩
end Go.Eng.T
