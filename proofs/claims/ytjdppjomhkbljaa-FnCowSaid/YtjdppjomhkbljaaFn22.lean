/- cow: the law of CowNew; what the other laws need. -/
import Derived.Test.YtjdppjomhkbljaaFn21
set_option linter.unusedVariables false
set_option linter.unusedSimpArgs false
set_option linter.unusedSectionVars false
namespace Go.Eng
open Cel (enc dec)
theorem mark2_idem : ∀ (k k' : Int) (X : List (List Int)), mark2 k (mark2 k' X) = mark2 k X
  | _, _, [] => rfl
  | k, k', l :: r => by
    simp only [mark2, mark1_length]
    rw [mark2_idem _ _ r]
theorem tot_mark2 : ∀ (k : Int) (X : List (List Int)), tot (mark2 k X) = tot X
  | _, [] => rfl
  | k, l :: r => by simp only [mark2, tot, mark1_length, tot_mark2 _ r]
theorem tot_le {b : Nat} : ∀ {X : List (List Int)}, (∀ l ∈ X, l.length ≤ b) → tot X ≤ X.length * b
  | [], _ => by simp [tot]
  | l :: r, h => by
    have h1 := h l (by simp)
    have h2 := tot_le (X := r) fun x hx => h x (by simp [hx])
    simp only [tot, List.length_cons, Nat.add_mul, Nat.one_mul]
    omega
theorem fam_tot {F : List (Nat × List Int)} (h : famOk F) : tot (F.map (·.2)) ≤ F.length * 4294967296 := by
  have := tot_le (X := F.map (·.2)) (b := 4294967296) fun l hl => by
    obtain ⟨p, hp, rfl⟩ := List.mem_map.1 hl
    exact (h.2 p hp).1
  simpa using this
theorem nest_mark (q : RId) (k : Int) (F : List (Nat × List Int)) : nestC q (markF k F) = nestC q F := by
  refine List.ext_getElem? fun i => ?_
  rw [nest_getq, nest_getq]
  rcases Nat.lt_or_ge i F.length with h | h
  · have e := markF_get k h
    rw [getD_of_lt (by rw [markF_length]; exact h), getD_of_lt h] at e
    rw [List.getElem?_eq_getElem (by rw [markF_length]; exact h), List.getElem?_eq_getElem h, e]
    simp [mark1_length]
  · rw [List.getElem?_eq_none (by rw [markF_length]; exact h), List.getElem?_eq_none h]
theorem nestAt_mark {o : Option Rg} {q : RId} {k : Int} {F : List (Nat × List Int)} : nestAt o q (markF k F) = nestAt o q F := by
  unfold nestAt; rw [nest_mark]
theorem newF_len : newF.length = 12 := newR_len 12
theorem newZ_len : newZ.length = 4 := by simp [newZ]
theorem newF_ok : famOk newF := ⟨by rw [newF_len]; omega, fun p hp => by
  have : p = (4, zr4) := by simpa [newF, newR] using hp
  subst this
  exact ⟨by rw [zr4_len]; omega, by rw [zr4_len]; omega⟩⟩
theorem newZ_ok : famOk newZ := ⟨by rw [newZ_len]; omega, fun p hp => by
  have : p = (0, []) := by simpa [newZ] using hp
  subst this
  exact ⟨Nat.zero_le _, Nat.zero_le _⟩⟩
theorem zr12_len : zr12.length = 12 := rfl
end Go.Eng
namespace Go.Eng.T
open Go.Proofs
open Cel (enc dec)
set_option maxRecDepth 100000
set_option maxHeartbeats 8000000
def c_laws_FnExactCowNew : Contract := ⟨3, fun args M => match args with
  | [] => .pure True (Eng.B true)
  | _ => .bad⟩
theorem ok_laws_FnExactCowNew : fnP Try.prog c_laws_FnExactCowNew.f = true ∧ ∀ args M, (c_laws_FnExactCowNew.sp args M).OK Try.prog c_laws_FnExactCowNew.f args M := by
  refine ⟨fp_3, fun args M => ?_⟩
  unfold c_laws_FnExactCowNew
  dsimp only
  split
  case h_2 => trivial
  intro _
  refine goIn hf_3 rfl (nt := 36) rfl (rs := [.tmp 0]) rfl (C := [c_spec_CowNew, c_impl_CowNew, c_laws_eqCow, c_laws_markCow, c_laws_heldCow]) ⟨(by first | exact .inl ok_spec_CowNew | exact ok_spec_CowNew), (by first | exact .inl ok_impl_CowNew | exact ok_impl_CowNew), (by first | exact .inl ok_laws_eqCow | exact ok_laws_eqCow), (by first | exact .inl ok_laws_markCow | exact ok_laws_markCow), (by first | exact .inl ok_laws_heldCow | exact ok_laws_heldCow), trivial⟩ (q := fun _ => false) okQ_none mixed (O := fun _ => .nil) (by kernel_rfl) ?_
  have ht1 := fam_tot newF_ok
  have ht3 := fam_tot newZ_ok
  rw [newF_len] at ht1
  rw [newZ_len] at ht3
  have hm1 := markF_ok (k := 1) newF_ok
  obtain ⟨K, hK⟩ : ∃ K, K = (1 : Int) + (tot (newF.map (·.2)) : Int) + 12 := ⟨_, rfl⟩
  have hm3 : ∀ k, famOk (markF k newZ) := fun k => markF_ok newZ_ok
  have hp1 : (0 < newF.length) = True := eq_true (by rw [newF_len]; omega)
  have hp3 : (0 < newZ.length) = True := eq_true (by rw [newZ_len]; omega)
  simp only [↓WP, ↓grdD, ↓grdT, ↓un_dead, ↓binVC, ↓buildVC, ↓sliceVC, WQ, WN, Int.reduceToNat, renl, cll, rent, clt, ↓reduceIte, Nat.reduceLeDiff, Nat.reduceEqDiff, Nat.reduceLT, reduceCtorEq, List.append_nil, Nat.reduceAdd, Nat.reduceSub, Nat.reduceBEq, forall_const, implies_true, cond_true, cond_false, AV.ren, AC.ren, AV.cl, AC.cl, eq_self, List.all_cons, List.all_nil, AV.eqv, AC.eqv, eqvl, eqvt, Sl.eqv, List.map_append, List.length_map, List.length_append, List.length_replicate, List.length_set, List.map_replicate, nilVC, zr_25, sz_25, c_spec_CowNew, c_impl_CowNew, c_laws_eqCow, c_laws_markCow, c_laws_heldCow, nestZ_pos, nestK_def, famR_rows, newF_len, newZ_len, newF_ok, newZ_ok, zr12_len, markF_length, markF_snd, nestAt_mark, mark2_idem, tot_mark2, mark1_length, row2_fam 0 1 newF newF_ok, Row2Ok_fam 0 1 newF newF_ok, row2_fam 3 4 newZ newZ_ok, Row2Ok_fam 3 4 newZ newZ_ok, row2_fam 6 7 newF newF_ok, Row2Ok_fam 6 7 newF newF_ok, row2_fam 9 10 newZ newZ_ok, Row2Ok_fam 9 10 newZ newZ_ok, row2_fam 12 13 newF newF_ok, Row2Ok_fam 12 13 newF newF_ok, row2_fam 15 16 newZ newZ_ok, Row2Ok_fam 15 16 newZ newZ_ok,
    row2_fam 6 7 (markF 1 newF) hm1, Row2Ok_fam 6 7 (markF 1 newF) hm1, row2_fam 9 10 (markF (1 + (tot (newF.map (·.2)) : Int) + ((12 : Nat) : Int)) newZ) (hm3 _), Row2Ok_fam 9 10 (markF (1 + (tot (newF.map (·.2)) : Int) + ((12 : Nat) : Int)) newZ) (hm3 _)]
  simp
  repeat' (first | with_reducible refine And.intro ?_ ?_ | intro _)
  all_goals omega
end Go.Eng.T
