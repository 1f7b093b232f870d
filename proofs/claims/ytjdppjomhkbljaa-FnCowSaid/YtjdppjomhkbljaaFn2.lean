/- cow: what the laws do with a Cow. -/
import Derived.Test.YtjdppjomhkbljaaFn1
set_option linter.unusedVariables false
set_option linter.unusedSimpArgs false
set_option linter.unusedSectionVars false
namespace Go.Eng
open Cel (enc dec)
/-- marks in rows, with their room -/
def markF : Int → List (Nat × List Int) → List (Nat × List Int)
  | _, [] => []
  | k, p :: r => (p.1, mark1 k p.2.length) :: markF (k + p.2.length) r
theorem markF_length : ∀ (k : Int) (F : List (Nat × List Int)), (markF k F).length = F.length
  | _, [] => rfl
  | k, l :: r => by simp [markF, markF_length _ r]
theorem markF_snd : ∀ (k : Int) (F : List (Nat × List Int)), (markF k F).map (·.2) = mark2 k (F.map (·.2))
  | _, [] => rfl
  | k, l :: r => by simp [markF, mark2, markF_snd _ r]
theorem markF_get : ∀ {F : List (Nat × List Int)} (k : Int) {i : Nat}, i < F.length → (markF k F).getD i default = ((F.getD i default).1, mark1 (k + tot ((F.map (·.2)).take i)) (F.getD i default).2.length)
  | [], _, i, h => by simp at h
  | l :: r, k, 0, _ => by simp [markF, tot]
  | l :: r, k, i + 1, h => by
    have := markF_get (F := r) (k + l.2.length) (i := i) (by simpa using h)
    simp only [markF, List.getD_cons_succ, List.map_cons, List.take_succ_cons, tot]
    rw [this]
    congr 2
    omega
theorem markF_ok {k : Int} {F : List (Nat × List Int)} (h : famOk F) : famOk (markF k F) := by
  refine ⟨by rw [markF_length]; exact h.1, fun p hp => ?_⟩
  obtain ⟨i, hi, rfl⟩ := List.getElem_of_mem hp
  have hi2 : i < F.length := by rw [markF_length] at hi; exact hi
  have := markF_get k hi2
  rw [getD_of_lt hi] at this
  rw [this]
  obtain ⟨h1, h2⟩ := h.2 _ (getD_mem hi2)
  simp only [mark1_length]
  exact ⟨h1, h2⟩
end Go.Eng
namespace Go.Eng.T
open Go.Proofs
open Cel (enc dec)
set_option maxRecDepth 100000
set_option maxHeartbeats 4000000
def c_laws_markIntSS : Contract := ⟨42, fun args M => match args with
  | [.c (.sl a n _), .c (.int .i64 k)] => if n = 0 then .pure (0 ≤ k ∧ k ≤ 4611686018427387904) (I k) else nestK Int a n M fun q t F => .eff (0 ≤ k ∧ k + tot (F.map (·.2)) ≤ 4611686018427387904) Unit (fun _ => True) (fun _ => I (k + tot (F.map (·.2)))) (fun _ => []) (fun _ => [(q, .rows true t 1 (mems (markF k F)))])
  | _ => .bad⟩
theorem ok_laws_markIntSS : fnP Try.prog c_laws_markIntSS.f = true ∧ ∀ args M, (c_laws_markIntSS.sp args M).OK Try.prog c_laws_markIntSS.f args M := by
  refine ⟨fp_42, fun args M => ?_⟩
  unfold c_laws_markIntSS
  dsimp only
  split
  case h_2 => trivial
  rename_i a n ca k
  by_cases hn : n = 0
  · rw [if_pos hn]
    subst hn
    rintro ⟨h1, h2⟩
    refine goIn hf_42 rfl (nt := 19) rfl (rs := [.tmp 4]) rfl (C := [c_laws_markIntS]) ⟨(by first | exact .inl ok_laws_markIntS | exact ok_laws_markIntS), trivial⟩ (q := fun _ => false) okQ_none mixed (O := fun _ => .nil) (by kernel_rfl) ?_
    simp only [↓WP, ↓grdD, ↓grdT, ↓un_dead, ↓binVC, ↓buildVC, ↓sliceVC, WQ, WN, Int.reduceToNat, renl, cll, rent, clt, ↓reduceIte, Nat.reduceLeDiff, Nat.reduceEqDiff, Nat.reduceLT, reduceCtorEq, List.append_nil, Nat.reduceAdd, Nat.reduceSub, Nat.reduceBEq, forall_const, implies_true, cond_true, cond_false, AV.ren, AC.ren, AV.cl, AC.cl, eq_self, List.all_cons, List.all_nil, AV.eqv, AC.eqv, eqvl, eqvt, Sl.eqv, List.map_append, List.length_map, List.length_append, List.length_replicate, List.length_set, List.map_replicate, nilVC, sd_22, el_22, sz_23, c_laws_markIntS]
    refine loopI (J := Unit) (fun i => ⟨slots 19 [(0, .c (.sl a.up 0 ca)), (1, I k), (5, I 0)], M, [], []⟩) (fun i => 0) () (Le_intro [] (by simp only [WL, WNL, swA_new, swA_ne, nest_sw_ne, mapLL, List.mem_cons, Nat.reduceAdd, Nat.reduceLT, Nat.reduceLeDiff, Nat.reduceEqDiff, okU, List.nodup_cons, List.not_mem_nil, toT, toL, toO, keysO, renl, rent, cll, clt, eq_self, AV.eqv, AC.eqv, eqvl, eqvt, Sl.eqv, rowsLe, mapLL, rowsCl, List.map_append, List.length_map, List.length_append, List.length_set, List.map_replicate, rowG, List.getElem?_cons_zero, List.getElem?_cons_succ, List.getElem?_nil, List.append_nil, List.nil_append, List.cons_append, ghosts, St.gh, Option.some.injEq, implies_true, setT, AV.ren, AC.ren, AV.cl, AC.cl, List.replicate_succ, List.replicate_zero, List.nodup_nil, List.length_nil, List.length_cons, List.getD_cons_zero, List.getD_cons_succ, ↓reduceIte]; try simp)) ?_
    rintro ⟨⟩
    simp only [↓WP, ↓grdD, ↓grdT, ↓un_dead, ↓binVC, ↓buildVC, ↓sliceVC, WQ, WN, Int.reduceToNat, renl, cll, rent, clt, ↓reduceIte, Nat.reduceLeDiff, Nat.reduceEqDiff, Nat.reduceLT, reduceCtorEq, List.append_nil, Nat.reduceAdd, Nat.reduceSub, Nat.reduceBEq, forall_const, implies_true, cond_true, cond_false, AV.ren, AC.ren, AV.cl, AC.cl, eq_self, List.all_cons, List.all_nil, AV.eqv, AC.eqv, eqvl, eqvt, Sl.eqv, List.map_append, List.length_map, List.length_append, List.length_replicate, List.length_set, List.map_replicate, nilVC, sd_22, el_22, sz_23, c_laws_markIntS]
    try simp
  · rw [if_neg hn]
    refine nestK_cases fun q t F own t0 c hM hQ hlen hF hi0 hk0 hf0 => ?_
    rintro ⟨h1, h2⟩
    subst hlen
    refine goIn hf_42 rfl (nt := 19) rfl (rs := [.tmp 4]) rfl (C := [c_laws_markIntS]) ⟨(by first | exact .inl ok_laws_markIntS | exact ok_laws_markIntS), trivial⟩ (q := fun _ => false) okQ_none mixed (O := fun _ => .nil) (by kernel_rfl) ?_
    have hne := nest_ne (by omega) hM hQ
    obtain ⟨hF1, hF2⟩ := hF
    have hml := markF_length k F
    simp only [↓WP, ↓grdD, ↓grdT, ↓un_dead, ↓binVC, ↓buildVC, ↓sliceVC, WQ, WN, Int.reduceToNat, renl, cll, rent, clt, ↓reduceIte, Nat.reduceLeDiff, Nat.reduceEqDiff, Nat.reduceLT, reduceCtorEq, List.append_nil, Nat.reduceAdd, Nat.reduceSub, Nat.reduceBEq, forall_const, implies_true, cond_true, cond_false, AV.ren, AC.ren, AV.cl, AC.cl, eq_self, List.all_cons, List.all_nil, AV.eqv, AC.eqv, eqvl, eqvt, Sl.eqv, List.map_append, List.length_map, List.length_append, List.length_replicate, List.length_set, List.map_replicate, nilVC, sd_22, el_22, sz_23, c_laws_markIntS]
    refine loopI (J := {i : Nat // i ≤ F.length}) (fun i => ⟨slots 19 [(0, .c (.sl a.up F.length ca)), (1, I (k + (tot ((F.map (·.2)).take i.1) : Int))), (5, I i.1)], M, [(q, .rows true t 1 (mems (over (markF k F) F i.1)))], []⟩) (fun i => F.length - i.1) ⟨0, by omega⟩ (Le_intro [] (by simp only [WL, WNL, swA_new, swA_ne, nest_sw_ne, mapLL, List.mem_cons, Nat.reduceAdd, Nat.reduceLT, Nat.reduceLeDiff, Nat.reduceEqDiff, okU, List.nodup_cons, List.not_mem_nil, toT, toL, toO, keysO, renl, rent, cll, clt, eq_self, AV.eqv, AC.eqv, eqvl, eqvt, Sl.eqv, rowsLe, mapLL, rowsCl, List.map_append, List.length_map, List.length_append, List.length_set, List.map_replicate, rowG, List.getElem?_cons_zero, List.getElem?_cons_succ, List.getElem?_nil, List.append_nil, List.nil_append, List.cons_append, ghosts, St.gh, Option.some.injEq, implies_true, setT, AV.ren, AC.ren, AV.cl, AC.cl, List.replicate_succ, List.replicate_zero, List.nodup_nil, List.length_nil, List.length_cons, List.getD_cons_zero, List.getD_cons_succ, ↓reduceIte, hQ, over_zero]; simp [tot])) ?_
    rintro ⟨i, hi⟩
    have hw := wS (i := i) (by omega)
    have hol : (over (markF k F) F i).length = F.length := over_length _ _ _ hml
    rcases Nat.lt_or_ge i F.length with hlt | hge
    · have hgo : (over (markF k F) F i).getD i (0, []) = F.getD i (0, []) := over_get _ _ _ _ hml hlt
      have hgd : F.getD i (0, []) = F.getD i default := getD_lt _ _ _ _ hlt
      have hng := nest_get (.out q) (F := F) hlt
      have hmg := markF_get k hlt
      have hst := over_set (markF k F) F i default hml hlt
      rw [hmg] at hst
      have ht := tot_step (X := F.map (·.2)) (i := i) (by simpa using hlt)
      rw [getD_map (f := fun p : Nat × List Int => p.2) hlt] at ht
      have htl := tot_take (X := F.map (·.2)) (i := i + 1)
      have hk1 : 0 ≤ k + (tot ((F.map (·.2)).take i) : Int) := by omega
      have hk2 : k + (tot ((F.map (·.2)).take i) : Int) ≤ 4611686018427387904 := by omega
      obtain ⟨f1, f2⟩ := hF2 _ (getD_mem hlt)
      have hwn : win (fun k => (List.map enc (F.getD i default).2).getD (0 + k) []) (F.getD i default).2.length = (F.getD i default).2.map enc := by simp only [Nat.zero_add]; exact win_whole (by simp)
      simp only [↓WP, ↓grdD, ↓grdT, ↓un_dead, ↓binVC, ↓buildVC, ↓sliceVC, WQ, WN, Int.reduceToNat, renl, cll, rent, clt, ↓reduceIte, Nat.reduceLeDiff, Nat.reduceEqDiff, Nat.reduceLT, reduceCtorEq, List.append_nil, Nat.reduceAdd, Nat.reduceSub, Nat.reduceBEq, forall_const, implies_true, cond_true, cond_false, AV.ren, AC.ren, AV.cl, AC.cl, eq_self, List.all_cons, List.all_nil, AV.eqv, AC.eqv, eqvl, eqvt, Sl.eqv, List.map_append, List.length_map, List.length_append, List.length_replicate, List.length_set, List.map_replicate, nilVC, sd_22, el_22, sz_23, c_laws_markIntS, dlt hlt, hw, hM, hQ, hne, hi0, hk0, hf0, hol, hgo, hgd, hng, hk1, hk2, hwn]
      repeat refine ⟨by omega, ?_⟩
      try simp only [hlt, f1, true_and, and_true]
      repeat refine ⟨by omega, ?_⟩
      refine ⟨⟨i + 1, hlt⟩, Le_intro [] ?_, by show F.length - (i + 1) < F.length - i; omega⟩
      simp only [WL, WNL, swA_new, swA_ne, nest_sw_ne, mapLL, List.mem_cons, Nat.reduceAdd, Nat.reduceLT, Nat.reduceLeDiff, Nat.reduceEqDiff, okU, List.nodup_cons, List.not_mem_nil, toT, toL, toO, keysO, renl, rent, cll, clt, eq_self, AV.eqv, AC.eqv, eqvl, eqvt, Sl.eqv, rowsLe, mapLL, rowsCl, List.map_append, List.length_map, List.length_append, List.length_set, List.map_replicate, rowG, List.getElem?_cons_zero, List.getElem?_cons_succ, List.getElem?_nil, List.append_nil, List.nil_append, List.cons_append, ghosts, St.gh, Option.some.injEq, implies_true, setT, AV.ren, AC.ren, AV.cl, AC.cl, List.replicate_succ, List.replicate_zero, List.nodup_nil, List.length_nil, List.length_cons, List.getD_cons_zero, List.getD_cons_succ, ↓reduceIte, hst, ht]
      try simp
      try omega
    · obtain rfl : i = F.length := by omega
      simp only [↓WP, ↓grdD, ↓grdT, ↓un_dead, ↓binVC, ↓buildVC, ↓sliceVC, WQ, WN, Int.reduceToNat, renl, cll, rent, clt, ↓reduceIte, Nat.reduceLeDiff, Nat.reduceEqDiff, Nat.reduceLT, reduceCtorEq, List.append_nil, Nat.reduceAdd, Nat.reduceSub, Nat.reduceBEq, forall_const, implies_true, cond_true, cond_false, AV.ren, AC.ren, AV.cl, AC.cl, eq_self, List.all_cons, List.all_nil, AV.eqv, AC.eqv, eqvl, eqvt, Sl.eqv, List.map_append, List.length_map, List.length_append, List.length_replicate, List.length_set, List.map_replicate, nilVC, sd_22, el_22, sz_23, c_laws_markIntS, dge hge, hw]
      refine end_ret ?_
      simp only [↓WP, ↓grdD, ↓grdT, ↓un_dead, ↓binVC, ↓buildVC, ↓sliceVC, WQ, WN, Int.reduceToNat, renl, cll, rent, clt, ↓reduceIte, Nat.reduceLeDiff, Nat.reduceEqDiff, Nat.reduceLT, reduceCtorEq, List.append_nil, Nat.reduceAdd, Nat.reduceSub, Nat.reduceBEq, forall_const, implies_true, cond_true, cond_false, AV.ren, AC.ren, AV.cl, AC.cl, eq_self, List.all_cons, List.all_nil, AV.eqv, AC.eqv, eqvl, eqvt, Sl.eqv, List.map_append, List.length_map, List.length_append, List.length_replicate, List.length_set, List.map_replicate, nilVC, sd_22, el_22, sz_23, c_laws_markIntS]
      refine ⟨(), [], [], ?_⟩
      simp only [WL, WNL, swA_new, swA_ne, nest_sw_ne, mapLL, List.mem_cons, Nat.reduceAdd, Nat.reduceLT, Nat.reduceLeDiff, Nat.reduceEqDiff, okU, List.nodup_cons, List.not_mem_nil, toT, toL, toO, keysO, renl, rent, cll, clt, eq_self, AV.eqv, AC.eqv, eqvl, eqvt, Sl.eqv, rowsLe, mapLL, rowsCl, List.map_append, List.length_map, List.length_append, List.length_set, List.map_replicate, rowG, List.getElem?_cons_zero, List.getElem?_cons_succ, List.getElem?_nil, List.append_nil, List.nil_append, List.cons_append, ghosts, St.gh, Option.some.injEq, implies_true, setT, AV.ren, AC.ren, AV.cl, AC.cl, List.replicate_succ, List.replicate_zero, List.nodup_nil, List.length_nil, List.length_cons, List.getD_cons_zero, List.getD_cons_succ, ↓reduceIte, retP, hQ, over_all (markF k F) F hml]
      have htk : (F.map (·.2)).take F.length = F.map (·.2) := List.take_of_length_le (by simp)
      simp [okU, hQ, htk]
end Go.Eng.T
