/- cow: marks in a Cow. -/
import Derived.Test.YtjdppjomhkbljaaFn3
set_option linter.unusedVariables false
set_option linter.unusedSimpArgs false
set_option linter.unusedSectionVars false
namespace Go.Eng
open Cel (enc dec)
theorem nestZ_cases {P : Program} {f : FuncId} {args : List AV} {M : RId → Option Rg} {a : AA} {n : Nat} {K : List RId → (Int → List (RId × Rg)) → Nat → Spec}
    (h0 : n = 0 → (K [] (fun _ => []) 0).OK P f args M)
    (h : ∀ q t F own t0 c, 0 < n → M a.r = some (.rows own t0 1 [(c, nestC q F)]) → M q = some (.rows true t (Cel.sz Int) (mems F)) → F.length = n → famOk F → a.i = 0 → a.k = 0 → a.f = 0 → (K [q] (fun k => [(q, .rows true t 1 (mems (markF k F)))]) (tot (F.map (·.2)))).OK P f args M) : (nestZ a n M K).OK P f args M := by
  unfold nestZ
  split
  · rename_i hn; exact h0 hn
  · rename_i hn; exact nestK_cases fun q t F own t0 c e1 e2 => h q t F own t0 c (by omega) e1 e2
end Go.Eng
namespace Go.Eng.T
open Go.Proofs
open Cel (enc dec)
set_option maxRecDepth 100000
set_option maxHeartbeats 4000000
def c_laws_markCow : Contract := ⟨16, fun args M => match args with
  | [.agg [.sl a1 n1 _, .sl a2 n2 _, .sl a3 n3 _], .c (.int .i64 k)] => nestZ a1 n1 M fun ks1 u1 t1 => specR Int a2 n2 (M a2.r) fun ty c _ => nestZ a3 n3 M fun ks3 u3 t3 => .eff ((a2.r ∉ ks1 ∧ a3.r ∉ ks1 ∧ (∀ x ∈ ks3, x ∉ ks1) ∧ a2.r ≠ a3.r ∧ a2.r ∉ ks3) ∧ 0 ≤ k ∧ k + t1 + n2 + t3 ≤ 4611686018427387904) Unit (fun _ => True) (fun _ => I (k + t1 + n2 + t3)) (fun _ => []) (fun _ => u1 k ++ (a2.r, rowG true ty c (mark1 (k + t1) n2)) :: u3 (k + t1 + n2))
  | _ => .bad⟩
theorem ok_laws_markCow : fnP Try.prog c_laws_markCow.f = true ∧ ∀ args M, (c_laws_markCow.sp args M).OK Try.prog c_laws_markCow.f args M := by
  refine ⟨fp_16, fun args M => ?_⟩
  unfold c_laws_markCow
  dsimp only
  split
  case h_2 => trivial
  rename_i a1 n1 c1 a2 n2 c2 a3 n3 c3 k
  refine nestZ_cases (fun z1 => ?_) (fun q1 t1 F1 own1 s1 d1 p1 hM1 hQ1 hl1 hF1 hi1 hk1 hf1 => ?_)
  · refine specR_cases fun ty c X hM hX hlen hs hi0 hk0 hf0 => ?_
    refine nestZ_cases (fun z3 => ?_) (fun q3 t3 F3 own3 s3 d3 p3 hM3 hQ3 hl3 hF3 hi3 hk3 hf3 => ?_)
    · rintro ⟨⟨h1, h2, h3, h4, h5⟩, k0, k1⟩
      subst z1 z3 hlen
      refine goIn hf_16 rfl (nt := 18) rfl (rs := [.tmp 4]) rfl (C := [c_laws_markIntSS, c_laws_markIntS]) ⟨(by first | exact .inl ok_laws_markIntSS | exact ok_laws_markIntSS), (by first | exact .inl ok_laws_markIntS | exact ok_laws_markIntS), trivial⟩ (q := fun _ => false) okQ_none mixed (O := fun _ => .nil) (by kernel_rfl) ?_
      have ham : allEnc Int (win (fun j => (List.map enc X).getD (0 + j) []) X.length) := by simp only [Nat.zero_add]; rw [win_whole (by simp), allEnc_enc]; trivial
      have hn4 : (a2.r = a3.r) = False := eq_false h4
      simp only [↓WP, ↓grdD, ↓grdT, ↓un_dead, ↓binVC, ↓buildVC, ↓sliceVC, WQ, WN, Int.reduceToNat, renl, cll, rent, clt, ↓reduceIte, Nat.reduceLeDiff, Nat.reduceEqDiff, Nat.reduceLT, reduceCtorEq, List.append_nil, Nat.reduceAdd, Nat.reduceSub, Nat.reduceBEq, forall_const, implies_true, cond_true, cond_false, AV.ren, AC.ren, AV.cl, AC.cl, eq_self, List.all_cons, List.all_nil, AV.eqv, AC.eqv, eqvl, eqvt, Sl.eqv, List.map_append, List.length_map, List.length_append, List.length_replicate, List.length_set, List.map_replicate, nilVC, fl_25_0, sz_22, fl_25_1, sz_23, fl_25_2, c_laws_markIntSS, c_laws_markIntS, hM, hi0, hk0, hf0, ham, hs, nestK_def, hn4]
      repeat' (first | with_reducible refine And.intro ?_ ?_ | intro _)
      all_goals try first | assumption | omega | rfl | (simp; done)
      refine end_ret ?_
      simp only [↓WP, ↓grdD, ↓grdT, ↓un_dead, ↓binVC, ↓buildVC, ↓sliceVC, WQ, WN, Int.reduceToNat, renl, cll, rent, clt, ↓reduceIte, Nat.reduceLeDiff, Nat.reduceEqDiff, Nat.reduceLT, reduceCtorEq, List.append_nil, Nat.reduceAdd, Nat.reduceSub, Nat.reduceBEq, forall_const, implies_true, cond_true, cond_false, AV.ren, AC.ren, AV.cl, AC.cl, eq_self, List.all_cons, List.all_nil, AV.eqv, AC.eqv, eqvl, eqvt, Sl.eqv, List.map_append, List.length_map, List.length_append, List.length_replicate, List.length_set, List.map_replicate, nilVC, fl_25_0, sz_22, fl_25_1, sz_23, fl_25_2, c_laws_markIntSS, c_laws_markIntS]
      refine ⟨(), [], [], ?_⟩
      simp only [WL, WNL, swA_new, swA_ne, nest_sw_ne, mapLL, List.mem_cons, Nat.reduceAdd, Nat.reduceLT, Nat.reduceLeDiff, Nat.reduceEqDiff, okU, List.nodup_cons, List.not_mem_nil, toT, toL, toO, keysO, renl, rent, cll, clt, eq_self, AV.eqv, AC.eqv, eqvl, eqvt, Sl.eqv, rowsLe, mapLL, rowsCl, List.map_append, List.length_map, List.length_append, List.length_set, List.map_replicate, rowG, List.getElem?_cons_zero, List.getElem?_cons_succ, List.getElem?_nil, List.append_nil, List.nil_append, List.cons_append, ghosts, St.gh, Option.some.injEq, implies_true, setT, AV.ren, AC.ren, AV.cl, AC.cl, List.replicate_succ, List.replicate_zero, List.nodup_nil, List.length_nil, List.length_cons, List.getD_cons_zero, List.getD_cons_succ, ↓reduceIte, retP, hn4, hM]
      simp [okU, rowsLe_self, hM]
    · rintro ⟨⟨h1, h2, h3, h4, h5⟩, k0, k1⟩
      subst z1 hl3 hlen
      refine goIn hf_16 rfl (nt := 18) rfl (rs := [.tmp 4]) rfl (C := [c_laws_markIntSS, c_laws_markIntS]) ⟨(by first | exact .inl ok_laws_markIntSS | exact ok_laws_markIntSS), (by first | exact .inl ok_laws_markIntS | exact ok_laws_markIntS), trivial⟩ (q := fun _ => false) okQ_none mixed (O := fun _ => .nil) (by kernel_rfl) ?_
      have ham : allEnc Int (win (fun j => (List.map enc X).getD (0 + j) []) X.length) := by simp only [Nat.zero_add]; rw [win_whole (by simp), allEnc_enc]; trivial
      have hn4 : (a2.r = a3.r) = False := eq_false h4
      have hne3 := nest_ne p3 hM3 hQ3
      have p3' : (F3.length = 0) = False := eq_false (by omega)
      have hr3 := famR_at (a := a3.up) (o := own3) (t := s3) (c := d3) (q := .out q3) p3 hi3 hk3
      have hn5 : (a2.r = q3) = False := eq_false (by simpa using h5)
      simp only [↓WP, ↓grdD, ↓grdT, ↓un_dead, ↓binVC, ↓buildVC, ↓sliceVC, WQ, WN, Int.reduceToNat, renl, cll, rent, clt, ↓reduceIte, Nat.reduceLeDiff, Nat.reduceEqDiff, Nat.reduceLT, reduceCtorEq, List.append_nil, Nat.reduceAdd, Nat.reduceSub, Nat.reduceBEq, forall_const, implies_true, cond_true, cond_false, AV.ren, AC.ren, AV.cl, AC.cl, eq_self, List.all_cons, List.all_nil, AV.eqv, AC.eqv, eqvl, eqvt, Sl.eqv, List.map_append, List.length_map, List.length_append, List.length_replicate, List.length_set, List.map_replicate, nilVC, fl_25_0, sz_22, fl_25_1, sz_23, fl_25_2, c_laws_markIntSS, c_laws_markIntS, hM, hi0, hk0, hf0, ham, hs, nestK_def, hn4, hne3, p3', hr3, hM3, hQ3, hF3, hi3, hk3, hf3, hn5]
      repeat' (first | with_reducible refine And.intro ?_ ?_ | intro _)
      all_goals try first | assumption | omega | rfl | (simp; done)
      refine end_ret ?_
      simp only [↓WP, ↓grdD, ↓grdT, ↓un_dead, ↓binVC, ↓buildVC, ↓sliceVC, WQ, WN, Int.reduceToNat, renl, cll, rent, clt, ↓reduceIte, Nat.reduceLeDiff, Nat.reduceEqDiff, Nat.reduceLT, reduceCtorEq, List.append_nil, Nat.reduceAdd, Nat.reduceSub, Nat.reduceBEq, forall_const, implies_true, cond_true, cond_false, AV.ren, AC.ren, AV.cl, AC.cl, eq_self, List.all_cons, List.all_nil, AV.eqv, AC.eqv, eqvl, eqvt, Sl.eqv, List.map_append, List.length_map, List.length_append, List.length_replicate, List.length_set, List.map_replicate, nilVC, fl_25_0, sz_22, fl_25_1, sz_23, fl_25_2, c_laws_markIntSS, c_laws_markIntS]
      refine ⟨(), [], [], ?_⟩
      simp only [WL, WNL, swA_new, swA_ne, nest_sw_ne, mapLL, List.mem_cons, Nat.reduceAdd, Nat.reduceLT, Nat.reduceLeDiff, Nat.reduceEqDiff, okU, List.nodup_cons, List.not_mem_nil, toT, toL, toO, keysO, renl, rent, cll, clt, eq_self, AV.eqv, AC.eqv, eqvl, eqvt, Sl.eqv, rowsLe, mapLL, rowsCl, List.map_append, List.length_map, List.length_append, List.length_set, List.map_replicate, rowG, List.getElem?_cons_zero, List.getElem?_cons_succ, List.getElem?_nil, List.append_nil, List.nil_append, List.cons_append, ghosts, St.gh, Option.some.injEq, implies_true, setT, AV.ren, AC.ren, AV.cl, AC.cl, List.replicate_succ, List.replicate_zero, List.nodup_nil, List.length_nil, List.length_cons, List.getD_cons_zero, List.getD_cons_succ, ↓reduceIte, retP, hn4, hne3, p3', hr3, hM3, hQ3, hF3, hi3, hk3, hf3, hn5, hM]
      simp [okU, rowsLe_self, hM, hQ3]
  · refine specR_cases fun ty c X hM hX hlen hs hi0 hk0 hf0 => ?_
    refine nestZ_cases (fun z3 => ?_) (fun q3 t3 F3 own3 s3 d3 p3 hM3 hQ3 hl3 hF3 hi3 hk3 hf3 => ?_)
    · rintro ⟨⟨h1, h2, h3, h4, h5⟩, k0, k1⟩
      subst hl1 z3 hlen
      refine goIn hf_16 rfl (nt := 18) rfl (rs := [.tmp 4]) rfl (C := [c_laws_markIntSS, c_laws_markIntS]) ⟨(by first | exact .inl ok_laws_markIntSS | exact ok_laws_markIntSS), (by first | exact .inl ok_laws_markIntS | exact ok_laws_markIntS), trivial⟩ (q := fun _ => false) okQ_none mixed (O := fun _ => .nil) (by kernel_rfl) ?_
      have ham : allEnc Int (win (fun j => (List.map enc X).getD (0 + j) []) X.length) := by simp only [Nat.zero_add]; rw [win_whole (by simp), allEnc_enc]; trivial
      have hn4 : (a2.r = a3.r) = False := eq_false h4
      have hne1 := nest_ne p1 hM1 hQ1
      have p1' : (F1.length = 0) = False := eq_false (by omega)
      have hr1 := famR_at (a := a1.up) (o := own1) (t := s1) (c := d1) (q := .out q1) p1 hi1 hk1
      have hn1 : (q1 = a2.r) = False := eq_false fun e => h1 (by simp [e])
      have hn2 : (q1 = a3.r) = False := eq_false fun e => h2 (by simp [e])
      simp only [↓WP, ↓grdD, ↓grdT, ↓un_dead, ↓binVC, ↓buildVC, ↓sliceVC, WQ, WN, Int.reduceToNat, renl, cll, rent, clt, ↓reduceIte, Nat.reduceLeDiff, Nat.reduceEqDiff, Nat.reduceLT, reduceCtorEq, List.append_nil, Nat.reduceAdd, Nat.reduceSub, Nat.reduceBEq, forall_const, implies_true, cond_true, cond_false, AV.ren, AC.ren, AV.cl, AC.cl, eq_self, List.all_cons, List.all_nil, AV.eqv, AC.eqv, eqvl, eqvt, Sl.eqv, List.map_append, List.length_map, List.length_append, List.length_replicate, List.length_set, List.map_replicate, nilVC, fl_25_0, sz_22, fl_25_1, sz_23, fl_25_2, c_laws_markIntSS, c_laws_markIntS, hM, hi0, hk0, hf0, ham, hs, nestK_def, hn4, hne1, p1', hr1, hM1, hQ1, hF1, hi1, hk1, hf1, hn1, hn2]
      repeat' (first | with_reducible refine And.intro ?_ ?_ | intro _)
      all_goals try first | assumption | omega | rfl | (simp; done)
      refine end_ret ?_
      simp only [↓WP, ↓grdD, ↓grdT, ↓un_dead, ↓binVC, ↓buildVC, ↓sliceVC, WQ, WN, Int.reduceToNat, renl, cll, rent, clt, ↓reduceIte, Nat.reduceLeDiff, Nat.reduceEqDiff, Nat.reduceLT, reduceCtorEq, List.append_nil, Nat.reduceAdd, Nat.reduceSub, Nat.reduceBEq, forall_const, implies_true, cond_true, cond_false, AV.ren, AC.ren, AV.cl, AC.cl, eq_self, List.all_cons, List.all_nil, AV.eqv, AC.eqv, eqvl, eqvt, Sl.eqv, List.map_append, List.length_map, List.length_append, List.length_replicate, List.length_set, List.map_replicate, nilVC, fl_25_0, sz_22, fl_25_1, sz_23, fl_25_2, c_laws_markIntSS, c_laws_markIntS]
      refine ⟨(), [], [], ?_⟩
      simp only [WL, WNL, swA_new, swA_ne, nest_sw_ne, mapLL, List.mem_cons, Nat.reduceAdd, Nat.reduceLT, Nat.reduceLeDiff, Nat.reduceEqDiff, okU, List.nodup_cons, List.not_mem_nil, toT, toL, toO, keysO, renl, rent, cll, clt, eq_self, AV.eqv, AC.eqv, eqvl, eqvt, Sl.eqv, rowsLe, mapLL, rowsCl, List.map_append, List.length_map, List.length_append, List.length_set, List.map_replicate, rowG, List.getElem?_cons_zero, List.getElem?_cons_succ, List.getElem?_nil, List.append_nil, List.nil_append, List.cons_append, ghosts, St.gh, Option.some.injEq, implies_true, setT, AV.ren, AC.ren, AV.cl, AC.cl, List.replicate_succ, List.replicate_zero, List.nodup_nil, List.length_nil, List.length_cons, List.getD_cons_zero, List.getD_cons_succ, ↓reduceIte, retP, hn4, hne1, p1', hr1, hM1, hQ1, hF1, hi1, hk1, hf1, hn1, hn2, hM]
      simp [okU, rowsLe_self, hM, hQ1]
    · rintro ⟨⟨h1, h2, h3, h4, h5⟩, k0, k1⟩
      subst hl1 hl3 hlen
      refine goIn hf_16 rfl (nt := 18) rfl (rs := [.tmp 4]) rfl (C := [c_laws_markIntSS, c_laws_markIntS]) ⟨(by first | exact .inl ok_laws_markIntSS | exact ok_laws_markIntSS), (by first | exact .inl ok_laws_markIntS | exact ok_laws_markIntS), trivial⟩ (q := fun _ => false) okQ_none mixed (O := fun _ => .nil) (by kernel_rfl) ?_
      have ham : allEnc Int (win (fun j => (List.map enc X).getD (0 + j) []) X.length) := by simp only [Nat.zero_add]; rw [win_whole (by simp), allEnc_enc]; trivial
      have hn4 : (a2.r = a3.r) = False := eq_false h4
      have hne1 := nest_ne p1 hM1 hQ1
      have p1' : (F1.length = 0) = False := eq_false (by omega)
      have hr1 := famR_at (a := a1.up) (o := own1) (t := s1) (c := d1) (q := .out q1) p1 hi1 hk1
      have hn1 : (q1 = a2.r) = False := eq_false fun e => h1 (by simp [e])
      have hn2 : (q1 = a3.r) = False := eq_false fun e => h2 (by simp [e])
      have hne3 := nest_ne p3 hM3 hQ3
      have p3' : (F3.length = 0) = False := eq_false (by omega)
      have hr3 := famR_at (a := a3.up) (o := own3) (t := s3) (c := d3) (q := .out q3) p3 hi3 hk3
      have hn5 : (a2.r = q3) = False := eq_false (by simpa using h5)
      have hn6 : (q1 = q3) = False := eq_false fun e => h3 q3 (by simp) (by simp [e])
      simp only [↓WP, ↓grdD, ↓grdT, ↓un_dead, ↓binVC, ↓buildVC, ↓sliceVC, WQ, WN, Int.reduceToNat, renl, cll, rent, clt, ↓reduceIte, Nat.reduceLeDiff, Nat.reduceEqDiff, Nat.reduceLT, reduceCtorEq, List.append_nil, Nat.reduceAdd, Nat.reduceSub, Nat.reduceBEq, forall_const, implies_true, cond_true, cond_false, AV.ren, AC.ren, AV.cl, AC.cl, eq_self, List.all_cons, List.all_nil, AV.eqv, AC.eqv, eqvl, eqvt, Sl.eqv, List.map_append, List.length_map, List.length_append, List.length_replicate, List.length_set, List.map_replicate, nilVC, fl_25_0, sz_22, fl_25_1, sz_23, fl_25_2, c_laws_markIntSS, c_laws_markIntS, hM, hi0, hk0, hf0, ham, hs, nestK_def, hn4, hne1, p1', hr1, hM1, hQ1, hF1, hi1, hk1, hf1, hn1, hn2, hne3, p3', hr3, hM3, hQ3, hF3, hi3, hk3, hf3, hn5, hn6]
      repeat' (first | with_reducible refine And.intro ?_ ?_ | intro _)
      all_goals try first | assumption | omega | rfl | (simp; done)
      refine end_ret ?_
      simp only [↓WP, ↓grdD, ↓grdT, ↓un_dead, ↓binVC, ↓buildVC, ↓sliceVC, WQ, WN, Int.reduceToNat, renl, cll, rent, clt, ↓reduceIte, Nat.reduceLeDiff, Nat.reduceEqDiff, Nat.reduceLT, reduceCtorEq, List.append_nil, Nat.reduceAdd, Nat.reduceSub, Nat.reduceBEq, forall_const, implies_true, cond_true, cond_false, AV.ren, AC.ren, AV.cl, AC.cl, eq_self, List.all_cons, List.all_nil, AV.eqv, AC.eqv, eqvl, eqvt, Sl.eqv, List.map_append, List.length_map, List.length_append, List.length_replicate, List.length_set, List.map_replicate, nilVC, fl_25_0, sz_22, fl_25_1, sz_23, fl_25_2, c_laws_markIntSS, c_laws_markIntS]
      refine ⟨(), [], [], ?_⟩
      simp only [WL, WNL, swA_new, swA_ne, nest_sw_ne, mapLL, List.mem_cons, Nat.reduceAdd, Nat.reduceLT, Nat.reduceLeDiff, Nat.reduceEqDiff, okU, List.nodup_cons, List.not_mem_nil, toT, toL, toO, keysO, renl, rent, cll, clt, eq_self, AV.eqv, AC.eqv, eqvl, eqvt, Sl.eqv, rowsLe, mapLL, rowsCl, List.map_append, List.length_map, List.length_append, List.length_set, List.map_replicate, rowG, List.getElem?_cons_zero, List.getElem?_cons_succ, List.getElem?_nil, List.append_nil, List.nil_append, List.cons_append, ghosts, St.gh, Option.some.injEq, implies_true, setT, AV.ren, AC.ren, AV.cl, AC.cl, List.replicate_succ, List.replicate_zero, List.nodup_nil, List.length_nil, List.length_cons, List.getD_cons_zero, List.getD_cons_succ, ↓reduceIte, retP, hn4, hne1, p1', hr1, hM1, hQ1, hF1, hi1, hk1, hf1, hn1, hn2, hne3, p3', hr3, hM3, hQ3, hF3, hi3, hk3, hf3, hn5, hn6, hM]
      simp [okU, rowsLe_self, hM, hQ1, hQ3]
end Go.Eng.T
