/- cow: CowFree as the reference does it. -/
import Derived.Test.YtjdppjomhkbljaaFn18
set_option linter.unusedVariables false
set_option linter.unusedSimpArgs false
set_option linter.unusedSectionVars false
namespace Go.Eng
open Cel (enc dec)
/-- how often each frame is named, some of it taken away -/
def dref (L K : List Int) : List Int := (List.range 12).map fun i : Nat => ((L.count (i : Int) : Nat) : Int) - ((K.count (i : Int) : Nat) : Int)
theorem dref_len (L K : List Int) : (dref L K).length = 12 := by simp [dref]
theorem dref_get (L K : List Int) {i : Nat} (h : i < 12) : (dref L K).getD i default = ((L.count (i : Int) : Nat) : Int) - ((K.count (i : Int) : Nat) : Int) := by
  rw [getD_of_lt (by rw [dref_len]; exact h)]; simp [dref]
theorem dref_nil (L : List Int) : dref L [] = refs L := by simp [dref, refs]
theorem dref_step (L K : List Int) {f : Int} (h0 : 0 ≤ f) (h1 : f ≤ 11) : (dref L K).set f.toNat ((dref L K).getD f.toNat default - 1) = dref L (K ++ [f]) := by
  refine List.ext_getElem (by simp [dref_len]) fun k hk hk' => ?_
  have hk2 : k < 12 := by simpa [dref_len] using hk
  have hg := dref_get L K (i := f.toNat) (by omega)
  have e1 : ∀ K : List Int, ∀ h, (dref L K)[k]'h = ((L.count (k : Int) : Nat) : Int) - ((K.count (k : Int) : Nat) : Int) := fun K h => by simp [dref]
  simp only [List.getElem_set, e1, hg, List.count_append]
  by_cases e : f.toNat = k
  · subst e
    rw [if_pos rfl, List.count_singleton]
    have : ((f.toNat : Nat) : Int) = f := by omega
    simp [this]; omega
  · rw [if_neg e, List.count_singleton]
    have : (f == (k : Int)) = false := by simp; omega
    simp [this]
theorem dref_end {Z : List (List Int)} {b : Nat} (hb : b < Z.length) : dref Z.flatten (Z.getD b default) = refs (Z.set b []).flatten := by
  unfold dref refs
  refine List.map_congr_left fun i _ => ?_
  rw [set_flat hb, get_flat hb]
  simp only [List.count_append, List.count_nil]
  omega
theorem dref_pos {Z : List (List Int)} {b j : Nat} (hb : b < Z.length) (hj : j < (Z.getD b default).length) : ((((Z.getD b default).take j).count ((Z.getD b default).getD j default) : Nat) : Int) < ((Z.flatten.count ((Z.getD b default).getD j default) : Nat) : Int) := by
  have h1 : (Z.flatten).count ((Z.getD b default).getD j default) = _ := congrArg (List.count _) (get_flat hb)
  rw [h1]
  have h2 := congrArg (List.count ((Z.getD b default).getD j default)) (List.take_append_drop (j + 1) (Z.getD b default))
  rw [List.count_append, take_step _ j default hj, List.count_append, List.count_singleton_self] at h2
  simp only [List.count_append]
  omega
theorem zr4_of {w : List Int} (h : w.length = 4) (h0 : ∀ x ∈ w, x = 0) : w = zr4 := by
  refine List.ext_getElem (by rw [h]; rfl) fun i hi hi' => ?_
  rw [h0 _ (List.getElem_mem hi)]
  exact (List.getElem_replicate (a := (0 : Int)) (n := 4) (i := i) hi').symm
theorem clr_self {R : List Int} {X : List (List Int)} (hl : X.length = 12) (h : ∀ k, k < 12 → frOk (X.getD k default) (R.getD k default)) : clr R X = X := by
  refine List.ext_getElem (by rw [clr_len, hl]) fun i hi hi' => ?_
  simp only [clr, List.getElem_map, List.getElem_range]
  obtain ⟨h1, h2, h3⟩ := h i (by omega)
  split
  · rename_i h0
    rw [getD_of_lt hi'] at h1 h3
    exact (zr4_of h1 (h3 h0)).symm
  · rw [getD_of_lt hi']
theorem clr_hit {D : List Int} {X : List (List Int)} {f : Nat} {v : Int} (hl : D.length = 12) (hf : f < 12) (h : (D.set f v).getD f default = 0) : (clr D X).set f zr4 = clr (D.set f v) X := by
  refine List.ext_getElem (by simp [clr]) fun k hk hk' => ?_
  rw [List.getElem_set]
  simp only [clr, List.getElem_map, List.getElem_range]
  by_cases e : f = k
  · subst e; rw [if_pos rfl, if_pos h]
  · rw [if_neg e, getD_set_ne e]
theorem clr_miss {D : List Int} {X : List (List Int)} {f : Nat} {v : Int} (hl : D.length = 12) (hf : f < 12) (h : ¬ (D.set f v).getD f default = 0) (h0 : ¬ D.getD f default = 0) : clr D X = clr (D.set f v) X := by
  refine List.map_congr_left fun k _ => ?_
  by_cases e : f = k
  · subst e; rw [if_neg h0, if_neg h]
  · rw [getD_set_ne e]
end Go.Eng
namespace Go.Eng.T
open Go.Proofs
open Cel (enc dec)
set_option maxRecDepth 100000
set_option maxHeartbeats 4000000
def c_spec_CowFree : Contract := ⟨28, fun args M => match args with
  | [.agg [.sl a1 n1 _, .sl a2 n2 c2, .sl a3 n3 _], .c (.int .i64 s)] => .eff ((Row2Ok Int a1 n1 M ∧ RowOk Int a2 n2 (M a2.r) ∧ Row2Ok Int a3 n3 M) ∧ n2 ≤ c2) (Nat × List (Nat × List Int) × Nat × Nat × List (Nat × List Int)) (fun p => CowC (freeO (row2 Int a1 n1 M) (row Int a2 n2 (M a2.r)) (row2 Int a3 n3 M) s).1.1 (freeO (row2 Int a1 n1 M) (row Int a2 n2 (M a2.r)) (row2 Int a3 n3 M) s).1.2.1 (freeO (row2 Int a1 n1 M) (row Int a2 n2 (M a2.r)) (row2 Int a3 n3 M) s).1.2.2 p) (fun p => .tup [(true, [.sl ⟨.loc 0, 0, 0, 0⟩ (freeO (row2 Int a1 n1 M) (row Int a2 n2 (M a2.r)) (row2 Int a3 n3 M) s).1.1.length p.1, .sl ⟨.loc 2, 0, 0, 0⟩ (freeO (row2 Int a1 n1 M) (row Int a2 n2 (M a2.r)) (row2 Int a3 n3 M) s).1.2.1.length p.2.2.1, .sl ⟨.loc 3, 0, 0, 0⟩ (freeO (row2 Int a1 n1 M) (row Int a2 n2 (M a2.r)) (row2 Int a3 n3 M) s).1.2.2.length p.2.2.2.1]), (false, [.bool (freeO (row2 Int a1 n1 M) (row Int a2 n2 (M a2.r)) (row2 Int a3 n3 M) s).2])]) (fun p => [.rows true 23 1 [(p.1, nestC (.loc 1) p.2.1)], .rows true 3 1 (mems p.2.1), rowG true 3 p.2.2.1 (freeO (row2 Int a1 n1 M) (row Int a2 n2 (M a2.r)) (row2 Int a3 n3 M) s).1.2.1, .rows true 23 1 [(p.2.2.2.1, nestC (.loc 4) p.2.2.2.2)], .rows true 3 1 (mems p.2.2.2.2)]) (fun _ => [])
  | _ => .bad⟩
theorem ok_spec_CowFree : fnP Try.prog c_spec_CowFree.f = true ∧ ∀ args M, (c_spec_CowFree.sp args M).OK Try.prog c_spec_CowFree.f args M := by
  refine ⟨fp_28, fun args M => ?_⟩
  unfold c_spec_CowFree
  dsimp only
  split
  case h_2 => trivial
  rename_i a1 n1 c1 a2 n2 c2 a3 n3 c3 s
  rintro ⟨⟨h1, h2, h3⟩, hc2⟩
  obtain ⟨s1, X, hX, rfl, t1⟩ := h1.x
  obtain ⟨s2, R, hR, rfl, t2⟩ := h2.x
  obtain ⟨s3, Z, hZ, rfl, t3⟩ := h3.x
  rw [hX, hR, hZ]
  refine goInX hf_28 rfl (nt := 71) rfl (rs := [.cell 4 25, .tmp 5]) rfl (C := [c_spec_CowOk, c_spec_l29Copy, c_spec_l29Space]) ⟨(by first | exact .inl ok_spec_CowOk | exact ok_spec_CowOk), (by first | exact .inl ok_spec_l29Copy | exact ok_spec_l29Copy), (by first | exact .inl ok_spec_l29Space | exact ok_spec_l29Space), trivial⟩ (q := fun f => [].contains f) ⟨fun h => absurd h (by decide), fun h => absurd h (by decide), fun h => absurd h (by decide), trivial⟩ mixed (O := ots [(12, otl [0, 1, 2, 3, 4, 5, 6, 7, 8, 9, 10] .nil), (14, otl [0, 1, 2, 3, 4, 5] .nil)]) (by kernel_rfl) ?_
  by_cases hok : cowOk X R Z
  · have hok' := hok
    obtain ⟨⟨l1, l2, l3⟩, k1, k2, k3⟩ := hok'
    by_cases hs : 0 ≤ s ∧ s ≤ 3
    · simp only [↓WP, ↓grdD, ↓grdT, ↓un_dead, ↓binVC, ↓buildVC, ↓sliceVC, WQ, WN, Int.reduceToNat, renl, cll, rent, clt, ↓reduceIte, Nat.reduceLeDiff, Nat.reduceEqDiff, Nat.reduceLT, reduceCtorEq, List.append_nil, Nat.reduceAdd, Nat.reduceSub, Nat.reduceBEq, forall_const, implies_true, cond_true, cond_false, AV.ren, AC.ren, AV.cl, AC.cl, eq_self, List.all_cons, List.all_nil, AV.eqv, AC.eqv, eqvl, eqvt, Sl.eqv, List.map_append, List.length_map, List.length_append, List.length_replicate, List.length_set, List.map_replicate, nilVC, zr_25, sz_25, fs_25, fl_25_2, sz_22, el_22, sz_23, sd_23, el_23, zr_3, sz_3, fl_25_1, fl_25_0, c_spec_CowOk, c_spec_l29Copy, c_spec_l29Space, Row2Ok_upE h1, row2_upE h1, hX, Row2Ok_upE h3, row2_upE h3, hZ, hR, decide_eq_true hok, decide_eq_true hs]
      refine ⟨h2, ⟨h2, l2⟩, fun p hp => ?_⟩
      obtain ⟨pF, F, pR, pZ, G⟩ := p
      obtain ⟨⟨u1, hF, hFo⟩, u2, u3, u4, u5, u6, hG, hGo⟩ := hp
      dsimp only at u1 hF hFo u2 u3 u4 u5 u6 hG hGo
      have hGl : G.length = Z.length := by rw [← hG]; simp
      have hFl : F.length = X.length := by rw [← hF]; simp
      have hsl : s.toNat < Z.length := by omega
      obtain ⟨gc, w1, w2, w3, w4, w5⟩ := fam_at hG hGo hsl
      obtain ⟨Y, hY⟩ : ∃ Y, Z.getD s.toNat default = Y := ⟨_, rfl⟩
      by_cases hmay : (Z.getD s.toNat default).length ≠ 0
      · have hO : freeO X R Z s = ((clr (refs (Z.set s.toNat []).flatten) X, refs (Z.set s.toNat []).flatten, Z.set s.toNat []), true) := by rw [freeO, if_pos hok, if_pos ⟨hs, hmay⟩]
        have hend := dref_end hsl
        have hpos := fun j => dref_pos (j := j) hsl
        have hsp := k1 s.toNat (by omega)
        have hZf : Z.flatten.length ≤ 16 := by
          have := (sp_all (Z := Z) fun k hk => k1 k (by omega)).2
          rw [← flat_len] at this
          omega
        rw [hO, ← hend]
        rw [hY] at w1 w2 w3 w5 hmay hsp hpos ⊢
        have hcd : decide ((Y.length : Int) = 0) = false := by simp only [decide_eq_false_iff_not]; omega
        simp only [↓WP, ↓grdD, ↓grdT, ↓un_dead, ↓binVC, ↓buildVC, ↓sliceVC, WQ, WN, Int.reduceToNat, renl, cll, rent, clt, ↓reduceIte, Nat.reduceLeDiff, Nat.reduceEqDiff, Nat.reduceLT, reduceCtorEq, List.append_nil, Nat.reduceAdd, Nat.reduceSub, Nat.reduceBEq, forall_const, implies_true, cond_true, cond_false, AV.ren, AC.ren, AV.cl, AC.cl, eq_self, List.all_cons, List.all_nil, AV.eqv, AC.eqv, eqvl, eqvt, Sl.eqv, List.map_append, List.length_map, List.length_append, List.length_replicate, List.length_set, List.map_replicate, nilVC, zr_25, sz_25, fs_25, fl_25_2, sz_22, el_22, sz_23, sd_23, el_23, zr_3, sz_3, fl_25_1, fl_25_0, c_spec_CowOk, c_spec_l29Copy, c_spec_l29Space, hcd, w1, w5, u6, hGl]
        repeat' (first | with_reducible refine And.intro ?_ ?_ | intro _)
        all_goals try omega
        have hnr : List.map (renl [0, 1, 2, 3, 4, 5, 6, 7]) ((nestC (.loc 6) G).set s.toNat [AC.sl ⟨.nil, 0, 0, 0⟩ 0 0]) = (nestC (.loc 6) G).set s.toNat [AC.sl ⟨.nil, 0, 0, 0⟩ 0 0] := by rw [List.map_set, nest_ren]; rfl
        have hncl : allCl 8 ((nestC (.loc 6) G).set s.toNat [AC.sl ⟨.nil, 0, 0, 0⟩ 0 0]) = True := eq_true (allCl_set (of_eq_true (nest_cl (show 6 < 8 by omega))) ⟨.inl rfl, trivial⟩)
        refine loopI (J := {q : Nat × List (Nat × List Int) // q.1 ≤ Y.length ∧ q.2.map (·.2) = clr (dref Z.flatten (Y.take q.1)) X ∧ famOk q.2}) (fun q => ⟨slots 71 [(4, .c (.ptr ⟨.loc 1, 0, 0, 0⟩)), (6, .c (.ptr ⟨.loc 7, 0, 0, 0⟩)), (7, .c (.sl ⟨.loc 6, s.toNat, 0, 0⟩ Y.length gc)), (8, I q.1.1)], M, [], [.box 25 [.sl a1.up X.length c1, .sl a2.up R.length c2, .sl a3.up Z.length c3], .box 25 [.sl ⟨.nil, 0, 0, 0⟩ 0 0, .sl ⟨.nil, 0, 0, 0⟩ 0 0, .sl ⟨.nil, 0, 0, 0⟩ 0 0], .rows true 23 1 [(pF, nestC (.loc 3) q.1.2)], .rows true 3 1 (mems q.1.2), .rows true 3 1 [(pR, List.map enc (dref Z.flatten (Y.take q.1.1)))], .rows true 23 1 [(pZ, (nestC (.loc 6) G).set s.toNat [.sl ⟨.nil, 0, 0, 0⟩ 0 0])], .rows true 3 1 (mems G), .box 25 [.sl ⟨.loc 2, 0, 0, 0⟩ X.length pF, .sl ⟨.loc 4, 0, 0, 0⟩ R.length pR, .sl ⟨.loc 5, 0, 0, 0⟩ Z.length pZ]]⟩) (fun q => Y.length - q.1.1) ⟨(0, F), by omega, by rw [hF, List.take_zero, dref_nil, ← k3]; exact (clr_self l1 k2).symm, hFo⟩ (Le_intro [0, 1, 2, 3, 4, 5, 6, 7] (by simp only [WL, WNL, swA_new, swA_ne, nest_sw_ne, mapLL, List.mem_cons, Nat.reduceAdd, Nat.reduceLT, Nat.reduceLeDiff, Nat.reduceEqDiff, okU, List.nodup_cons, List.not_mem_nil, toT, toL, toO, keysO, renl, rent, cll, clt, eq_self, AV.eqv, AC.eqv, eqvl, eqvt, Sl.eqv, rowsLe, mapLL, rowsCl, List.map_append, List.length_map, List.length_append, List.length_set, List.map_replicate, rowG, List.getElem?_cons_zero, List.getElem?_cons_succ, List.getElem?_nil, List.append_nil, List.nil_append, List.cons_append, ghosts, St.gh, Option.some.injEq, implies_true, setT, AV.ren, AC.ren, AV.cl, AC.cl, List.replicate_succ, List.replicate_zero, List.nodup_nil, List.length_nil, List.length_cons, List.getD_cons_zero, List.getD_cons_succ, ↓reduceIte, List.take_zero, dref_nil, ← k3, hnr, hncl]; try simp [rowsLe_self])) ?_
        rintro ⟨⟨j, F2⟩, hj, hF2, hFo2⟩
        dsimp only at hj hF2 hFo2
        have hwj := wS (i := j) (by omega)
        have hF2l : F2.length = 12 := by have := congrArg List.length hF2; simpa [clr_len] using this
        rcases Nat.lt_or_ge j Y.length with hjlt | hjge
        · obtain ⟨y0, y1⟩ := hsp.2 _ (getD_mem hjlt)
          obtain ⟨f, hf⟩ : ∃ f : Nat, Y.getD j default = f := ⟨(Y.getD j default).toNat, by omega⟩
          obtain ⟨D, hD⟩ : ∃ D, D = dref Z.flatten (Y.take j) := ⟨_, rfl⟩
          have hDl : D.length = 12 := by rw [hD, dref_len]
          have hst := dref_step Z.flatten (Y.take j) y0 y1
          have hgt := dref_get Z.flatten (Y.take j) (i := (Y.getD j default).toNat) (by omega)
          have hp2 := hpos j hjlt
          rw [← take_step Y j default hjlt, ← hD] at hst
          rw [← hD] at hgt
          rw [hf] at hst hgt hp2 y0 y1
          simp only [Int.toNat_natCast] at hst hgt
          have hct := List.count_le_length (a := (f : Int)) (l := Z.flatten)
          have hgeY : (List.map enc Y).getD j [] = enc (f : Int) := by rw [getD_enc _ _ hjlt, hf]
          have hge1 : (List.map enc D).getD f [] = enc (D.getD f default) := getD_enc _ _ (by omega)
          have hw1 : IntKind.i64.wrap (D.getD f default - 1) = D.getD f default - 1 := w64 (by omega) (by omega)
          obtain ⟨D2, hD2⟩ : ∃ D2, D2 = D.set f (D.getD f default - 1) := ⟨_, rfl⟩
          have hD2l : D2.length = 12 := by rw [hD2, List.length_set, hDl]
          have hme : (List.map enc D).set f [AC.int .i64 (D.getD f default - 1)] = List.map enc D2 := by rw [hD2, List.map_set]; rfl
          have hge2 : (List.map enc D2).getD f [] = enc (D2.getD f default) := getD_enc _ _ (by omega)
          have he4 : [[AC.int .i64 0], [AC.int .i64 0], [AC.int .i64 0], [AC.int .i64 0]] = List.map enc zr4 := rfl
          rw [← hD] at hF2
          have hnsw : List.map (swl 3 f 8) ((nestC (.loc 6) G).set s.toNat [AC.sl ⟨.nil, 0, 0, 0⟩ 0 0]) = (nestC (.loc 6) G).set s.toNat [AC.sl ⟨.nil, 0, 0, 0⟩ 0 0] := by rw [List.map_set, nest_sw_ne (by decide) (by decide)]; rfl
          by_cases hz : D2.getD f default = 0
          · simp only [↓WP, ↓grdD, ↓grdT, ↓un_dead, ↓binVC, ↓buildVC, ↓sliceVC, WQ, WN, Int.reduceToNat, renl, cll, rent, clt, ↓reduceIte, Nat.reduceLeDiff, Nat.reduceEqDiff, Nat.reduceLT, reduceCtorEq, List.append_nil, Nat.reduceAdd, Nat.reduceSub, Nat.reduceBEq, forall_const, implies_true, cond_true, cond_false, AV.ren, AC.ren, AV.cl, AC.cl, eq_self, List.all_cons, List.all_nil, AV.eqv, AC.eqv, eqvl, eqvt, Sl.eqv, List.map_append, List.length_map, List.length_append, List.length_replicate, List.length_set, List.map_replicate, nilVC, zr_25, sz_25, fs_25, fl_25_2, sz_22, el_22, sz_23, sd_23, el_23, zr_3, sz_3, fl_25_1, fl_25_0, c_spec_CowOk, c_spec_l29Copy, c_spec_l29Space, dlt hjlt, hwj, ← hD, w1, hgeY, hge1, hw1, hme, hge2, hDl, hD2l, decide_eq_true hz, he4]
            repeat' (first | with_reducible refine And.intro ?_ ?_ | intro _)
            all_goals try omega
            all_goals try rfl
            all_goals
              refine ⟨⟨(j + 1, F2.set f (4, zr4)), hjlt, by rw [snd_set hF2, ← hst]; exact clr_hit hDl (by omega) (by rw [← hD2]; exact hz), famOk_set hFo2 (by rw [zr4_len]; omega) (by rw [zr4_len]; omega)⟩, Le.trans (Le_swap (j := 3) (j2 := 8) (i0 := f) true 3 1 (mems F2) (by decide) rfl rfl (by rw [mems_len]; omega)) (Le_intro [0, 1, 2, 3, 4, 5, 6, 7] ?_), by show Y.length - (j + 1) < Y.length - j; omega⟩
              simp only [WL, WNL, swA_new, swA_ne, nest_sw_ne, mapLL, List.mem_cons, Nat.reduceAdd, Nat.reduceLT, Nat.reduceLeDiff, Nat.reduceEqDiff, okU, List.nodup_cons, List.not_mem_nil, toT, toL, toO, keysO, renl, rent, cll, clt, eq_self, AV.eqv, AC.eqv, eqvl, eqvt, Sl.eqv, rowsLe, mapLL, rowsCl, List.map_append, List.length_map, List.length_append, List.length_set, List.map_replicate, rowG, List.getElem?_cons_zero, List.getElem?_cons_succ, List.getElem?_nil, List.append_nil, List.nil_append, List.cons_append, ghosts, St.gh, Option.some.injEq, implies_true, setT, AV.ren, AC.ren, AV.cl, AC.cl, List.replicate_succ, List.replicate_zero, List.nodup_nil, List.length_nil, List.length_cons, List.getD_cons_zero, List.getD_cons_succ, ↓reduceIte, nest_sw_set (j := 3) (j2 := 8) (l := 4) (X := zr4) (by decide) rfl, nest_sw_ne (j := 3) (j2 := 8) (q := 6) (by decide) (by decide), ← hst, ← hD2, hnr, hncl, hnsw]
              try simp [rowsLe_self]
          · simp only [↓WP, ↓grdD, ↓grdT, ↓un_dead, ↓binVC, ↓buildVC, ↓sliceVC, WQ, WN, Int.reduceToNat, renl, cll, rent, clt, ↓reduceIte, Nat.reduceLeDiff, Nat.reduceEqDiff, Nat.reduceLT, reduceCtorEq, List.append_nil, Nat.reduceAdd, Nat.reduceSub, Nat.reduceBEq, forall_const, implies_true, cond_true, cond_false, AV.ren, AC.ren, AV.cl, AC.cl, eq_self, List.all_cons, List.all_nil, AV.eqv, AC.eqv, eqvl, eqvt, Sl.eqv, List.map_append, List.length_map, List.length_append, List.length_replicate, List.length_set, List.map_replicate, nilVC, zr_25, sz_25, fs_25, fl_25_2, sz_22, el_22, sz_23, sd_23, el_23, zr_3, sz_3, fl_25_1, fl_25_0, c_spec_CowOk, c_spec_l29Copy, c_spec_l29Space, dlt hjlt, hwj, ← hD, w1, hgeY, hge1, hw1, hme, hge2, hDl, hD2l, decide_eq_false hz]
            repeat refine ⟨by omega, ?_⟩
            exact ⟨⟨(j + 1, F2), hjlt, by rw [hF2, ← hst]; exact clr_miss hDl (by omega) (by rw [← hD2]; exact hz) (by omega), hFo2⟩, Le_intro [0, 1, 2, 3, 4, 5, 6, 7] (by simp only [WL, WNL, swA_new, swA_ne, nest_sw_ne, mapLL, List.mem_cons, Nat.reduceAdd, Nat.reduceLT, Nat.reduceLeDiff, Nat.reduceEqDiff, okU, List.nodup_cons, List.not_mem_nil, toT, toL, toO, keysO, renl, rent, cll, clt, eq_self, AV.eqv, AC.eqv, eqvl, eqvt, Sl.eqv, rowsLe, mapLL, rowsCl, List.map_append, List.length_map, List.length_append, List.length_set, List.map_replicate, rowG, List.getElem?_cons_zero, List.getElem?_cons_succ, List.getElem?_nil, List.append_nil, List.nil_append, List.cons_append, ghosts, St.gh, Option.some.injEq, implies_true, setT, AV.ren, AC.ren, AV.cl, AC.cl, List.replicate_succ, List.replicate_zero, List.nodup_nil, List.length_nil, List.length_cons, List.getD_cons_zero, List.getD_cons_succ, ↓reduceIte, ← hst, ← hD2, hnr, hncl]; try simp [rowsLe_self]), by show Y.length - (j + 1) < Y.length - j; omega⟩
        · obtain rfl : j = Y.length := by omega
          rw [List.take_length] at hF2
          simp only [↓WP, ↓grdD, ↓grdT, ↓un_dead, ↓binVC, ↓buildVC, ↓sliceVC, WQ, WN, Int.reduceToNat, renl, cll, rent, clt, ↓reduceIte, Nat.reduceLeDiff, Nat.reduceEqDiff, Nat.reduceLT, reduceCtorEq, List.append_nil, Nat.reduceAdd, Nat.reduceSub, Nat.reduceBEq, forall_const, implies_true, cond_true, cond_false, AV.ren, AC.ren, AV.cl, AC.cl, eq_self, List.all_cons, List.all_nil, AV.eqv, AC.eqv, eqvl, eqvt, Sl.eqv, List.map_append, List.length_map, List.length_append, List.length_replicate, List.length_set, List.map_replicate, nilVC, zr_25, sz_25, fs_25, fl_25_2, sz_22, el_22, sz_23, sd_23, el_23, zr_3, sz_3, fl_25_1, fl_25_0, c_spec_CowOk, c_spec_l29Copy, c_spec_l29Space, dge hjge, hwj, List.take_length]
          refine endX_ret ?_
          simp only [↓WP, ↓grdD, ↓grdT, ↓un_dead, ↓binVC, ↓buildVC, ↓sliceVC, WQ, WN, Int.reduceToNat, renl, cll, rent, clt, ↓reduceIte, Nat.reduceLeDiff, Nat.reduceEqDiff, Nat.reduceLT, reduceCtorEq, List.append_nil, Nat.reduceAdd, Nat.reduceSub, Nat.reduceBEq, forall_const, implies_true, cond_true, cond_false, AV.ren, AC.ren, AV.cl, AC.cl, eq_self, List.all_cons, List.all_nil, AV.eqv, AC.eqv, eqvl, eqvt, Sl.eqv, List.map_append, List.length_map, List.length_append, List.length_replicate, List.length_set, List.map_replicate, nilVC, zr_25, sz_25, fs_25, fl_25_2, sz_22, el_22, sz_23, sd_23, el_23, zr_3, sz_3, fl_25_1, fl_25_0, c_spec_CowOk, c_spec_l29Copy, c_spec_l29Space]
          refine ⟨_, _, LeV.trans (LeV_fam 3 1 1) (LeV.trans (LeV_eqv (j := 5) true 23 1 ((nestC (.loc 6) G).set s.toNat [.sl ⟨.loc 8, 0, 0, 0⟩ 0 0]) rfl (eqvL_set ⟨⟨rfl, rfl, .inl rfl⟩, trivial⟩)) (LeV_swap (j := 6) (j2 := 8) (i0 := s.toNat) true 3 1 (mems G) (by decide) rfl rfl (by rw [mems_len]; exact w4))), (pF, F2, pR, pZ, G.set s.toNat (0, [])), [], [2, 3, 4, 5, 6], ?_⟩
          have hm0 : (mems G).set s.toNat (0, []) = mems (G.set s.toNat (0, [])) := mems_set (X := [])
          simp only [WL, WNL, swA_new, swA_ne, nest_sw_ne, mapLL, List.mem_cons, Nat.reduceAdd, Nat.reduceLT, Nat.reduceLeDiff, Nat.reduceEqDiff, okU, List.nodup_cons, List.not_mem_nil, toT, toL, toO, keysO, renl, rent, cll, clt, eq_self, AV.eqv, AC.eqv, eqvl, eqvt, Sl.eqv, rowsLe, mapLL, rowsCl, List.map_append, List.length_map, List.length_append, List.length_set, List.map_replicate, rowG, List.getElem?_cons_zero, List.getElem?_cons_succ, List.getElem?_nil, List.append_nil, List.nil_append, List.cons_append, ghosts, St.gh, Option.some.injEq, implies_true, setT, AV.ren, AC.ren, AV.cl, AC.cl, List.replicate_succ, List.replicate_zero, List.nodup_nil, List.length_nil, List.length_cons, List.getD_cons_zero, List.getD_cons_succ, ↓reduceIte, retP, nest_sw_set (j := 6) (j2 := 8) (F := G) (i0 := s.toNat) (l := 0) (c := 0) (X := []) (by decide) rfl, nest_sw_ne (j := 6) (j2 := 8) (q := 3) (by decide) (by decide), hm0, mems_sw, dref_len, clr_len]
          simp [CowC, hm0, mems_sw, rowsLe_self, u1, show 12 ≤ pF by omega, show 12 ≤ pR by omega, l1, l2, hF2, hFo2, clr_len, dref_len, u3, u5, u6, snd_set hG, famOk_set hGo (c := 0) (Y := []) (i := s.toNat) (Nat.zero_le _) (Nat.le_refl _)]
      · have hO : freeO X R Z s = ((X, R, Z), false) := by rw [freeO, if_pos hok, if_neg fun h => hmay h.2]
        rw [hO]
        rw [hY] at w1 w2 w3 w5 hmay
        have hcd : decide ((Y.length : Int) = 0) = true := by simp only [decide_eq_true_iff]; omega
        simp only [↓WP, ↓grdD, ↓grdT, ↓un_dead, ↓binVC, ↓buildVC, ↓sliceVC, WQ, WN, Int.reduceToNat, renl, cll, rent, clt, ↓reduceIte, Nat.reduceLeDiff, Nat.reduceEqDiff, Nat.reduceLT, reduceCtorEq, List.append_nil, Nat.reduceAdd, Nat.reduceSub, Nat.reduceBEq, forall_const, implies_true, cond_true, cond_false, AV.ren, AC.ren, AV.cl, AC.cl, eq_self, List.all_cons, List.all_nil, AV.eqv, AC.eqv, eqvl, eqvt, Sl.eqv, List.map_append, List.length_map, List.length_append, List.length_replicate, List.length_set, List.map_replicate, nilVC, zr_25, sz_25, fs_25, fl_25_2, sz_22, el_22, sz_23, sd_23, el_23, zr_3, sz_3, fl_25_1, fl_25_0, c_spec_CowOk, c_spec_l29Copy, c_spec_l29Space, hcd, w1, w5, u6, hGl]
        repeat' (first | with_reducible refine And.intro ?_ ?_ | intro _)
        all_goals try omega
        refine endX_ret ?_
        simp only [↓WP, ↓grdD, ↓grdT, ↓un_dead, ↓binVC, ↓buildVC, ↓sliceVC, WQ, WN, Int.reduceToNat, renl, cll, rent, clt, ↓reduceIte, Nat.reduceLeDiff, Nat.reduceEqDiff, Nat.reduceLT, reduceCtorEq, List.append_nil, Nat.reduceAdd, Nat.reduceSub, Nat.reduceBEq, forall_const, implies_true, cond_true, cond_false, AV.ren, AC.ren, AV.cl, AC.cl, eq_self, List.all_cons, List.all_nil, AV.eqv, AC.eqv, eqvl, eqvt, Sl.eqv, List.map_append, List.length_map, List.length_append, List.length_replicate, List.length_set, List.map_replicate, nilVC, zr_25, sz_25, fs_25, fl_25_2, sz_22, el_22, sz_23, sd_23, el_23, zr_3, sz_3, fl_25_1, fl_25_0, c_spec_CowOk, c_spec_l29Copy, c_spec_l29Space]
        refine ⟨_, _, LeV.refl _ _, (pF, F, pR, pZ, G), [], [2, 3, 4, 5, 6], ?_⟩
        simp only [WL, WNL, swA_new, swA_ne, nest_sw_ne, mapLL, List.mem_cons, Nat.reduceAdd, Nat.reduceLT, Nat.reduceLeDiff, Nat.reduceEqDiff, okU, List.nodup_cons, List.not_mem_nil, toT, toL, toO, keysO, renl, rent, cll, clt, eq_self, AV.eqv, AC.eqv, eqvl, eqvt, Sl.eqv, rowsLe, mapLL, rowsCl, List.map_append, List.length_map, List.length_append, List.length_set, List.map_replicate, rowG, List.getElem?_cons_zero, List.getElem?_cons_succ, List.getElem?_nil, List.append_nil, List.nil_append, List.cons_append, ghosts, St.gh, Option.some.injEq, implies_true, setT, AV.ren, AC.ren, AV.cl, AC.cl, List.replicate_succ, List.replicate_zero, List.nodup_nil, List.length_nil, List.length_cons, List.getD_cons_zero, List.getD_cons_succ, ↓reduceIte, retP]
        simp [CowC, u1, hF, hFo, u2, u3, u4, u5, u6, hG, hGo, rowsLe_self]
    · have hO : freeO X R Z s = ((X, R, Z), false) := by rw [freeO, if_pos hok, if_neg fun h => hs h.1]
      rw [hO]
      simp only [↓WP, ↓grdD, ↓grdT, ↓un_dead, ↓binVC, ↓buildVC, ↓sliceVC, WQ, WN, Int.reduceToNat, renl, cll, rent, clt, ↓reduceIte, Nat.reduceLeDiff, Nat.reduceEqDiff, Nat.reduceLT, reduceCtorEq, List.append_nil, Nat.reduceAdd, Nat.reduceSub, Nat.reduceBEq, forall_const, implies_true, cond_true, cond_false, AV.ren, AC.ren, AV.cl, AC.cl, eq_self, List.all_cons, List.all_nil, AV.eqv, AC.eqv, eqvl, eqvt, Sl.eqv, List.map_append, List.length_map, List.length_append, List.length_replicate, List.length_set, List.map_replicate, nilVC, zr_25, sz_25, fs_25, fl_25_2, sz_22, el_22, sz_23, sd_23, el_23, zr_3, sz_3, fl_25_1, fl_25_0, c_spec_CowOk, c_spec_l29Copy, c_spec_l29Space, Row2Ok_upE h1, row2_upE h1, hX, Row2Ok_upE h3, row2_upE h3, hZ, hR, decide_eq_true hok, decide_eq_false hs]
      refine ⟨h2, ⟨h2, l2⟩, fun p hp => ?_⟩
      obtain ⟨pF, F, pR, pZ, G⟩ := p
      obtain ⟨⟨u1, hF, hFo⟩, u2, u3, u4, u5, u6, hG, hGo⟩ := hp
      dsimp only at u1 hF hFo u2 u3 u4 u5 u6 hG hGo
      have hGl : G.length = Z.length := by rw [← hG]; simp
      have hFl : F.length = X.length := by rw [← hF]; simp
      obtain ⟨x, hx⟩ : ∃ x, ((nestC (.loc 6) G).getD s.toNat []).getD 0 dfl = x := ⟨_, rfl⟩
      simp only [↓WP, ↓grdD, ↓grdT, ↓un_dead, ↓binVC, ↓buildVC, ↓sliceVC, WQ, WN, Int.reduceToNat, renl, cll, rent, clt, ↓reduceIte, Nat.reduceLeDiff, Nat.reduceEqDiff, Nat.reduceLT, reduceCtorEq, List.append_nil, Nat.reduceAdd, Nat.reduceSub, Nat.reduceBEq, forall_const, implies_true, cond_true, cond_false, AV.ren, AC.ren, AV.cl, AC.cl, eq_self, List.all_cons, List.all_nil, AV.eqv, AC.eqv, eqvl, eqvt, Sl.eqv, List.map_append, List.length_map, List.length_append, List.length_replicate, List.length_set, List.map_replicate, nilVC, zr_25, sz_25, fs_25, fl_25_2, sz_22, el_22, sz_23, sd_23, el_23, zr_3, sz_3, fl_25_1, fl_25_0, c_spec_CowOk, c_spec_l29Copy, c_spec_l29Space, hx]
      refine len_dead sd_23 fun n => ?_
      simp only [↓WP, ↓grdD, ↓grdT, ↓un_dead, ↓binVC, ↓buildVC, ↓sliceVC, WQ, WN, Int.reduceToNat, renl, cll, rent, clt, ↓reduceIte, Nat.reduceLeDiff, Nat.reduceEqDiff, Nat.reduceLT, reduceCtorEq, List.append_nil, Nat.reduceAdd, Nat.reduceSub, Nat.reduceBEq, forall_const, implies_true, cond_true, cond_false, AV.ren, AC.ren, AV.cl, AC.cl, eq_self, List.all_cons, List.all_nil, AV.eqv, AC.eqv, eqvl, eqvt, Sl.eqv, List.map_append, List.length_map, List.length_append, List.length_replicate, List.length_set, List.map_replicate, nilVC, zr_25, sz_25, fs_25, fl_25_2, sz_22, el_22, sz_23, sd_23, el_23, zr_3, sz_3, fl_25_1, fl_25_0, c_spec_CowOk, c_spec_l29Copy, c_spec_l29Space]
      refine endX_ret ?_
      simp only [↓WP, ↓grdD, ↓grdT, ↓un_dead, ↓binVC, ↓buildVC, ↓sliceVC, WQ, WN, Int.reduceToNat, renl, cll, rent, clt, ↓reduceIte, Nat.reduceLeDiff, Nat.reduceEqDiff, Nat.reduceLT, reduceCtorEq, List.append_nil, Nat.reduceAdd, Nat.reduceSub, Nat.reduceBEq, forall_const, implies_true, cond_true, cond_false, AV.ren, AC.ren, AV.cl, AC.cl, eq_self, List.all_cons, List.all_nil, AV.eqv, AC.eqv, eqvl, eqvt, Sl.eqv, List.map_append, List.length_map, List.length_append, List.length_replicate, List.length_set, List.map_replicate, nilVC, zr_25, sz_25, fs_25, fl_25_2, sz_22, el_22, sz_23, sd_23, el_23, zr_3, sz_3, fl_25_1, fl_25_0, c_spec_CowOk, c_spec_l29Copy, c_spec_l29Space]
      refine ⟨_, _, LeV.refl _ _, (pF, F, pR, pZ, G), [], [2, 3, 4, 5, 6], ?_⟩
      simp only [WL, WNL, swA_new, swA_ne, nest_sw_ne, mapLL, List.mem_cons, Nat.reduceAdd, Nat.reduceLT, Nat.reduceLeDiff, Nat.reduceEqDiff, okU, List.nodup_cons, List.not_mem_nil, toT, toL, toO, keysO, renl, rent, cll, clt, eq_self, AV.eqv, AC.eqv, eqvl, eqvt, Sl.eqv, rowsLe, mapLL, rowsCl, List.map_append, List.length_map, List.length_append, List.length_set, List.map_replicate, rowG, List.getElem?_cons_zero, List.getElem?_cons_succ, List.getElem?_nil, List.append_nil, List.nil_append, List.cons_append, ghosts, St.gh, Option.some.injEq, implies_true, setT, AV.ren, AC.ren, AV.cl, AC.cl, List.replicate_succ, List.replicate_zero, List.nodup_nil, List.length_nil, List.length_cons, List.getD_cons_zero, List.getD_cons_succ, ↓reduceIte, retP]
      simp [CowC, u1, hF, hFo, u2, u3, u4, u5, u6, hG, hGo, rowsLe_self]
  · have hO : freeO X R Z s = (([], [], []), false) := if_neg hok
    rw [hO]
    simp only [↓WP, ↓grdD, ↓grdT, ↓un_dead, ↓binVC, ↓buildVC, ↓sliceVC, WQ, WN, Int.reduceToNat, renl, cll, rent, clt, ↓reduceIte, Nat.reduceLeDiff, Nat.reduceEqDiff, Nat.reduceLT, reduceCtorEq, List.append_nil, Nat.reduceAdd, Nat.reduceSub, Nat.reduceBEq, forall_const, implies_true, cond_true, cond_false, AV.ren, AC.ren, AV.cl, AC.cl, eq_self, List.all_cons, List.all_nil, AV.eqv, AC.eqv, eqvl, eqvt, Sl.eqv, List.map_append, List.length_map, List.length_append, List.length_replicate, List.length_set, List.map_replicate, nilVC, zr_25, sz_25, fs_25, fl_25_2, sz_22, el_22, sz_23, sd_23, el_23, zr_3, sz_3, fl_25_1, fl_25_0, c_spec_CowOk, c_spec_l29Copy, c_spec_l29Space, Row2Ok_upE h1, row2_upE h1, hX, Row2Ok_upE h3, row2_upE h3, hZ, hR, decide_eq_false hok]
    refine ⟨h2, endX_ret ?_⟩
    simp only [↓WP, ↓grdD, ↓grdT, ↓un_dead, ↓binVC, ↓buildVC, ↓sliceVC, WQ, WN, Int.reduceToNat, renl, cll, rent, clt, ↓reduceIte, Nat.reduceLeDiff, Nat.reduceEqDiff, Nat.reduceLT, reduceCtorEq, List.append_nil, Nat.reduceAdd, Nat.reduceSub, Nat.reduceBEq, forall_const, implies_true, cond_true, cond_false, AV.ren, AC.ren, AV.cl, AC.cl, eq_self, List.all_cons, List.all_nil, AV.eqv, AC.eqv, eqvl, eqvt, Sl.eqv, List.map_append, List.length_map, List.length_append, List.length_replicate, List.length_set, List.map_replicate, nilVC, zr_25, sz_25, fs_25, fl_25_2, sz_22, el_22, sz_23, sd_23, el_23, zr_3, sz_3, fl_25_1, fl_25_0, c_spec_CowOk, c_spec_l29Copy, c_spec_l29Space]
    refine ⟨_, _, LeV.refl _ _, (0, [], 0, 0, []), [(23, 1), (3, 1), (3, 1), (23, 1), (3, 1)], [2, 3, 4, 5, 6], ?_⟩
    simp only [WL, WNL, swA_new, swA_ne, nest_sw_ne, mapLL, List.mem_cons, Nat.reduceAdd, Nat.reduceLT, Nat.reduceLeDiff, Nat.reduceEqDiff, okU, List.nodup_cons, List.not_mem_nil, toT, toL, toO, keysO, renl, rent, cll, clt, eq_self, AV.eqv, AC.eqv, eqvl, eqvt, Sl.eqv, rowsLe, mapLL, rowsCl, List.map_append, List.length_map, List.length_append, List.length_set, List.map_replicate, rowG, List.getElem?_cons_zero, List.getElem?_cons_succ, List.getElem?_nil, List.append_nil, List.nil_append, List.cons_append, ghosts, St.gh, Option.some.injEq, implies_true, setT, AV.ren, AC.ren, AV.cl, AC.cl, List.replicate_succ, List.replicate_zero, List.nodup_nil, List.length_nil, List.length_cons, List.getD_cons_zero, List.getD_cons_succ, ↓reduceIte, retP, nest_nil, mems_nil]
    simp [CowC, famOk]
end Go.Eng.T
