/- cow: the law FnCow. -/
import Derived.Test.YtjdppjomhkbljaaFn36
import Derived.Test.YtjdppjomhkbljaaFn37
import Derived.Test.YtjdppjomhkbljaaFn38
import Derived.Test.YtjdppjomhkbljaaFn39
set_option linter.unusedVariables false
set_option linter.unusedSimpArgs false
set_option linter.unusedSectionVars false
namespace Go.Eng.T
open Go.Proofs
open Cel (enc dec)
open Cel (enc dec)
set_option maxRecDepth 100000
set_option maxHeartbeats 8000000
def c_laws_FnCow : Contract := ⟨11, fun args M => match args with
  | [.c (.sl a n _)] => .pure (n ≤ 9223372036854775807 ∧ (n ≤ 4294967296 → RowOk UInt8 a n (M a.r))) (Eng.B true)
  | _ => .bad⟩
theorem ok_laws_FnCow : fnP Try.prog c_laws_FnCow.f = true ∧ ∀ args M, (c_laws_FnCow.sp args M).OK Try.prog c_laws_FnCow.f args M := by
  refine ⟨fp_11, fun args M => ?_⟩
  unfold c_laws_FnCow
  dsimp only
  split
  case h_2 => trivial
  rename_i a n ca
  rintro ⟨hn, h1⟩
  refine goIn hf_11 rfl (nt := 195) rfl (rs := [.tmp 2]) rfl (C := [c_laws_big, c_impl_CowNew, c_laws_at, c_impl_CowGrow, c_impl_CowWrite, c_impl_CowUsed, c_impl_CowFork, c_impl_CowFree, c_spec_CowOk, c_impl_CowOk, c_impl_CowRead]) ⟨(by first | exact .inl ok_laws_big | exact ok_laws_big), (by first | exact .inl ok_impl_CowNew | exact ok_impl_CowNew), (by first | exact .inl ok_laws_at | exact ok_laws_at), (by first | exact .inl ok_impl_CowGrow | exact ok_impl_CowGrow), (by first | exact .inl ok_impl_CowWrite | exact ok_impl_CowWrite), (by first | exact .inl ok_impl_CowUsed | exact ok_impl_CowUsed), (by first | exact .inl ok_impl_CowFork | exact ok_impl_CowFork), (by first | exact .inl ok_impl_CowFree | exact ok_impl_CowFree), (by first | exact .inl ok_spec_CowOk | exact ok_spec_CowOk), (by first | exact .inl ok_impl_CowOk | exact ok_impl_CowOk), (by first | exact .inl ok_impl_CowRead | exact ok_impl_CowRead), trivial⟩ (q := fun _ => false) okQ_none mixed (O := fun _ => .nil) (by kernel_rfl) ?_
  by_cases hs : 1048576 < n
  · simp only [↓WP, ↓grdD, ↓grdT, ↓un_dead, ↓binVC, ↓buildVC, ↓sliceVC, WQ, WN, Int.reduceToNat, renl, cll, rent, clt, ↓reduceIte, Nat.reduceLeDiff, Nat.reduceEqDiff, Nat.reduceLT, reduceCtorEq, List.append_nil, Nat.reduceAdd, Nat.reduceSub, Nat.reduceBEq, forall_const, implies_true, cond_true, cond_false, AV.ren, AC.ren, AV.cl, AC.cl, eq_self, List.all_cons, List.all_nil, AV.eqv, AC.eqv, eqvl, eqvt, Sl.eqv, List.map_append, List.length_map, List.length_append, List.length_replicate, List.length_set, List.map_replicate, nilVC, zr_25, sz_25, el_22, zr_23, el_23, zr_3, sz_23, id_3, sz_3, sd_23, bt_4, c_laws_big, c_impl_CowNew, c_laws_at, c_impl_CowGrow, c_impl_CowWrite, c_impl_CowUsed, c_impl_CowFork, c_impl_CowFree, c_spec_CowOk, c_impl_CowOk, c_impl_CowRead, decide_eq_true hs]
  · have ha := h1 (by omega)
    obtain ⟨L, hL⟩ : ∃ L, L = row UInt8 a n (M a.r) := ⟨_, rfl⟩
    simp only [↓WP, ↓grdD, ↓grdT, ↓un_dead, ↓binVC, ↓buildVC, ↓sliceVC, WQ, WN, Int.reduceToNat, renl, cll, rent, clt, ↓reduceIte, Nat.reduceLeDiff, Nat.reduceEqDiff, Nat.reduceLT, reduceCtorEq, List.append_nil, Nat.reduceAdd, Nat.reduceSub, Nat.reduceBEq, forall_const, implies_true, cond_true, cond_false, AV.ren, AC.ren, AV.cl, AC.cl, eq_self, List.all_cons, List.all_nil, AV.eqv, AC.eqv, eqvl, eqvt, Sl.eqv, List.map_append, List.length_map, List.length_append, List.length_replicate, List.length_set, List.map_replicate, nilVC, zr_25, sz_25, el_22, zr_23, el_23, zr_3, sz_23, id_3, sz_3, sd_23, bt_4, c_laws_big, c_impl_CowNew, c_laws_at, c_impl_CowGrow, c_impl_CowWrite, c_impl_CowUsed, c_impl_CowFork, c_impl_CowFree, c_spec_CowOk, c_impl_CowOk, c_impl_CowRead, decide_eq_false hs, ha]
    intro pc hpc
    refine ⟨⟨by omega, by omega, by omega, by decide⟩, ?_⟩
    have hnF : (newF.map (·.2)).length = 12 := by rw [List.length_map, newF_len]
    have hnZ : (newZ.map (·.2)).length = 4 := by rw [List.length_map, newZ_len]
    have hnR : zr12.length = 12 := rfl
    refine loopI (J := {q : Nat × CowV2 × CowF2 × List (Nat × List Int) // q.1 ≤ 70 ∧ cowOk q.2.1.1 q.2.1.2.1 q.2.1.2.2 ∧ CowC q.2.1.1 q.2.1.2.1 q.2.1.2.2 q.2.2.1 ∧ relW q.2.1.1 q.2.1.2.2 (q.2.2.2.map (·.2)) ∧ famOk q.2.2.2}) (fun q => ⟨slots 195 [(0, .c (.sl a.up n ca)), (3, .c (.ptr ⟨.loc 5, 0, 0, 0⟩)), (4, .c (.sl ⟨.loc 6, 0, 0, 0⟩ 4 4)), (5, I q.1.1)], M, [], [.rows true 23 1 [(q.1.2.2.1.1, nestC (.loc 1) q.1.2.2.1.2.1)], .rows true 3 1 (mems q.1.2.2.1.2.1), rowG true 3 q.1.2.2.1.2.2.1 q.1.2.1.2.1, .rows true 23 1 [(q.1.2.2.1.2.2.2.1, nestC (.loc 4) q.1.2.2.1.2.2.2.2)], .rows true 3 1 (mems q.1.2.2.1.2.2.2.2), .box 25 [.sl ⟨.loc 0, 0, 0, 0⟩ q.1.2.1.1.length q.1.2.2.1.1, .sl ⟨.loc 2, 0, 0, 0⟩ q.1.2.1.2.1.length q.1.2.2.1.2.2.1, .sl ⟨.loc 3, 0, 0, 0⟩ q.1.2.1.2.2.length q.1.2.2.1.2.2.2.1], .rows true 23 1 [(4, nestC (.loc 7) q.1.2.2.2)], .rows true 3 1 (mems q.1.2.2.2)]⟩) (fun q => 70 - q.1.1)
      ⟨(0, (newF.map (·.2), zr12, newZ.map (·.2)), (pc, newF, 12, 4, newZ), newZ), Nat.zero_le _, new_okC, ⟨⟨by rw [hnF]; exact hpc, rfl, newF_ok⟩, by show zr12.length ≤ 12; rw [hnR]; exact Nat.le_refl _, by rw [hnF]; omega, by show zr12.length ≤ 4294967296; rw [hnR]; omega, by rw [hnZ]; omega, by rw [hnZ]; exact Nat.le_refl _, rfl, newZ_ok⟩, rel_new, newZ_ok⟩
      (Le.trans (Le_newZ 3 1) (Le.trans (Le_eqv (j := 6) true 23 1 (nestC (.loc 7) newZ) rfl nest_newZ) (Le_intro [0, 1, 2, 3, 4, 5, 6, 7] (by simp only [WL, WNL, swA_new, swA_ne, nest_sw_ne, mapLL, List.mem_cons, Nat.reduceAdd, Nat.reduceLT, Nat.reduceLeDiff, Nat.reduceEqDiff, okU, List.nodup_cons, List.not_mem_nil, toT, toL, toO, keysO, renl, rent, cll, clt, eq_self, AV.eqv, AC.eqv, eqvl, eqvt, Sl.eqv, rowsLe, mapLL, rowsCl, List.map_append, List.length_map, List.length_append, List.length_set, List.map_replicate, rowG, List.getElem?_cons_zero, List.getElem?_cons_succ, List.getElem?_nil, List.append_nil, List.nil_append, List.cons_append, ghosts, St.gh, Option.some.injEq, implies_true, setT, AV.ren, AC.ren, AV.cl, AC.cl, List.replicate_succ, List.replicate_zero, List.nodup_nil, List.length_nil, List.length_cons, List.getD_cons_zero, List.getD_cons_succ, ↓reduceIte, hnF, hnZ, hnR]; try simp [rowsLe_self])))) ?_
    rintro ⟨⟨i, ⟨X, R, Z⟩, ⟨pF, F, pR, pZ, G⟩, H⟩, hi70, hok, ⟨⟨u1, hF, hFo⟩, u2, u3, u4, u5, u6, hG, hGo⟩, hrel, hHo⟩
    dsimp only at hi70 hok u1 hF hFo u2 u3 u4 u5 u6 hG hGo hrel hHo ⊢
    have hFl : F.length = X.length := by rw [← hF]; simp
    have hGl : G.length = Z.length := by rw [← hG]; simp
    obtain ⟨⟨l1, l2, l3⟩, k1, k2, k3⟩ := id hok
    obtain ⟨W, hW⟩ : ∃ W, H.map (·.2) = W := ⟨_, rfl⟩
    rw [hW] at hrel
    have hWl := hrel.1
    have hHl : H.length = 4 := by rw [← hWl, ← hW]; simp
    have hw := wS (i := i) (by omega)
    rcases Nat.lt_or_ge i 70 with hlt | hge
    · obtain ⟨m, hm, hm9⟩ : ∃ b : Nat, (atO L ((i + 3 : Nat) : Int)).tmod 9 = b ∧ b < 9 := by
        have := atO_mod L (i := ((i + 3 : Nat) : Int)) (k := 9) (by omega) (by omega)
        exact ⟨((atO L ((i + 3 : Nat) : Int)).tmod 9).toNat, by omega, by omega⟩
      have hC : CowC X R Z (pF, F, pR, pZ, G) := ⟨⟨u1, hF, hFo⟩, u2, u3, u4, u5, u6, hG, hGo⟩
      have hr : relW X Z (H.map (·.2)) := by rw [hW]; exact hrel
      have hmc : (m = 0 ∨ m = 1) ∨ (m = 2 ∨ m = 3 ∨ m = 4 ∨ m = 5) ∨ (m = 6 ∨ m = 7) ∨ m = 8 := by omega
      rcases hmc with c1 | c1 | c1 | c1
      · exact cow_grow rfl hL ha hlt hok hC hr hHo hm c1 (fun S' X' R' Z' pF' F' pR' pZ' G' H' g1 g2 g3 g4 hle => ⟨⟨(i + 1, (X', R', Z'), (pF', F', pR', pZ', G'), H'), by show i + 1 ≤ 70; omega, g1, g2, g3, g4⟩, hle, by show 70 - (i + 1) < 70 - i; omega⟩)
      · exact cow_write rfl hL ha hlt hok hC hr hHo hm c1 (fun S' X' R' Z' pF' F' pR' pZ' G' H' g1 g2 g3 g4 hle => ⟨⟨(i + 1, (X', R', Z'), (pF', F', pR', pZ', G'), H'), by show i + 1 ≤ 70; omega, g1, g2, g3, g4⟩, hle, by show 70 - (i + 1) < 70 - i; omega⟩)
      · exact cow_fork rfl hL ha hlt hok hC hr hHo hm c1 (fun S' X' R' Z' pF' F' pR' pZ' G' H' g1 g2 g3 g4 hle => ⟨⟨(i + 1, (X', R', Z'), (pF', F', pR', pZ', G'), H'), by show i + 1 ≤ 70; omega, g1, g2, g3, g4⟩, hle, by show 70 - (i + 1) < 70 - i; omega⟩)
      · exact cow_free rfl hL ha hlt hok hC hr hHo hm c1 (fun S' X' R' Z' pF' F' pR' pZ' G' H' g1 g2 g3 g4 hle => ⟨⟨(i + 1, (X', R', Z'), (pF', F', pR', pZ', G'), H'), by show i + 1 ≤ 70; omega, g1, g2, g3, g4⟩, hle, by show 70 - (i + 1) < 70 - i; omega⟩)
    · obtain rfl : i = 70 := by omega
      have hid : decide (((70 : Nat) : Int) < 70) = false := by decide
      simp only [↓WP, ↓grdD, ↓grdT, ↓un_dead, ↓binVC, ↓buildVC, ↓sliceVC, WQ, WN, Int.reduceToNat, renl, cll, rent, clt, ↓reduceIte, Nat.reduceLeDiff, Nat.reduceEqDiff, Nat.reduceLT, reduceCtorEq, List.append_nil, Nat.reduceAdd, Nat.reduceSub, Nat.reduceBEq, forall_const, implies_true, cond_true, cond_false, AV.ren, AC.ren, AV.cl, AC.cl, eq_self, List.all_cons, List.all_nil, AV.eqv, AC.eqv, eqvl, eqvt, Sl.eqv, List.map_append, List.length_map, List.length_append, List.length_replicate, List.length_set, List.map_replicate, nilVC, zr_25, sz_25, el_22, zr_23, el_23, zr_3, sz_23, id_3, sz_3, sd_23, bt_4, c_laws_big, c_impl_CowNew, c_laws_at, c_impl_CowGrow, c_impl_CowWrite, c_impl_CowUsed, c_impl_CowFork, c_impl_CowFree, c_spec_CowOk, c_impl_CowOk, c_impl_CowRead, hid]
      refine loopI (J := {q : Nat × CowV2 × CowF2 // q.1 ≤ 4 ∧ cowOk q.2.1.1 q.2.1.2.1 q.2.1.2.2 ∧ CowC q.2.1.1 q.2.1.2.1 q.2.1.2.2 q.2.2 ∧ ∀ j, j < q.1 → q.2.1.2.2.getD j default = []}) (fun q => ⟨slots 195 [(0, .c (.sl a.up n ca)), (3, .c (.ptr ⟨.loc 5, 0, 0, 0⟩)), (17, I q.1.1)], M, [], [.rows true 23 1 [(q.1.2.2.1, nestC (.loc 1) q.1.2.2.2.1)], .rows true 3 1 (mems q.1.2.2.2.1), rowG true 3 q.1.2.2.2.2.1 q.1.2.1.2.1, .rows true 23 1 [(q.1.2.2.2.2.2.1, nestC (.loc 4) q.1.2.2.2.2.2.2)], .rows true 3 1 (mems q.1.2.2.2.2.2.2), .box 25 [.sl ⟨.loc 0, 0, 0, 0⟩ q.1.2.1.1.length q.1.2.2.1, .sl ⟨.loc 2, 0, 0, 0⟩ q.1.2.1.2.1.length q.1.2.2.2.2.1, .sl ⟨.loc 3, 0, 0, 0⟩ q.1.2.1.2.2.length q.1.2.2.2.2.2.1], .rows true 23 1 [(4, nestC (.loc 7) H)], .rows true 3 1 (mems H)]⟩) (fun q => 4 - q.1.1)
        ⟨(0, (X, R, Z), (pF, F, pR, pZ, G)), Nat.zero_le _, hok, ⟨⟨u1, hF, hFo⟩, u2, u3, u4, u5, u6, hG, hGo⟩, fun j hj => absurd hj (Nat.not_lt_zero j)⟩
        (Le_intro [0, 1, 2, 3, 4, 5, 6, 7] (by simp only [WL, WNL, swA_new, swA_ne, nest_sw_ne, mapLL, List.mem_cons, Nat.reduceAdd, Nat.reduceLT, Nat.reduceLeDiff, Nat.reduceEqDiff, okU, List.nodup_cons, List.not_mem_nil, toT, toL, toO, keysO, renl, rent, cll, clt, eq_self, AV.eqv, AC.eqv, eqvl, eqvt, Sl.eqv, rowsLe, mapLL, rowsCl, List.map_append, List.length_map, List.length_append, List.length_set, List.map_replicate, rowG, List.getElem?_cons_zero, List.getElem?_cons_succ, List.getElem?_nil, List.append_nil, List.nil_append, List.cons_append, ghosts, St.gh, Option.some.injEq, implies_true, setT, AV.ren, AC.ren, AV.cl, AC.cl, List.replicate_succ, List.replicate_zero, List.nodup_nil, List.length_nil, List.length_cons, List.getD_cons_zero, List.getD_cons_succ, ↓reduceIte]; try simp [rowsLe_self])) ?_
      clear hrel hFl hGl l1 l2 l3 k1 k2 k3 hok u1 u2 u3 u4 u5 u6
      rintro ⟨⟨t, ⟨X, R, Z⟩, ⟨pF, F, pR, pZ, G⟩⟩, ht4, hok, ⟨⟨u1, hF, hFo⟩, u2, u3, u4, u5, u6, hG, hGo⟩, hd⟩
      dsimp only at ht4 hok u1 hF hFo u2 u3 u4 u5 u6 hG hGo hd ⊢
      have hFl : F.length = X.length := by rw [← hF]; simp
      have hGl : G.length = Z.length := by rw [← hG]; simp
      obtain ⟨⟨l1, l2, l3⟩, _⟩ := id hok
      have hwt := wS (i := t) (by omega)
      rcases Nat.lt_or_ge t 4 with htl | htg
      · have hdt : decide ((t : Int) < 4) = true := decide_eq_true (by omega)
        obtain ⟨O, hO⟩ : ∃ O, O = freeO X R Z (t : Int) := ⟨_, rfl⟩
        have hok' := free_ok hok (t : Int)
        have hd' := free_gone hok htl hd
        rw [← hO] at hok' hd'
        obtain ⟨⟨A, B, C⟩, is⟩ := O
        dsimp only at hok' hd'
        have hBl' : B.length = 12 := hok'.1.2.1
        simp (config := { maxSteps := 1000000 }) only [↓WP, ↓grdD, ↓grdT, ↓un_dead, ↓binVC, ↓buildVC, ↓sliceVC, WQ, WN, Int.reduceToNat, renl, cll, rent, clt, ↓reduceIte, Nat.reduceLeDiff, Nat.reduceEqDiff, Nat.reduceLT, reduceCtorEq, List.append_nil, Nat.reduceAdd, Nat.reduceSub, Nat.reduceBEq, forall_const, implies_true, cond_true, cond_false, AV.ren, AC.ren, AV.cl, AC.cl, eq_self, List.all_cons, List.all_nil, AV.eqv, AC.eqv, eqvl, eqvt, Sl.eqv, List.map_append, List.length_map, List.length_append, List.length_replicate, List.length_set, List.map_replicate, nilVC, zr_25, sz_25, el_22, zr_23, el_23, zr_3, sz_23, id_3, sz_3, sd_23, bt_4, c_laws_big, c_impl_CowNew, c_laws_at, c_impl_CowGrow, c_impl_CowWrite, c_impl_CowUsed, c_impl_CowFork, c_impl_CowFree, c_spec_CowOk, c_impl_CowOk, c_impl_CowRead, hdt, hwt, row2_fam 0 1 F hFo, Row2Ok_fam 0 1 F hFo, row2_fam 3 4 G hGo, Row2Ok_fam 3 4 G hGo, hF, hG, hFl, hGl, l2, ← hO]
        repeat' (refine And.intro (by first | omega | decide | exact .inr trivial | exact .inl trivial | exact ⟨by omega, by omega⟩ | exact ⟨.inr trivial, by omega⟩ | exact ⟨⟨by omega, .inr trivial⟩, by omega⟩ | exact ⟨by omega, .inr trivial⟩) ?_)
        rintro ⟨pF', F', pR', pZ', G'⟩ ⟨⟨y1, hF', hFo'⟩, y2, y3, y4, y5, y6, hG', hGo'⟩
        dsimp only at y1 hF' hFo' y2 y3 y4 y5 y6 hG' hGo'
        have hFl' : F'.length = A.length := by rw [← hF']; simp
        have hGl' : G'.length = C.length := by rw [← hG']; simp
        simp (config := { maxSteps := 1000000 }) only [↓WP, ↓grdD, ↓grdT, ↓un_dead, ↓binVC, ↓buildVC, ↓sliceVC, WQ, WN, Int.reduceToNat, renl, cll, rent, clt, ↓reduceIte, Nat.reduceLeDiff, Nat.reduceEqDiff, Nat.reduceLT, reduceCtorEq, List.append_nil, Nat.reduceAdd, Nat.reduceSub, Nat.reduceBEq, forall_const, implies_true, cond_true, cond_false, AV.ren, AC.ren, AV.cl, AC.cl, eq_self, List.all_cons, List.all_nil, AV.eqv, AC.eqv, eqvl, eqvt, Sl.eqv, List.map_append, List.length_map, List.length_append, List.length_replicate, List.length_set, List.map_replicate, nilVC, zr_25, sz_25, el_22, zr_23, el_23, zr_3, sz_23, id_3, sz_3, sd_23, bt_4, c_laws_big, c_impl_CowNew, c_laws_at, c_impl_CowGrow, c_impl_CowWrite, c_impl_CowUsed, c_impl_CowFork, c_impl_CowFree, c_spec_CowOk, c_impl_CowOk, c_impl_CowRead, hdt, hwt]
        exact ⟨⟨(t + 1, (A, B, C), (pF', F', pR', pZ', G')), by show t + 1 ≤ 4; omega, hok', ⟨⟨y1, hF', hFo'⟩, y2, y3, y4, y5, y6, hG', hGo'⟩, hd'⟩, Le_intro [8, 9, 10, 11, 12, 5, 6, 7] (by simp only [WL, WNL, swA_new, swA_ne, nest_sw_ne, mapLL, List.mem_cons, Nat.reduceAdd, Nat.reduceLT, Nat.reduceLeDiff, Nat.reduceEqDiff, okU, List.nodup_cons, List.not_mem_nil, toT, toL, toO, keysO, renl, rent, cll, clt, eq_self, AV.eqv, AC.eqv, eqvl, eqvt, Sl.eqv, rowsLe, mapLL, rowsCl, List.map_append, List.length_map, List.length_append, List.length_set, List.map_replicate, rowG, List.getElem?_cons_zero, List.getElem?_cons_succ, List.getElem?_nil, List.append_nil, List.nil_append, List.cons_append, ghosts, St.gh, Option.some.injEq, implies_true, setT, AV.ren, AC.ren, AV.cl, AC.cl, List.replicate_succ, List.replicate_zero, List.nodup_nil, List.length_nil, List.length_cons, List.getD_cons_zero, List.getD_cons_succ, ↓reduceIte]; try simp [rowsLe_self, hBl']), by show 4 - (t + 1) < 4 - t; omega⟩
      · obtain rfl : t = 4 := by omega
        have hdt : decide (((4 : Nat) : Int) < 4) = false := by decide
        have hu0 : decide (usedO X R Z = 0) = true := decide_eq_true (none_used hok hd)
        simp only [↓WP, ↓grdD, ↓grdT, ↓un_dead, ↓binVC, ↓buildVC, ↓sliceVC, WQ, WN, Int.reduceToNat, renl, cll, rent, clt, ↓reduceIte, Nat.reduceLeDiff, Nat.reduceEqDiff, Nat.reduceLT, reduceCtorEq, List.append_nil, Nat.reduceAdd, Nat.reduceSub, Nat.reduceBEq, forall_const, implies_true, cond_true, cond_false, AV.ren, AC.ren, AV.cl, AC.cl, eq_self, List.all_cons, List.all_nil, AV.eqv, AC.eqv, eqvl, eqvt, Sl.eqv, List.map_append, List.length_map, List.length_append, List.length_replicate, List.length_set, List.map_replicate, nilVC, zr_25, sz_25, el_22, zr_23, el_23, zr_3, sz_23, id_3, sz_3, sd_23, bt_4, c_laws_big, c_impl_CowNew, c_laws_at, c_impl_CowGrow, c_impl_CowWrite, c_impl_CowUsed, c_impl_CowFork, c_impl_CowFree, c_spec_CowOk, c_impl_CowOk, c_impl_CowRead, hdt, row2_fam 0 1 F hFo, Row2Ok_fam 0 1 F hFo, row2_fam 3 4 G hGo, Row2Ok_fam 3 4 G hGo, hF, hG, hFl, hGl, l2, hu0]
        repeat' (refine And.intro (by first | omega | decide | exact .inr trivial | exact .inl trivial | exact ⟨by omega, by omega⟩ | exact ⟨.inr trivial, by omega⟩ | exact ⟨⟨by omega, .inr trivial⟩, by omega⟩ | exact ⟨by omega, .inr trivial⟩) ?_)
        all_goals first
          | omega
          | exact .inr trivial
          | exact .inl trivial
          | (refine end_ret ?_
             simp only [↓WP, ↓grdD, ↓grdT, ↓un_dead, ↓binVC, ↓buildVC, ↓sliceVC, WQ, WN, Int.reduceToNat, renl, cll, rent, clt, ↓reduceIte, Nat.reduceLeDiff, Nat.reduceEqDiff, Nat.reduceLT, reduceCtorEq, List.append_nil, Nat.reduceAdd, Nat.reduceSub, Nat.reduceBEq, forall_const, implies_true, cond_true, cond_false, AV.ren, AC.ren, AV.cl, AC.cl, eq_self, List.all_cons, List.all_nil, AV.eqv, AC.eqv, eqvl, eqvt, Sl.eqv, List.map_append, List.length_map, List.length_append, List.length_replicate, List.length_set, List.map_replicate, nilVC, zr_25, sz_25, el_22, zr_23, el_23, zr_3, sz_23, id_3, sz_3, sd_23, bt_4, c_laws_big, c_impl_CowNew, c_laws_at, c_impl_CowGrow, c_impl_CowWrite, c_impl_CowUsed, c_impl_CowFork, c_impl_CowFree, c_spec_CowOk, c_impl_CowOk, c_impl_CowRead])
end Go.Eng.T
