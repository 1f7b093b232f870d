/- line: ShowLine as it is programmed. -/
import Derived.Test.YtffbhimjpibocaaFn12
set_option linter.unusedVariables false
set_option linter.unusedSimpArgs false
set_option linter.unusedSectionVars false
namespace Go.Eng
def pbC (X : List (List ByteArray)) (i : Nat) : List ByteArray := (partsC X i).map bytes
def pbK (X : List (List ByteArray)) (i k : Nat) : List ByteArray := (partsK X i k).map bytes
theorem pbK_succ {X : List (List ByteArray)} {i k : Nat} (h : k < (X.getD i default).length) : pbK X i (k + 1) = pbK X i k ++ [⟨(showW ((X.getD i default).getD k default)).toArray⟩] := by
  unfold pbK
  rw [partsK_succ h, List.map_append]
  rfl
theorem pbK_full (X : List (List ByteArray)) (i : Nat) : pbK X i (X.getD i default).length = pbC X (i + 1) := by
  unfold pbK pbC
  rw [partsK_full]
theorem pbK_bar {X : List (List ByteArray)} {i : Nat} (h : 0 < i) : pbK X i 0 = pbC X i ++ [⟨#[124]⟩] := by
  unfold pbK pbC partsK
  rw [if_pos h, List.take_zero, List.map_nil, List.append_nil, List.map_append]
  rfl
theorem pbK_zero {X : List (List ByteArray)} {i : Nat} (h : ¬ 0 < i) : pbK X i 0 = pbC X i := by
  unfold pbK pbC partsK
  rw [if_neg h, List.take_zero, List.map_nil, List.append_nil, List.append_nil]
theorem pbK_small {X : List (List ByteArray)} (h : ∀ x ∈ X, (1 ≤ x.length ∧ x.length ≤ 6) ∧ ∀ w ∈ x, lw w) (hX : X.length ≤ 5) {i k : Nat} (hi : i < X.length) : (pbK X i k).length ≤ 42 := by
  have := (partsK_small h (k := k) hi).1
  unfold pbK
  rw [List.length_map]
  omega
theorem pbC_small {X : List (List ByteArray)} (h : ∀ x ∈ X, (1 ≤ x.length ∧ x.length ≤ 6) ∧ ∀ w ∈ x, lw w) (hX : X.length ≤ 5) {i : Nat} (hi : i ≤ X.length) : (pbC X i).length ≤ 35 := by
  have := (partsC_small h hi).1
  unfold pbC
  rw [List.length_map]
  omega
theorem data_bytes (P : List (List UInt8)) : (P.map bytes).map (fun x : ByteArray => x.data.toList) = P := by
  rw [List.map_map]
  exact List.map_id'' (fun l => rfl) P
end Go.Eng
namespace Go.Eng.T
open Go.Proofs
open Cel (enc dec)
set_option maxRecDepth 100000
set_option maxHeartbeats 8000000
def c_impl_ShowLine : Contract := ⟨11, fun args M => match args with
  | [.agg [.sl a n _, .str s1, .str s2, .bool b1, .bool b2]] => .pure ((Row2Ok ByteArray a n M ∧ ∀ x ∈ row2 ByteArray a n M, ∀ w ∈ x, small w) ∧ small s1 ∧ small s2) (.c (.str (showO (row2 ByteArray a n M) s1 s2 b1 b2)))
  | _ => .bad⟩
theorem ok_impl_ShowLine : fnP Try.prog c_impl_ShowLine.f = true ∧ ∀ args M, (c_impl_ShowLine.sp args M).OK Try.prog c_impl_ShowLine.f args M := by
  refine ⟨fp_11, fun args M => ?_⟩
  unfold c_impl_ShowLine
  dsimp only
  split
  case h_2 => trivial
  rename_i a n c s1 s2 b1 b2
  rintro ⟨⟨ha, hsm⟩, h1, h2⟩
  obtain ⟨hs, X, hX, rfl, hat⟩ := ha.x
  rw [hX] at hsm ⊢
  refine goIn hf_11 rfl (nt := 68) rfl (rs := [.tmp 2]) rfl (C := [c_impl_LineOk, c_impl_shownWord, c_strings_Join]) ⟨(by first | exact .inl ok_impl_LineOk | exact ok_impl_LineOk), (by first | exact .inl ok_impl_shownWord | exact ok_impl_shownWord), (by first | exact .inl ok_strings_Join | exact ok_strings_Join), trivial⟩ (q := fun _ => false) okQ_none mixed (O := fun _ => .nil) (by kernel_rfl) ?_
  by_cases hok : lineOk X s1 s2 b1
  · obtain ⟨⟨⟨x1, x5⟩, hi1, ho1, _⟩, hall⟩ := id hok
    have hne : ∀ i, i < X.length → 1 ≤ (X.getD i default).length := fun i hi => (hall _ (getD_mem hi)).1.1
    have hsh : showO X s1 s2 b1 b2 = bytes (jn (partsAll X s1 s2 b1 b2)) := if_pos hok
    have hPne := partsC_ne hne (i := X.length) (by omega) (Nat.le_refl _)
    rw [hsh]
    simp only [↓WP, ↓grdD, ↓grdT, ↓un_dead, ↓binVC, ↓buildVC, ↓sliceVC, WQ, WN, Int.reduceToNat, renl, cll, rent, clt, ↓reduceIte, Nat.reduceLeDiff, Nat.reduceEqDiff, Nat.reduceLT, reduceCtorEq, List.append_nil, Nat.reduceAdd, Nat.reduceSub, Nat.reduceBEq, forall_const, implies_true, cond_true, cond_false, AV.ren, AC.ren, AV.cl, AC.cl, eq_self, List.all_cons, List.all_nil, AV.eqv, AC.eqv, eqvl, eqvt, Sl.eqv, List.map_append, List.length_map, List.length_append, List.length_replicate, List.length_set, List.map_replicate, nilVC, sz_29, el_37, zr_9, fl_29_0, sz_27, sd_27, el_27, sz_39, zr_39, fl_39_0, sz_37, sd_37, sz_9, fl_29_1, fl_29_2, fl_29_3, sz_4, fl_29_4, c_impl_LineOk, c_impl_shownWord, c_strings_Join, decide_eq_true hok, Row2Ok_upE ha, row2_upE ha, hX]
    refine ⟨⟨hsm, h1, h2⟩, by omega, ?_⟩
    have hpc0 : pbC X 0 = [] := rfl
    refine loopI (J := {q : Nat × Nat // q.1 ≤ X.length ∧ (pbC X q.1).length ≤ q.2}) (fun q => ⟨slots 68 [(1, .c (.ptr ⟨.loc 0, 0, 0, 0⟩)), (3, .c (.sl ⟨.loc 1, 0, 0, 0⟩ (pbC X q.1.1).length q.1.2)), (14, .c (.sl a.up X.length c)), (15, I X.length), (16, I q.1.1)], M, [], [.box 29 [.sl a.up X.length c, .str s1, .str s2, .bool b1, .bool b2], rowG true 9 q.1.2 (pbC X q.1.1)]⟩) (fun q => X.length - q.1.1) ⟨(0, 0), Nat.zero_le _, by rw [hpc0]; exact Nat.le_refl _⟩ (Le.trans (Le_gh _ [(9, 1)]) (Le_intro [0, 1] (by simp only [WL, WNL, swA_new, swA_ne, nest_sw_ne, mapLL, List.mem_cons, Nat.reduceAdd, Nat.reduceLT, Nat.reduceLeDiff, Nat.reduceEqDiff, okU, List.nodup_cons, List.not_mem_nil, toT, toL, toO, keysO, renl, rent, cll, clt, eq_self, AV.eqv, AC.eqv, eqvl, eqvt, Sl.eqv, rowsLe, mapLL, rowsCl, List.map_append, List.length_map, List.length_append, List.length_set, List.map_replicate, rowG, List.getElem?_cons_zero, List.getElem?_cons_succ, List.getElem?_nil, List.append_nil, List.nil_append, List.cons_append, ghosts, St.gh, Option.some.injEq, implies_true, setT, AV.ren, AC.ren, AV.cl, AC.cl, List.replicate_succ, List.replicate_zero, List.nodup_nil, List.length_nil, List.length_cons, List.getD_cons_zero, List.getD_cons_succ, ↓reduceIte, hpc0]; try simp))) ?_
    rintro ⟨⟨i, kp⟩, hi, hkp⟩
    dsimp only at hi hkp ⊢
    have hw := wS (i := i) (by omega)
    have hpcs := pbC_small hall x5 hi
    rcases Nat.lt_or_ge i X.length with hlt | hge
    · obtain ⟨own, ty, cnt, cap, len, get, b, cc, hM, hf, hic, hkn, hget⟩ := hat (by omega)
      obtain ⟨g1, g2, g3, g4⟩ := hget i hlt
      obtain ⟨hx16, hxw⟩ := hall _ (getD_mem hlt)
      obtain ⟨hs2, Y, hY, hYl, hat2⟩ := g3.x
      rw [g4] at hY
      subst hY
      obtain ⟨x, hx⟩ : ∃ x, x = X.getD i default := ⟨_, rfl⟩
      rw [← hx] at g1 g2 g3 g4 hx16 hxw hat2
      by_cases h0 : 0 < i
      · have d0 : decide ((0 : Int) < (i : Int)) = true := decide_eq_true (by omega)
        have hbar := pbK_bar (X := X) h0
        obtain ⟨P, hP⟩ : ∃ P, P = pbC X i := ⟨_, rfl⟩
        obtain ⟨P2, hP2⟩ : ∃ P2, P2 = pbK X i 0 := ⟨_, rfl⟩
        rw [← hP, ← hP2] at hbar
        rw [← hP] at hkp hpcs ⊢
        have hPl : P2.length = P.length + 1 := by rw [hbar, List.length_append]; rfl
        have hPl2 : (pbK X i 0).length = P.length + 1 := by rw [← hP2]; exact hPl
        have hfold : List.map enc P ++ [[AC.str ⟨#[124]⟩]] = List.map enc P2 := by rw [hbar, List.map_append]; rfl
        simp only [↓WP, ↓grdD, ↓grdT, ↓un_dead, ↓binVC, ↓buildVC, ↓sliceVC, WQ, WN, Int.reduceToNat, renl, cll, rent, clt, ↓reduceIte, Nat.reduceLeDiff, Nat.reduceEqDiff, Nat.reduceLT, reduceCtorEq, List.append_nil, Nat.reduceAdd, Nat.reduceSub, Nat.reduceBEq, forall_const, implies_true, cond_true, cond_false, AV.ren, AC.ren, AV.cl, AC.cl, eq_self, List.all_cons, List.all_nil, AV.eqv, AC.eqv, eqvl, eqvt, Sl.eqv, List.map_append, List.length_map, List.length_append, List.length_replicate, List.length_set, List.map_replicate, nilVC, sz_29, el_37, zr_9, fl_29_0, sz_27, sd_27, el_27, sz_39, zr_39, fl_39_0, sz_37, sd_37, sz_9, fl_29_1, fl_29_2, fl_29_3, sz_4, fl_29_4, c_impl_LineOk, c_impl_shownWord, c_strings_Join, dlt hlt, d0, hM, hf, g1, hfold]
        repeat' (first | with_reducible refine And.intro ?_ ?_ | intro _)
        all_goals try omega
        all_goals try exact .inl trivial
        all_goals try exact .inr trivial
        · refine loopI (J := {q : Nat × Nat // q.1 ≤ x.length ∧ (pbK X i q.1).length ≤ q.2}) (fun q => ⟨slots 68 [(1, .c (.ptr ⟨.loc 0, 0, 0, 0⟩)), (3, .c (.sl ⟨.loc 1, 0, 0, 0⟩ (pbK X i q.1.1).length q.1.2)), (14, .c (.sl a.up X.length c)), (15, I X.length), (16, I i), (27, .c (.sl (b i).up x.length (cc i))), (28, I x.length), (29, I q.1.1)], M, [], [.box 29 [.sl a.up X.length c, .str s1, .str s2, .bool b1, .bool b2], rowG true 9 q.1.2 (pbK X i q.1.1)]⟩) (fun q => x.length - q.1.1) ⟨(0, kp), Nat.zero_le _, by dsimp only; omega⟩ (Le_intro [0, 1] (by simp only [WL, WNL, swA_new, swA_ne, nest_sw_ne, mapLL, List.mem_cons, Nat.reduceAdd, Nat.reduceLT, Nat.reduceLeDiff, Nat.reduceEqDiff, okU, List.nodup_cons, List.not_mem_nil, toT, toL, toO, keysO, renl, rent, cll, clt, eq_self, AV.eqv, AC.eqv, eqvl, eqvt, Sl.eqv, rowsLe, mapLL, rowsCl, List.map_append, List.length_map, List.length_append, List.length_set, List.map_replicate, rowG, List.getElem?_cons_zero, List.getElem?_cons_succ, List.getElem?_nil, List.append_nil, List.nil_append, List.cons_append, ghosts, St.gh, Option.some.injEq, implies_true, setT, AV.ren, AC.ren, AV.cl, AC.cl, List.replicate_succ, List.replicate_zero, List.nodup_nil, List.length_nil, List.length_cons, List.getD_cons_zero, List.getD_cons_succ, ↓reduceIte, ← hP2, hPl]; try simp)) ?_
          rintro ⟨⟨k, kc⟩, hk, hkc⟩
          dsimp only at hk hkc ⊢
          have hwk := wS (i := k) (by omega)
          rcases Nat.lt_or_ge k x.length with hkl | hkg
          · obtain ⟨own', ty', cnt', cap', len', get', hM', hf', hic', hkn', hget'⟩ := hat2 (by omega)
            have hlw : lw (x.getD k default) := hxw _ (getD_mem hkl)
            have hks := pbK_succ (X := X) (i := i) (k := k) (by rw [← hx]; exact hkl)
            rw [← hx] at hks
            have hkn3 := (pbK_small hall x5 hlt (k := k))
            obtain ⟨Q, hQ⟩ : ∃ Q, Q = pbK X i k := ⟨_, rfl⟩
            obtain ⟨Q2, hQ2⟩ : ∃ Q2, Q2 = pbK X i (k + 1) := ⟨_, rfl⟩
            rw [← hQ, ← hQ2] at hks
            rw [← hQ] at hkc hkn3 ⊢
            have hQl : Q2.length = Q.length + 1 := by rw [hks, List.length_append]; rfl
            have hfold : List.map enc Q ++ [[AC.str ⟨(showW (x.getD k default)).toArray⟩]] = List.map enc Q2 := by rw [hks, List.map_append]; rfl
            simp only [↓WP, ↓grdD, ↓grdT, ↓un_dead, ↓binVC, ↓buildVC, ↓sliceVC, WQ, WN, Int.reduceToNat, renl, cll, rent, clt, ↓reduceIte, Nat.reduceLeDiff, Nat.reduceEqDiff, Nat.reduceLT, reduceCtorEq, List.append_nil, Nat.reduceAdd, Nat.reduceSub, Nat.reduceBEq, forall_const, implies_true, cond_true, cond_false, AV.ren, AC.ren, AV.cl, AC.cl, eq_self, List.all_cons, List.all_nil, AV.eqv, AC.eqv, eqvl, eqvt, Sl.eqv, List.map_append, List.length_map, List.length_append, List.length_replicate, List.length_set, List.map_replicate, nilVC, sz_29, el_37, zr_9, fl_29_0, sz_27, sd_27, el_27, sz_39, zr_39, fl_39_0, sz_37, sd_37, sz_9, fl_29_1, fl_29_2, fl_29_3, sz_4, fl_29_4, c_impl_LineOk, c_impl_shownWord, c_strings_Join, dlt hkl, hwk, hM', hf', hget' k hkl, hfold]
            repeat' (first | with_reducible refine And.intro ?_ ?_ | intro _)
            all_goals try omega
            all_goals try exact hlw
            all_goals try exact .inl trivial
            all_goals try exact .inr trivial
            · exact ⟨⟨(k + 1, kc), hkl, by dsimp only; rw [← hQ2]; omega⟩, Le_intro [0, 1] (by simp only [WL, WNL, swA_new, swA_ne, nest_sw_ne, mapLL, List.mem_cons, Nat.reduceAdd, Nat.reduceLT, Nat.reduceLeDiff, Nat.reduceEqDiff, okU, List.nodup_cons, List.not_mem_nil, toT, toL, toO, keysO, renl, rent, cll, clt, eq_self, AV.eqv, AC.eqv, eqvl, eqvt, Sl.eqv, rowsLe, mapLL, rowsCl, List.map_append, List.length_map, List.length_append, List.length_set, List.map_replicate, rowG, List.getElem?_cons_zero, List.getElem?_cons_succ, List.getElem?_nil, List.append_nil, List.nil_append, List.cons_append, ghosts, St.gh, Option.some.injEq, implies_true, setT, AV.ren, AC.ren, AV.cl, AC.cl, List.replicate_succ, List.replicate_zero, List.nodup_nil, List.length_nil, List.length_cons, List.getD_cons_zero, List.getD_cons_succ, ↓reduceIte, ← hQ2, hQl]; try simp), by show x.length - (k + 1) < x.length - k; omega⟩
            · rename_i c3 h3 h4
              exact ⟨⟨(k + 1, c3), hkl, by dsimp only; rw [← hQ2]; omega⟩, Le_intro [0, 3] (by simp only [WL, WNL, swA_new, swA_ne, nest_sw_ne, mapLL, List.mem_cons, Nat.reduceAdd, Nat.reduceLT, Nat.reduceLeDiff, Nat.reduceEqDiff, okU, List.nodup_cons, List.not_mem_nil, toT, toL, toO, keysO, renl, rent, cll, clt, eq_self, AV.eqv, AC.eqv, eqvl, eqvt, Sl.eqv, rowsLe, mapLL, rowsCl, List.map_append, List.length_map, List.length_append, List.length_set, List.map_replicate, rowG, List.getElem?_cons_zero, List.getElem?_cons_succ, List.getElem?_nil, List.append_nil, List.nil_append, List.cons_append, ghosts, St.gh, Option.some.injEq, implies_true, setT, AV.ren, AC.ren, AV.cl, AC.cl, List.replicate_succ, List.replicate_zero, List.nodup_nil, List.length_nil, List.length_cons, List.getD_cons_zero, List.getD_cons_succ, ↓reduceIte, ← hQ2, hQl]; try simp), by show x.length - (k + 1) < x.length - k; omega⟩
          · obtain rfl : k = x.length := by omega
            have hfull := pbK_full X i
            rw [← hx] at hfull
            rw [hfull] at hkc ⊢
            simp only [↓WP, ↓grdD, ↓grdT, ↓un_dead, ↓binVC, ↓buildVC, ↓sliceVC, WQ, WN, Int.reduceToNat, renl, cll, rent, clt, ↓reduceIte, Nat.reduceLeDiff, Nat.reduceEqDiff, Nat.reduceLT, reduceCtorEq, List.append_nil, Nat.reduceAdd, Nat.reduceSub, Nat.reduceBEq, forall_const, implies_true, cond_true, cond_false, AV.ren, AC.ren, AV.cl, AC.cl, eq_self, List.all_cons, List.all_nil, AV.eqv, AC.eqv, eqvl, eqvt, Sl.eqv, List.map_append, List.length_map, List.length_append, List.length_replicate, List.length_set, List.map_replicate, nilVC, sz_29, el_37, zr_9, fl_29_0, sz_27, sd_27, el_27, sz_39, zr_39, fl_39_0, sz_37, sd_37, sz_9, fl_29_1, fl_29_2, fl_29_3, sz_4, fl_29_4, c_impl_LineOk, c_impl_shownWord, c_strings_Join, dge hkg, hw]
            exact ⟨⟨(i + 1, kc), hlt, hkc⟩, Le_intro [0, 1] (by simp only [WL, WNL, swA_new, swA_ne, nest_sw_ne, mapLL, List.mem_cons, Nat.reduceAdd, Nat.reduceLT, Nat.reduceLeDiff, Nat.reduceEqDiff, okU, List.nodup_cons, List.not_mem_nil, toT, toL, toO, keysO, renl, rent, cll, clt, eq_self, AV.eqv, AC.eqv, eqvl, eqvt, Sl.eqv, rowsLe, mapLL, rowsCl, List.map_append, List.length_map, List.length_append, List.length_set, List.map_replicate, rowG, List.getElem?_cons_zero, List.getElem?_cons_succ, List.getElem?_nil, List.append_nil, List.nil_append, List.cons_append, ghosts, St.gh, Option.some.injEq, implies_true, setT, AV.ren, AC.ren, AV.cl, AC.cl, List.replicate_succ, List.replicate_zero, List.nodup_nil, List.length_nil, List.length_cons, List.getD_cons_zero, List.getD_cons_succ, ↓reduceIte]; try simp), by show X.length - (i + 1) < X.length - i; omega⟩
        · rename_i c1 e1 e2
          refine loopI (J := {q : Nat × Nat // q.1 ≤ x.length ∧ (pbK X i q.1).length ≤ q.2}) (fun q => ⟨slots 68 [(1, .c (.ptr ⟨.loc 0, 0, 0, 0⟩)), (3, .c (.sl ⟨.loc 1, 0, 0, 0⟩ (pbK X i q.1.1).length q.1.2)), (14, .c (.sl a.up X.length c)), (15, I X.length), (16, I i), (27, .c (.sl (b i).up x.length (cc i))), (28, I x.length), (29, I q.1.1)], M, [], [.box 29 [.sl a.up X.length c, .str s1, .str s2, .bool b1, .bool b2], rowG true 9 q.1.2 (pbK X i q.1.1)]⟩) (fun q => x.length - q.1.1) ⟨(0, c1), Nat.zero_le _, by dsimp only; omega⟩ (Le_intro [0, 4] (by simp only [WL, WNL, swA_new, swA_ne, nest_sw_ne, mapLL, List.mem_cons, Nat.reduceAdd, Nat.reduceLT, Nat.reduceLeDiff, Nat.reduceEqDiff, okU, List.nodup_cons, List.not_mem_nil, toT, toL, toO, keysO, renl, rent, cll, clt, eq_self, AV.eqv, AC.eqv, eqvl, eqvt, Sl.eqv, rowsLe, mapLL, rowsCl, List.map_append, List.length_map, List.length_append, List.length_set, List.map_replicate, rowG, List.getElem?_cons_zero, List.getElem?_cons_succ, List.getElem?_nil, List.append_nil, List.nil_append, List.cons_append, ghosts, St.gh, Option.some.injEq, implies_true, setT, AV.ren, AC.ren, AV.cl, AC.cl, List.replicate_succ, List.replicate_zero, List.nodup_nil, List.length_nil, List.length_cons, List.getD_cons_zero, List.getD_cons_succ, ↓reduceIte, ← hP2, hPl]; try simp)) ?_
          rintro ⟨⟨k, kc⟩, hk, hkc⟩
          dsimp only at hk hkc ⊢
          have hwk := wS (i := k) (by omega)
          rcases Nat.lt_or_ge k x.length with hkl | hkg
          · obtain ⟨own', ty', cnt', cap', len', get', hM', hf', hic', hkn', hget'⟩ := hat2 (by omega)
            have hlw : lw (x.getD k default) := hxw _ (getD_mem hkl)
            have hks := pbK_succ (X := X) (i := i) (k := k) (by rw [← hx]; exact hkl)
            rw [← hx] at hks
            have hkn3 := (pbK_small hall x5 hlt (k := k))
            obtain ⟨Q, hQ⟩ : ∃ Q, Q = pbK X i k := ⟨_, rfl⟩
            obtain ⟨Q2, hQ2⟩ : ∃ Q2, Q2 = pbK X i (k + 1) := ⟨_, rfl⟩
            rw [← hQ, ← hQ2] at hks
            rw [← hQ] at hkc hkn3 ⊢
            have hQl : Q2.length = Q.length + 1 := by rw [hks, List.length_append]; rfl
            have hfold : List.map enc Q ++ [[AC.str ⟨(showW (x.getD k default)).toArray⟩]] = List.map enc Q2 := by rw [hks, List.map_append]; rfl
            simp only [↓WP, ↓grdD, ↓grdT, ↓un_dead, ↓binVC, ↓buildVC, ↓sliceVC, WQ, WN, Int.reduceToNat, renl, cll, rent, clt, ↓reduceIte, Nat.reduceLeDiff, Nat.reduceEqDiff, Nat.reduceLT, reduceCtorEq, List.append_nil, Nat.reduceAdd, Nat.reduceSub, Nat.reduceBEq, forall_const, implies_true, cond_true, cond_false, AV.ren, AC.ren, AV.cl, AC.cl, eq_self, List.all_cons, List.all_nil, AV.eqv, AC.eqv, eqvl, eqvt, Sl.eqv, List.map_append, List.length_map, List.length_append, List.length_replicate, List.length_set, List.map_replicate, nilVC, sz_29, el_37, zr_9, fl_29_0, sz_27, sd_27, el_27, sz_39, zr_39, fl_39_0, sz_37, sd_37, sz_9, fl_29_1, fl_29_2, fl_29_3, sz_4, fl_29_4, c_impl_LineOk, c_impl_shownWord, c_strings_Join, dlt hkl, hwk, hM', hf', hget' k hkl, hfold]
            repeat' (first | with_reducible refine And.intro ?_ ?_ | intro _)
            all_goals try omega
            all_goals try exact hlw
            all_goals try exact .inl trivial
            all_goals try exact .inr trivial
            · exact ⟨⟨(k + 1, kc), hkl, by dsimp only; rw [← hQ2]; omega⟩, Le_intro [0, 1] (by simp only [WL, WNL, swA_new, swA_ne, nest_sw_ne, mapLL, List.mem_cons, Nat.reduceAdd, Nat.reduceLT, Nat.reduceLeDiff, Nat.reduceEqDiff, okU, List.nodup_cons, List.not_mem_nil, toT, toL, toO, keysO, renl, rent, cll, clt, eq_self, AV.eqv, AC.eqv, eqvl, eqvt, Sl.eqv, rowsLe, mapLL, rowsCl, List.map_append, List.length_map, List.length_append, List.length_set, List.map_replicate, rowG, List.getElem?_cons_zero, List.getElem?_cons_succ, List.getElem?_nil, List.append_nil, List.nil_append, List.cons_append, ghosts, St.gh, Option.some.injEq, implies_true, setT, AV.ren, AC.ren, AV.cl, AC.cl, List.replicate_succ, List.replicate_zero, List.nodup_nil, List.length_nil, List.length_cons, List.getD_cons_zero, List.getD_cons_succ, ↓reduceIte, ← hQ2, hQl]; try simp), by show x.length - (k + 1) < x.length - k; omega⟩
            · rename_i c3 h3 h4
              exact ⟨⟨(k + 1, c3), hkl, by dsimp only; rw [← hQ2]; omega⟩, Le_intro [0, 3] (by simp only [WL, WNL, swA_new, swA_ne, nest_sw_ne, mapLL, List.mem_cons, Nat.reduceAdd, Nat.reduceLT, Nat.reduceLeDiff, Nat.reduceEqDiff, okU, List.nodup_cons, List.not_mem_nil, toT, toL, toO, keysO, renl, rent, cll, clt, eq_self, AV.eqv, AC.eqv, eqvl, eqvt, Sl.eqv, rowsLe, mapLL, rowsCl, List.map_append, List.length_map, List.length_append, List.length_set, List.map_replicate, rowG, List.getElem?_cons_zero, List.getElem?_cons_succ, List.getElem?_nil, List.append_nil, List.nil_append, List.cons_append, ghosts, St.gh, Option.some.injEq, implies_true, setT, AV.ren, AC.ren, AV.cl, AC.cl, List.replicate_succ, List.replicate_zero, List.nodup_nil, List.length_nil, List.length_cons, List.getD_cons_zero, List.getD_cons_succ, ↓reduceIte, ← hQ2, hQl]; try simp), by show x.length - (k + 1) < x.length - k; omega⟩
          · obtain rfl : k = x.length := by omega
            have hfull := pbK_full X i
            rw [← hx] at hfull
            rw [hfull] at hkc ⊢
            simp only [↓WP, ↓grdD, ↓grdT, ↓un_dead, ↓binVC, ↓buildVC, ↓sliceVC, WQ, WN, Int.reduceToNat, renl, cll, rent, clt, ↓reduceIte, Nat.reduceLeDiff, Nat.reduceEqDiff, Nat.reduceLT, reduceCtorEq, List.append_nil, Nat.reduceAdd, Nat.reduceSub, Nat.reduceBEq, forall_const, implies_true, cond_true, cond_false, AV.ren, AC.ren, AV.cl, AC.cl, eq_self, List.all_cons, List.all_nil, AV.eqv, AC.eqv, eqvl, eqvt, Sl.eqv, List.map_append, List.length_map, List.length_append, List.length_replicate, List.length_set, List.map_replicate, nilVC, sz_29, el_37, zr_9, fl_29_0, sz_27, sd_27, el_27, sz_39, zr_39, fl_39_0, sz_37, sd_37, sz_9, fl_29_1, fl_29_2, fl_29_3, sz_4, fl_29_4, c_impl_LineOk, c_impl_shownWord, c_strings_Join, dge hkg, hw]
            exact ⟨⟨(i + 1, kc), hlt, hkc⟩, Le_intro [0, 1] (by simp only [WL, WNL, swA_new, swA_ne, nest_sw_ne, mapLL, List.mem_cons, Nat.reduceAdd, Nat.reduceLT, Nat.reduceLeDiff, Nat.reduceEqDiff, okU, List.nodup_cons, List.not_mem_nil, toT, toL, toO, keysO, renl, rent, cll, clt, eq_self, AV.eqv, AC.eqv, eqvl, eqvt, Sl.eqv, rowsLe, mapLL, rowsCl, List.map_append, List.length_map, List.length_append, List.length_set, List.map_replicate, rowG, List.getElem?_cons_zero, List.getElem?_cons_succ, List.getElem?_nil, List.append_nil, List.nil_append, List.cons_append, ghosts, St.gh, Option.some.injEq, implies_true, setT, AV.ren, AC.ren, AV.cl, AC.cl, List.replicate_succ, List.replicate_zero, List.nodup_nil, List.length_nil, List.length_cons, List.getD_cons_zero, List.getD_cons_succ, ↓reduceIte]; try simp), by show X.length - (i + 1) < X.length - i; omega⟩
      · have d0 : decide ((0 : Int) < (i : Int)) = false := decide_eq_false (by omega)
        rw [← pbK_zero (X := X) h0] at hkp hpcs ⊢
        simp only [↓WP, ↓grdD, ↓grdT, ↓un_dead, ↓binVC, ↓buildVC, ↓sliceVC, WQ, WN, Int.reduceToNat, renl, cll, rent, clt, ↓reduceIte, Nat.reduceLeDiff, Nat.reduceEqDiff, Nat.reduceLT, reduceCtorEq, List.append_nil, Nat.reduceAdd, Nat.reduceSub, Nat.reduceBEq, forall_const, implies_true, cond_true, cond_false, AV.ren, AC.ren, AV.cl, AC.cl, eq_self, List.all_cons, List.all_nil, AV.eqv, AC.eqv, eqvl, eqvt, Sl.eqv, List.map_append, List.length_map, List.length_append, List.length_replicate, List.length_set, List.map_replicate, nilVC, sz_29, el_37, zr_9, fl_29_0, sz_27, sd_27, el_27, sz_39, zr_39, fl_39_0, sz_37, sd_37, sz_9, fl_29_1, fl_29_2, fl_29_3, sz_4, fl_29_4, c_impl_LineOk, c_impl_shownWord, c_strings_Join, dlt hlt, d0, hM, hf, g1]
        repeat' (first | with_reducible refine And.intro ?_ ?_ | intro _)
        all_goals try omega
        all_goals try exact .inl trivial
        all_goals try exact .inr trivial
        refine loopI (J := {q : Nat × Nat // q.1 ≤ x.length ∧ (pbK X i q.1).length ≤ q.2}) (fun q => ⟨slots 68 [(1, .c (.ptr ⟨.loc 0, 0, 0, 0⟩)), (3, .c (.sl ⟨.loc 1, 0, 0, 0⟩ (pbK X i q.1.1).length q.1.2)), (14, .c (.sl a.up X.length c)), (15, I X.length), (16, I i), (27, .c (.sl (b i).up x.length (cc i))), (28, I x.length), (29, I q.1.1)], M, [], [.box 29 [.sl a.up X.length c, .str s1, .str s2, .bool b1, .bool b2], rowG true 9 q.1.2 (pbK X i q.1.1)]⟩) (fun q => x.length - q.1.1) ⟨(0, kp), Nat.zero_le _, by dsimp only; omega⟩ (Le_intro [0, 1] (by simp only [WL, WNL, swA_new, swA_ne, nest_sw_ne, mapLL, List.mem_cons, Nat.reduceAdd, Nat.reduceLT, Nat.reduceLeDiff, Nat.reduceEqDiff, okU, List.nodup_cons, List.not_mem_nil, toT, toL, toO, keysO, renl, rent, cll, clt, eq_self, AV.eqv, AC.eqv, eqvl, eqvt, Sl.eqv, rowsLe, mapLL, rowsCl, List.map_append, List.length_map, List.length_append, List.length_set, List.map_replicate, rowG, List.getElem?_cons_zero, List.getElem?_cons_succ, List.getElem?_nil, List.append_nil, List.nil_append, List.cons_append, ghosts, St.gh, Option.some.injEq, implies_true, setT, AV.ren, AC.ren, AV.cl, AC.cl, List.replicate_succ, List.replicate_zero, List.nodup_nil, List.length_nil, List.length_cons, List.getD_cons_zero, List.getD_cons_succ, ↓reduceIte]; try simp)) ?_
        rintro ⟨⟨k, kc⟩, hk, hkc⟩
        dsimp only at hk hkc ⊢
        have hwk := wS (i := k) (by omega)
        rcases Nat.lt_or_ge k x.length with hkl | hkg
        · obtain ⟨own', ty', cnt', cap', len', get', hM', hf', hic', hkn', hget'⟩ := hat2 (by omega)
          have hlw : lw (x.getD k default) := hxw _ (getD_mem hkl)
          have hks := pbK_succ (X := X) (i := i) (k := k) (by rw [← hx]; exact hkl)
          rw [← hx] at hks
          have hkn3 := (pbK_small hall x5 hlt (k := k))
          obtain ⟨Q, hQ⟩ : ∃ Q, Q = pbK X i k := ⟨_, rfl⟩
          obtain ⟨Q2, hQ2⟩ : ∃ Q2, Q2 = pbK X i (k + 1) := ⟨_, rfl⟩
          rw [← hQ, ← hQ2] at hks
          rw [← hQ] at hkc hkn3 ⊢
          have hQl : Q2.length = Q.length + 1 := by rw [hks, List.length_append]; rfl
          have hfold : List.map enc Q ++ [[AC.str ⟨(showW (x.getD k default)).toArray⟩]] = List.map enc Q2 := by rw [hks, List.map_append]; rfl
          simp only [↓WP, ↓grdD, ↓grdT, ↓un_dead, ↓binVC, ↓buildVC, ↓sliceVC, WQ, WN, Int.reduceToNat, renl, cll, rent, clt, ↓reduceIte, Nat.reduceLeDiff, Nat.reduceEqDiff, Nat.reduceLT, reduceCtorEq, List.append_nil, Nat.reduceAdd, Nat.reduceSub, Nat.reduceBEq, forall_const, implies_true, cond_true, cond_false, AV.ren, AC.ren, AV.cl, AC.cl, eq_self, List.all_cons, List.all_nil, AV.eqv, AC.eqv, eqvl, eqvt, Sl.eqv, List.map_append, List.length_map, List.length_append, List.length_replicate, List.length_set, List.map_replicate, nilVC, sz_29, el_37, zr_9, fl_29_0, sz_27, sd_27, el_27, sz_39, zr_39, fl_39_0, sz_37, sd_37, sz_9, fl_29_1, fl_29_2, fl_29_3, sz_4, fl_29_4, c_impl_LineOk, c_impl_shownWord, c_strings_Join, dlt hkl, hwk, hM', hf', hget' k hkl, hfold]
          repeat' (first | with_reducible refine And.intro ?_ ?_ | intro _)
          all_goals try omega
          all_goals try exact hlw
          all_goals try exact .inl trivial
          all_goals try exact .inr trivial
          · exact ⟨⟨(k + 1, kc), hkl, by dsimp only; rw [← hQ2]; omega⟩, Le_intro [0, 1] (by simp only [WL, WNL, swA_new, swA_ne, nest_sw_ne, mapLL, List.mem_cons, Nat.reduceAdd, Nat.reduceLT, Nat.reduceLeDiff, Nat.reduceEqDiff, okU, List.nodup_cons, List.not_mem_nil, toT, toL, toO, keysO, renl, rent, cll, clt, eq_self, AV.eqv, AC.eqv, eqvl, eqvt, Sl.eqv, rowsLe, mapLL, rowsCl, List.map_append, List.length_map, List.length_append, List.length_set, List.map_replicate, rowG, List.getElem?_cons_zero, List.getElem?_cons_succ, List.getElem?_nil, List.append_nil, List.nil_append, List.cons_append, ghosts, St.gh, Option.some.injEq, implies_true, setT, AV.ren, AC.ren, AV.cl, AC.cl, List.replicate_succ, List.replicate_zero, List.nodup_nil, List.length_nil, List.length_cons, List.getD_cons_zero, List.getD_cons_succ, ↓reduceIte, ← hQ2, hQl]; try simp), by show x.length - (k + 1) < x.length - k; omega⟩
          · rename_i c3 h3 h4
            exact ⟨⟨(k + 1, c3), hkl, by dsimp only; rw [← hQ2]; omega⟩, Le_intro [0, 3] (by simp only [WL, WNL, swA_new, swA_ne, nest_sw_ne, mapLL, List.mem_cons, Nat.reduceAdd, Nat.reduceLT, Nat.reduceLeDiff, Nat.reduceEqDiff, okU, List.nodup_cons, List.not_mem_nil, toT, toL, toO, keysO, renl, rent, cll, clt, eq_self, AV.eqv, AC.eqv, eqvl, eqvt, Sl.eqv, rowsLe, mapLL, rowsCl, List.map_append, List.length_map, List.length_append, List.length_set, List.map_replicate, rowG, List.getElem?_cons_zero, List.getElem?_cons_succ, List.getElem?_nil, List.append_nil, List.nil_append, List.cons_append, ghosts, St.gh, Option.some.injEq, implies_true, setT, AV.ren, AC.ren, AV.cl, AC.cl, List.replicate_succ, List.replicate_zero, List.nodup_nil, List.length_nil, List.length_cons, List.getD_cons_zero, List.getD_cons_succ, ↓reduceIte, ← hQ2, hQl]; try simp), by show x.length - (k + 1) < x.length - k; omega⟩
        · obtain rfl : k = x.length := by omega
          have hfull := pbK_full X i
          rw [← hx] at hfull
          rw [hfull] at hkc ⊢
          simp only [↓WP, ↓grdD, ↓grdT, ↓un_dead, ↓binVC, ↓buildVC, ↓sliceVC, WQ, WN, Int.reduceToNat, renl, cll, rent, clt, ↓reduceIte, Nat.reduceLeDiff, Nat.reduceEqDiff, Nat.reduceLT, reduceCtorEq, List.append_nil, Nat.reduceAdd, Nat.reduceSub, Nat.reduceBEq, forall_const, implies_true, cond_true, cond_false, AV.ren, AC.ren, AV.cl, AC.cl, eq_self, List.all_cons, List.all_nil, AV.eqv, AC.eqv, eqvl, eqvt, Sl.eqv, List.map_append, List.length_map, List.length_append, List.length_replicate, List.length_set, List.map_replicate, nilVC, sz_29, el_37, zr_9, fl_29_0, sz_27, sd_27, el_27, sz_39, zr_39, fl_39_0, sz_37, sd_37, sz_9, fl_29_1, fl_29_2, fl_29_3, sz_4, fl_29_4, c_impl_LineOk, c_impl_shownWord, c_strings_Join, dge hkg, hw]
          exact ⟨⟨(i + 1, kc), hlt, hkc⟩, Le_intro [0, 1] (by simp only [WL, WNL, swA_new, swA_ne, nest_sw_ne, mapLL, List.mem_cons, Nat.reduceAdd, Nat.reduceLT, Nat.reduceLeDiff, Nat.reduceEqDiff, okU, List.nodup_cons, List.not_mem_nil, toT, toL, toO, keysO, renl, rent, cll, clt, eq_self, AV.eqv, AC.eqv, eqvl, eqvt, Sl.eqv, rowsLe, mapLL, rowsCl, List.map_append, List.length_map, List.length_append, List.length_set, List.map_replicate, rowG, List.getElem?_cons_zero, List.getElem?_cons_succ, List.getElem?_nil, List.append_nil, List.nil_append, List.cons_append, ghosts, St.gh, Option.some.injEq, implies_true, setT, AV.ren, AC.ren, AV.cl, AC.cl, List.replicate_succ, List.replicate_zero, List.nodup_nil, List.length_nil, List.length_cons, List.getD_cons_zero, List.getD_cons_succ, ↓reduceIte]; try simp), by show X.length - (i + 1) < X.length - i; omega⟩
    · obtain rfl : i = X.length := by omega
      obtain ⟨P0, hP0⟩ : ∃ P, P = pbC X X.length := ⟨_, rfl⟩
      rw [← hP0] at hkp hpcs ⊢
      have hall2 : (partsAll X s1 s2 b1 b2).map bytes = P0 ++ (if s1 = ⟨#[]⟩ then [] else [⟨#[60]⟩, ⟨(showW s1).toArray⟩]) ++ (if s2 = ⟨#[]⟩ then [] else [if b1 = true then ⟨#[62, 62]⟩ else ⟨#[62]⟩, ⟨(showW s2).toArray⟩]) ++ (if b2 = true then [⟨#[38]⟩] else []) := by
        unfold partsAll
        rw [List.map_append, List.map_append, List.map_append, hP0]
        unfold pbC
        by_cases e1 : s1 = ⟨#[]⟩ <;> by_cases e2 : s2 = ⟨#[]⟩ <;> cases b1 <;> cases b2 <;> simp only [e1, e2, if_true, if_false, Bool.false_eq_true] <;> rfl
      have hP01 : 1 ≤ P0.length := by
        rw [hP0]
        unfold pbC
        rw [List.length_map]
        exact List.length_pos_iff.2 hPne
      have hjl : (jn (partsAll X s1 s2 b1 b2)).length ≤ 100000 := by
        have e := show_tail (X := X) (i := s1) (o := s2) (more := b1) (back := b2) hPne
        have hz : ((partsAll X s1 s2 b1 b2).map bytes).length ≤ 40 := by
          rw [hall2]
          simp only [List.length_append]
          by_cases e1 : s1 = ⟨#[]⟩ <;> by_cases e2 : s2 = ⟨#[]⟩ <;> cases b2 <;> simp only [e1, e2, if_true, if_false, Bool.false_eq_true, List.length_nil, List.length_cons] <;> omega
        rw [List.length_map] at hz
        have hp : ∀ p ∈ partsAll X s1 s2 b1 b2, p.length ≤ 42 := by
          intro p hp
          have hsw : ∀ w, lw w → (showW w).length ≤ 42 := fun w hw => by
            have := showB_len w.data.toList
            have hl : w.data.toList.length = w.size := rfl
            have := hw.1.2
            unfold showW
            omega
          unfold partsAll at hp
          rcases List.mem_append.1 hp with hp | hp
          · rcases List.mem_append.1 hp with hp | hp
            · rcases List.mem_append.1 hp with hp | hp
              · exact (partsC_small hall (Nat.le_refl _)).2 p hp
              · split at hp
                · simp at hp
                · rename_i h
                  simp only [List.mem_cons, List.not_mem_nil, or_false] at hp
                  rcases hp with rfl | rfl
                  · simp
                  · exact hsw _ (hi1 h)
            · split at hp
              · simp at hp
              · rename_i h
                simp only [List.mem_cons, List.not_mem_nil, or_false] at hp
                rcases hp with rfl | rfl
                · split <;> simp
                · exact hsw _ (ho1 h)
          · split at hp
            · simp only [List.mem_cons, List.not_mem_nil, or_false] at hp
              rw [hp]; simp
            · simp at hp
        have := jn_len hp
        have : (partsAll X s1 s2 b1 b2).length * (42 + 1) ≤ 40 * 43 := Nat.mul_le_mul (by omega) (by omega)
        omega
      obtain ⟨A, hA⟩ : ∃ A, A = partsAll X s1 s2 b1 b2 := ⟨_, rfl⟩
      rw [← hA] at hall2 hjl ⊢
      obtain ⟨Q1, hQ1⟩ : ∃ Q, Q = P0 ++ (if s1 = ⟨#[]⟩ then [] else [⟨#[60]⟩, ⟨(showW s1).toArray⟩]) := ⟨_, rfl⟩
      rw [← hQ1] at hall2
      obtain ⟨Q2, hQ2⟩ : ∃ Q, Q = Q1 ++ (if s2 = ⟨#[]⟩ then [] else [if b1 = true then ⟨#[62, 62]⟩ else ⟨#[62]⟩, ⟨(showW s2).toArray⟩]) := ⟨_, rfl⟩
      rw [← hQ2] at hall2
      obtain ⟨Q3, hQ3⟩ : ∃ Q, Q = Q2 ++ (if b2 = true then [⟨#[38]⟩] else []) := ⟨_, rfl⟩
      rw [← hQ3] at hall2
      have hjn : Lib.join (List.map (fun x : ByteArray => x.data.toList) Q3) ({ data := #[32] } : ByteArray).data.toList = jn A := by
        rw [← hall2, data_bytes]
        rfl
      have hjn2 : Lib.join (List.map (fun x : ByteArray => x.data.toList) Q3) [32] = jn A := hjn
      have hjb : (⟨(jn A).toArray⟩ : ByteArray) = bytes (jn A) := rfl
      have hw1 : s1 = ⟨#[]⟩ ∨ lw s1 := by
        by_cases h : s1 = ⟨#[]⟩
        · exact .inl h
        · exact .inr (hi1 h)
      have hw2 : s2 = ⟨#[]⟩ ∨ lw s2 := by
        by_cases h : s2 = ⟨#[]⟩
        · exact .inl h
        · exact .inr (ho1 h)
      by_cases e1 : s1 = ⟨#[]⟩
      · by_cases e2 : s2 = ⟨#[]⟩
        · cases b1
          · cases b2
            · have hl1 : True := trivial
              have f1 : decide (s1 = ⟨#[]⟩) = true := decide_eq_true e1
              rw [if_pos e1, List.append_nil] at hQ1
              subst hQ1
              have hl2 : True := trivial
              have f2 : decide (s2 = ⟨#[]⟩) = true := decide_eq_true e2
              rw [if_pos e2, List.append_nil] at hQ2
              subst hQ2
              rw [if_neg (by simp), List.append_nil] at hQ3
              subst hQ3
              simp only [↓WP, ↓grdD, ↓grdT, ↓un_dead, ↓binVC, ↓buildVC, ↓sliceVC, WQ, WN, Int.reduceToNat, renl, cll, rent, clt, ↓reduceIte, Nat.reduceLeDiff, Nat.reduceEqDiff, Nat.reduceLT, reduceCtorEq, List.append_nil, Nat.reduceAdd, Nat.reduceSub, Nat.reduceBEq, forall_const, implies_true, cond_true, cond_false, AV.ren, AC.ren, AV.cl, AC.cl, eq_self, List.all_cons, List.all_nil, AV.eqv, AC.eqv, eqvl, eqvt, Sl.eqv, List.map_append, List.length_map, List.length_append, List.length_replicate, List.length_set, List.map_replicate, nilVC, sz_29, el_37, zr_9, fl_29_0, sz_27, sd_27, el_27, sz_39, zr_39, fl_39_0, sz_37, sd_37, sz_9, fl_29_1, fl_29_2, fl_29_3, sz_4, fl_29_4, c_impl_LineOk, c_impl_shownWord, c_strings_Join, dge hge, f1, f2, hjn, hjn2, hjb]
              repeat' (first | with_reducible refine And.intro ?_ ?_ | intro _)
              all_goals try omega
              all_goals try exact hl1
              all_goals try exact hl2
              all_goals try rfl
              all_goals try exact .inl trivial
              all_goals try exact .inr trivial
              all_goals try exact hjl
            · have hl1 : True := trivial
              have f1 : decide (s1 = ⟨#[]⟩) = true := decide_eq_true e1
              rw [if_pos e1, List.append_nil] at hQ1
              subst hQ1
              have hl2 : True := trivial
              have f2 : decide (s2 = ⟨#[]⟩) = true := decide_eq_true e2
              rw [if_pos e2, List.append_nil] at hQ2
              subst hQ2
              rw [if_pos rfl] at hQ3
              have hq3 : List.map enc Q2 ++ [[AC.str ⟨#[38]⟩]] = List.map enc Q3 := by rw [hQ3, List.map_append]; rfl
              have hq3l : Q3.length = Q2.length + 1 := by rw [hQ3, List.length_append]; rfl
              simp only [↓WP, ↓grdD, ↓grdT, ↓un_dead, ↓binVC, ↓buildVC, ↓sliceVC, WQ, WN, Int.reduceToNat, renl, cll, rent, clt, ↓reduceIte, Nat.reduceLeDiff, Nat.reduceEqDiff, Nat.reduceLT, reduceCtorEq, List.append_nil, Nat.reduceAdd, Nat.reduceSub, Nat.reduceBEq, forall_const, implies_true, cond_true, cond_false, AV.ren, AC.ren, AV.cl, AC.cl, eq_self, List.all_cons, List.all_nil, AV.eqv, AC.eqv, eqvl, eqvt, Sl.eqv, List.map_append, List.length_map, List.length_append, List.length_replicate, List.length_set, List.map_replicate, nilVC, sz_29, el_37, zr_9, fl_29_0, sz_27, sd_27, el_27, sz_39, zr_39, fl_39_0, sz_37, sd_37, sz_9, fl_29_1, fl_29_2, fl_29_3, sz_4, fl_29_4, c_impl_LineOk, c_impl_shownWord, c_strings_Join, dge hge, f1, f2, hjn, hjn2, hjb, hq3, hq3l]
              repeat' (first | with_reducible refine And.intro ?_ ?_ | intro _)
              all_goals try omega
              all_goals try exact hl1
              all_goals try exact hl2
              all_goals try rfl
              all_goals try exact .inl trivial
              all_goals try exact .inr trivial
              all_goals try exact hjl
          · cases b2
            · have hl1 : True := trivial
              have f1 : decide (s1 = ⟨#[]⟩) = true := decide_eq_true e1
              rw [if_pos e1, List.append_nil] at hQ1
              subst hQ1
              have hl2 : True := trivial
              have f2 : decide (s2 = ⟨#[]⟩) = true := decide_eq_true e2
              rw [if_pos e2, List.append_nil] at hQ2
              subst hQ2
              rw [if_neg (by simp), List.append_nil] at hQ3
              subst hQ3
              simp only [↓WP, ↓grdD, ↓grdT, ↓un_dead, ↓binVC, ↓buildVC, ↓sliceVC, WQ, WN, Int.reduceToNat, renl, cll, rent, clt, ↓reduceIte, Nat.reduceLeDiff, Nat.reduceEqDiff, Nat.reduceLT, reduceCtorEq, List.append_nil, Nat.reduceAdd, Nat.reduceSub, Nat.reduceBEq, forall_const, implies_true, cond_true, cond_false, AV.ren, AC.ren, AV.cl, AC.cl, eq_self, List.all_cons, List.all_nil, AV.eqv, AC.eqv, eqvl, eqvt, Sl.eqv, List.map_append, List.length_map, List.length_append, List.length_replicate, List.length_set, List.map_replicate, nilVC, sz_29, el_37, zr_9, fl_29_0, sz_27, sd_27, el_27, sz_39, zr_39, fl_39_0, sz_37, sd_37, sz_9, fl_29_1, fl_29_2, fl_29_3, sz_4, fl_29_4, c_impl_LineOk, c_impl_shownWord, c_strings_Join, dge hge, f1, f2, hjn, hjn2, hjb]
              repeat' (first | with_reducible refine And.intro ?_ ?_ | intro _)
              all_goals try omega
              all_goals try exact hl1
              all_goals try exact hl2
              all_goals try rfl
              all_goals try exact .inl trivial
              all_goals try exact .inr trivial
              all_goals try exact hjl
            · have hl1 : True := trivial
              have f1 : decide (s1 = ⟨#[]⟩) = true := decide_eq_true e1
              rw [if_pos e1, List.append_nil] at hQ1
              subst hQ1
              have hl2 : True := trivial
              have f2 : decide (s2 = ⟨#[]⟩) = true := decide_eq_true e2
              rw [if_pos e2, List.append_nil] at hQ2
              subst hQ2
              rw [if_pos rfl] at hQ3
              have hq3 : List.map enc Q2 ++ [[AC.str ⟨#[38]⟩]] = List.map enc Q3 := by rw [hQ3, List.map_append]; rfl
              have hq3l : Q3.length = Q2.length + 1 := by rw [hQ3, List.length_append]; rfl
              simp only [↓WP, ↓grdD, ↓grdT, ↓un_dead, ↓binVC, ↓buildVC, ↓sliceVC, WQ, WN, Int.reduceToNat, renl, cll, rent, clt, ↓reduceIte, Nat.reduceLeDiff, Nat.reduceEqDiff, Nat.reduceLT, reduceCtorEq, List.append_nil, Nat.reduceAdd, Nat.reduceSub, Nat.reduceBEq, forall_const, implies_true, cond_true, cond_false, AV.ren, AC.ren, AV.cl, AC.cl, eq_self, List.all_cons, List.all_nil, AV.eqv, AC.eqv, eqvl, eqvt, Sl.eqv, List.map_append, List.length_map, List.length_append, List.length_replicate, List.length_set, List.map_replicate, nilVC, sz_29, el_37, zr_9, fl_29_0, sz_27, sd_27, el_27, sz_39, zr_39, fl_39_0, sz_37, sd_37, sz_9, fl_29_1, fl_29_2, fl_29_3, sz_4, fl_29_4, c_impl_LineOk, c_impl_shownWord, c_strings_Join, dge hge, f1, f2, hjn, hjn2, hjb, hq3, hq3l]
              repeat' (first | with_reducible refine And.intro ?_ ?_ | intro _)
              all_goals try omega
              all_goals try exact hl1
              all_goals try exact hl2
              all_goals try rfl
              all_goals try exact .inl trivial
              all_goals try exact .inr trivial
              all_goals try exact hjl
        · cases b1
          · cases b2
            · have hl1 : True := trivial
              have f1 : decide (s1 = ⟨#[]⟩) = true := decide_eq_true e1
              rw [if_pos e1, List.append_nil] at hQ1
              subst hQ1
              have hl2 : lw s2 := ho1 e2
              have f2 : decide (s2 = ⟨#[]⟩) = false := decide_eq_false e2
              rw [if_neg e2, if_neg (by simp)] at hQ2
              have hq2 : List.map enc Q1 ++ [[AC.str ⟨#[62]⟩], [AC.str ⟨(showW s2).toArray⟩]] = List.map enc Q2 := by rw [hQ2, List.map_append]; rfl
              have hq2l : Q2.length = Q1.length + 2 := by rw [hQ2, List.length_append]; rfl
              rw [if_neg (by simp), List.append_nil] at hQ3
              subst hQ3
              simp only [↓WP, ↓grdD, ↓grdT, ↓un_dead, ↓binVC, ↓buildVC, ↓sliceVC, WQ, WN, Int.reduceToNat, renl, cll, rent, clt, ↓reduceIte, Nat.reduceLeDiff, Nat.reduceEqDiff, Nat.reduceLT, reduceCtorEq, List.append_nil, Nat.reduceAdd, Nat.reduceSub, Nat.reduceBEq, forall_const, implies_true, cond_true, cond_false, AV.ren, AC.ren, AV.cl, AC.cl, eq_self, List.all_cons, List.all_nil, AV.eqv, AC.eqv, eqvl, eqvt, Sl.eqv, List.map_append, List.length_map, List.length_append, List.length_replicate, List.length_set, List.map_replicate, nilVC, sz_29, el_37, zr_9, fl_29_0, sz_27, sd_27, el_27, sz_39, zr_39, fl_39_0, sz_37, sd_37, sz_9, fl_29_1, fl_29_2, fl_29_3, sz_4, fl_29_4, c_impl_LineOk, c_impl_shownWord, c_strings_Join, dge hge, f1, f2, hjn, hjn2, hjb, hq2, hq2l]
              repeat' (first | with_reducible refine And.intro ?_ ?_ | intro _)
              all_goals try omega
              all_goals try exact hl1
              all_goals try exact hl2
              all_goals try rfl
              all_goals try exact .inl trivial
              all_goals try exact .inr trivial
              all_goals try exact hjl
            · have hl1 : True := trivial
              have f1 : decide (s1 = ⟨#[]⟩) = true := decide_eq_true e1
              rw [if_pos e1, List.append_nil] at hQ1
              subst hQ1
              have hl2 : lw s2 := ho1 e2
              have f2 : decide (s2 = ⟨#[]⟩) = false := decide_eq_false e2
              rw [if_neg e2, if_neg (by simp)] at hQ2
              have hq2 : List.map enc Q1 ++ [[AC.str ⟨#[62]⟩], [AC.str ⟨(showW s2).toArray⟩]] = List.map enc Q2 := by rw [hQ2, List.map_append]; rfl
              have hq2l : Q2.length = Q1.length + 2 := by rw [hQ2, List.length_append]; rfl
              rw [if_pos rfl] at hQ3
              have hq3 : List.map enc Q2 ++ [[AC.str ⟨#[38]⟩]] = List.map enc Q3 := by rw [hQ3, List.map_append]; rfl
              have hq3l : Q3.length = Q2.length + 1 := by rw [hQ3, List.length_append]; rfl
              simp only [↓WP, ↓grdD, ↓grdT, ↓un_dead, ↓binVC, ↓buildVC, ↓sliceVC, WQ, WN, Int.reduceToNat, renl, cll, rent, clt, ↓reduceIte, Nat.reduceLeDiff, Nat.reduceEqDiff, Nat.reduceLT, reduceCtorEq, List.append_nil, Nat.reduceAdd, Nat.reduceSub, Nat.reduceBEq, forall_const, implies_true, cond_true, cond_false, AV.ren, AC.ren, AV.cl, AC.cl, eq_self, List.all_cons, List.all_nil, AV.eqv, AC.eqv, eqvl, eqvt, Sl.eqv, List.map_append, List.length_map, List.length_append, List.length_replicate, List.length_set, List.map_replicate, nilVC, sz_29, el_37, zr_9, fl_29_0, sz_27, sd_27, el_27, sz_39, zr_39, fl_39_0, sz_37, sd_37, sz_9, fl_29_1, fl_29_2, fl_29_3, sz_4, fl_29_4, c_impl_LineOk, c_impl_shownWord, c_strings_Join, dge hge, f1, f2, hjn, hjn2, hjb, hq2, hq2l, hq3, hq3l]
              repeat' (first | with_reducible refine And.intro ?_ ?_ | intro _)
              all_goals try omega
              all_goals try exact hl1
              all_goals try exact hl2
              all_goals try rfl
              all_goals try exact .inl trivial
              all_goals try exact .inr trivial
              all_goals try exact hjl
          · cases b2
            · have hl1 : True := trivial
              have f1 : decide (s1 = ⟨#[]⟩) = true := decide_eq_true e1
              rw [if_pos e1, List.append_nil] at hQ1
              subst hQ1
              have hl2 : lw s2 := ho1 e2
              have f2 : decide (s2 = ⟨#[]⟩) = false := decide_eq_false e2
              rw [if_neg e2, if_pos rfl] at hQ2
              have hq2 : List.map enc Q1 ++ [[AC.str ⟨#[62, 62]⟩], [AC.str ⟨(showW s2).toArray⟩]] = List.map enc Q2 := by rw [hQ2, List.map_append]; rfl
              have hq2l : Q2.length = Q1.length + 2 := by rw [hQ2, List.length_append]; rfl
              rw [if_neg (by simp), List.append_nil] at hQ3
              subst hQ3
              simp only [↓WP, ↓grdD, ↓grdT, ↓un_dead, ↓binVC, ↓buildVC, ↓sliceVC, WQ, WN, Int.reduceToNat, renl, cll, rent, clt, ↓reduceIte, Nat.reduceLeDiff, Nat.reduceEqDiff, Nat.reduceLT, reduceCtorEq, List.append_nil, Nat.reduceAdd, Nat.reduceSub, Nat.reduceBEq, forall_const, implies_true, cond_true, cond_false, AV.ren, AC.ren, AV.cl, AC.cl, eq_self, List.all_cons, List.all_nil, AV.eqv, AC.eqv, eqvl, eqvt, Sl.eqv, List.map_append, List.length_map, List.length_append, List.length_replicate, List.length_set, List.map_replicate, nilVC, sz_29, el_37, zr_9, fl_29_0, sz_27, sd_27, el_27, sz_39, zr_39, fl_39_0, sz_37, sd_37, sz_9, fl_29_1, fl_29_2, fl_29_3, sz_4, fl_29_4, c_impl_LineOk, c_impl_shownWord, c_strings_Join, dge hge, f1, f2, hjn, hjn2, hjb, hq2, hq2l]
              repeat' (first | with_reducible refine And.intro ?_ ?_ | intro _)
              all_goals try omega
              all_goals try exact hl1
              all_goals try exact hl2
              all_goals try rfl
              all_goals try exact .inl trivial
              all_goals try exact .inr trivial
              all_goals try exact hjl
            · have hl1 : True := trivial
              have f1 : decide (s1 = ⟨#[]⟩) = true := decide_eq_true e1
              rw [if_pos e1, List.append_nil] at hQ1
              subst hQ1
              have hl2 : lw s2 := ho1 e2
              have f2 : decide (s2 = ⟨#[]⟩) = false := decide_eq_false e2
              rw [if_neg e2, if_pos rfl] at hQ2
              have hq2 : List.map enc Q1 ++ [[AC.str ⟨#[62, 62]⟩], [AC.str ⟨(showW s2).toArray⟩]] = List.map enc Q2 := by rw [hQ2, List.map_append]; rfl
              have hq2l : Q2.length = Q1.length + 2 := by rw [hQ2, List.length_append]; rfl
              rw [if_pos rfl] at hQ3
              have hq3 : List.map enc Q2 ++ [[AC.str ⟨#[38]⟩]] = List.map enc Q3 := by rw [hQ3, List.map_append]; rfl
              have hq3l : Q3.length = Q2.length + 1 := by rw [hQ3, List.length_append]; rfl
              simp only [↓WP, ↓grdD, ↓grdT, ↓un_dead, ↓binVC, ↓buildVC, ↓sliceVC, WQ, WN, Int.reduceToNat, renl, cll, rent, clt, ↓reduceIte, Nat.reduceLeDiff, Nat.reduceEqDiff, Nat.reduceLT, reduceCtorEq, List.append_nil, Nat.reduceAdd, Nat.reduceSub, Nat.reduceBEq, forall_const, implies_true, cond_true, cond_false, AV.ren, AC.ren, AV.cl, AC.cl, eq_self, List.all_cons, List.all_nil, AV.eqv, AC.eqv, eqvl, eqvt, Sl.eqv, List.map_append, List.length_map, List.length_append, List.length_replicate, List.length_set, List.map_replicate, nilVC, sz_29, el_37, zr_9, fl_29_0, sz_27, sd_27, el_27, sz_39, zr_39, fl_39_0, sz_37, sd_37, sz_9, fl_29_1, fl_29_2, fl_29_3, sz_4, fl_29_4, c_impl_LineOk, c_impl_shownWord, c_strings_Join, dge hge, f1, f2, hjn, hjn2, hjb, hq2, hq2l, hq3, hq3l]
              repeat' (first | with_reducible refine And.intro ?_ ?_ | intro _)
              all_goals try omega
              all_goals try exact hl1
              all_goals try exact hl2
              all_goals try rfl
              all_goals try exact .inl trivial
              all_goals try exact .inr trivial
              all_goals try exact hjl
      · by_cases e2 : s2 = ⟨#[]⟩
        · cases b1
          · cases b2
            · have hl1 : lw s1 := hi1 e1
              have f1 : decide (s1 = ⟨#[]⟩) = false := decide_eq_false e1
              rw [if_neg e1] at hQ1
              have hq1 : List.map enc P0 ++ [[AC.str ⟨#[60]⟩], [AC.str ⟨(showW s1).toArray⟩]] = List.map enc Q1 := by rw [hQ1, List.map_append]; rfl
              have hq1l : Q1.length = P0.length + 2 := by rw [hQ1, List.length_append]; rfl
              have hl2 : True := trivial
              have f2 : decide (s2 = ⟨#[]⟩) = true := decide_eq_true e2
              rw [if_pos e2, List.append_nil] at hQ2
              subst hQ2
              rw [if_neg (by simp), List.append_nil] at hQ3
              subst hQ3
              simp only [↓WP, ↓grdD, ↓grdT, ↓un_dead, ↓binVC, ↓buildVC, ↓sliceVC, WQ, WN, Int.reduceToNat, renl, cll, rent, clt, ↓reduceIte, Nat.reduceLeDiff, Nat.reduceEqDiff, Nat.reduceLT, reduceCtorEq, List.append_nil, Nat.reduceAdd, Nat.reduceSub, Nat.reduceBEq, forall_const, implies_true, cond_true, cond_false, AV.ren, AC.ren, AV.cl, AC.cl, eq_self, List.all_cons, List.all_nil, AV.eqv, AC.eqv, eqvl, eqvt, Sl.eqv, List.map_append, List.length_map, List.length_append, List.length_replicate, List.length_set, List.map_replicate, nilVC, sz_29, el_37, zr_9, fl_29_0, sz_27, sd_27, el_27, sz_39, zr_39, fl_39_0, sz_37, sd_37, sz_9, fl_29_1, fl_29_2, fl_29_3, sz_4, fl_29_4, c_impl_LineOk, c_impl_shownWord, c_strings_Join, dge hge, f1, f2, hjn, hjn2, hjb, hq1, hq1l]
              repeat' (first | with_reducible refine And.intro ?_ ?_ | intro _)
              all_goals try omega
              all_goals try exact hl1
              all_goals try exact hl2
              all_goals try rfl
              all_goals try exact .inl trivial
              all_goals try exact .inr trivial
              all_goals try exact hjl
            · have hl1 : lw s1 := hi1 e1
              have f1 : decide (s1 = ⟨#[]⟩) = false := decide_eq_false e1
              rw [if_neg e1] at hQ1
              have hq1 : List.map enc P0 ++ [[AC.str ⟨#[60]⟩], [AC.str ⟨(showW s1).toArray⟩]] = List.map enc Q1 := by rw [hQ1, List.map_append]; rfl
              have hq1l : Q1.length = P0.length + 2 := by rw [hQ1, List.length_append]; rfl
              have hl2 : True := trivial
              have f2 : decide (s2 = ⟨#[]⟩) = true := decide_eq_true e2
              rw [if_pos e2, List.append_nil] at hQ2
              subst hQ2
              rw [if_pos rfl] at hQ3
              have hq3 : List.map enc Q2 ++ [[AC.str ⟨#[38]⟩]] = List.map enc Q3 := by rw [hQ3, List.map_append]; rfl
              have hq3l : Q3.length = Q2.length + 1 := by rw [hQ3, List.length_append]; rfl
              simp only [↓WP, ↓grdD, ↓grdT, ↓un_dead, ↓binVC, ↓buildVC, ↓sliceVC, WQ, WN, Int.reduceToNat, renl, cll, rent, clt, ↓reduceIte, Nat.reduceLeDiff, Nat.reduceEqDiff, Nat.reduceLT, reduceCtorEq, List.append_nil, Nat.reduceAdd, Nat.reduceSub, Nat.reduceBEq, forall_const, implies_true, cond_true, cond_false, AV.ren, AC.ren, AV.cl, AC.cl, eq_self, List.all_cons, List.all_nil, AV.eqv, AC.eqv, eqvl, eqvt, Sl.eqv, List.map_append, List.length_map, List.length_append, List.length_replicate, List.length_set, List.map_replicate, nilVC, sz_29, el_37, zr_9, fl_29_0, sz_27, sd_27, el_27, sz_39, zr_39, fl_39_0, sz_37, sd_37, sz_9, fl_29_1, fl_29_2, fl_29_3, sz_4, fl_29_4, c_impl_LineOk, c_impl_shownWord, c_strings_Join, dge hge, f1, f2, hjn, hjn2, hjb, hq1, hq1l, hq3, hq3l]
              repeat' (first | with_reducible refine And.intro ?_ ?_ | intro _)
              all_goals try omega
              all_goals try exact hl1
              all_goals try exact hl2
              all_goals try rfl
              all_goals try exact .inl trivial
              all_goals try exact .inr trivial
              all_goals try exact hjl
          · cases b2
            · have hl1 : lw s1 := hi1 e1
              have f1 : decide (s1 = ⟨#[]⟩) = false := decide_eq_false e1
              rw [if_neg e1] at hQ1
              have hq1 : List.map enc P0 ++ [[AC.str ⟨#[60]⟩], [AC.str ⟨(showW s1).toArray⟩]] = List.map enc Q1 := by rw [hQ1, List.map_append]; rfl
              have hq1l : Q1.length = P0.length + 2 := by rw [hQ1, List.length_append]; rfl
              have hl2 : True := trivial
              have f2 : decide (s2 = ⟨#[]⟩) = true := decide_eq_true e2
              rw [if_pos e2, List.append_nil] at hQ2
              subst hQ2
              rw [if_neg (by simp), List.append_nil] at hQ3
              subst hQ3
              simp only [↓WP, ↓grdD, ↓grdT, ↓un_dead, ↓binVC, ↓buildVC, ↓sliceVC, WQ, WN, Int.reduceToNat, renl, cll, rent, clt, ↓reduceIte, Nat.reduceLeDiff, Nat.reduceEqDiff, Nat.reduceLT, reduceCtorEq, List.append_nil, Nat.reduceAdd, Nat.reduceSub, Nat.reduceBEq, forall_const, implies_true, cond_true, cond_false, AV.ren, AC.ren, AV.cl, AC.cl, eq_self, List.all_cons, List.all_nil, AV.eqv, AC.eqv, eqvl, eqvt, Sl.eqv, List.map_append, List.length_map, List.length_append, List.length_replicate, List.length_set, List.map_replicate, nilVC, sz_29, el_37, zr_9, fl_29_0, sz_27, sd_27, el_27, sz_39, zr_39, fl_39_0, sz_37, sd_37, sz_9, fl_29_1, fl_29_2, fl_29_3, sz_4, fl_29_4, c_impl_LineOk, c_impl_shownWord, c_strings_Join, dge hge, f1, f2, hjn, hjn2, hjb, hq1, hq1l]
              repeat' (first | with_reducible refine And.intro ?_ ?_ | intro _)
              all_goals try omega
              all_goals try exact hl1
              all_goals try exact hl2
              all_goals try rfl
              all_goals try exact .inl trivial
              all_goals try exact .inr trivial
              all_goals try exact hjl
            · have hl1 : lw s1 := hi1 e1
              have f1 : decide (s1 = ⟨#[]⟩) = false := decide_eq_false e1
              rw [if_neg e1] at hQ1
              have hq1 : List.map enc P0 ++ [[AC.str ⟨#[60]⟩], [AC.str ⟨(showW s1).toArray⟩]] = List.map enc Q1 := by rw [hQ1, List.map_append]; rfl
              have hq1l : Q1.length = P0.length + 2 := by rw [hQ1, List.length_append]; rfl
              have hl2 : True := trivial
              have f2 : decide (s2 = ⟨#[]⟩) = true := decide_eq_true e2
              rw [if_pos e2, List.append_nil] at hQ2
              subst hQ2
              rw [if_pos rfl] at hQ3
              have hq3 : List.map enc Q2 ++ [[AC.str ⟨#[38]⟩]] = List.map enc Q3 := by rw [hQ3, List.map_append]; rfl
              have hq3l : Q3.length = Q2.length + 1 := by rw [hQ3, List.length_append]; rfl
              simp only [↓WP, ↓grdD, ↓grdT, ↓un_dead, ↓binVC, ↓buildVC, ↓sliceVC, WQ, WN, Int.reduceToNat, renl, cll, rent, clt, ↓reduceIte, Nat.reduceLeDiff, Nat.reduceEqDiff, Nat.reduceLT, reduceCtorEq, List.append_nil, Nat.reduceAdd, Nat.reduceSub, Nat.reduceBEq, forall_const, implies_true, cond_true, cond_false, AV.ren, AC.ren, AV.cl, AC.cl, eq_self, List.all_cons, List.all_nil, AV.eqv, AC.eqv, eqvl, eqvt, Sl.eqv, List.map_append, List.length_map, List.length_append, List.length_replicate, List.length_set, List.map_replicate, nilVC, sz_29, el_37, zr_9, fl_29_0, sz_27, sd_27, el_27, sz_39, zr_39, fl_39_0, sz_37, sd_37, sz_9, fl_29_1, fl_29_2, fl_29_3, sz_4, fl_29_4, c_impl_LineOk, c_impl_shownWord, c_strings_Join, dge hge, f1, f2, hjn, hjn2, hjb, hq1, hq1l, hq3, hq3l]
              repeat' (first | with_reducible refine And.intro ?_ ?_ | intro _)
              all_goals try omega
              all_goals try exact hl1
              all_goals try exact hl2
              all_goals try rfl
              all_goals try exact .inl trivial
              all_goals try exact .inr trivial
              all_goals try exact hjl
        · cases b1
          · cases b2
            · have hl1 : lw s1 := hi1 e1
              have f1 : decide (s1 = ⟨#[]⟩) = false := decide_eq_false e1
              rw [if_neg e1] at hQ1
              have hq1 : List.map enc P0 ++ [[AC.str ⟨#[60]⟩], [AC.str ⟨(showW s1).toArray⟩]] = List.map enc Q1 := by rw [hQ1, List.map_append]; rfl
              have hq1l : Q1.length = P0.length + 2 := by rw [hQ1, List.length_append]; rfl
              have hl2 : lw s2 := ho1 e2
              have f2 : decide (s2 = ⟨#[]⟩) = false := decide_eq_false e2
              rw [if_neg e2, if_neg (by simp)] at hQ2
              have hq2 : List.map enc Q1 ++ [[AC.str ⟨#[62]⟩], [AC.str ⟨(showW s2).toArray⟩]] = List.map enc Q2 := by rw [hQ2, List.map_append]; rfl
              have hq2l : Q2.length = Q1.length + 2 := by rw [hQ2, List.length_append]; rfl
              rw [if_neg (by simp), List.append_nil] at hQ3
              subst hQ3
              simp only [↓WP, ↓grdD, ↓grdT, ↓un_dead, ↓binVC, ↓buildVC, ↓sliceVC, WQ, WN, Int.reduceToNat, renl, cll, rent, clt, ↓reduceIte, Nat.reduceLeDiff, Nat.reduceEqDiff, Nat.reduceLT, reduceCtorEq, List.append_nil, Nat.reduceAdd, Nat.reduceSub, Nat.reduceBEq, forall_const, implies_true, cond_true, cond_false, AV.ren, AC.ren, AV.cl, AC.cl, eq_self, List.all_cons, List.all_nil, AV.eqv, AC.eqv, eqvl, eqvt, Sl.eqv, List.map_append, List.length_map, List.length_append, List.length_replicate, List.length_set, List.map_replicate, nilVC, sz_29, el_37, zr_9, fl_29_0, sz_27, sd_27, el_27, sz_39, zr_39, fl_39_0, sz_37, sd_37, sz_9, fl_29_1, fl_29_2, fl_29_3, sz_4, fl_29_4, c_impl_LineOk, c_impl_shownWord, c_strings_Join, dge hge, f1, f2, hjn, hjn2, hjb, hq1, hq1l, hq2, hq2l]
              repeat' (first | with_reducible refine And.intro ?_ ?_ | intro _)
              all_goals try omega
              all_goals try exact hl1
              all_goals try exact hl2
              all_goals try rfl
              all_goals try exact .inl trivial
              all_goals try exact .inr trivial
              all_goals try exact hjl
            · have hl1 : lw s1 := hi1 e1
              have f1 : decide (s1 = ⟨#[]⟩) = false := decide_eq_false e1
              rw [if_neg e1] at hQ1
              have hq1 : List.map enc P0 ++ [[AC.str ⟨#[60]⟩], [AC.str ⟨(showW s1).toArray⟩]] = List.map enc Q1 := by rw [hQ1, List.map_append]; rfl
              have hq1l : Q1.length = P0.length + 2 := by rw [hQ1, List.length_append]; rfl
              have hl2 : lw s2 := ho1 e2
              have f2 : decide (s2 = ⟨#[]⟩) = false := decide_eq_false e2
              rw [if_neg e2, if_neg (by simp)] at hQ2
              have hq2 : List.map enc Q1 ++ [[AC.str ⟨#[62]⟩], [AC.str ⟨(showW s2).toArray⟩]] = List.map enc Q2 := by rw [hQ2, List.map_append]; rfl
              have hq2l : Q2.length = Q1.length + 2 := by rw [hQ2, List.length_append]; rfl
              rw [if_pos rfl] at hQ3
              have hq3 : List.map enc Q2 ++ [[AC.str ⟨#[38]⟩]] = List.map enc Q3 := by rw [hQ3, List.map_append]; rfl
              have hq3l : Q3.length = Q2.length + 1 := by rw [hQ3, List.length_append]; rfl
              simp only [↓WP, ↓grdD, ↓grdT, ↓un_dead, ↓binVC, ↓buildVC, ↓sliceVC, WQ, WN, Int.reduceToNat, renl, cll, rent, clt, ↓reduceIte, Nat.reduceLeDiff, Nat.reduceEqDiff, Nat.reduceLT, reduceCtorEq, List.append_nil, Nat.reduceAdd, Nat.reduceSub, Nat.reduceBEq, forall_const, implies_true, cond_true, cond_false, AV.ren, AC.ren, AV.cl, AC.cl, eq_self, List.all_cons, List.all_nil, AV.eqv, AC.eqv, eqvl, eqvt, Sl.eqv, List.map_append, List.length_map, List.length_append, List.length_replicate, List.length_set, List.map_replicate, nilVC, sz_29, el_37, zr_9, fl_29_0, sz_27, sd_27, el_27, sz_39, zr_39, fl_39_0, sz_37, sd_37, sz_9, fl_29_1, fl_29_2, fl_29_3, sz_4, fl_29_4, c_impl_LineOk, c_impl_shownWord, c_strings_Join, dge hge, f1, f2, hjn, hjn2, hjb, hq1, hq1l, hq2, hq2l, hq3, hq3l]
              repeat' (first | with_reducible refine And.intro ?_ ?_ | intro _)
              all_goals try omega
              all_goals try exact hl1
              all_goals try exact hl2
              all_goals try rfl
              all_goals try exact .inl trivial
              all_goals try exact .inr trivial
              all_goals try exact hjl
          · cases b2
            · have hl1 : lw s1 := hi1 e1
              have f1 : decide (s1 = ⟨#[]⟩) = false := decide_eq_false e1
              rw [if_neg e1] at hQ1
              have hq1 : List.map enc P0 ++ [[AC.str ⟨#[60]⟩], [AC.str ⟨(showW s1).toArray⟩]] = List.map enc Q1 := by rw [hQ1, List.map_append]; rfl
              have hq1l : Q1.length = P0.length + 2 := by rw [hQ1, List.length_append]; rfl
              have hl2 : lw s2 := ho1 e2
              have f2 : decide (s2 = ⟨#[]⟩) = false := decide_eq_false e2
              rw [if_neg e2, if_pos rfl] at hQ2
              have hq2 : List.map enc Q1 ++ [[AC.str ⟨#[62, 62]⟩], [AC.str ⟨(showW s2).toArray⟩]] = List.map enc Q2 := by rw [hQ2, List.map_append]; rfl
              have hq2l : Q2.length = Q1.length + 2 := by rw [hQ2, List.length_append]; rfl
              rw [if_neg (by simp), List.append_nil] at hQ3
              subst hQ3
              simp only [↓WP, ↓grdD, ↓grdT, ↓un_dead, ↓binVC, ↓buildVC, ↓sliceVC, WQ, WN, Int.reduceToNat, renl, cll, rent, clt, ↓reduceIte, Nat.reduceLeDiff, Nat.reduceEqDiff, Nat.reduceLT, reduceCtorEq, List.append_nil, Nat.reduceAdd, Nat.reduceSub, Nat.reduceBEq, forall_const, implies_true, cond_true, cond_false, AV.ren, AC.ren, AV.cl, AC.cl, eq_self, List.all_cons, List.all_nil, AV.eqv, AC.eqv, eqvl, eqvt, Sl.eqv, List.map_append, List.length_map, List.length_append, List.length_replicate, List.length_set, List.map_replicate, nilVC, sz_29, el_37, zr_9, fl_29_0, sz_27, sd_27, el_27, sz_39, zr_39, fl_39_0, sz_37, sd_37, sz_9, fl_29_1, fl_29_2, fl_29_3, sz_4, fl_29_4, c_impl_LineOk, c_impl_shownWord, c_strings_Join, dge hge, f1, f2, hjn, hjn2, hjb, hq1, hq1l, hq2, hq2l]
              repeat' (first | with_reducible refine And.intro ?_ ?_ | intro _)
              all_goals try omega
              all_goals try exact hl1
              all_goals try exact hl2
              all_goals try rfl
              all_goals try exact .inl trivial
              all_goals try exact .inr trivial
              all_goals try exact hjl
            · have hl1 : lw s1 := hi1 e1
              have f1 : decide (s1 = ⟨#[]⟩) = false := decide_eq_false e1
              rw [if_neg e1] at hQ1
              have hq1 : List.map enc P0 ++ [[AC.str ⟨#[60]⟩], [AC.str ⟨(showW s1).toArray⟩]] = List.map enc Q1 := by rw [hQ1, List.map_append]; rfl
              have hq1l : Q1.length = P0.length + 2 := by rw [hQ1, List.length_append]; rfl
              have hl2 : lw s2 := ho1 e2
              have f2 : decide (s2 = ⟨#[]⟩) = false := decide_eq_false e2
              rw [if_neg e2, if_pos rfl] at hQ2
              have hq2 : List.map enc Q1 ++ [[AC.str ⟨#[62, 62]⟩], [AC.str ⟨(showW s2).toArray⟩]] = List.map enc Q2 := by rw [hQ2, List.map_append]; rfl
              have hq2l : Q2.length = Q1.length + 2 := by rw [hQ2, List.length_append]; rfl
              rw [if_pos rfl] at hQ3
              have hq3 : List.map enc Q2 ++ [[AC.str ⟨#[38]⟩]] = List.map enc Q3 := by rw [hQ3, List.map_append]; rfl
              have hq3l : Q3.length = Q2.length + 1 := by rw [hQ3, List.length_append]; rfl
              simp only [↓WP, ↓grdD, ↓grdT, ↓un_dead, ↓binVC, ↓buildVC, ↓sliceVC, WQ, WN, Int.reduceToNat, renl, cll, rent, clt, ↓reduceIte, Nat.reduceLeDiff, Nat.reduceEqDiff, Nat.reduceLT, reduceCtorEq, List.append_nil, Nat.reduceAdd, Nat.reduceSub, Nat.reduceBEq, forall_const, implies_true, cond_true, cond_false, AV.ren, AC.ren, AV.cl, AC.cl, eq_self, List.all_cons, List.all_nil, AV.eqv, AC.eqv, eqvl, eqvt, Sl.eqv, List.map_append, List.length_map, List.length_append, List.length_replicate, List.length_set, List.map_replicate, nilVC, sz_29, el_37, zr_9, fl_29_0, sz_27, sd_27, el_27, sz_39, zr_39, fl_39_0, sz_37, sd_37, sz_9, fl_29_1, fl_29_2, fl_29_3, sz_4, fl_29_4, c_impl_LineOk, c_impl_shownWord, c_strings_Join, dge hge, f1, f2, hjn, hjn2, hjb, hq1, hq1l, hq2, hq2l, hq3, hq3l]
              repeat' (first | with_reducible refine And.intro ?_ ?_ | intro _)
              all_goals try omega
              all_goals try exact hl1
              all_goals try exact hl2
              all_goals try rfl
              all_goals try exact .inl trivial
              all_goals try exact .inr trivial
              all_goals try exact hjl
  · have hsh : showO X s1 s2 b1 b2 = ⟨#[]⟩ := if_neg hok
    rw [hsh]
    simp only [↓WP, ↓grdD, ↓grdT, ↓un_dead, ↓binVC, ↓buildVC, ↓sliceVC, WQ, WN, Int.reduceToNat, renl, cll, rent, clt, ↓reduceIte, Nat.reduceLeDiff, Nat.reduceEqDiff, Nat.reduceLT, reduceCtorEq, List.append_nil, Nat.reduceAdd, Nat.reduceSub, Nat.reduceBEq, forall_const, implies_true, cond_true, cond_false, AV.ren, AC.ren, AV.cl, AC.cl, eq_self, List.all_cons, List.all_nil, AV.eqv, AC.eqv, eqvl, eqvt, Sl.eqv, List.map_append, List.length_map, List.length_append, List.length_replicate, List.length_set, List.map_replicate, nilVC, sz_29, el_37, zr_9, fl_29_0, sz_27, sd_27, el_27, sz_39, zr_39, fl_39_0, sz_37, sd_37, sz_9, fl_29_1, fl_29_2, fl_29_3, sz_4, fl_29_4, c_impl_LineOk, c_impl_shownWord, c_strings_Join, decide_eq_false hok, Row2Ok_upE ha, row2_upE ha, hX]
    exact ⟨hsm, h1, h2⟩
end Go.Eng.T
