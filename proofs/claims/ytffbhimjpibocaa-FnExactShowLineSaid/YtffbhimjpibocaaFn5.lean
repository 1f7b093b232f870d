/- line: LineOk of both. -/
import Derived.Test.YtffbhimjpibocaaFn4
set_option linter.unusedVariables false
set_option linter.unusedSimpArgs false
set_option linter.unusedSectionVars false
namespace Go.Eng
/-- what stands ahead of the programs -/
def headOk (n : Nat) (i o : ByteArray) (more : Bool) : Prop := (1 ≤ n ∧ n ≤ 5) ∧ (i ≠ ⟨#[]⟩ → lw i) ∧ (o ≠ ⟨#[]⟩ → lw o) ∧ (more = true → o ≠ ⟨#[]⟩)
instance (n : Nat) (i o : ByteArray) (more : Bool) : Decidable (headOk n i o more) := by unfold headOk; infer_instance
theorem lineOk_bad {X : List (List ByteArray)} {i o : ByteArray} {more : Bool} (h : headOk X.length i o more) : decide (lineOk X i o more) = !X.any badC := by
  rw [Bool.eq_iff_iff, decide_eq_true_iff, Bool.not_eq_true', List.any_eq_false]
  unfold lineOk
  constructor
  · rintro ⟨_, h2⟩ x hx
    have := (badC_iff x).2 (h2 x hx)
    simp [this]
  · intro h2
    refine ⟨h, fun x hx => (badC_iff x).1 ?_⟩
    have := h2 x hx
    simpa using this
theorem lineOk_no {X : List (List ByteArray)} {i o : ByteArray} {more : Bool} (h : ¬ headOk X.length i o more) : decide (lineOk X i o more) = false := decide_eq_false fun h2 => h h2.1
theorem head_bad {n : Nat} {s1 s2 : ByteArray} {b1 : Bool} (e0 : 1 ≤ n ∧ n ≤ 5) : ((!decide (s1 = ⟨#[]⟩) && !decide (lw s1) || !decide (s2 = ⟨#[]⟩) && !decide (lw s2) || b1 && decide (s2 = ⟨#[]⟩)) = false) ↔ headOk n s1 s2 b1 := by
  unfold headOk
  by_cases a : s1 = ⟨#[]⟩ <;> by_cases b : lw s1 <;> by_cases c : s2 = ⟨#[]⟩ <;> by_cases d : lw s2 <;> cases b1 <;> simp [a, b, c, d, e0]
end Go.Eng
namespace Go.Eng.T
open Go.Proofs
open Cel (enc dec)
set_option maxRecDepth 100000
set_option maxHeartbeats 4000000
def c_impl_LineOk : Contract := ⟨8, fun args M => match args with
  | [.agg [.sl a n _, .str s1, .str s2, .bool b1, .bool _]] => .pure ((Row2Ok ByteArray a n M ∧ ∀ x ∈ row2 ByteArray a n M, ∀ w ∈ x, small w) ∧ small s1 ∧ small s2) (Eng.B (decide (lineOk (row2 ByteArray a n M) s1 s2 b1)))
  | _ => .bad⟩
theorem ok_impl_LineOk : fnP Try.prog c_impl_LineOk.f = true ∧ ∀ args M, (c_impl_LineOk.sp args M).OK Try.prog c_impl_LineOk.f args M := by
  refine ⟨fp_8, fun args M => ?_⟩
  unfold c_impl_LineOk
  dsimp only
  split
  case h_2 => trivial
  rename_i a n c s1 s2 b1 b2
  rintro ⟨⟨ha, hsm⟩, h1, h2⟩
  obtain ⟨hs, X, hX, rfl, hat⟩ := ha.x
  rw [hX] at hsm ⊢
  refine goIn hf_8 rfl (nt := 43) rfl (rs := [.tmp 2]) rfl (C := [c_impl_in, c_impl_lineWord, c_slices_ContainsFunc_Cmd]) ⟨(by first | exact .inl ok_impl_in | exact ok_impl_in), (by first | exact .inl ok_impl_lineWord | exact ok_impl_lineWord), (by first | exact .inl ok_slices_ContainsFunc_Cmd | exact ok_slices_ContainsFunc_Cmd), trivial⟩ (q := fun _ => false) okQ_none mixed (O := fun _ => .nil) (by kernel_rfl) ?_
  by_cases e0 : 1 ≤ X.length ∧ X.length ≤ 5
  · have l0 : decide ((1 : Int) ≤ X.length ∧ (X.length : Int) ≤ 5) = true := decide_eq_true (by omega)
    simp only [↓WP, ↓grdD, ↓grdT, ↓un_dead, ↓binVC, ↓buildVC, ↓sliceVC, WQ, WN, Int.reduceToNat, renl, cll, rent, clt, ↓reduceIte, Nat.reduceLeDiff, Nat.reduceEqDiff, Nat.reduceLT, reduceCtorEq, List.append_nil, Nat.reduceAdd, Nat.reduceSub, Nat.reduceBEq, forall_const, implies_true, cond_true, cond_false, AV.ren, AC.ren, AV.cl, AC.cl, eq_self, List.all_cons, List.all_nil, AV.eqv, AC.eqv, eqvl, eqvt, Sl.eqv, List.map_append, List.length_map, List.length_append, List.length_replicate, List.length_set, List.map_replicate, nilVC, fl_29_0, sz_27, sd_27, fl_29_1, sz_9, fl_29_2, fl_29_3, sz_4, c_impl_in, c_impl_lineWord, c_slices_ContainsFunc_Cmd, l0, Row2Ok_upE ha, row2_upE ha, hX]
    refine ⟨fun _ => h1, fun _ => h2, fun hb => ?_, fun hb => ⟨hsm, ?_⟩⟩
    · rw [lineOk_no fun hh => by rw [(head_bad e0).2 hh] at hb; cases hb]
    · rw [lineOk_bad ((head_bad e0).1 hb)]
  · have l0 : decide ((1 : Int) ≤ X.length ∧ (X.length : Int) ≤ 5) = false := decide_eq_false (by omega)
    have hn := lineOk_no (X := X) (i := s1) (o := s2) (more := b1) fun h => e0 h.1
    rw [hn]
    simp only [↓WP, ↓grdD, ↓grdT, ↓un_dead, ↓binVC, ↓buildVC, ↓sliceVC, WQ, WN, Int.reduceToNat, renl, cll, rent, clt, ↓reduceIte, Nat.reduceLeDiff, Nat.reduceEqDiff, Nat.reduceLT, reduceCtorEq, List.append_nil, Nat.reduceAdd, Nat.reduceSub, Nat.reduceBEq, forall_const, implies_true, cond_true, cond_false, AV.ren, AC.ren, AV.cl, AC.cl, eq_self, List.all_cons, List.all_nil, AV.eqv, AC.eqv, eqvl, eqvt, Sl.eqv, List.map_append, List.length_map, List.length_append, List.length_replicate, List.length_set, List.map_replicate, nilVC, fl_29_0, sz_27, sd_27, fl_29_1, sz_9, fl_29_2, fl_29_3, sz_4, c_impl_in, c_impl_lineWord, c_slices_ContainsFunc_Cmd, l0, Row2Ok_upE ha, row2_upE ha, hX]
def c_spec_LineOk : Contract := ⟨6, fun args M => match args with
  | [.agg [.sl a n _, .str s1, .str s2, .bool b1, .bool _]] => .pure ((Row2Ok ByteArray a n M ∧ ∀ x ∈ row2 ByteArray a n M, ∀ w ∈ x, small w) ∧ small s1 ∧ small s2) (Eng.B (decide (lineOk (row2 ByteArray a n M) s1 s2 b1)))
  | _ => .bad⟩
theorem ok_spec_LineOk : fnP Try.prog c_spec_LineOk.f = true ∧ ∀ args M, (c_spec_LineOk.sp args M).OK Try.prog c_spec_LineOk.f args M := by
  refine ⟨fp_6, fun args M => ?_⟩
  unfold c_spec_LineOk
  dsimp only
  split
  case h_2 => trivial
  rename_i a n c s1 s2 b1 b2
  rintro ⟨⟨ha, hsm⟩, h1, h2⟩
  obtain ⟨hs, X, hX, rfl, hat⟩ := ha.x
  rw [hX] at hsm ⊢
  refine goIn hf_6 rfl (nt := 79) rfl (rs := [.tmp 2]) rfl (C := [c_spec_l1In, c_spec_l34Word]) ⟨(by first | exact .inl ok_spec_l1In | exact ok_spec_l1In), (by first | exact .inl ok_spec_l34Word | exact ok_spec_l34Word), trivial⟩ (q := fun _ => false) okQ_none mixed (O := fun _ => .nil) (by kernel_rfl) ?_
  by_cases e0 : 1 ≤ X.length ∧ X.length ≤ 5
  · have l0 : decide ((1 : Int) ≤ X.length ∧ (X.length : Int) ≤ 5) = true := decide_eq_true (by omega)
    simp only [↓WP, ↓grdD, ↓grdT, ↓un_dead, ↓binVC, ↓buildVC, ↓sliceVC, WQ, WN, Int.reduceToNat, renl, cll, rent, clt, ↓reduceIte, Nat.reduceLeDiff, Nat.reduceEqDiff, Nat.reduceLT, reduceCtorEq, List.append_nil, Nat.reduceAdd, Nat.reduceSub, Nat.reduceBEq, forall_const, implies_true, cond_true, cond_false, AV.ren, AC.ren, AV.cl, AC.cl, eq_self, List.all_cons, List.all_nil, AV.eqv, AC.eqv, eqvl, eqvt, Sl.eqv, List.map_append, List.length_map, List.length_append, List.length_replicate, List.length_set, List.map_replicate, nilVC, fl_29_0, sz_27, sd_27, fl_29_1, sz_9, fl_29_2, fl_29_3, sz_4, el_27, fl_39_0, sz_37, sd_37, el_37, c_spec_l1In, c_spec_l34Word, l0]
    refine ⟨fun _ => h1, fun _ => h2, fun hb => ?_, fun hb => ?_⟩
    · rw [lineOk_no fun hh => by rw [(head_bad e0).2 hh] at hb; cases hb]
    · rw [lineOk_bad ((head_bad e0).1 hb)]
      refine loopI (J := {i : Nat // i ≤ X.length ∧ ∀ j, j < i → badC (X.getD j default) = false}) (fun i => ⟨slots 79 [(1, .c (.ptr ⟨.loc 0, 0, 0, 0⟩)), (3, I i.1)], M, [], [.box 29 [.sl a.up X.length c, .str s1, .str s2, .bool b1, .bool b2]]⟩) (fun i => X.length - i.1) ⟨0, by omega, fun j hj => by omega⟩ (Le_intro [0] (by simp only [WL, WNL, swA_new, swA_ne, nest_sw_ne, mapLL, List.mem_cons, Nat.reduceAdd, Nat.reduceLT, Nat.reduceLeDiff, Nat.reduceEqDiff, okU, List.nodup_cons, List.not_mem_nil, toT, toL, toO, keysO, renl, rent, cll, clt, eq_self, AV.eqv, AC.eqv, eqvl, eqvt, Sl.eqv, rowsLe, mapLL, rowsCl, List.map_append, List.length_map, List.length_append, List.length_set, List.map_replicate, rowG, List.getElem?_cons_zero, List.getElem?_cons_succ, List.getElem?_nil, List.append_nil, List.nil_append, List.cons_append, ghosts, St.gh, Option.some.injEq, implies_true, setT, AV.ren, AC.ren, AV.cl, AC.cl, List.replicate_succ, List.replicate_zero, List.nodup_nil, List.length_nil, List.length_cons, List.getD_cons_zero, List.getD_cons_succ, ↓reduceIte]; try simp)) ?_
      rintro ⟨i, hi, he⟩
      have hw := wS (i := i) (by omega)
      rcases Nat.lt_or_ge i X.length with hlt | hge
      · obtain ⟨own, ty, cnt, cap, len, get, b, cc, hM, hf, hic, hkn, hget⟩ := hat (by omega)
        obtain ⟨g1, g2, g3, g4⟩ := hget i hlt
        have hsx : ∀ w ∈ X.getD i default, small w := hsm _ (by rw [getD_of_lt hlt]; exact List.getElem_mem _)
        have hbad : badC (X.getD i default) = true → (!X.any badC) = false := fun h => by
          rw [Bool.not_eq_false', List.any_eq_true]
          exact ⟨_, getD_mem hlt, h⟩
        obtain ⟨x, hx⟩ : ∃ x, x = X.getD i default := ⟨_, rfl⟩
        rw [← hx] at hsx hbad g1 g2 g3 g4
        by_cases hl : 1 ≤ x.length ∧ x.length ≤ 6
        · have hl1 : decide ((1 : Int) ≤ x.length ∧ (x.length : Int) ≤ 6) = true := decide_eq_true (by omega)
          simp only [↓WP, ↓grdD, ↓grdT, ↓un_dead, ↓binVC, ↓buildVC, ↓sliceVC, WQ, WN, Int.reduceToNat, renl, cll, rent, clt, ↓reduceIte, Nat.reduceLeDiff, Nat.reduceEqDiff, Nat.reduceLT, reduceCtorEq, List.append_nil, Nat.reduceAdd, Nat.reduceSub, Nat.reduceBEq, forall_const, implies_true, cond_true, cond_false, AV.ren, AC.ren, AV.cl, AC.cl, eq_self, List.all_cons, List.all_nil, AV.eqv, AC.eqv, eqvl, eqvt, Sl.eqv, List.map_append, List.length_map, List.length_append, List.length_replicate, List.length_set, List.map_replicate, nilVC, fl_29_0, sz_27, sd_27, fl_29_1, sz_9, fl_29_2, fl_29_3, sz_4, el_27, fl_39_0, sz_37, sd_37, el_37, c_spec_l1In, c_spec_l34Word, dlt hlt, hw, hM, hf, g1, hl1]
          repeat refine ⟨by omega, ?_⟩
          obtain ⟨hs2, Y, hY, hYl, hat2⟩ := g3.x
          rw [g4] at hY
          subst hY
          refine loopI (J := {k : Nat // k ≤ x.length ∧ ∀ j, j < k → lw (x.getD j default)}) (fun k => ⟨slots 79 [(1, .c (.ptr ⟨.loc 0, 0, 0, 0⟩)), (3, I i), (4, I k.1)], M, [], [.box 29 [.sl a.up X.length c, .str s1, .str s2, .bool b1, .bool b2]]⟩) (fun k => x.length - k.1) ⟨0, by omega, fun j hj => by omega⟩ (Le_intro [0] (by simp only [WL, WNL, swA_new, swA_ne, nest_sw_ne, mapLL, List.mem_cons, Nat.reduceAdd, Nat.reduceLT, Nat.reduceLeDiff, Nat.reduceEqDiff, okU, List.nodup_cons, List.not_mem_nil, toT, toL, toO, keysO, renl, rent, cll, clt, eq_self, AV.eqv, AC.eqv, eqvl, eqvt, Sl.eqv, rowsLe, mapLL, rowsCl, List.map_append, List.length_map, List.length_append, List.length_set, List.map_replicate, rowG, List.getElem?_cons_zero, List.getElem?_cons_succ, List.getElem?_nil, List.append_nil, List.nil_append, List.cons_append, ghosts, St.gh, Option.some.injEq, implies_true, setT, AV.ren, AC.ren, AV.cl, AC.cl, List.replicate_succ, List.replicate_zero, List.nodup_nil, List.length_nil, List.length_cons, List.getD_cons_zero, List.getD_cons_succ, ↓reduceIte]; try simp)) ?_
          rintro ⟨k, hk, hek⟩
          have hwk := wS (i := k) (by omega)
          rcases Nat.lt_or_ge k x.length with hkl | hkg
          · obtain ⟨own', ty', cnt', cap', len', get', hM', hf', hic', hkn', hget'⟩ := hat2 (by omega)
            have hsk : (x.getD k default).size ≤ 9223372036854775807 := hsx _ (by rw [getD_of_lt hkl]; exact List.getElem_mem _)
            by_cases hlw : lw (x.getD k default)
            · simp only [↓WP, ↓grdD, ↓grdT, ↓un_dead, ↓binVC, ↓buildVC, ↓sliceVC, WQ, WN, Int.reduceToNat, renl, cll, rent, clt, ↓reduceIte, Nat.reduceLeDiff, Nat.reduceEqDiff, Nat.reduceLT, reduceCtorEq, List.append_nil, Nat.reduceAdd, Nat.reduceSub, Nat.reduceBEq, forall_const, implies_true, cond_true, cond_false, AV.ren, AC.ren, AV.cl, AC.cl, eq_self, List.all_cons, List.all_nil, AV.eqv, AC.eqv, eqvl, eqvt, Sl.eqv, List.map_append, List.length_map, List.length_append, List.length_replicate, List.length_set, List.map_replicate, nilVC, fl_29_0, sz_27, sd_27, fl_29_1, sz_9, fl_29_2, fl_29_3, sz_4, el_27, fl_39_0, sz_37, sd_37, el_37, c_spec_l1In, c_spec_l34Word, dlt hlt, dlt hkl, hwk, hM, hf, g1, hM', hf', hget' k hkl, decide_eq_true hlw]
              repeat refine ⟨by omega, ?_⟩
              exact ⟨⟨k + 1, hkl, fun j hj => by
                rcases Nat.lt_or_ge j k with h | h
                · exact hek j h
                · obtain rfl : j = k := by omega
                  exact hlw⟩, Le_intro [0] (by simp only [WL, WNL, swA_new, swA_ne, nest_sw_ne, mapLL, List.mem_cons, Nat.reduceAdd, Nat.reduceLT, Nat.reduceLeDiff, Nat.reduceEqDiff, okU, List.nodup_cons, List.not_mem_nil, toT, toL, toO, keysO, renl, rent, cll, clt, eq_self, AV.eqv, AC.eqv, eqvl, eqvt, Sl.eqv, rowsLe, mapLL, rowsCl, List.map_append, List.length_map, List.length_append, List.length_set, List.map_replicate, rowG, List.getElem?_cons_zero, List.getElem?_cons_succ, List.getElem?_nil, List.append_nil, List.nil_append, List.cons_append, ghosts, St.gh, Option.some.injEq, implies_true, setT, AV.ren, AC.ren, AV.cl, AC.cl, List.replicate_succ, List.replicate_zero, List.nodup_nil, List.length_nil, List.length_cons, List.getD_cons_zero, List.getD_cons_succ, ↓reduceIte]; try simp), by show x.length - (k + 1) < x.length - k; omega⟩
            · have hb2 : badC x = true := by
                unfold badC
                rw [Bool.or_eq_true, List.any_eq_true]
                exact .inr ⟨_, getD_mem hkl, by rw [decide_eq_false hlw]; rfl⟩
              rw [hbad hb2]
              simp only [↓WP, ↓grdD, ↓grdT, ↓un_dead, ↓binVC, ↓buildVC, ↓sliceVC, WQ, WN, Int.reduceToNat, renl, cll, rent, clt, ↓reduceIte, Nat.reduceLeDiff, Nat.reduceEqDiff, Nat.reduceLT, reduceCtorEq, List.append_nil, Nat.reduceAdd, Nat.reduceSub, Nat.reduceBEq, forall_const, implies_true, cond_true, cond_false, AV.ren, AC.ren, AV.cl, AC.cl, eq_self, List.all_cons, List.all_nil, AV.eqv, AC.eqv, eqvl, eqvt, Sl.eqv, List.map_append, List.length_map, List.length_append, List.length_replicate, List.length_set, List.map_replicate, nilVC, fl_29_0, sz_27, sd_27, fl_29_1, sz_9, fl_29_2, fl_29_3, sz_4, el_27, fl_39_0, sz_37, sd_37, el_37, c_spec_l1In, c_spec_l34Word, dlt hlt, dlt hkl, hwk, hM, hf, g1, hM', hf', hget' k hkl, decide_eq_false hlw]
              try omega
          · obtain rfl : k = x.length := by omega
            have hb2 : badC x = false := (badC_iff x).2 ⟨hl, fun w hw' => by
              obtain ⟨j, hj, rfl⟩ := List.getElem_of_mem hw'
              have := hek j hj
              rwa [getD_of_lt hj] at this⟩
            simp only [↓WP, ↓grdD, ↓grdT, ↓un_dead, ↓binVC, ↓buildVC, ↓sliceVC, WQ, WN, Int.reduceToNat, renl, cll, rent, clt, ↓reduceIte, Nat.reduceLeDiff, Nat.reduceEqDiff, Nat.reduceLT, reduceCtorEq, List.append_nil, Nat.reduceAdd, Nat.reduceSub, Nat.reduceBEq, forall_const, implies_true, cond_true, cond_false, AV.ren, AC.ren, AV.cl, AC.cl, eq_self, List.all_cons, List.all_nil, AV.eqv, AC.eqv, eqvl, eqvt, Sl.eqv, List.map_append, List.length_map, List.length_append, List.length_replicate, List.length_set, List.map_replicate, nilVC, fl_29_0, sz_27, sd_27, fl_29_1, sz_9, fl_29_2, fl_29_3, sz_4, el_27, fl_39_0, sz_37, sd_37, el_37, c_spec_l1In, c_spec_l34Word, dlt hlt, dge hkg, hw, hM, hf, g1]
            repeat refine ⟨by omega, ?_⟩
            exact ⟨⟨i + 1, hlt, fun j hj => by
              rcases Nat.lt_or_ge j i with h | h
              · exact he j h
              · obtain rfl : j = i := by omega
                rw [← hx]; exact hb2⟩, Le_intro [0] (by simp only [WL, WNL, swA_new, swA_ne, nest_sw_ne, mapLL, List.mem_cons, Nat.reduceAdd, Nat.reduceLT, Nat.reduceLeDiff, Nat.reduceEqDiff, okU, List.nodup_cons, List.not_mem_nil, toT, toL, toO, keysO, renl, rent, cll, clt, eq_self, AV.eqv, AC.eqv, eqvl, eqvt, Sl.eqv, rowsLe, mapLL, rowsCl, List.map_append, List.length_map, List.length_append, List.length_set, List.map_replicate, rowG, List.getElem?_cons_zero, List.getElem?_cons_succ, List.getElem?_nil, List.append_nil, List.nil_append, List.cons_append, ghosts, St.gh, Option.some.injEq, implies_true, setT, AV.ren, AC.ren, AV.cl, AC.cl, List.replicate_succ, List.replicate_zero, List.nodup_nil, List.length_nil, List.length_cons, List.getD_cons_zero, List.getD_cons_succ, ↓reduceIte]; try simp), by show X.length - (i + 1) < X.length - i; omega⟩
        · have hl1 : decide ((1 : Int) ≤ x.length ∧ (x.length : Int) ≤ 6) = false := decide_eq_false (by omega)
          have hb2 : badC x = true := by unfold badC; rw [decide_eq_false hl]; rfl
          rw [hbad hb2]
          simp only [↓WP, ↓grdD, ↓grdT, ↓un_dead, ↓binVC, ↓buildVC, ↓sliceVC, WQ, WN, Int.reduceToNat, renl, cll, rent, clt, ↓reduceIte, Nat.reduceLeDiff, Nat.reduceEqDiff, Nat.reduceLT, reduceCtorEq, List.append_nil, Nat.reduceAdd, Nat.reduceSub, Nat.reduceBEq, forall_const, implies_true, cond_true, cond_false, AV.ren, AC.ren, AV.cl, AC.cl, eq_self, List.all_cons, List.all_nil, AV.eqv, AC.eqv, eqvl, eqvt, Sl.eqv, List.map_append, List.length_map, List.length_append, List.length_replicate, List.length_set, List.map_replicate, nilVC, fl_29_0, sz_27, sd_27, fl_29_1, sz_9, fl_29_2, fl_29_3, sz_4, el_27, fl_39_0, sz_37, sd_37, el_37, c_spec_l1In, c_spec_l34Word, dlt hlt, hw, hM, hf, g1, hl1]
          exact ⟨⟨by omega, by omega⟩, hic, by omega⟩
      · obtain rfl : i = X.length := by omega
        have hall : (!X.any badC) = true := by
          rw [Bool.not_eq_true', List.any_eq_false]
          intro x hx
          obtain ⟨j, hj, rfl⟩ := List.getElem_of_mem hx
          have := he j hj
          rw [getD_of_lt hj] at this
          simp [this]
        rw [hall]
        simp only [↓WP, ↓grdD, ↓grdT, ↓un_dead, ↓binVC, ↓buildVC, ↓sliceVC, WQ, WN, Int.reduceToNat, renl, cll, rent, clt, ↓reduceIte, Nat.reduceLeDiff, Nat.reduceEqDiff, Nat.reduceLT, reduceCtorEq, List.append_nil, Nat.reduceAdd, Nat.reduceSub, Nat.reduceBEq, forall_const, implies_true, cond_true, cond_false, AV.ren, AC.ren, AV.cl, AC.cl, eq_self, List.all_cons, List.all_nil, AV.eqv, AC.eqv, eqvl, eqvt, Sl.eqv, List.map_append, List.length_map, List.length_append, List.length_replicate, List.length_set, List.map_replicate, nilVC, fl_29_0, sz_27, sd_27, fl_29_1, sz_9, fl_29_2, fl_29_3, sz_4, el_27, fl_39_0, sz_37, sd_37, el_37, c_spec_l1In, c_spec_l34Word, dge hge, hw]
  · have l0 : decide ((1 : Int) ≤ X.length ∧ (X.length : Int) ≤ 5) = false := decide_eq_false (by omega)
    have hn := lineOk_no (X := X) (i := s1) (o := s2) (more := b1) fun h => e0 h.1
    rw [hn]
    simp only [↓WP, ↓grdD, ↓grdT, ↓un_dead, ↓binVC, ↓buildVC, ↓sliceVC, WQ, WN, Int.reduceToNat, renl, cll, rent, clt, ↓reduceIte, Nat.reduceLeDiff, Nat.reduceEqDiff, Nat.reduceLT, reduceCtorEq, List.append_nil, Nat.reduceAdd, Nat.reduceSub, Nat.reduceBEq, forall_const, implies_true, cond_true, cond_false, AV.ren, AC.ren, AV.cl, AC.cl, eq_self, List.all_cons, List.all_nil, AV.eqv, AC.eqv, eqvl, eqvt, Sl.eqv, List.map_append, List.length_map, List.length_append, List.length_replicate, List.length_set, List.map_replicate, nilVC, fl_29_0, sz_27, sd_27, fl_29_1, sz_9, fl_29_2, fl_29_3, sz_4, el_27, fl_39_0, sz_37, sd_37, el_37, c_spec_l1In, c_spec_l34Word, l0]
end Go.Eng.T
