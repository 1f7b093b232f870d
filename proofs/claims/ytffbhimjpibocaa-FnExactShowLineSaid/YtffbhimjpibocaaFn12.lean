/- line: ShowLine as it is specified: the walk. -/
import Derived.Test.YtffbhimjpibocaaFn11
set_option linter.unusedVariables false
set_option linter.unusedSimpArgs false
set_option linter.unusedSectionVars false
namespace Go.Eng.T
open Go.Proofs
open Cel (enc dec)
set_option maxRecDepth 100000
set_option maxHeartbeats 8000000
def c_spec_ShowLine : Contract := ⟨10, fun args M => match args with
  | [.agg [.sl a n _, .str s1, .str s2, .bool b1, .bool b2]] => .pure ((Row2Ok ByteArray a n M ∧ ∀ x ∈ row2 ByteArray a n M, ∀ w ∈ x, small w) ∧ small s1 ∧ small s2) (.c (.str (showO (row2 ByteArray a n M) s1 s2 b1 b2)))
  | _ => .bad⟩
theorem ok_spec_ShowLine : fnP Try.prog c_spec_ShowLine.f = true ∧ ∀ args M, (c_spec_ShowLine.sp args M).OK Try.prog c_spec_ShowLine.f args M := by
  refine ⟨fp_10, fun args M => ?_⟩
  unfold c_spec_ShowLine
  dsimp only
  split
  case h_2 => trivial
  rename_i a n c s1 s2 b1 b2
  rintro ⟨⟨ha, hsm⟩, h1, h2⟩
  obtain ⟨hs, X, hX, rfl, hat⟩ := ha.x
  rw [hX] at hsm ⊢
  refine goIn hf_10 rfl (nt := 83) rfl (rs := [.tmp 2]) rfl (C := [c_spec_LineOk, c_spec_l34Show]) ⟨(by first | exact .inl ok_spec_LineOk | exact ok_spec_LineOk), (by first | exact .inl ok_spec_l34Show | exact ok_spec_l34Show), trivial⟩ (q := fun _ => false) okQ_none mixed (O := fun _ => .nil) (by kernel_rfl) ?_
  by_cases hok : lineOk X s1 s2 b1
  · obtain ⟨⟨⟨x1, x5⟩, hi1, ho1, _⟩, hall⟩ := id hok
    have hne : ∀ i, i < X.length → 1 ≤ (X.getD i default).length := fun i hi => (hall _ (getD_mem hi)).1.1
    have hsh : showO X s1 s2 b1 b2 = bytes (jn (partsAll X s1 s2 b1 b2)) := if_pos hok
    have hPne := partsC_ne hne (i := X.length) (by omega) (Nat.le_refl _)
    rw [hsh, show_tail hPne]
    dsimp only
    have hA0 : (bytes (jn (partsC X X.length))).size ≤ 2000 := by
      rw [bytes_size]
      obtain ⟨q1, q2⟩ := partsC_small hall (Nat.le_refl X.length)
      have := jn_len q2
      have : (partsC X X.length).length * (42 + 1) ≤ 35 * 43 := Nat.mul_le_mul (by omega) (by omega)
      omega
    simp only [↓WP, ↓grdD, ↓grdT, ↓un_dead, ↓binVC, ↓buildVC, ↓sliceVC, WQ, WN, Int.reduceToNat, renl, cll, rent, clt, ↓reduceIte, Nat.reduceLeDiff, Nat.reduceEqDiff, Nat.reduceLT, reduceCtorEq, List.append_nil, Nat.reduceAdd, Nat.reduceSub, Nat.reduceBEq, forall_const, implies_true, cond_true, cond_false, AV.ren, AC.ren, AV.cl, AC.cl, eq_self, List.all_cons, List.all_nil, AV.eqv, AC.eqv, eqvl, eqvt, Sl.eqv, List.map_append, List.length_map, List.length_append, List.length_replicate, List.length_set, List.map_replicate, nilVC, sz_29, fl_29_0, sz_27, sd_27, el_27, fl_39_0, sz_37, sd_37, el_37, sz_9, fl_29_1, fl_29_2, fl_29_3, sz_4, fl_29_4, c_spec_LineOk, c_spec_l34Show, decide_eq_true hok, Row2Ok_upE ha, row2_upE ha, hX]
    refine ⟨⟨hsm, h1, h2⟩, ?_⟩
    have hz3 : (⟨#[32, 124, 32]⟩ : ByteArray).size = 3 := rfl
    have hz1 : (⟨#[32]⟩ : ByteArray).size = 1 := rfl
    have hsl : ∀ (x y : ByteArray), (x ++ y).size = x.size + y.size := fun x y => ByteArray.size_append
    have hWs : ∀ w, lw w → (⟨(showW w).toArray⟩ : ByteArray).size ≤ 42 := fun w hw => by
      have := showB_len w.data.toList
      have hl : w.data.toList.length = w.size := rfl
      have := hw.1.2
      have : (⟨(showW w).toArray⟩ : ByteArray).size = (showB w.data.toList).length := bytes_size _
      omega
    refine loopI (J := {i : Nat // i ≤ X.length}) (fun i => ⟨slots 83 [(1, .c (.ptr ⟨.loc 0, 0, 0, 0⟩)), (3, .c (.str (bytes (jn (partsC X i.1))))), (4, I i.1)], M, [], [.box 29 [.sl a.up X.length c, .str s1, .str s2, .bool b1, .bool b2]]⟩) (fun i => X.length - i.1) ⟨0, Nat.zero_le _⟩ (Le_intro [0] (by simp only [WL, WNL, swA_new, swA_ne, nest_sw_ne, mapLL, List.mem_cons, Nat.reduceAdd, Nat.reduceLT, Nat.reduceLeDiff, Nat.reduceEqDiff, okU, List.nodup_cons, List.not_mem_nil, toT, toL, toO, keysO, renl, rent, cll, clt, eq_self, AV.eqv, AC.eqv, eqvl, eqvt, Sl.eqv, rowsLe, mapLL, rowsCl, List.map_append, List.length_map, List.length_append, List.length_set, List.map_replicate, rowG, List.getElem?_cons_zero, List.getElem?_cons_succ, List.getElem?_nil, List.append_nil, List.nil_append, List.cons_append, ghosts, St.gh, Option.some.injEq, implies_true, setT, AV.ren, AC.ren, AV.cl, AC.cl, List.replicate_succ, List.replicate_zero, List.nodup_nil, List.length_nil, List.length_cons, List.getD_cons_zero, List.getD_cons_succ, ↓reduceIte]; first | done | (simp; done) | (simp; rfl))) ?_
    rintro ⟨i, hi⟩
    have hw := wS (i := i) (by omega)
    dsimp only
    rcases Nat.lt_or_ge i X.length with hlt | hge
    · obtain ⟨own, ty, cnt, cap, len, get, b, cc, hM, hf, hic, hkn, hget⟩ := hat (by omega)
      obtain ⟨g1, g2, g3, g4⟩ := hget i hlt
      obtain ⟨hx16, hxw⟩ := hall _ (getD_mem hlt)
      have hxl := hne i hlt
      have hsk := fun k => specK_len (k := k) hall x5 hlt
      have hone := specK_one (X := X) (i := i) hxl
      have hmore := fun k (h0 : 0 < k) h => specK_more (X := X) (i := i) (k := k) h0 h
      have hfull := specK_full (X := X) (i := i) hxl
      obtain ⟨hs2, Y, hY, hYl, hat2⟩ := g3.x
      rw [g4] at hY
      subst hY
      obtain ⟨x, hx⟩ : ∃ x, x = X.getD i default := ⟨_, rfl⟩
      rw [← hx] at g1 g2 g3 g4 hx16 hxw hxl hone hmore hfull hat2
      by_cases h0 : 0 < i
      · have d0 : decide ((0 : Int) < (i : Int)) = true := decide_eq_true (by omega)
        have hbar : bytes (jn (partsC X i)) ++ (⟨#[32, 124, 32]⟩ : ByteArray) = bytes (specK X i 0) := by
          rw [← specK_bar hne h0 hi]
          exact bytes_append _ [32, 124, 32]
        obtain ⟨S, hS⟩ : ∃ S, S = bytes (jn (partsC X i)) := ⟨_, rfl⟩
        rw [← hS] at hbar ⊢
        have hSl : S.size ≤ 2000 := by
          have h := hsk 0
          have e := congrArg ByteArray.size hbar
          rw [hsl, bytes_size] at e
          omega
        simp only [↓WP, ↓grdD, ↓grdT, ↓un_dead, ↓binVC, ↓buildVC, ↓sliceVC, WQ, WN, Int.reduceToNat, renl, cll, rent, clt, ↓reduceIte, Nat.reduceLeDiff, Nat.reduceEqDiff, Nat.reduceLT, reduceCtorEq, List.append_nil, Nat.reduceAdd, Nat.reduceSub, Nat.reduceBEq, forall_const, implies_true, cond_true, cond_false, AV.ren, AC.ren, AV.cl, AC.cl, eq_self, List.all_cons, List.all_nil, AV.eqv, AC.eqv, eqvl, eqvt, Sl.eqv, List.map_append, List.length_map, List.length_append, List.length_replicate, List.length_set, List.map_replicate, nilVC, sz_29, fl_29_0, sz_27, sd_27, el_27, fl_39_0, sz_37, sd_37, el_37, sz_9, fl_29_1, fl_29_2, fl_29_3, sz_4, fl_29_4, c_spec_LineOk, c_spec_l34Show, dlt hlt, d0, hbar, hz3]
        refine ⟨by omega, ?_⟩
        refine loopI (J := {k : Nat // k ≤ x.length}) (fun k => ⟨slots 83 [(1, .c (.ptr ⟨.loc 0, 0, 0, 0⟩)), (3, .c (.str (bytes (specK X i k.1)))), (4, I (i : Nat)), (5, I k.1)], M, [], [.box 29 [.sl a.up X.length c, .str s1, .str s2, .bool b1, .bool b2]]⟩) (fun k => x.length - k.1) ⟨0, Nat.zero_le _⟩ (Le_intro [0] (by simp only [WL, WNL, swA_new, swA_ne, nest_sw_ne, mapLL, List.mem_cons, Nat.reduceAdd, Nat.reduceLT, Nat.reduceLeDiff, Nat.reduceEqDiff, okU, List.nodup_cons, List.not_mem_nil, toT, toL, toO, keysO, renl, rent, cll, clt, eq_self, AV.eqv, AC.eqv, eqvl, eqvt, Sl.eqv, rowsLe, mapLL, rowsCl, List.map_append, List.length_map, List.length_append, List.length_set, List.map_replicate, rowG, List.getElem?_cons_zero, List.getElem?_cons_succ, List.getElem?_nil, List.append_nil, List.nil_append, List.cons_append, ghosts, St.gh, Option.some.injEq, implies_true, setT, AV.ren, AC.ren, AV.cl, AC.cl, List.replicate_succ, List.replicate_zero, List.nodup_nil, List.length_nil, List.length_cons, List.getD_cons_zero, List.getD_cons_succ, ↓reduceIte]; first | done | (simp; done) | (simp; rfl))) ?_
        rintro ⟨k, hk⟩
        have hwk := wS (i := k) (by omega)
        dsimp only
        rcases Nat.lt_or_ge k x.length with hkl | hkg
        · obtain ⟨own', ty', cnt', cap', len', get', hM', hf', hic', hkn', hget'⟩ := hat2 (by omega)
          have hlw : lw (x.getD k default) := hxw _ (getD_mem hkl)
          have hWl := hWs _ hlw
          have hSl : (bytes (specK X i k)).size ≤ 2000 := by rw [bytes_size]; exact hsk k
          by_cases k0 : 0 < k
          · have dk : decide ((0 : Int) < (k : Int)) = true := decide_eq_true (by omega)
            have hcat : bytes (specK X i k) ++ (⟨#[32]⟩ : ByteArray) ++ (⟨(showW (x.getD k default)).toArray⟩ : ByteArray) = bytes (specK X i (k + 1)) := by
              rw [← hmore k k0 hkl]
              have e1 : bytes (specK X i k) ++ (⟨#[32]⟩ : ByteArray) = bytes (specK X i k ++ [32]) := bytes_append _ [32]
              rw [e1]
              exact bytes_append _ _
            obtain ⟨S, hS⟩ : ∃ S, S = bytes (specK X i k) := ⟨_, rfl⟩
            rw [← hS] at hSl hcat ⊢
            simp only [↓WP, ↓grdD, ↓grdT, ↓un_dead, ↓binVC, ↓buildVC, ↓sliceVC, WQ, WN, Int.reduceToNat, renl, cll, rent, clt, ↓reduceIte, Nat.reduceLeDiff, Nat.reduceEqDiff, Nat.reduceLT, reduceCtorEq, List.append_nil, Nat.reduceAdd, Nat.reduceSub, Nat.reduceBEq, forall_const, implies_true, cond_true, cond_false, AV.ren, AC.ren, AV.cl, AC.cl, eq_self, List.all_cons, List.all_nil, AV.eqv, AC.eqv, eqvl, eqvt, Sl.eqv, List.map_append, List.length_map, List.length_append, List.length_replicate, List.length_set, List.map_replicate, nilVC, sz_29, fl_29_0, sz_27, sd_27, el_27, fl_39_0, sz_37, sd_37, el_37, sz_9, fl_29_1, fl_29_2, fl_29_3, sz_4, fl_29_4, c_spec_LineOk, c_spec_l34Show, dlt hlt, dlt hkl, dk, hwk, hM, hf, g1, hM', hf', hget' k hkl, hsl, hz1, hcat]
            repeat' (first | (refine And.intro (by first | omega | exact hlw | exact ⟨by omega, by omega⟩) ?_) | intro _)
            exact ⟨⟨k + 1, hkl⟩, Le_intro [0] (by simp only [WL, WNL, swA_new, swA_ne, nest_sw_ne, mapLL, List.mem_cons, Nat.reduceAdd, Nat.reduceLT, Nat.reduceLeDiff, Nat.reduceEqDiff, okU, List.nodup_cons, List.not_mem_nil, toT, toL, toO, keysO, renl, rent, cll, clt, eq_self, AV.eqv, AC.eqv, eqvl, eqvt, Sl.eqv, rowsLe, mapLL, rowsCl, List.map_append, List.length_map, List.length_append, List.length_set, List.map_replicate, rowG, List.getElem?_cons_zero, List.getElem?_cons_succ, List.getElem?_nil, List.append_nil, List.nil_append, List.cons_append, ghosts, St.gh, Option.some.injEq, implies_true, setT, AV.ren, AC.ren, AV.cl, AC.cl, List.replicate_succ, List.replicate_zero, List.nodup_nil, List.length_nil, List.length_cons, List.getD_cons_zero, List.getD_cons_succ, ↓reduceIte]; try simp), by show x.length - (k + 1) < x.length - k; omega⟩
          · have dk : decide ((0 : Int) < (k : Int)) = false := decide_eq_false (by omega)
            have hcat : bytes (specK X i k) ++ (⟨(showW (x.getD k default)).toArray⟩ : ByteArray) = bytes (specK X i (k + 1)) := by
              obtain rfl : k = 0 := by omega
              rw [← hone]
              exact bytes_append _ _
            obtain ⟨S, hS⟩ : ∃ S, S = bytes (specK X i k) := ⟨_, rfl⟩
            rw [← hS] at hSl hcat ⊢
            simp only [↓WP, ↓grdD, ↓grdT, ↓un_dead, ↓binVC, ↓buildVC, ↓sliceVC, WQ, WN, Int.reduceToNat, renl, cll, rent, clt, ↓reduceIte, Nat.reduceLeDiff, Nat.reduceEqDiff, Nat.reduceLT, reduceCtorEq, List.append_nil, Nat.reduceAdd, Nat.reduceSub, Nat.reduceBEq, forall_const, implies_true, cond_true, cond_false, AV.ren, AC.ren, AV.cl, AC.cl, eq_self, List.all_cons, List.all_nil, AV.eqv, AC.eqv, eqvl, eqvt, Sl.eqv, List.map_append, List.length_map, List.length_append, List.length_replicate, List.length_set, List.map_replicate, nilVC, sz_29, fl_29_0, sz_27, sd_27, el_27, fl_39_0, sz_37, sd_37, el_37, sz_9, fl_29_1, fl_29_2, fl_29_3, sz_4, fl_29_4, c_spec_LineOk, c_spec_l34Show, dlt hlt, dlt hkl, dk, hwk, hM, hf, g1, hM', hf', hget' k hkl, hcat]
            repeat' (first | (refine And.intro (by first | omega | exact hlw | exact ⟨by omega, by omega⟩) ?_) | intro _)
            exact ⟨⟨k + 1, hkl⟩, Le_intro [0] (by simp only [WL, WNL, swA_new, swA_ne, nest_sw_ne, mapLL, List.mem_cons, Nat.reduceAdd, Nat.reduceLT, Nat.reduceLeDiff, Nat.reduceEqDiff, okU, List.nodup_cons, List.not_mem_nil, toT, toL, toO, keysO, renl, rent, cll, clt, eq_self, AV.eqv, AC.eqv, eqvl, eqvt, Sl.eqv, rowsLe, mapLL, rowsCl, List.map_append, List.length_map, List.length_append, List.length_set, List.map_replicate, rowG, List.getElem?_cons_zero, List.getElem?_cons_succ, List.getElem?_nil, List.append_nil, List.nil_append, List.cons_append, ghosts, St.gh, Option.some.injEq, implies_true, setT, AV.ren, AC.ren, AV.cl, AC.cl, List.replicate_succ, List.replicate_zero, List.nodup_nil, List.length_nil, List.length_cons, List.getD_cons_zero, List.getD_cons_succ, ↓reduceIte]; try simp), by show x.length - (k + 1) < x.length - k; omega⟩
        · obtain rfl : k = x.length := by omega
          rw [hfull]
          simp only [↓WP, ↓grdD, ↓grdT, ↓un_dead, ↓binVC, ↓buildVC, ↓sliceVC, WQ, WN, Int.reduceToNat, renl, cll, rent, clt, ↓reduceIte, Nat.reduceLeDiff, Nat.reduceEqDiff, Nat.reduceLT, reduceCtorEq, List.append_nil, Nat.reduceAdd, Nat.reduceSub, Nat.reduceBEq, forall_const, implies_true, cond_true, cond_false, AV.ren, AC.ren, AV.cl, AC.cl, eq_self, List.all_cons, List.all_nil, AV.eqv, AC.eqv, eqvl, eqvt, Sl.eqv, List.map_append, List.length_map, List.length_append, List.length_replicate, List.length_set, List.map_replicate, nilVC, sz_29, fl_29_0, sz_27, sd_27, el_27, fl_39_0, sz_37, sd_37, el_37, sz_9, fl_29_1, fl_29_2, fl_29_3, sz_4, fl_29_4, c_spec_LineOk, c_spec_l34Show, dlt hlt, dge hkg, hw, hM, hf, g1]
          repeat' (first | (refine And.intro (by first | omega | exact ⟨by omega, by omega⟩) ?_) | intro _)
          exact ⟨⟨i + 1, hlt⟩, Le_intro [0] (by simp only [WL, WNL, swA_new, swA_ne, nest_sw_ne, mapLL, List.mem_cons, Nat.reduceAdd, Nat.reduceLT, Nat.reduceLeDiff, Nat.reduceEqDiff, okU, List.nodup_cons, List.not_mem_nil, toT, toL, toO, keysO, renl, rent, cll, clt, eq_self, AV.eqv, AC.eqv, eqvl, eqvt, Sl.eqv, rowsLe, mapLL, rowsCl, List.map_append, List.length_map, List.length_append, List.length_set, List.map_replicate, rowG, List.getElem?_cons_zero, List.getElem?_cons_succ, List.getElem?_nil, List.append_nil, List.nil_append, List.cons_append, ghosts, St.gh, Option.some.injEq, implies_true, setT, AV.ren, AC.ren, AV.cl, AC.cl, List.replicate_succ, List.replicate_zero, List.nodup_nil, List.length_nil, List.length_cons, List.getD_cons_zero, List.getD_cons_succ, ↓reduceIte]; try simp), by show X.length - (i + 1) < X.length - i; omega⟩
      · have d0 : decide ((0 : Int) < (i : Int)) = false := decide_eq_false (by omega)
        have hb0 : bytes (jn (partsC X i)) = bytes (specK X i 0) := by
          obtain rfl : i = 0 := by omega
          rfl
        rw [hb0]
        simp only [↓WP, ↓grdD, ↓grdT, ↓un_dead, ↓binVC, ↓buildVC, ↓sliceVC, WQ, WN, Int.reduceToNat, renl, cll, rent, clt, ↓reduceIte, Nat.reduceLeDiff, Nat.reduceEqDiff, Nat.reduceLT, reduceCtorEq, List.append_nil, Nat.reduceAdd, Nat.reduceSub, Nat.reduceBEq, forall_const, implies_true, cond_true, cond_false, AV.ren, AC.ren, AV.cl, AC.cl, eq_self, List.all_cons, List.all_nil, AV.eqv, AC.eqv, eqvl, eqvt, Sl.eqv, List.map_append, List.length_map, List.length_append, List.length_replicate, List.length_set, List.map_replicate, nilVC, sz_29, fl_29_0, sz_27, sd_27, el_27, fl_39_0, sz_37, sd_37, el_37, sz_9, fl_29_1, fl_29_2, fl_29_3, sz_4, fl_29_4, c_spec_LineOk, c_spec_l34Show, dlt hlt, d0]
        refine loopI (J := {k : Nat // k ≤ x.length}) (fun k => ⟨slots 83 [(1, .c (.ptr ⟨.loc 0, 0, 0, 0⟩)), (3, .c (.str (bytes (specK X i k.1)))), (4, I (i : Nat)), (5, I k.1)], M, [], [.box 29 [.sl a.up X.length c, .str s1, .str s2, .bool b1, .bool b2]]⟩) (fun k => x.length - k.1) ⟨0, Nat.zero_le _⟩ (Le_intro [0] (by simp only [WL, WNL, swA_new, swA_ne, nest_sw_ne, mapLL, List.mem_cons, Nat.reduceAdd, Nat.reduceLT, Nat.reduceLeDiff, Nat.reduceEqDiff, okU, List.nodup_cons, List.not_mem_nil, toT, toL, toO, keysO, renl, rent, cll, clt, eq_self, AV.eqv, AC.eqv, eqvl, eqvt, Sl.eqv, rowsLe, mapLL, rowsCl, List.map_append, List.length_map, List.length_append, List.length_set, List.map_replicate, rowG, List.getElem?_cons_zero, List.getElem?_cons_succ, List.getElem?_nil, List.append_nil, List.nil_append, List.cons_append, ghosts, St.gh, Option.some.injEq, implies_true, setT, AV.ren, AC.ren, AV.cl, AC.cl, List.replicate_succ, List.replicate_zero, List.nodup_nil, List.length_nil, List.length_cons, List.getD_cons_zero, List.getD_cons_succ, ↓reduceIte]; first | done | (simp; done) | (simp; rfl))) ?_
        rintro ⟨k, hk⟩
        have hwk := wS (i := k) (by omega)
        dsimp only
        rcases Nat.lt_or_ge k x.length with hkl | hkg
        · obtain ⟨own', ty', cnt', cap', len', get', hM', hf', hic', hkn', hget'⟩ := hat2 (by omega)
          have hlw : lw (x.getD k default) := hxw _ (getD_mem hkl)
          have hWl := hWs _ hlw
          have hSl : (bytes (specK X i k)).size ≤ 2000 := by rw [bytes_size]; exact hsk k
          by_cases k0 : 0 < k
          · have dk : decide ((0 : Int) < (k : Int)) = true := decide_eq_true (by omega)
            have hcat : bytes (specK X i k) ++ (⟨#[32]⟩ : ByteArray) ++ (⟨(showW (x.getD k default)).toArray⟩ : ByteArray) = bytes (specK X i (k + 1)) := by
              rw [← hmore k k0 hkl]
              have e1 : bytes (specK X i k) ++ (⟨#[32]⟩ : ByteArray) = bytes (specK X i k ++ [32]) := bytes_append _ [32]
              rw [e1]
              exact bytes_append _ _
            obtain ⟨S, hS⟩ : ∃ S, S = bytes (specK X i k) := ⟨_, rfl⟩
            rw [← hS] at hSl hcat ⊢
            simp only [↓WP, ↓grdD, ↓grdT, ↓un_dead, ↓binVC, ↓buildVC, ↓sliceVC, WQ, WN, Int.reduceToNat, renl, cll, rent, clt, ↓reduceIte, Nat.reduceLeDiff, Nat.reduceEqDiff, Nat.reduceLT, reduceCtorEq, List.append_nil, Nat.reduceAdd, Nat.reduceSub, Nat.reduceBEq, forall_const, implies_true, cond_true, cond_false, AV.ren, AC.ren, AV.cl, AC.cl, eq_self, List.all_cons, List.all_nil, AV.eqv, AC.eqv, eqvl, eqvt, Sl.eqv, List.map_append, List.length_map, List.length_append, List.length_replicate, List.length_set, List.map_replicate, nilVC, sz_29, fl_29_0, sz_27, sd_27, el_27, fl_39_0, sz_37, sd_37, el_37, sz_9, fl_29_1, fl_29_2, fl_29_3, sz_4, fl_29_4, c_spec_LineOk, c_spec_l34Show, dlt hlt, dlt hkl, dk, hwk, hM, hf, g1, hM', hf', hget' k hkl, hsl, hz1, hcat]
            repeat' (first | (refine And.intro (by first | omega | exact hlw | exact ⟨by omega, by omega⟩) ?_) | intro _)
            exact ⟨⟨k + 1, hkl⟩, Le_intro [0] (by simp only [WL, WNL, swA_new, swA_ne, nest_sw_ne, mapLL, List.mem_cons, Nat.reduceAdd, Nat.reduceLT, Nat.reduceLeDiff, Nat.reduceEqDiff, okU, List.nodup_cons, List.not_mem_nil, toT, toL, toO, keysO, renl, rent, cll, clt, eq_self, AV.eqv, AC.eqv, eqvl, eqvt, Sl.eqv, rowsLe, mapLL, rowsCl, List.map_append, List.length_map, List.length_append, List.length_set, List.map_replicate, rowG, List.getElem?_cons_zero, List.getElem?_cons_succ, List.getElem?_nil, List.append_nil, List.nil_append, List.cons_append, ghosts, St.gh, Option.some.injEq, implies_true, setT, AV.ren, AC.ren, AV.cl, AC.cl, List.replicate_succ, List.replicate_zero, List.nodup_nil, List.length_nil, List.length_cons, List.getD_cons_zero, List.getD_cons_succ, ↓reduceIte]; try simp), by show x.length - (k + 1) < x.length - k; omega⟩
          · have dk : decide ((0 : Int) < (k : Int)) = false := decide_eq_false (by omega)
            have hcat : bytes (specK X i k) ++ (⟨(showW (x.getD k default)).toArray⟩ : ByteArray) = bytes (specK X i (k + 1)) := by
              obtain rfl : k = 0 := by omega
              rw [← hone]
              exact bytes_append _ _
            obtain ⟨S, hS⟩ : ∃ S, S = bytes (specK X i k) := ⟨_, rfl⟩
            rw [← hS] at hSl hcat ⊢
            simp only [↓WP, ↓grdD, ↓grdT, ↓un_dead, ↓binVC, ↓buildVC, ↓sliceVC, WQ, WN, Int.reduceToNat, renl, cll, rent, clt, ↓reduceIte, Nat.reduceLeDiff, Nat.reduceEqDiff, Nat.reduceLT, reduceCtorEq, List.append_nil, Nat.reduceAdd, Nat.reduceSub, Nat.reduceBEq, forall_const, implies_true, cond_true, cond_false, AV.ren, AC.ren, AV.cl, AC.cl, eq_self, List.all_cons, List.all_nil, AV.eqv, AC.eqv, eqvl, eqvt, Sl.eqv, List.map_append, List.length_map, List.length_append, List.length_replicate, List.length_set, List.map_replicate, nilVC, sz_29, fl_29_0, sz_27, sd_27, el_27, fl_39_0, sz_37, sd_37, el_37, sz_9, fl_29_1, fl_29_2, fl_29_3, sz_4, fl_29_4, c_spec_LineOk, c_spec_l34Show, dlt hlt, dlt hkl, dk, hwk, hM, hf, g1, hM', hf', hget' k hkl, hcat]
            repeat' (first | (refine And.intro (by first | omega | exact hlw | exact ⟨by omega, by omega⟩) ?_) | intro _)
            exact ⟨⟨k + 1, hkl⟩, Le_intro [0] (by simp only [WL, WNL, swA_new, swA_ne, nest_sw_ne, mapLL, List.mem_cons, Nat.reduceAdd, Nat.reduceLT, Nat.reduceLeDiff, Nat.reduceEqDiff, okU, List.nodup_cons, List.not_mem_nil, toT, toL, toO, keysO, renl, rent, cll, clt, eq_self, AV.eqv, AC.eqv, eqvl, eqvt, Sl.eqv, rowsLe, mapLL, rowsCl, List.map_append, List.length_map, List.length_append, List.length_set, List.map_replicate, rowG, List.getElem?_cons_zero, List.getElem?_cons_succ, List.getElem?_nil, List.append_nil, List.nil_append, List.cons_append, ghosts, St.gh, Option.some.injEq, implies_true, setT, AV.ren, AC.ren, AV.cl, AC.cl, List.replicate_succ, List.replicate_zero, List.nodup_nil, List.length_nil, List.length_cons, List.getD_cons_zero, List.getD_cons_succ, ↓reduceIte]; try simp), by show x.length - (k + 1) < x.length - k; omega⟩
        · obtain rfl : k = x.length := by omega
          rw [hfull]
          simp only [↓WP, ↓grdD, ↓grdT, ↓un_dead, ↓binVC, ↓buildVC, ↓sliceVC, WQ, WN, Int.reduceToNat, renl, cll, rent, clt, ↓reduceIte, Nat.reduceLeDiff, Nat.reduceEqDiff, Nat.reduceLT, reduceCtorEq, List.append_nil, Nat.reduceAdd, Nat.reduceSub, Nat.reduceBEq, forall_const, implies_true, cond_true, cond_false, AV.ren, AC.ren, AV.cl, AC.cl, eq_self, List.all_cons, List.all_nil, AV.eqv, AC.eqv, eqvl, eqvt, Sl.eqv, List.map_append, List.length_map, List.length_append, List.length_replicate, List.length_set, List.map_replicate, nilVC, sz_29, fl_29_0, sz_27, sd_27, el_27, fl_39_0, sz_37, sd_37, el_37, sz_9, fl_29_1, fl_29_2, fl_29_3, sz_4, fl_29_4, c_spec_LineOk, c_spec_l34Show, dlt hlt, dge hkg, hw, hM, hf, g1]
          repeat' (first | (refine And.intro (by first | omega | exact ⟨by omega, by omega⟩) ?_) | intro _)
          exact ⟨⟨i + 1, hlt⟩, Le_intro [0] (by simp only [WL, WNL, swA_new, swA_ne, nest_sw_ne, mapLL, List.mem_cons, Nat.reduceAdd, Nat.reduceLT, Nat.reduceLeDiff, Nat.reduceEqDiff, okU, List.nodup_cons, List.not_mem_nil, toT, toL, toO, keysO, renl, rent, cll, clt, eq_self, AV.eqv, AC.eqv, eqvl, eqvt, Sl.eqv, rowsLe, mapLL, rowsCl, List.map_append, List.length_map, List.length_append, List.length_set, List.map_replicate, rowG, List.getElem?_cons_zero, List.getElem?_cons_succ, List.getElem?_nil, List.append_nil, List.nil_append, List.cons_append, ghosts, St.gh, Option.some.injEq, implies_true, setT, AV.ren, AC.ren, AV.cl, AC.cl, List.replicate_succ, List.replicate_zero, List.nodup_nil, List.length_nil, List.length_cons, List.getD_cons_zero, List.getD_cons_succ, ↓reduceIte]; try simp), by show X.length - (i + 1) < X.length - i; omega⟩
    · obtain rfl : i = X.length := by omega
      obtain ⟨S, hS⟩ : ∃ S, S = bytes (jn (partsC X X.length)) := ⟨_, rfl⟩
      rw [← hS] at hA0 ⊢
      have hz5 : (⟨#[32, 60, 32]⟩ : ByteArray).size = 3 := rfl
      have hz6 : (⟨#[32, 62, 62, 32]⟩ : ByteArray).size = 4 := rfl
      have hz7 : (⟨#[32, 62, 32]⟩ : ByteArray).size = 3 := rfl
      have hz8 : (⟨#[32, 38]⟩ : ByteArray).size = 2 := rfl
      by_cases e1 : s1 = ⟨#[]⟩ <;> by_cases e2 : s2 = ⟨#[]⟩ <;> cases b1 <;> cases b2
      all_goals
        have hl1 : ¬ s1 = ⟨#[]⟩ → (⟨(showW s1).toArray⟩ : ByteArray).size ≤ 42 := fun h => hWs _ (hi1 h)
        have hl2 : ¬ s2 = ⟨#[]⟩ → (⟨(showW s2).toArray⟩ : ByteArray).size ≤ 42 := fun h => hWs _ (ho1 h)
      all_goals first
        | have f1 : decide (s1 = ⟨#[]⟩) = true := decide_eq_true e1
        | have f1 : decide (s1 = ⟨#[]⟩) = false := decide_eq_false e1
      all_goals first
        | have f2 : decide (s2 = ⟨#[]⟩) = true := decide_eq_true e2
        | have f2 : decide (s2 = ⟨#[]⟩) = false := decide_eq_false e2
      all_goals simp only [↓WP, ↓grdD, ↓grdT, ↓un_dead, ↓binVC, ↓buildVC, ↓sliceVC, WQ, WN, Int.reduceToNat, renl, cll, rent, clt, ↓reduceIte, Nat.reduceLeDiff, Nat.reduceEqDiff, Nat.reduceLT, reduceCtorEq, List.append_nil, Nat.reduceAdd, Nat.reduceSub, Nat.reduceBEq, forall_const, implies_true, cond_true, cond_false, AV.ren, AC.ren, AV.cl, AC.cl, eq_self, List.all_cons, List.all_nil, AV.eqv, AC.eqv, eqvl, eqvt, Sl.eqv, List.map_append, List.length_map, List.length_append, List.length_replicate, List.length_set, List.map_replicate, nilVC, sz_29, fl_29_0, sz_27, sd_27, el_27, fl_39_0, sz_37, sd_37, el_37, sz_9, fl_29_1, fl_29_2, fl_29_3, sz_4, fl_29_4, c_spec_LineOk, c_spec_l34Show, dge hge, f1, f2, hsl, hz5, hz6, hz7, hz8]
      all_goals simp only [e1, e2, if_true, if_false, Bool.false_eq_true]
      all_goals repeat' (first | with_reducible refine And.intro ?_ ?_ | intro _)
      all_goals first
        | done
        | trivial
        | rfl
        | exact hi1 e1
        | exact ho1 e2
        | (have := hl1 e1; have := hl2 e2; omega)
        | (have := hl1 e1; omega)
        | (have := hl2 e2; omega)
        | omega
  · have hsh : showO X s1 s2 b1 b2 = ⟨#[]⟩ := if_neg hok
    rw [hsh]
    simp only [↓WP, ↓grdD, ↓grdT, ↓un_dead, ↓binVC, ↓buildVC, ↓sliceVC, WQ, WN, Int.reduceToNat, renl, cll, rent, clt, ↓reduceIte, Nat.reduceLeDiff, Nat.reduceEqDiff, Nat.reduceLT, reduceCtorEq, List.append_nil, Nat.reduceAdd, Nat.reduceSub, Nat.reduceBEq, forall_const, implies_true, cond_true, cond_false, AV.ren, AC.ren, AV.cl, AC.cl, eq_self, List.all_cons, List.all_nil, AV.eqv, AC.eqv, eqvl, eqvt, Sl.eqv, List.map_append, List.length_map, List.length_append, List.length_replicate, List.length_set, List.map_replicate, nilVC, sz_29, fl_29_0, sz_27, sd_27, el_27, fl_39_0, sz_37, sd_37, el_37, sz_9, fl_29_1, fl_29_2, fl_29_3, sz_4, fl_29_4, c_spec_LineOk, c_spec_l34Show, decide_eq_false hok, Row2Ok_upE ha, row2_upE ha, hX]
    exact ⟨hsm, h1, h2⟩
end Go.Eng.T
