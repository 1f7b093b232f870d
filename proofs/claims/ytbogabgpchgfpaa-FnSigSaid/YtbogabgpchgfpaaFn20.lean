/- sig: the law FnSig. -/
import Derived.Test.YtbogabgpchgfpaaFn19
import Derived.Test.YtbogabgpchgfpaaFn14
set_option linter.unusedVariables false
set_option linter.unusedSimpArgs false
set_option linter.unusedSectionVars false
namespace Go.Eng.T
open Go.Proofs
open Cel (enc dec)
set_option maxRecDepth 100000
set_option maxHeartbeats 8000000
theorem q_impl_SigMask : Quiet c_impl_SigMask := by
  intro args M
  unfold c_impl_SigMask
  dsimp only
  split <;> first | trivial | (intro _; rfl)
def c_laws_FnSig : Contract := ⟨10, fun args M => match args with
  | [.c (.sl a n _)] => .pure (n ≤ 9223372036854775807 ∧ (n ≤ 4294967296 → RowOk UInt8 a n (M a.r))) (Eng.B true)
  | _ => .bad⟩
theorem ok_laws_FnSig : fnP Try.prog c_laws_FnSig.f = true ∧ ∀ args M, (c_laws_FnSig.sp args M).OK Try.prog c_laws_FnSig.f args M := by
  refine ⟨fp_10, fun args M => ?_⟩
  unfold c_laws_FnSig
  dsimp only
  split
  case h_2 => trivial
  rename_i a n ca
  rintro ⟨hn, h1⟩
  refine goIn hf_10 rfl (nt := 262) rfl (rs := [.tmp 2]) rfl (C := [c_laws_big, c_impl_SigNew, c_spec_SigOk, c_laws_at, c_impl_SigSet, c_impl_SigMask, c_impl_SigSend, c_impl_SigNext, c_laws_has, c_impl_SigBack]) ⟨(by first | exact .inl ok_laws_big | exact ok_laws_big), (by first | exact .inl ok_impl_SigNew | exact ok_impl_SigNew), (by first | exact .inl ok_spec_SigOk | exact ok_spec_SigOk), (by first | exact .inl ok_laws_at | exact ok_laws_at), (by first | exact .inl ok_impl_SigSet | exact ok_impl_SigSet), (by first | exact .inl ok_impl_SigMask | exact ok_impl_SigMask), (by first | exact .inl ok_impl_SigSend | exact ok_impl_SigSend), (by first | exact .inl ok_impl_SigNext | exact ok_impl_SigNext), (by first | exact .inl ok_laws_has | exact ok_laws_has), (by first | exact .inl ok_impl_SigBack | exact ok_impl_SigBack), trivial⟩ (q := fun f => [32, 22].contains f) ⟨fun h => absurd h (by decide), fun h => absurd h (by decide), fun h => absurd h (by decide), fun _ => q_laws_at, fun h => absurd h (by decide), fun _ => q_impl_SigMask, fun h => absurd h (by decide), fun h => absurd h (by decide), fun h => absurd h (by decide), fun h => absurd h (by decide), trivial⟩ mixed (O := ots [(24, otl [0, 1, 2, 3, 4, 5, 6, 7, 8, 9, 10, 11, 12, 13] .nil), (51, otl [0, 1, 2, 3, 4, 5, 6, 7, 8, 9, 10] .nil)]) (by kernel_rfl) ?_
  by_cases hs : 1048576 < n
  · simp only [↓WP, ↓grdD, ↓grdT, ↓un_dead, ↓binVC, ↓buildVC, ↓sliceVC, WQ, WN, Int.reduceToNat, renl, cll, rent, clt, ↓reduceIte, Nat.reduceLeDiff, Nat.reduceEqDiff, Nat.reduceLT, reduceCtorEq, List.append_nil, Nat.reduceAdd, Nat.reduceSub, Nat.reduceBEq, forall_const, implies_true, cond_true, cond_false, AV.ren, AC.ren, AV.cl, AC.cl, eq_self, List.all_cons, List.all_nil, AV.eqv, AC.eqv, eqvl, eqvt, Sl.eqv, List.map_append, List.length_map, List.length_append, List.length_replicate, List.length_set, List.map_replicate, nilVC, zr_25, sz_25, el_22, zr_4, fl_25_4, sz_3, sz_4, fl_25_2, sz_23, el_23, fl_25_1, sz_22, fl_25_3, fl_25_0, bt_4, c_laws_big, c_impl_SigNew, c_spec_SigOk, c_laws_at, c_impl_SigSet, c_impl_SigMask, c_impl_SigSend, c_impl_SigNext, c_laws_has, c_impl_SigBack, decide_eq_true hs]
  · have ha := h1 (by omega)
    obtain ⟨L, hL⟩ : ∃ L, L = row UInt8 a n (M a.r) := ⟨_, rfl⟩
    have hok0 : sigOk (List.replicate 16 false) (List.replicate 16 false) (List.replicate 16 (0 : Int)) [] 0 := by decide
    have hae : allEnc Bool ((List.replicate 16 false).map enc) := by rw [allEnc_enc]; trivial
    have hae2 : allEnc Int ((List.replicate 16 (0 : Int)).map enc) := by rw [allEnc_enc]; trivial
    simp only [↓WP, ↓grdD, ↓grdT, ↓un_dead, ↓binVC, ↓buildVC, ↓sliceVC, WQ, WN, Int.reduceToNat, renl, cll, rent, clt, ↓reduceIte, Nat.reduceLeDiff, Nat.reduceEqDiff, Nat.reduceLT, reduceCtorEq, List.append_nil, Nat.reduceAdd, Nat.reduceSub, Nat.reduceBEq, forall_const, implies_true, cond_true, cond_false, AV.ren, AC.ren, AV.cl, AC.cl, eq_self, List.all_cons, List.all_nil, AV.eqv, AC.eqv, eqvl, eqvt, Sl.eqv, List.map_append, List.length_map, List.length_append, List.length_replicate, List.length_set, List.map_replicate, nilVC, zr_25, sz_25, el_22, zr_4, fl_25_4, sz_3, sz_4, fl_25_2, sz_23, el_23, fl_25_1, sz_22, fl_25_3, fl_25_0, bt_4, c_laws_big, c_impl_SigNew, c_spec_SigOk, c_laws_at, c_impl_SigSet, c_impl_SigMask, c_impl_SigSend, c_impl_SigNext, c_laws_has, c_impl_SigBack, decide_eq_false hs, ha]
    refine ⟨⟨⟨.inr hae, .inr hae, .inr hae2, .inl trivial⟩, by rw [hasRow_rows]; exact ⟨rfl, rfl, Nat.zero_lt_one, Nat.zero_le _⟩, by rw [hasRow_rows]; exact ⟨rfl, rfl, Nat.zero_lt_one, Nat.zero_le _⟩⟩, fun h => ?_, fun _ => ⟨by omega, ?_⟩⟩
    · rw [Bool.not_eq_true'] at h
      exact of_decide_eq_false h hok0
    refine loopI (J := {q : Nat × OwnS × List Bool // q.1 ≤ 80 ∧ sgood q.2.1.1 q.2.2 ∧ q.2.1.1.1.length ≤ q.2.1.2.1 ∧ q.2.1.1.2.1.length ≤ q.2.1.2.2.1 ∧ q.2.1.1.2.2.1.length ≤ q.2.1.2.2.2.1 ∧ q.2.1.1.2.2.2.1.length ≤ q.2.1.2.2.2.2}) (fun q => ⟨slots 262 [(0, .c (.sl a.up n ca)), (3, .c (.ptr ⟨.loc 4, 0, 0, 0⟩)), (4, .c (.sl ⟨.loc 5, 0, 0, 0⟩ 17 17)), (5, I (q.1.1 : Nat))], M, [], [rowG true 4 q.1.2.1.2.1 q.1.2.1.1.1, rowG true 4 q.1.2.1.2.2.1 q.1.2.1.1.2.1, rowG true 3 q.1.2.1.2.2.2.1 q.1.2.1.1.2.2.1, rowG true 3 q.1.2.1.2.2.2.2 q.1.2.1.1.2.2.2.1, .box 25 [.sl ⟨.loc 0, 0, 0, 0⟩ (q.1.2.1.1.1).length q.1.2.1.2.1, .sl ⟨.loc 1, 0, 0, 0⟩ (q.1.2.1.1.2.1).length q.1.2.1.2.2.1, .sl ⟨.loc 2, 0, 0, 0⟩ (q.1.2.1.1.2.2.1).length q.1.2.1.2.2.2.1, .sl ⟨.loc 3, 0, 0, 0⟩ (q.1.2.1.1.2.2.2.1).length q.1.2.1.2.2.2.2, .int .i64 q.1.2.1.1.2.2.2.2], rowG true 4 17 q.1.2.2]⟩) (fun q => 80 - q.1.1) ⟨(0, ((List.replicate 16 false, List.replicate 16 false, List.replicate 16 (0 : Int), [], 0), 16, 16, 16, 0), List.replicate 17 false), by show 0 ≤ 80; omega, sgood_new, by simp, by simp, by simp, by simp⟩ (Le_intro [0, 1, 2, 3, 4, 5] (by simp only [WL, WNL, swA_new, swA_ne, nest_sw_ne, mapLL, List.mem_cons, Nat.reduceAdd, Nat.reduceLT, Nat.reduceLeDiff, Nat.reduceEqDiff, okU, List.nodup_cons, List.not_mem_nil, toT, toL, toO, keysO, renl, rent, cll, clt, eq_self, AV.eqv, AC.eqv, eqvl, eqvt, Sl.eqv, rowsLe, mapLL, rowsCl, List.map_append, List.length_map, List.length_append, List.length_set, List.map_replicate, rowG, List.getElem?_cons_zero, List.getElem?_cons_succ, List.getElem?_nil, List.append_nil, List.nil_append, List.cons_append, ghosts, St.gh, Option.some.injEq, implies_true, setT, AV.ren, AC.ren, AV.cl, AC.cl, List.replicate_succ, List.replicate_zero, List.nodup_nil, List.length_nil, List.length_cons, List.getD_cons_zero, List.getD_cons_succ, ↓reduceIte]; try simp)) ?_
    rintro ⟨⟨i, ⟨⟨P, K, D, Z, u⟩, k1, k2, k3, k4⟩, T⟩, hi, hg, g1, g2, g3, g4⟩
    dsimp only at hi hg g1 g2 g3 g4
    have hok : sigOk P K D Z u := hg.1
    obtain ⟨l1, l2, l3, l4, l5⟩ := hok.1
    have lT : T.length = 17 := hg.2.2.1
    have hw := wS (i := i) (by omega)
    by_cases hgo : i < 80 ∧ u = 0
    · obtain ⟨hi80, hu0⟩ := hgo
      have hid : decide ((i : Int) < 80) = true := decide_eq_true (by omega)
      have hu : decide (u = 0) = true := decide_eq_true hu0
      obtain ⟨m, hm, hm16⟩ : ∃ m : Nat, (atO L (i : Int)).tmod 16 = m ∧ m < 16 := by
        have := atO_mod L (i := (i : Int)) (k := 16) (by omega) (by omega)
        exact ⟨((atO L (i : Int)).tmod 16).toNat, by omega, by omega⟩
      have wn : IntKind.i64.wrap (1 + (m : Int)) = ((m + 1 : Nat) : Int) := by rw [w64 (by omega) (by omega)]; omega
      have wm : IntKind.i64.wrap (((m + 1 : Nat) : Int) - 1) = (m : Int) := by rw [w64 (by omega) (by omega)]; omega
      have em : (((m + 1 : Nat) : Int) - 1).toNat = m := by omega
      have w2 : IntKind.i64.wrap ((i : Int) + 2) = ((i + 2 : Nat) : Int) := by rw [w64 (by omega) (by omega)]; omega
      obtain ⟨s, hs', hs5⟩ : ∃ s : Int, (atO L ((i + 1 : Nat) : Int)).tmod 9 = s ∧ 0 ≤ s ∧ s < 9 := by
        have := atO_mod L (i := ((i + 1 : Nat) : Int)) (k := 9) (by omega) (by omega)
        exact ⟨_, rfl, by omega⟩
      by_cases hA : s = 0 ∨ s = 1
      · have key : (decide (s = 0) = true ∧ True) ∨ (decide (s = 0) = false ∧ decide (s = 1) = true) := hA.elim (fun h => .inl ⟨decide_eq_true h, trivial⟩) fun h => .inr ⟨decide_eq_false (by omega), decide_eq_true h⟩
        obtain ⟨d, hd, hd5⟩ : ∃ d : Int, (atO L ((i + 2 : Nat) : Int)).tmod 5 = d ∧ 0 ≤ d ∧ d < 5 := by
          have := atO_mod L (i := ((i + 2 : Nat) : Int)) (k := 5) (by omega) (by omega)
          exact ⟨_, rfl, by omega⟩
        by_cases hd2 : 2 < d
        · have h2d : decide (2 < d) = true := decide_eq_true (by omega)
          have hgood1 := set_good1 hg (n := ((m + 1 : Nat) : Int)) (by omega)
          have hgood0 := set_good0 hg (n := ((m + 1 : Nat) : Int)) (d := 2)
          obtain ⟨O, hO⟩ : ∃ O, setO P K D Z u ((m + 1 : Nat) : Int) 2 = O := ⟨_, rfl⟩
          rw [hO] at hgood0
          obtain ⟨⟨P', K', D', Z', u'⟩, r⟩ := O
          dsimp only at hgood0
          have hg' := hgood0 fun h => absurd h (by decide)
          have hokk : sigOk P' K' D' Z' u' := hg'.1
          have hok' : decide (sigOk P' K' D' Z' u') = true := decide_eq_true hokk
          obtain ⟨l1', l2', l3', l4', l5'⟩ := hokk.1
          have f21 : decide ((2 : Int) = 1) = false := by decide
          rcases key with ⟨e0, e1⟩ | ⟨e0, e1⟩ <;> cases r
          all_goals
            as_aux_lemma =>
              simp only [↓WP, ↓grdD, ↓grdT, ↓un_dead, ↓binVC, ↓buildVC, ↓sliceVC, WQ, WN, Int.reduceToNat, renl, cll, rent, clt, ↓reduceIte, Nat.reduceLeDiff, Nat.reduceEqDiff, Nat.reduceLT, reduceCtorEq, List.append_nil, Nat.reduceAdd, Nat.reduceSub, Nat.reduceBEq, forall_const, implies_true, cond_true, cond_false, AV.ren, AC.ren, AV.cl, AC.cl, eq_self, List.all_cons, List.all_nil, AV.eqv, AC.eqv, eqvl, eqvt, Sl.eqv, List.map_append, List.length_map, List.length_append, List.length_replicate, List.length_set, List.map_replicate, nilVC, zr_25, sz_25, el_22, zr_4, fl_25_4, sz_3, sz_4, fl_25_2, sz_23, el_23, fl_25_1, sz_22, fl_25_3, fl_25_0, bt_4, c_laws_big, c_impl_SigNew, c_spec_SigOk, c_laws_at, c_impl_SigSet, c_impl_SigMask, c_impl_SigSend, c_impl_SigNext, c_laws_has, c_impl_SigBack, hid, hu, ha, ← hL, hm, wn, hw, hs', hok', decide_true, w2, hd, h2d, hO, f21, e0, e1]
              repeat' (first | (refine And.intro (by first | omega | exact .inr trivial | exact ⟨by omega, .inr trivial⟩) ?_) | with_reducible refine And.intro ?_ ?_ | intro _)
              all_goals try omega
              all_goals try exact .inr trivial
              all_goals try (rw [hasRow_rows]; exact ⟨rfl, rfl, Nat.zero_lt_one, Nat.zero_le _⟩)
              all_goals
                rename_i p hp
                obtain ⟨c1, c2, c3, c4⟩ := p
                obtain ⟨q1, q2, q3, q4⟩ := hp
                dsimp only at q1 q2 q3 q4
                refine loopI (J := {k : Nat // 1 ≤ k ∧ k ≤ 17}) (fun k => ⟨slots 262 [(0, .c (.sl a.up n ca)), (3, .c (.ptr ⟨.loc 4, 0, 0, 0⟩)), (4, .c (.sl ⟨.loc 5, 0, 0, 0⟩ 17 17)), (5, I (i : Nat)), (13, I (k.1 : Nat))], M, [], [rowG true 4 c1 P', rowG true 4 c2 K', rowG true 3 c3 D', rowG true 3 c4 Z', .box 25 [.sl ⟨.loc 0, 0, 0, 0⟩ (P').length c1, .sl ⟨.loc 1, 0, 0, 0⟩ (K').length c2, .sl ⟨.loc 2, 0, 0, 0⟩ (D').length c3, .sl ⟨.loc 3, 0, 0, 0⟩ (Z').length c4, .int .i64 u'], rowG true 4 17 (T)]⟩) (fun k => 17 - k.1) ⟨1, by omega⟩ (Le_intro [7, 8, 9, 10, 4, 5] (by simp only [WL, WNL, swA_new, swA_ne, nest_sw_ne, mapLL, List.mem_cons, Nat.reduceAdd, Nat.reduceLT, Nat.reduceLeDiff, Nat.reduceEqDiff, okU, List.nodup_cons, List.not_mem_nil, toT, toL, toO, keysO, renl, rent, cll, clt, eq_self, AV.eqv, AC.eqv, eqvl, eqvt, Sl.eqv, rowsLe, mapLL, rowsCl, List.map_append, List.length_map, List.length_append, List.length_set, List.map_replicate, rowG, List.getElem?_cons_zero, List.getElem?_cons_succ, List.getElem?_nil, List.append_nil, List.nil_append, List.cons_append, ghosts, St.gh, Option.some.injEq, implies_true, setT, AV.ren, AC.ren, AV.cl, AC.cl, List.replicate_succ, List.replicate_zero, List.nodup_nil, List.length_nil, List.length_cons, List.getD_cons_zero, List.getD_cons_succ, ↓reduceIte, List.map_set, enc_bool]; try simp)) ?_
                rintro ⟨k, hk0, hk⟩
                have hwk := wS (i := k) (by omega)
                by_cases hkk : k ≤ 16 ∧ u' = 0
                · obtain ⟨hk16, hu'⟩ := hkk
                  have f1 : decide ((k : Int) ≤ 16) = true := decide_eq_true (by omega)
                  have f2 : decide (u' = 0) = true := decide_eq_true hu'
                  have f3 : IntKind.i64.wrap ((k : Int) - 1) = ((k - 1 : Nat) : Int) := by rw [w64 (by omega) (by omega)]; omega
                  have hte := hg'.2.2.2 hu' (k - 1) (by omega)
                  rw [show k - 1 + 1 = k by omega] at hte
                  have f4 : (List.map enc P').getD (k - 1) [] = [AC.bool ((T).getD k default)] := by rw [getD_enc _ _ (by omega), hte]; rfl
                  have f5 : (List.map enc (T)).getD k [] = [AC.bool ((T).getD k default)] := by rw [getD_enc _ _ (by rw [hg'.2.2.1]; omega)]; rfl
                  have hbb : ∀ b : Bool, (b != b) = false := by decide
                  simp only [↓WP, ↓grdD, ↓grdT, ↓un_dead, ↓binVC, ↓buildVC, ↓sliceVC, WQ, WN, Int.reduceToNat, renl, cll, rent, clt, ↓reduceIte, Nat.reduceLeDiff, Nat.reduceEqDiff, Nat.reduceLT, reduceCtorEq, List.append_nil, Nat.reduceAdd, Nat.reduceSub, Nat.reduceBEq, forall_const, implies_true, cond_true, cond_false, AV.ren, AC.ren, AV.cl, AC.cl, eq_self, List.all_cons, List.all_nil, AV.eqv, AC.eqv, eqvl, eqvt, Sl.eqv, List.map_append, List.length_map, List.length_append, List.length_replicate, List.length_set, List.map_replicate, nilVC, zr_25, sz_25, el_22, zr_4, fl_25_4, sz_3, sz_4, fl_25_2, sz_23, el_23, fl_25_1, sz_22, fl_25_3, fl_25_0, bt_4, c_laws_big, c_impl_SigNew, c_spec_SigOk, c_laws_at, c_impl_SigSet, c_impl_SigMask, c_impl_SigSend, c_impl_SigNext, c_laws_has, c_impl_SigBack, f1, f2, f3, f4, f5, hwk, hbb]
                  repeat' (first | (refine And.intro (by omega) ?_) | with_reducible refine And.intro ?_ ?_ | intro _)
                  all_goals try omega
                  all_goals exact ⟨⟨k + 1, by omega⟩, Le_intro [0, 1, 2, 3, 4, 5] (by simp only [WL, WNL, swA_new, swA_ne, nest_sw_ne, mapLL, List.mem_cons, Nat.reduceAdd, Nat.reduceLT, Nat.reduceLeDiff, Nat.reduceEqDiff, okU, List.nodup_cons, List.not_mem_nil, toT, toL, toO, keysO, renl, rent, cll, clt, eq_self, AV.eqv, AC.eqv, eqvl, eqvt, Sl.eqv, rowsLe, mapLL, rowsCl, List.map_append, List.length_map, List.length_append, List.length_set, List.map_replicate, rowG, List.getElem?_cons_zero, List.getElem?_cons_succ, List.getElem?_nil, List.append_nil, List.nil_append, List.cons_append, ghosts, St.gh, Option.some.injEq, implies_true, setT, AV.ren, AC.ren, AV.cl, AC.cl, List.replicate_succ, List.replicate_zero, List.nodup_nil, List.length_nil, List.length_cons, List.getD_cons_zero, List.getD_cons_succ, ↓reduceIte]; try simp), by show 17 - (k + 1) < 17 - k; omega⟩
                · have key : decide ((k : Int) ≤ 16) = false ∨ (decide ((k : Int) ≤ 16) = true ∧ decide (u' = 0) = false) := by
                    by_cases hk16 : k ≤ 16
                    · exact .inr ⟨decide_eq_true (by omega), decide_eq_false fun h => hkk ⟨hk16, h⟩⟩
                    · exact .inl (decide_eq_false (by omega))
                  rcases key with f1 | ⟨f1, f2⟩
                  · simp only [↓WP, ↓grdD, ↓grdT, ↓un_dead, ↓binVC, ↓buildVC, ↓sliceVC, WQ, WN, Int.reduceToNat, renl, cll, rent, clt, ↓reduceIte, Nat.reduceLeDiff, Nat.reduceEqDiff, Nat.reduceLT, reduceCtorEq, List.append_nil, Nat.reduceAdd, Nat.reduceSub, Nat.reduceBEq, forall_const, implies_true, cond_true, cond_false, AV.ren, AC.ren, AV.cl, AC.cl, eq_self, List.all_cons, List.all_nil, AV.eqv, AC.eqv, eqvl, eqvt, Sl.eqv, List.map_append, List.length_map, List.length_append, List.length_replicate, List.length_set, List.map_replicate, nilVC, zr_25, sz_25, el_22, zr_4, fl_25_4, sz_3, sz_4, fl_25_2, sz_23, el_23, fl_25_1, sz_22, fl_25_3, fl_25_0, bt_4, c_laws_big, c_impl_SigNew, c_spec_SigOk, c_laws_at, c_impl_SigSet, c_impl_SigMask, c_impl_SigSend, c_impl_SigNext, c_laws_has, c_impl_SigBack, f1, hw]
                    exact ⟨⟨(i + 1, ((P', K', D', Z', u'), c1, c2, c3, c4), T), by show i + 1 ≤ 80; omega, hg', q1, q2, q3, q4⟩, Le_intro [0, 1, 2, 3, 4, 5] (by simp only [WL, WNL, swA_new, swA_ne, nest_sw_ne, mapLL, List.mem_cons, Nat.reduceAdd, Nat.reduceLT, Nat.reduceLeDiff, Nat.reduceEqDiff, okU, List.nodup_cons, List.not_mem_nil, toT, toL, toO, keysO, renl, rent, cll, clt, eq_self, AV.eqv, AC.eqv, eqvl, eqvt, Sl.eqv, rowsLe, mapLL, rowsCl, List.map_append, List.length_map, List.length_append, List.length_set, List.map_replicate, rowG, List.getElem?_cons_zero, List.getElem?_cons_succ, List.getElem?_nil, List.append_nil, List.nil_append, List.cons_append, ghosts, St.gh, Option.some.injEq, implies_true, setT, AV.ren, AC.ren, AV.cl, AC.cl, List.replicate_succ, List.replicate_zero, List.nodup_nil, List.length_nil, List.length_cons, List.getD_cons_zero, List.getD_cons_succ, ↓reduceIte]; try simp), by show 80 - (i + 1) < 80 - i; omega⟩
                  · simp only [↓WP, ↓grdD, ↓grdT, ↓un_dead, ↓binVC, ↓buildVC, ↓sliceVC, WQ, WN, Int.reduceToNat, renl, cll, rent, clt, ↓reduceIte, Nat.reduceLeDiff, Nat.reduceEqDiff, Nat.reduceLT, reduceCtorEq, List.append_nil, Nat.reduceAdd, Nat.reduceSub, Nat.reduceBEq, forall_const, implies_true, cond_true, cond_false, AV.ren, AC.ren, AV.cl, AC.cl, eq_self, List.all_cons, List.all_nil, AV.eqv, AC.eqv, eqvl, eqvt, Sl.eqv, List.map_append, List.length_map, List.length_append, List.length_replicate, List.length_set, List.map_replicate, nilVC, zr_25, sz_25, el_22, zr_4, fl_25_4, sz_3, sz_4, fl_25_2, sz_23, el_23, fl_25_1, sz_22, fl_25_3, fl_25_0, bt_4, c_laws_big, c_impl_SigNew, c_spec_SigOk, c_laws_at, c_impl_SigSet, c_impl_SigMask, c_impl_SigSend, c_impl_SigNext, c_laws_has, c_impl_SigBack, f1, f2, hw]
                    exact ⟨⟨(i + 1, ((P', K', D', Z', u'), c1, c2, c3, c4), T), by show i + 1 ≤ 80; omega, hg', q1, q2, q3, q4⟩, Le_intro [0, 1, 2, 3, 4, 5] (by simp only [WL, WNL, swA_new, swA_ne, nest_sw_ne, mapLL, List.mem_cons, Nat.reduceAdd, Nat.reduceLT, Nat.reduceLeDiff, Nat.reduceEqDiff, okU, List.nodup_cons, List.not_mem_nil, toT, toL, toO, keysO, renl, rent, cll, clt, eq_self, AV.eqv, AC.eqv, eqvl, eqvt, Sl.eqv, rowsLe, mapLL, rowsCl, List.map_append, List.length_map, List.length_append, List.length_set, List.map_replicate, rowG, List.getElem?_cons_zero, List.getElem?_cons_succ, List.getElem?_nil, List.append_nil, List.nil_append, List.cons_append, ghosts, St.gh, Option.some.injEq, implies_true, setT, AV.ren, AC.ren, AV.cl, AC.cl, List.replicate_succ, List.replicate_zero, List.nodup_nil, List.length_nil, List.length_cons, List.getD_cons_zero, List.getD_cons_succ, ↓reduceIte]; try simp), by show 80 - (i + 1) < 80 - i; omega⟩
        · have h2d : decide (2 < d) = false := decide_eq_false (by omega)
          have hgood1 := set_good1 hg (n := ((m + 1 : Nat) : Int)) (by omega)
          have hgood0 := set_good0 hg (n := ((m + 1 : Nat) : Int)) (d := d)
          obtain ⟨O, hO⟩ : ∃ O, setO P K D Z u ((m + 1 : Nat) : Int) d = O := ⟨_, rfl⟩
          rw [hO] at hgood0
          obtain ⟨⟨P', K', D', Z', u'⟩, r⟩ := O
          dsimp only at hgood0
          by_cases hd1 : d = 1 ∧ r = true
          · obtain ⟨rfl, rfl⟩ := hd1
            rw [hO] at hgood1
            have hg' := hgood1 rfl
            dsimp only at hg'
            rw [Int.toNat_natCast] at hg'
            have hokk : sigOk P' K' D' Z' u' := hg'.1
            have hok' : decide (sigOk P' K' D' Z' u') = true := decide_eq_true hokk
            obtain ⟨l1', l2', l3', l4', l5'⟩ := hokk.1
            have f21 : decide ((1 : Int) = 1) = true := by decide
            rcases key with ⟨e0, e1⟩ | ⟨e0, e1⟩
            all_goals
              as_aux_lemma =>
                simp only [↓WP, ↓grdD, ↓grdT, ↓un_dead, ↓binVC, ↓buildVC, ↓sliceVC, WQ, WN, Int.reduceToNat, renl, cll, rent, clt, ↓reduceIte, Nat.reduceLeDiff, Nat.reduceEqDiff, Nat.reduceLT, reduceCtorEq, List.append_nil, Nat.reduceAdd, Nat.reduceSub, Nat.reduceBEq, forall_const, implies_true, cond_true, cond_false, AV.ren, AC.ren, AV.cl, AC.cl, eq_self, List.all_cons, List.all_nil, AV.eqv, AC.eqv, eqvl, eqvt, Sl.eqv, List.map_append, List.length_map, List.length_append, List.length_replicate, List.length_set, List.map_replicate, nilVC, zr_25, sz_25, el_22, zr_4, fl_25_4, sz_3, sz_4, fl_25_2, sz_23, el_23, fl_25_1, sz_22, fl_25_3, fl_25_0, bt_4, c_laws_big, c_impl_SigNew, c_spec_SigOk, c_laws_at, c_impl_SigSet, c_impl_SigMask, c_impl_SigSend, c_impl_SigNext, c_laws_has, c_impl_SigBack, hid, hu, ha, ← hL, hm, wn, hw, hs', hok', decide_true, w2, hd, h2d, hO, f21, e0, e1]
                repeat' (first | (refine And.intro (by first | omega | exact .inr trivial | exact ⟨by omega, .inr trivial⟩) ?_) | with_reducible refine And.intro ?_ ?_ | intro _)
                all_goals try omega
                all_goals try exact .inr trivial
                all_goals try (rw [hasRow_rows]; exact ⟨rfl, rfl, Nat.zero_lt_one, Nat.zero_le _⟩)
                all_goals
                  rename_i p hp
                  obtain ⟨c1, c2, c3, c4⟩ := p
                  obtain ⟨q1, q2, q3, q4⟩ := hp
                  dsimp only at q1 q2 q3 q4
                  refine loopI (J := {k : Nat // 1 ≤ k ∧ k ≤ 17}) (fun k => ⟨slots 262 [(0, .c (.sl a.up n ca)), (3, .c (.ptr ⟨.loc 4, 0, 0, 0⟩)), (4, .c (.sl ⟨.loc 5, 0, 0, 0⟩ 17 17)), (5, I (i : Nat)), (13, I (k.1 : Nat))], M, [], [rowG true 4 c1 P', rowG true 4 c2 K', rowG true 3 c3 D', rowG true 3 c4 Z', .box 25 [.sl ⟨.loc 0, 0, 0, 0⟩ (P').length c1, .sl ⟨.loc 1, 0, 0, 0⟩ (K').length c2, .sl ⟨.loc 2, 0, 0, 0⟩ (D').length c3, .sl ⟨.loc 3, 0, 0, 0⟩ (Z').length c4, .int .i64 u'], rowG true 4 17 (T.set (m + 1) false)]⟩) (fun k => 17 - k.1) ⟨1, by omega⟩ (Le_intro [7, 8, 9, 10, 4, 5] (by simp only [WL, WNL, swA_new, swA_ne, nest_sw_ne, mapLL, List.mem_cons, Nat.reduceAdd, Nat.reduceLT, Nat.reduceLeDiff, Nat.reduceEqDiff, okU, List.nodup_cons, List.not_mem_nil, toT, toL, toO, keysO, renl, rent, cll, clt, eq_self, AV.eqv, AC.eqv, eqvl, eqvt, Sl.eqv, rowsLe, mapLL, rowsCl, List.map_append, List.length_map, List.length_append, List.length_set, List.map_replicate, rowG, List.getElem?_cons_zero, List.getElem?_cons_succ, List.getElem?_nil, List.append_nil, List.nil_append, List.cons_append, ghosts, St.gh, Option.some.injEq, implies_true, setT, AV.ren, AC.ren, AV.cl, AC.cl, List.replicate_succ, List.replicate_zero, List.nodup_nil, List.length_nil, List.length_cons, List.getD_cons_zero, List.getD_cons_succ, ↓reduceIte, List.map_set, enc_bool]; try simp)) ?_
                  rintro ⟨k, hk0, hk⟩
                  have hwk := wS (i := k) (by omega)
                  by_cases hkk : k ≤ 16 ∧ u' = 0
                  · obtain ⟨hk16, hu'⟩ := hkk
                    have f1 : decide ((k : Int) ≤ 16) = true := decide_eq_true (by omega)
                    have f2 : decide (u' = 0) = true := decide_eq_true hu'
                    have f3 : IntKind.i64.wrap ((k : Int) - 1) = ((k - 1 : Nat) : Int) := by rw [w64 (by omega) (by omega)]; omega
                    have hte := hg'.2.2.2 hu' (k - 1) (by omega)
                    rw [show k - 1 + 1 = k by omega] at hte
                    have f4 : (List.map enc P').getD (k - 1) [] = [AC.bool ((T.set (m + 1) false).getD k default)] := by rw [getD_enc _ _ (by omega), hte]; rfl
                    have f5 : (List.map enc (T.set (m + 1) false)).getD k [] = [AC.bool ((T.set (m + 1) false).getD k default)] := by rw [getD_enc _ _ (by rw [hg'.2.2.1]; omega)]; rfl
                    have hbb : ∀ b : Bool, (b != b) = false := by decide
                    simp only [↓WP, ↓grdD, ↓grdT, ↓un_dead, ↓binVC, ↓buildVC, ↓sliceVC, WQ, WN, Int.reduceToNat, renl, cll, rent, clt, ↓reduceIte, Nat.reduceLeDiff, Nat.reduceEqDiff, Nat.reduceLT, reduceCtorEq, List.append_nil, Nat.reduceAdd, Nat.reduceSub, Nat.reduceBEq, forall_const, implies_true, cond_true, cond_false, AV.ren, AC.ren, AV.cl, AC.cl, eq_self, List.all_cons, List.all_nil, AV.eqv, AC.eqv, eqvl, eqvt, Sl.eqv, List.map_append, List.length_map, List.length_append, List.length_replicate, List.length_set, List.map_replicate, nilVC, zr_25, sz_25, el_22, zr_4, fl_25_4, sz_3, sz_4, fl_25_2, sz_23, el_23, fl_25_1, sz_22, fl_25_3, fl_25_0, bt_4, c_laws_big, c_impl_SigNew, c_spec_SigOk, c_laws_at, c_impl_SigSet, c_impl_SigMask, c_impl_SigSend, c_impl_SigNext, c_laws_has, c_impl_SigBack, f1, f2, f3, f4, f5, hwk, hbb]
                    repeat' (first | (refine And.intro (by omega) ?_) | with_reducible refine And.intro ?_ ?_ | intro _)
                    all_goals try omega
                    all_goals exact ⟨⟨k + 1, by omega⟩, Le_intro [0, 1, 2, 3, 4, 5] (by simp only [WL, WNL, swA_new, swA_ne, nest_sw_ne, mapLL, List.mem_cons, Nat.reduceAdd, Nat.reduceLT, Nat.reduceLeDiff, Nat.reduceEqDiff, okU, List.nodup_cons, List.not_mem_nil, toT, toL, toO, keysO, renl, rent, cll, clt, eq_self, AV.eqv, AC.eqv, eqvl, eqvt, Sl.eqv, rowsLe, mapLL, rowsCl, List.map_append, List.length_map, List.length_append, List.length_set, List.map_replicate, rowG, List.getElem?_cons_zero, List.getElem?_cons_succ, List.getElem?_nil, List.append_nil, List.nil_append, List.cons_append, ghosts, St.gh, Option.some.injEq, implies_true, setT, AV.ren, AC.ren, AV.cl, AC.cl, List.replicate_succ, List.replicate_zero, List.nodup_nil, List.length_nil, List.length_cons, List.getD_cons_zero, List.getD_cons_succ, ↓reduceIte]; try simp), by show 17 - (k + 1) < 17 - k; omega⟩
                  · have key : decide ((k : Int) ≤ 16) = false ∨ (decide ((k : Int) ≤ 16) = true ∧ decide (u' = 0) = false) := by
                      by_cases hk16 : k ≤ 16
                      · exact .inr ⟨decide_eq_true (by omega), decide_eq_false fun h => hkk ⟨hk16, h⟩⟩
                      · exact .inl (decide_eq_false (by omega))
                    rcases key with f1 | ⟨f1, f2⟩
                    · simp only [↓WP, ↓grdD, ↓grdT, ↓un_dead, ↓binVC, ↓buildVC, ↓sliceVC, WQ, WN, Int.reduceToNat, renl, cll, rent, clt, ↓reduceIte, Nat.reduceLeDiff, Nat.reduceEqDiff, Nat.reduceLT, reduceCtorEq, List.append_nil, Nat.reduceAdd, Nat.reduceSub, Nat.reduceBEq, forall_const, implies_true, cond_true, cond_false, AV.ren, AC.ren, AV.cl, AC.cl, eq_self, List.all_cons, List.all_nil, AV.eqv, AC.eqv, eqvl, eqvt, Sl.eqv, List.map_append, List.length_map, List.length_append, List.length_replicate, List.length_set, List.map_replicate, nilVC, zr_25, sz_25, el_22, zr_4, fl_25_4, sz_3, sz_4, fl_25_2, sz_23, el_23, fl_25_1, sz_22, fl_25_3, fl_25_0, bt_4, c_laws_big, c_impl_SigNew, c_spec_SigOk, c_laws_at, c_impl_SigSet, c_impl_SigMask, c_impl_SigSend, c_impl_SigNext, c_laws_has, c_impl_SigBack, f1, hw]
                      exact ⟨⟨(i + 1, ((P', K', D', Z', u'), c1, c2, c3, c4), T.set (m + 1) false), by show i + 1 ≤ 80; omega, hg', q1, q2, q3, q4⟩, Le_intro [0, 1, 2, 3, 4, 5] (by simp only [WL, WNL, swA_new, swA_ne, nest_sw_ne, mapLL, List.mem_cons, Nat.reduceAdd, Nat.reduceLT, Nat.reduceLeDiff, Nat.reduceEqDiff, okU, List.nodup_cons, List.not_mem_nil, toT, toL, toO, keysO, renl, rent, cll, clt, eq_self, AV.eqv, AC.eqv, eqvl, eqvt, Sl.eqv, rowsLe, mapLL, rowsCl, List.map_append, List.length_map, List.length_append, List.length_set, List.map_replicate, rowG, List.getElem?_cons_zero, List.getElem?_cons_succ, List.getElem?_nil, List.append_nil, List.nil_append, List.cons_append, ghosts, St.gh, Option.some.injEq, implies_true, setT, AV.ren, AC.ren, AV.cl, AC.cl, List.replicate_succ, List.replicate_zero, List.nodup_nil, List.length_nil, List.length_cons, List.getD_cons_zero, List.getD_cons_succ, ↓reduceIte]; try simp), by show 80 - (i + 1) < 80 - i; omega⟩
                    · simp only [↓WP, ↓grdD, ↓grdT, ↓un_dead, ↓binVC, ↓buildVC, ↓sliceVC, WQ, WN, Int.reduceToNat, renl, cll, rent, clt, ↓reduceIte, Nat.reduceLeDiff, Nat.reduceEqDiff, Nat.reduceLT, reduceCtorEq, List.append_nil, Nat.reduceAdd, Nat.reduceSub, Nat.reduceBEq, forall_const, implies_true, cond_true, cond_false, AV.ren, AC.ren, AV.cl, AC.cl, eq_self, List.all_cons, List.all_nil, AV.eqv, AC.eqv, eqvl, eqvt, Sl.eqv, List.map_append, List.length_map, List.length_append, List.length_replicate, List.length_set, List.map_replicate, nilVC, zr_25, sz_25, el_22, zr_4, fl_25_4, sz_3, sz_4, fl_25_2, sz_23, el_23, fl_25_1, sz_22, fl_25_3, fl_25_0, bt_4, c_laws_big, c_impl_SigNew, c_spec_SigOk, c_laws_at, c_impl_SigSet, c_impl_SigMask, c_impl_SigSend, c_impl_SigNext, c_laws_has, c_impl_SigBack, f1, f2, hw]
                      exact ⟨⟨(i + 1, ((P', K', D', Z', u'), c1, c2, c3, c4), T.set (m + 1) false), by show i + 1 ≤ 80; omega, hg', q1, q2, q3, q4⟩, Le_intro [0, 1, 2, 3, 4, 5] (by simp only [WL, WNL, swA_new, swA_ne, nest_sw_ne, mapLL, List.mem_cons, Nat.reduceAdd, Nat.reduceLT, Nat.reduceLeDiff, Nat.reduceEqDiff, okU, List.nodup_cons, List.not_mem_nil, toT, toL, toO, keysO, renl, rent, cll, clt, eq_self, AV.eqv, AC.eqv, eqvl, eqvt, Sl.eqv, rowsLe, mapLL, rowsCl, List.map_append, List.length_map, List.length_append, List.length_set, List.map_replicate, rowG, List.getElem?_cons_zero, List.getElem?_cons_succ, List.getElem?_nil, List.append_nil, List.nil_append, List.cons_append, ghosts, St.gh, Option.some.injEq, implies_true, setT, AV.ren, AC.ren, AV.cl, AC.cl, List.replicate_succ, List.replicate_zero, List.nodup_nil, List.length_nil, List.length_cons, List.getD_cons_zero, List.getD_cons_succ, ↓reduceIte]; try simp), by show 80 - (i + 1) < 80 - i; omega⟩
          · have hg' := hgood0 fun h => by cases r with
              | true => exact absurd ⟨h, rfl⟩ hd1
              | false => rfl
            have hokk : sigOk P' K' D' Z' u' := hg'.1
            have hok' : decide (sigOk P' K' D' Z' u') = true := decide_eq_true hokk
            obtain ⟨l1', l2', l3', l4', l5'⟩ := hokk.1
            have kd : r = false ∨ (r = true ∧ decide (d = 1) = false) := by
              cases r with
              | true => exact .inr ⟨rfl, decide_eq_false fun h => hd1 ⟨h, rfl⟩⟩
              | false => exact .inl rfl
            rcases kd with rfl | ⟨rfl, f21⟩
            · rcases key with ⟨e0, e1⟩ | ⟨e0, e1⟩
              all_goals
                as_aux_lemma =>
                  simp only [↓WP, ↓grdD, ↓grdT, ↓un_dead, ↓binVC, ↓buildVC, ↓sliceVC, WQ, WN, Int.reduceToNat, renl, cll, rent, clt, ↓reduceIte, Nat.reduceLeDiff, Nat.reduceEqDiff, Nat.reduceLT, reduceCtorEq, List.append_nil, Nat.reduceAdd, Nat.reduceSub, Nat.reduceBEq, forall_const, implies_true, cond_true, cond_false, AV.ren, AC.ren, AV.cl, AC.cl, eq_self, List.all_cons, List.all_nil, AV.eqv, AC.eqv, eqvl, eqvt, Sl.eqv, List.map_append, List.length_map, List.length_append, List.length_replicate, List.length_set, List.map_replicate, nilVC, zr_25, sz_25, el_22, zr_4, fl_25_4, sz_3, sz_4, fl_25_2, sz_23, el_23, fl_25_1, sz_22, fl_25_3, fl_25_0, bt_4, c_laws_big, c_impl_SigNew, c_spec_SigOk, c_laws_at, c_impl_SigSet, c_impl_SigMask, c_impl_SigSend, c_impl_SigNext, c_laws_has, c_impl_SigBack, hid, hu, ha, ← hL, hm, wn, hw, hs', hok', decide_true, w2, hd, h2d, hO, e0, e1]
                  repeat' (first | (refine And.intro (by first | omega | exact .inr trivial | exact ⟨by omega, .inr trivial⟩) ?_) | with_reducible refine And.intro ?_ ?_ | intro _)
                  all_goals try omega
                  all_goals try exact .inr trivial
                  all_goals try (rw [hasRow_rows]; exact ⟨rfl, rfl, Nat.zero_lt_one, Nat.zero_le _⟩)
                  all_goals
                    rename_i p hp
                    obtain ⟨c1, c2, c3, c4⟩ := p
                    obtain ⟨q1, q2, q3, q4⟩ := hp
                    dsimp only at q1 q2 q3 q4
                    refine loopI (J := {k : Nat // 1 ≤ k ∧ k ≤ 17}) (fun k => ⟨slots 262 [(0, .c (.sl a.up n ca)), (3, .c (.ptr ⟨.loc 4, 0, 0, 0⟩)), (4, .c (.sl ⟨.loc 5, 0, 0, 0⟩ 17 17)), (5, I (i : Nat)), (13, I (k.1 : Nat))], M, [], [rowG true 4 c1 P', rowG true 4 c2 K', rowG true 3 c3 D', rowG true 3 c4 Z', .box 25 [.sl ⟨.loc 0, 0, 0, 0⟩ (P').length c1, .sl ⟨.loc 1, 0, 0, 0⟩ (K').length c2, .sl ⟨.loc 2, 0, 0, 0⟩ (D').length c3, .sl ⟨.loc 3, 0, 0, 0⟩ (Z').length c4, .int .i64 u'], rowG true 4 17 (T)]⟩) (fun k => 17 - k.1) ⟨1, by omega⟩ (Le_intro [7, 8, 9, 10, 4, 5] (by simp only [WL, WNL, swA_new, swA_ne, nest_sw_ne, mapLL, List.mem_cons, Nat.reduceAdd, Nat.reduceLT, Nat.reduceLeDiff, Nat.reduceEqDiff, okU, List.nodup_cons, List.not_mem_nil, toT, toL, toO, keysO, renl, rent, cll, clt, eq_self, AV.eqv, AC.eqv, eqvl, eqvt, Sl.eqv, rowsLe, mapLL, rowsCl, List.map_append, List.length_map, List.length_append, List.length_set, List.map_replicate, rowG, List.getElem?_cons_zero, List.getElem?_cons_succ, List.getElem?_nil, List.append_nil, List.nil_append, List.cons_append, ghosts, St.gh, Option.some.injEq, implies_true, setT, AV.ren, AC.ren, AV.cl, AC.cl, List.replicate_succ, List.replicate_zero, List.nodup_nil, List.length_nil, List.length_cons, List.getD_cons_zero, List.getD_cons_succ, ↓reduceIte, List.map_set, enc_bool]; try simp)) ?_
                    rintro ⟨k, hk0, hk⟩
                    have hwk := wS (i := k) (by omega)
                    by_cases hkk : k ≤ 16 ∧ u' = 0
                    · obtain ⟨hk16, hu'⟩ := hkk
                      have f1 : decide ((k : Int) ≤ 16) = true := decide_eq_true (by omega)
                      have f2 : decide (u' = 0) = true := decide_eq_true hu'
                      have f3 : IntKind.i64.wrap ((k : Int) - 1) = ((k - 1 : Nat) : Int) := by rw [w64 (by omega) (by omega)]; omega
                      have hte := hg'.2.2.2 hu' (k - 1) (by omega)
                      rw [show k - 1 + 1 = k by omega] at hte
                      have f4 : (List.map enc P').getD (k - 1) [] = [AC.bool ((T).getD k default)] := by rw [getD_enc _ _ (by omega), hte]; rfl
                      have f5 : (List.map enc (T)).getD k [] = [AC.bool ((T).getD k default)] := by rw [getD_enc _ _ (by rw [hg'.2.2.1]; omega)]; rfl
                      have hbb : ∀ b : Bool, (b != b) = false := by decide
                      simp only [↓WP, ↓grdD, ↓grdT, ↓un_dead, ↓binVC, ↓buildVC, ↓sliceVC, WQ, WN, Int.reduceToNat, renl, cll, rent, clt, ↓reduceIte, Nat.reduceLeDiff, Nat.reduceEqDiff, Nat.reduceLT, reduceCtorEq, List.append_nil, Nat.reduceAdd, Nat.reduceSub, Nat.reduceBEq, forall_const, implies_true, cond_true, cond_false, AV.ren, AC.ren, AV.cl, AC.cl, eq_self, List.all_cons, List.all_nil, AV.eqv, AC.eqv, eqvl, eqvt, Sl.eqv, List.map_append, List.length_map, List.length_append, List.length_replicate, List.length_set, List.map_replicate, nilVC, zr_25, sz_25, el_22, zr_4, fl_25_4, sz_3, sz_4, fl_25_2, sz_23, el_23, fl_25_1, sz_22, fl_25_3, fl_25_0, bt_4, c_laws_big, c_impl_SigNew, c_spec_SigOk, c_laws_at, c_impl_SigSet, c_impl_SigMask, c_impl_SigSend, c_impl_SigNext, c_laws_has, c_impl_SigBack, f1, f2, f3, f4, f5, hwk, hbb]
                      repeat' (first | (refine And.intro (by omega) ?_) | with_reducible refine And.intro ?_ ?_ | intro _)
                      all_goals try omega
                      all_goals exact ⟨⟨k + 1, by omega⟩, Le_intro [0, 1, 2, 3, 4, 5] (by simp only [WL, WNL, swA_new, swA_ne, nest_sw_ne, mapLL, List.mem_cons, Nat.reduceAdd, Nat.reduceLT, Nat.reduceLeDiff, Nat.reduceEqDiff, okU, List.nodup_cons, List.not_mem_nil, toT, toL, toO, keysO, renl, rent, cll, clt, eq_self, AV.eqv, AC.eqv, eqvl, eqvt, Sl.eqv, rowsLe, mapLL, rowsCl, List.map_append, List.length_map, List.length_append, List.length_set, List.map_replicate, rowG, List.getElem?_cons_zero, List.getElem?_cons_succ, List.getElem?_nil, List.append_nil, List.nil_append, List.cons_append, ghosts, St.gh, Option.some.injEq, implies_true, setT, AV.ren, AC.ren, AV.cl, AC.cl, List.replicate_succ, List.replicate_zero, List.nodup_nil, List.length_nil, List.length_cons, List.getD_cons_zero, List.getD_cons_succ, ↓reduceIte]; try simp), by show 17 - (k + 1) < 17 - k; omega⟩
                    · have key : decide ((k : Int) ≤ 16) = false ∨ (decide ((k : Int) ≤ 16) = true ∧ decide (u' = 0) = false) := by
                        by_cases hk16 : k ≤ 16
                        · exact .inr ⟨decide_eq_true (by omega), decide_eq_false fun h => hkk ⟨hk16, h⟩⟩
                        · exact .inl (decide_eq_false (by omega))
                      rcases key with f1 | ⟨f1, f2⟩
                      · simp only [↓WP, ↓grdD, ↓grdT, ↓un_dead, ↓binVC, ↓buildVC, ↓sliceVC, WQ, WN, Int.reduceToNat, renl, cll, rent, clt, ↓reduceIte, Nat.reduceLeDiff, Nat.reduceEqDiff, Nat.reduceLT, reduceCtorEq, List.append_nil, Nat.reduceAdd, Nat.reduceSub, Nat.reduceBEq, forall_const, implies_true, cond_true, cond_false, AV.ren, AC.ren, AV.cl, AC.cl, eq_self, List.all_cons, List.all_nil, AV.eqv, AC.eqv, eqvl, eqvt, Sl.eqv, List.map_append, List.length_map, List.length_append, List.length_replicate, List.length_set, List.map_replicate, nilVC, zr_25, sz_25, el_22, zr_4, fl_25_4, sz_3, sz_4, fl_25_2, sz_23, el_23, fl_25_1, sz_22, fl_25_3, fl_25_0, bt_4, c_laws_big, c_impl_SigNew, c_spec_SigOk, c_laws_at, c_impl_SigSet, c_impl_SigMask, c_impl_SigSend, c_impl_SigNext, c_laws_has, c_impl_SigBack, f1, hw]
                        exact ⟨⟨(i + 1, ((P', K', D', Z', u'), c1, c2, c3, c4), T), by show i + 1 ≤ 80; omega, hg', q1, q2, q3, q4⟩, Le_intro [0, 1, 2, 3, 4, 5] (by simp only [WL, WNL, swA_new, swA_ne, nest_sw_ne, mapLL, List.mem_cons, Nat.reduceAdd, Nat.reduceLT, Nat.reduceLeDiff, Nat.reduceEqDiff, okU, List.nodup_cons, List.not_mem_nil, toT, toL, toO, keysO, renl, rent, cll, clt, eq_self, AV.eqv, AC.eqv, eqvl, eqvt, Sl.eqv, rowsLe, mapLL, rowsCl, List.map_append, List.length_map, List.length_append, List.length_set, List.map_replicate, rowG, List.getElem?_cons_zero, List.getElem?_cons_succ, List.getElem?_nil, List.append_nil, List.nil_append, List.cons_append, ghosts, St.gh, Option.some.injEq, implies_true, setT, AV.ren, AC.ren, AV.cl, AC.cl, List.replicate_succ, List.replicate_zero, List.nodup_nil, List.length_nil, List.length_cons, List.getD_cons_zero, List.getD_cons_succ, ↓reduceIte]; try simp), by show 80 - (i + 1) < 80 - i; omega⟩
                      · simp only [↓WP, ↓grdD, ↓grdT, ↓un_dead, ↓binVC, ↓buildVC, ↓sliceVC, WQ, WN, Int.reduceToNat, renl, cll, rent, clt, ↓reduceIte, Nat.reduceLeDiff, Nat.reduceEqDiff, Nat.reduceLT, reduceCtorEq, List.append_nil, Nat.reduceAdd, Nat.reduceSub, Nat.reduceBEq, forall_const, implies_true, cond_true, cond_false, AV.ren, AC.ren, AV.cl, AC.cl, eq_self, List.all_cons, List.all_nil, AV.eqv, AC.eqv, eqvl, eqvt, Sl.eqv, List.map_append, List.length_map, List.length_append, List.length_replicate, List.length_set, List.map_replicate, nilVC, zr_25, sz_25, el_22, zr_4, fl_25_4, sz_3, sz_4, fl_25_2, sz_23, el_23, fl_25_1, sz_22, fl_25_3, fl_25_0, bt_4, c_laws_big, c_impl_SigNew, c_spec_SigOk, c_laws_at, c_impl_SigSet, c_impl_SigMask, c_impl_SigSend, c_impl_SigNext, c_laws_has, c_impl_SigBack, f1, f2, hw]
                        exact ⟨⟨(i + 1, ((P', K', D', Z', u'), c1, c2, c3, c4), T), by show i + 1 ≤ 80; omega, hg', q1, q2, q3, q4⟩, Le_intro [0, 1, 2, 3, 4, 5] (by simp only [WL, WNL, swA_new, swA_ne, nest_sw_ne, mapLL, List.mem_cons, Nat.reduceAdd, Nat.reduceLT, Nat.reduceLeDiff, Nat.reduceEqDiff, okU, List.nodup_cons, List.not_mem_nil, toT, toL, toO, keysO, renl, rent, cll, clt, eq_self, AV.eqv, AC.eqv, eqvl, eqvt, Sl.eqv, rowsLe, mapLL, rowsCl, List.map_append, List.length_map, List.length_append, List.length_set, List.map_replicate, rowG, List.getElem?_cons_zero, List.getElem?_cons_succ, List.getElem?_nil, List.append_nil, List.nil_append, List.cons_append, ghosts, St.gh, Option.some.injEq, implies_true, setT, AV.ren, AC.ren, AV.cl, AC.cl, List.replicate_succ, List.replicate_zero, List.nodup_nil, List.length_nil, List.length_cons, List.getD_cons_zero, List.getD_cons_succ, ↓reduceIte]; try simp), by show 80 - (i + 1) < 80 - i; omega⟩
            · rcases key with ⟨e0, e1⟩ | ⟨e0, e1⟩
              all_goals
                as_aux_lemma =>
                  simp only [↓WP, ↓grdD, ↓grdT, ↓un_dead, ↓binVC, ↓buildVC, ↓sliceVC, WQ, WN, Int.reduceToNat, renl, cll, rent, clt, ↓reduceIte, Nat.reduceLeDiff, Nat.reduceEqDiff, Nat.reduceLT, reduceCtorEq, List.append_nil, Nat.reduceAdd, Nat.reduceSub, Nat.reduceBEq, forall_const, implies_true, cond_true, cond_false, AV.ren, AC.ren, AV.cl, AC.cl, eq_self, List.all_cons, List.all_nil, AV.eqv, AC.eqv, eqvl, eqvt, Sl.eqv, List.map_append, List.length_map, List.length_append, List.length_replicate, List.length_set, List.map_replicate, nilVC, zr_25, sz_25, el_22, zr_4, fl_25_4, sz_3, sz_4, fl_25_2, sz_23, el_23, fl_25_1, sz_22, fl_25_3, fl_25_0, bt_4, c_laws_big, c_impl_SigNew, c_spec_SigOk, c_laws_at, c_impl_SigSet, c_impl_SigMask, c_impl_SigSend, c_impl_SigNext, c_laws_has, c_impl_SigBack, hid, hu, ha, ← hL, hm, wn, hw, hs', hok', decide_true, w2, hd, h2d, hO, f21, e0, e1]
                  repeat' (first | (refine And.intro (by first | omega | exact .inr trivial | exact ⟨by omega, .inr trivial⟩) ?_) | with_reducible refine And.intro ?_ ?_ | intro _)
                  all_goals try omega
                  all_goals try exact .inr trivial
                  all_goals try (rw [hasRow_rows]; exact ⟨rfl, rfl, Nat.zero_lt_one, Nat.zero_le _⟩)
                  all_goals
                    rename_i p hp
                    obtain ⟨c1, c2, c3, c4⟩ := p
                    obtain ⟨q1, q2, q3, q4⟩ := hp
                    dsimp only at q1 q2 q3 q4
                    refine loopI (J := {k : Nat // 1 ≤ k ∧ k ≤ 17}) (fun k => ⟨slots 262 [(0, .c (.sl a.up n ca)), (3, .c (.ptr ⟨.loc 4, 0, 0, 0⟩)), (4, .c (.sl ⟨.loc 5, 0, 0, 0⟩ 17 17)), (5, I (i : Nat)), (13, I (k.1 : Nat))], M, [], [rowG true 4 c1 P', rowG true 4 c2 K', rowG true 3 c3 D', rowG true 3 c4 Z', .box 25 [.sl ⟨.loc 0, 0, 0, 0⟩ (P').length c1, .sl ⟨.loc 1, 0, 0, 0⟩ (K').length c2, .sl ⟨.loc 2, 0, 0, 0⟩ (D').length c3, .sl ⟨.loc 3, 0, 0, 0⟩ (Z').length c4, .int .i64 u'], rowG true 4 17 (T)]⟩) (fun k => 17 - k.1) ⟨1, by omega⟩ (Le_intro [7, 8, 9, 10, 4, 5] (by simp only [WL, WNL, swA_new, swA_ne, nest_sw_ne, mapLL, List.mem_cons, Nat.reduceAdd, Nat.reduceLT, Nat.reduceLeDiff, Nat.reduceEqDiff, okU, List.nodup_cons, List.not_mem_nil, toT, toL, toO, keysO, renl, rent, cll, clt, eq_self, AV.eqv, AC.eqv, eqvl, eqvt, Sl.eqv, rowsLe, mapLL, rowsCl, List.map_append, List.length_map, List.length_append, List.length_set, List.map_replicate, rowG, List.getElem?_cons_zero, List.getElem?_cons_succ, List.getElem?_nil, List.append_nil, List.nil_append, List.cons_append, ghosts, St.gh, Option.some.injEq, implies_true, setT, AV.ren, AC.ren, AV.cl, AC.cl, List.replicate_succ, List.replicate_zero, List.nodup_nil, List.length_nil, List.length_cons, List.getD_cons_zero, List.getD_cons_succ, ↓reduceIte, List.map_set, enc_bool]; try simp)) ?_
                    rintro ⟨k, hk0, hk⟩
                    have hwk := wS (i := k) (by omega)
                    by_cases hkk : k ≤ 16 ∧ u' = 0
                    · obtain ⟨hk16, hu'⟩ := hkk
                      have f1 : decide ((k : Int) ≤ 16) = true := decide_eq_true (by omega)
                      have f2 : decide (u' = 0) = true := decide_eq_true hu'
                      have f3 : IntKind.i64.wrap ((k : Int) - 1) = ((k - 1 : Nat) : Int) := by rw [w64 (by omega) (by omega)]; omega
                      have hte := hg'.2.2.2 hu' (k - 1) (by omega)
                      rw [show k - 1 + 1 = k by omega] at hte
                      have f4 : (List.map enc P').getD (k - 1) [] = [AC.bool ((T).getD k default)] := by rw [getD_enc _ _ (by omega), hte]; rfl
                      have f5 : (List.map enc (T)).getD k [] = [AC.bool ((T).getD k default)] := by rw [getD_enc _ _ (by rw [hg'.2.2.1]; omega)]; rfl
                      have hbb : ∀ b : Bool, (b != b) = false := by decide
                      simp only [↓WP, ↓grdD, ↓grdT, ↓un_dead, ↓binVC, ↓buildVC, ↓sliceVC, WQ, WN, Int.reduceToNat, renl, cll, rent, clt, ↓reduceIte, Nat.reduceLeDiff, Nat.reduceEqDiff, Nat.reduceLT, reduceCtorEq, List.append_nil, Nat.reduceAdd, Nat.reduceSub, Nat.reduceBEq, forall_const, implies_true, cond_true, cond_false, AV.ren, AC.ren, AV.cl, AC.cl, eq_self, List.all_cons, List.all_nil, AV.eqv, AC.eqv, eqvl, eqvt, Sl.eqv, List.map_append, List.length_map, List.length_append, List.length_replicate, List.length_set, List.map_replicate, nilVC, zr_25, sz_25, el_22, zr_4, fl_25_4, sz_3, sz_4, fl_25_2, sz_23, el_23, fl_25_1, sz_22, fl_25_3, fl_25_0, bt_4, c_laws_big, c_impl_SigNew, c_spec_SigOk, c_laws_at, c_impl_SigSet, c_impl_SigMask, c_impl_SigSend, c_impl_SigNext, c_laws_has, c_impl_SigBack, f1, f2, f3, f4, f5, hwk, hbb]
                      repeat' (first | (refine And.intro (by omega) ?_) | with_reducible refine And.intro ?_ ?_ | intro _)
                      all_goals try omega
                      all_goals exact ⟨⟨k + 1, by omega⟩, Le_intro [0, 1, 2, 3, 4, 5] (by simp only [WL, WNL, swA_new, swA_ne, nest_sw_ne, mapLL, List.mem_cons, Nat.reduceAdd, Nat.reduceLT, Nat.reduceLeDiff, Nat.reduceEqDiff, okU, List.nodup_cons, List.not_mem_nil, toT, toL, toO, keysO, renl, rent, cll, clt, eq_self, AV.eqv, AC.eqv, eqvl, eqvt, Sl.eqv, rowsLe, mapLL, rowsCl, List.map_append, List.length_map, List.length_append, List.length_set, List.map_replicate, rowG, List.getElem?_cons_zero, List.getElem?_cons_succ, List.getElem?_nil, List.append_nil, List.nil_append, List.cons_append, ghosts, St.gh, Option.some.injEq, implies_true, setT, AV.ren, AC.ren, AV.cl, AC.cl, List.replicate_succ, List.replicate_zero, List.nodup_nil, List.length_nil, List.length_cons, List.getD_cons_zero, List.getD_cons_succ, ↓reduceIte]; try simp), by show 17 - (k + 1) < 17 - k; omega⟩
                    · have key : decide ((k : Int) ≤ 16) = false ∨ (decide ((k : Int) ≤ 16) = true ∧ decide (u' = 0) = false) := by
                        by_cases hk16 : k ≤ 16
                        · exact .inr ⟨decide_eq_true (by omega), decide_eq_false fun h => hkk ⟨hk16, h⟩⟩
                        · exact .inl (decide_eq_false (by omega))
                      rcases key with f1 | ⟨f1, f2⟩
                      · simp only [↓WP, ↓grdD, ↓grdT, ↓un_dead, ↓binVC, ↓buildVC, ↓sliceVC, WQ, WN, Int.reduceToNat, renl, cll, rent, clt, ↓reduceIte, Nat.reduceLeDiff, Nat.reduceEqDiff, Nat.reduceLT, reduceCtorEq, List.append_nil, Nat.reduceAdd, Nat.reduceSub, Nat.reduceBEq, forall_const, implies_true, cond_true, cond_false, AV.ren, AC.ren, AV.cl, AC.cl, eq_self, List.all_cons, List.all_nil, AV.eqv, AC.eqv, eqvl, eqvt, Sl.eqv, List.map_append, List.length_map, List.length_append, List.length_replicate, List.length_set, List.map_replicate, nilVC, zr_25, sz_25, el_22, zr_4, fl_25_4, sz_3, sz_4, fl_25_2, sz_23, el_23, fl_25_1, sz_22, fl_25_3, fl_25_0, bt_4, c_laws_big, c_impl_SigNew, c_spec_SigOk, c_laws_at, c_impl_SigSet, c_impl_SigMask, c_impl_SigSend, c_impl_SigNext, c_laws_has, c_impl_SigBack, f1, hw]
                        exact ⟨⟨(i + 1, ((P', K', D', Z', u'), c1, c2, c3, c4), T), by show i + 1 ≤ 80; omega, hg', q1, q2, q3, q4⟩, Le_intro [0, 1, 2, 3, 4, 5] (by simp only [WL, WNL, swA_new, swA_ne, nest_sw_ne, mapLL, List.mem_cons, Nat.reduceAdd, Nat.reduceLT, Nat.reduceLeDiff, Nat.reduceEqDiff, okU, List.nodup_cons, List.not_mem_nil, toT, toL, toO, keysO, renl, rent, cll, clt, eq_self, AV.eqv, AC.eqv, eqvl, eqvt, Sl.eqv, rowsLe, mapLL, rowsCl, List.map_append, List.length_map, List.length_append, List.length_set, List.map_replicate, rowG, List.getElem?_cons_zero, List.getElem?_cons_succ, List.getElem?_nil, List.append_nil, List.nil_append, List.cons_append, ghosts, St.gh, Option.some.injEq, implies_true, setT, AV.ren, AC.ren, AV.cl, AC.cl, List.replicate_succ, List.replicate_zero, List.nodup_nil, List.length_nil, List.length_cons, List.getD_cons_zero, List.getD_cons_succ, ↓reduceIte]; try simp), by show 80 - (i + 1) < 80 - i; omega⟩
                      · simp only [↓WP, ↓grdD, ↓grdT, ↓un_dead, ↓binVC, ↓buildVC, ↓sliceVC, WQ, WN, Int.reduceToNat, renl, cll, rent, clt, ↓reduceIte, Nat.reduceLeDiff, Nat.reduceEqDiff, Nat.reduceLT, reduceCtorEq, List.append_nil, Nat.reduceAdd, Nat.reduceSub, Nat.reduceBEq, forall_const, implies_true, cond_true, cond_false, AV.ren, AC.ren, AV.cl, AC.cl, eq_self, List.all_cons, List.all_nil, AV.eqv, AC.eqv, eqvl, eqvt, Sl.eqv, List.map_append, List.length_map, List.length_append, List.length_replicate, List.length_set, List.map_replicate, nilVC, zr_25, sz_25, el_22, zr_4, fl_25_4, sz_3, sz_4, fl_25_2, sz_23, el_23, fl_25_1, sz_22, fl_25_3, fl_25_0, bt_4, c_laws_big, c_impl_SigNew, c_spec_SigOk, c_laws_at, c_impl_SigSet, c_impl_SigMask, c_impl_SigSend, c_impl_SigNext, c_laws_has, c_impl_SigBack, f1, f2, hw]
                        exact ⟨⟨(i + 1, ((P', K', D', Z', u'), c1, c2, c3, c4), T), by show i + 1 ≤ 80; omega, hg', q1, q2, q3, q4⟩, Le_intro [0, 1, 2, 3, 4, 5] (by simp only [WL, WNL, swA_new, swA_ne, nest_sw_ne, mapLL, List.mem_cons, Nat.reduceAdd, Nat.reduceLT, Nat.reduceLeDiff, Nat.reduceEqDiff, okU, List.nodup_cons, List.not_mem_nil, toT, toL, toO, keysO, renl, rent, cll, clt, eq_self, AV.eqv, AC.eqv, eqvl, eqvt, Sl.eqv, rowsLe, mapLL, rowsCl, List.map_append, List.length_map, List.length_append, List.length_set, List.map_replicate, rowG, List.getElem?_cons_zero, List.getElem?_cons_succ, List.getElem?_nil, List.append_nil, List.nil_append, List.cons_append, ghosts, St.gh, Option.some.injEq, implies_true, setT, AV.ren, AC.ren, AV.cl, AC.cl, List.replicate_succ, List.replicate_zero, List.nodup_nil, List.length_nil, List.length_cons, List.getD_cons_zero, List.getD_cons_succ, ↓reduceIte]; try simp), by show 80 - (i + 1) < 80 - i; omega⟩
      · have e0 : decide (s = 0) = false := decide_eq_false (by omega)
        have e1 : decide (s = 1) = false := decide_eq_false (by omega)
        by_cases hB : s = 2
        · have e2 : decide (s = 2) = true := decide_eq_true hB
          obtain ⟨bb, hbb⟩ : ∃ bb, decide ((atO L ((i + 2 : Nat) : Int)).tmod 2 = 0) = bb := ⟨_, rfl⟩
          have hg' := mask_good hg ((m + 1 : Nat) : Int) bb
          obtain ⟨O, hO⟩ : ∃ O, maskO P K D Z u ((m + 1 : Nat) : Int) bb = O := ⟨_, rfl⟩
          rw [hO] at hg'
          obtain ⟨⟨P', K', D', Z', u'⟩, r⟩ := O
          dsimp only at hg'
          have hokk : sigOk P' K' D' Z' u' := hg'.1
          have hok' : decide (sigOk P' K' D' Z' u') = true := decide_eq_true hokk
          obtain ⟨l1', l2', l3', l4', l5'⟩ := hokk.1
          as_aux_lemma =>
            simp only [↓WP, ↓grdD, ↓grdT, ↓un_dead, ↓binVC, ↓buildVC, ↓sliceVC, WQ, WN, Int.reduceToNat, renl, cll, rent, clt, ↓reduceIte, Nat.reduceLeDiff, Nat.reduceEqDiff, Nat.reduceLT, reduceCtorEq, List.append_nil, Nat.reduceAdd, Nat.reduceSub, Nat.reduceBEq, forall_const, implies_true, cond_true, cond_false, AV.ren, AC.ren, AV.cl, AC.cl, eq_self, List.all_cons, List.all_nil, AV.eqv, AC.eqv, eqvl, eqvt, Sl.eqv, List.map_append, List.length_map, List.length_append, List.length_replicate, List.length_set, List.map_replicate, nilVC, zr_25, sz_25, el_22, zr_4, fl_25_4, sz_3, sz_4, fl_25_2, sz_23, el_23, fl_25_1, sz_22, fl_25_3, fl_25_0, bt_4, c_laws_big, c_impl_SigNew, c_spec_SigOk, c_laws_at, c_impl_SigSet, c_impl_SigMask, c_impl_SigSend, c_impl_SigNext, c_laws_has, c_impl_SigBack, hid, hu, ha, ← hL, hm, wn, hw, hs', hok', decide_true, w2, hbb, hO, e0, e1, e2]
            repeat' (first | (refine And.intro (by first | omega | exact .inr trivial | exact ⟨by omega, .inr trivial⟩) ?_) | with_reducible refine And.intro ?_ ?_ | intro _)
            all_goals try omega
            all_goals try exact .inr trivial
            all_goals try (rw [hasRow_rows]; exact ⟨rfl, rfl, Nat.zero_lt_one, Nat.zero_le _⟩)
            all_goals
              rename_i p hp
              obtain ⟨c1, c2, c3, c4⟩ := p
              obtain ⟨q1, q2, q3, q4⟩ := hp
              dsimp only at q1 q2 q3 q4
              refine loopI (J := {k : Nat // 1 ≤ k ∧ k ≤ 17}) (fun k => ⟨slots 262 [(0, .c (.sl a.up n ca)), (3, .c (.ptr ⟨.loc 4, 0, 0, 0⟩)), (4, .c (.sl ⟨.loc 5, 0, 0, 0⟩ 17 17)), (5, I (i : Nat)), (13, I (k.1 : Nat))], M, [], [rowG true 4 c1 P', rowG true 4 c2 K', rowG true 3 c3 D', rowG true 3 c4 Z', .box 25 [.sl ⟨.loc 0, 0, 0, 0⟩ (P').length c1, .sl ⟨.loc 1, 0, 0, 0⟩ (K').length c2, .sl ⟨.loc 2, 0, 0, 0⟩ (D').length c3, .sl ⟨.loc 3, 0, 0, 0⟩ (Z').length c4, .int .i64 u'], rowG true 4 17 (T)]⟩) (fun k => 17 - k.1) ⟨1, by omega⟩ (Le_intro [7, 8, 9, 10, 4, 5] (by simp only [WL, WNL, swA_new, swA_ne, nest_sw_ne, mapLL, List.mem_cons, Nat.reduceAdd, Nat.reduceLT, Nat.reduceLeDiff, Nat.reduceEqDiff, okU, List.nodup_cons, List.not_mem_nil, toT, toL, toO, keysO, renl, rent, cll, clt, eq_self, AV.eqv, AC.eqv, eqvl, eqvt, Sl.eqv, rowsLe, mapLL, rowsCl, List.map_append, List.length_map, List.length_append, List.length_set, List.map_replicate, rowG, List.getElem?_cons_zero, List.getElem?_cons_succ, List.getElem?_nil, List.append_nil, List.nil_append, List.cons_append, ghosts, St.gh, Option.some.injEq, implies_true, setT, AV.ren, AC.ren, AV.cl, AC.cl, List.replicate_succ, List.replicate_zero, List.nodup_nil, List.length_nil, List.length_cons, List.getD_cons_zero, List.getD_cons_succ, ↓reduceIte, List.map_set, enc_bool]; try simp)) ?_
              rintro ⟨k, hk0, hk⟩
              have hwk := wS (i := k) (by omega)
              by_cases hkk : k ≤ 16 ∧ u' = 0
              · obtain ⟨hk16, hu'⟩ := hkk
                have f1 : decide ((k : Int) ≤ 16) = true := decide_eq_true (by omega)
                have f2 : decide (u' = 0) = true := decide_eq_true hu'
                have f3 : IntKind.i64.wrap ((k : Int) - 1) = ((k - 1 : Nat) : Int) := by rw [w64 (by omega) (by omega)]; omega
                have hte := hg'.2.2.2 hu' (k - 1) (by omega)
                rw [show k - 1 + 1 = k by omega] at hte
                have f4 : (List.map enc P').getD (k - 1) [] = [AC.bool ((T).getD k default)] := by rw [getD_enc _ _ (by omega), hte]; rfl
                have f5 : (List.map enc (T)).getD k [] = [AC.bool ((T).getD k default)] := by rw [getD_enc _ _ (by rw [hg'.2.2.1]; omega)]; rfl
                have hbb : ∀ b : Bool, (b != b) = false := by decide
                simp only [↓WP, ↓grdD, ↓grdT, ↓un_dead, ↓binVC, ↓buildVC, ↓sliceVC, WQ, WN, Int.reduceToNat, renl, cll, rent, clt, ↓reduceIte, Nat.reduceLeDiff, Nat.reduceEqDiff, Nat.reduceLT, reduceCtorEq, List.append_nil, Nat.reduceAdd, Nat.reduceSub, Nat.reduceBEq, forall_const, implies_true, cond_true, cond_false, AV.ren, AC.ren, AV.cl, AC.cl, eq_self, List.all_cons, List.all_nil, AV.eqv, AC.eqv, eqvl, eqvt, Sl.eqv, List.map_append, List.length_map, List.length_append, List.length_replicate, List.length_set, List.map_replicate, nilVC, zr_25, sz_25, el_22, zr_4, fl_25_4, sz_3, sz_4, fl_25_2, sz_23, el_23, fl_25_1, sz_22, fl_25_3, fl_25_0, bt_4, c_laws_big, c_impl_SigNew, c_spec_SigOk, c_laws_at, c_impl_SigSet, c_impl_SigMask, c_impl_SigSend, c_impl_SigNext, c_laws_has, c_impl_SigBack, f1, f2, f3, f4, f5, hwk, hbb]
                repeat' (first | (refine And.intro (by omega) ?_) | with_reducible refine And.intro ?_ ?_ | intro _)
                all_goals try omega
                all_goals exact ⟨⟨k + 1, by omega⟩, Le_intro [0, 1, 2, 3, 4, 5] (by simp only [WL, WNL, swA_new, swA_ne, nest_sw_ne, mapLL, List.mem_cons, Nat.reduceAdd, Nat.reduceLT, Nat.reduceLeDiff, Nat.reduceEqDiff, okU, List.nodup_cons, List.not_mem_nil, toT, toL, toO, keysO, renl, rent, cll, clt, eq_self, AV.eqv, AC.eqv, eqvl, eqvt, Sl.eqv, rowsLe, mapLL, rowsCl, List.map_append, List.length_map, List.length_append, List.length_set, List.map_replicate, rowG, List.getElem?_cons_zero, List.getElem?_cons_succ, List.getElem?_nil, List.append_nil, List.nil_append, List.cons_append, ghosts, St.gh, Option.some.injEq, implies_true, setT, AV.ren, AC.ren, AV.cl, AC.cl, List.replicate_succ, List.replicate_zero, List.nodup_nil, List.length_nil, List.length_cons, List.getD_cons_zero, List.getD_cons_succ, ↓reduceIte]; try simp), by show 17 - (k + 1) < 17 - k; omega⟩
              · have key : decide ((k : Int) ≤ 16) = false ∨ (decide ((k : Int) ≤ 16) = true ∧ decide (u' = 0) = false) := by
                  by_cases hk16 : k ≤ 16
                  · exact .inr ⟨decide_eq_true (by omega), decide_eq_false fun h => hkk ⟨hk16, h⟩⟩
                  · exact .inl (decide_eq_false (by omega))
                rcases key with f1 | ⟨f1, f2⟩
                · simp only [↓WP, ↓grdD, ↓grdT, ↓un_dead, ↓binVC, ↓buildVC, ↓sliceVC, WQ, WN, Int.reduceToNat, renl, cll, rent, clt, ↓reduceIte, Nat.reduceLeDiff, Nat.reduceEqDiff, Nat.reduceLT, reduceCtorEq, List.append_nil, Nat.reduceAdd, Nat.reduceSub, Nat.reduceBEq, forall_const, implies_true, cond_true, cond_false, AV.ren, AC.ren, AV.cl, AC.cl, eq_self, List.all_cons, List.all_nil, AV.eqv, AC.eqv, eqvl, eqvt, Sl.eqv, List.map_append, List.length_map, List.length_append, List.length_replicate, List.length_set, List.map_replicate, nilVC, zr_25, sz_25, el_22, zr_4, fl_25_4, sz_3, sz_4, fl_25_2, sz_23, el_23, fl_25_1, sz_22, fl_25_3, fl_25_0, bt_4, c_laws_big, c_impl_SigNew, c_spec_SigOk, c_laws_at, c_impl_SigSet, c_impl_SigMask, c_impl_SigSend, c_impl_SigNext, c_laws_has, c_impl_SigBack, f1, hw]
                  exact ⟨⟨(i + 1, ((P', K', D', Z', u'), c1, c2, c3, c4), T), by show i + 1 ≤ 80; omega, hg', q1, q2, q3, q4⟩, Le_intro [0, 1, 2, 3, 4, 5] (by simp only [WL, WNL, swA_new, swA_ne, nest_sw_ne, mapLL, List.mem_cons, Nat.reduceAdd, Nat.reduceLT, Nat.reduceLeDiff, Nat.reduceEqDiff, okU, List.nodup_cons, List.not_mem_nil, toT, toL, toO, keysO, renl, rent, cll, clt, eq_self, AV.eqv, AC.eqv, eqvl, eqvt, Sl.eqv, rowsLe, mapLL, rowsCl, List.map_append, List.length_map, List.length_append, List.length_set, List.map_replicate, rowG, List.getElem?_cons_zero, List.getElem?_cons_succ, List.getElem?_nil, List.append_nil, List.nil_append, List.cons_append, ghosts, St.gh, Option.some.injEq, implies_true, setT, AV.ren, AC.ren, AV.cl, AC.cl, List.replicate_succ, List.replicate_zero, List.nodup_nil, List.length_nil, List.length_cons, List.getD_cons_zero, List.getD_cons_succ, ↓reduceIte]; try simp), by show 80 - (i + 1) < 80 - i; omega⟩
                · simp only [↓WP, ↓grdD, ↓grdT, ↓un_dead, ↓binVC, ↓buildVC, ↓sliceVC, WQ, WN, Int.reduceToNat, renl, cll, rent, clt, ↓reduceIte, Nat.reduceLeDiff, Nat.reduceEqDiff, Nat.reduceLT, reduceCtorEq, List.append_nil, Nat.reduceAdd, Nat.reduceSub, Nat.reduceBEq, forall_const, implies_true, cond_true, cond_false, AV.ren, AC.ren, AV.cl, AC.cl, eq_self, List.all_cons, List.all_nil, AV.eqv, AC.eqv, eqvl, eqvt, Sl.eqv, List.map_append, List.length_map, List.length_append, List.length_replicate, List.length_set, List.map_replicate, nilVC, zr_25, sz_25, el_22, zr_4, fl_25_4, sz_3, sz_4, fl_25_2, sz_23, el_23, fl_25_1, sz_22, fl_25_3, fl_25_0, bt_4, c_laws_big, c_impl_SigNew, c_spec_SigOk, c_laws_at, c_impl_SigSet, c_impl_SigMask, c_impl_SigSend, c_impl_SigNext, c_laws_has, c_impl_SigBack, f1, f2, hw]
                  exact ⟨⟨(i + 1, ((P', K', D', Z', u'), c1, c2, c3, c4), T), by show i + 1 ≤ 80; omega, hg', q1, q2, q3, q4⟩, Le_intro [0, 1, 2, 3, 4, 5] (by simp only [WL, WNL, swA_new, swA_ne, nest_sw_ne, mapLL, List.mem_cons, Nat.reduceAdd, Nat.reduceLT, Nat.reduceLeDiff, Nat.reduceEqDiff, okU, List.nodup_cons, List.not_mem_nil, toT, toL, toO, keysO, renl, rent, cll, clt, eq_self, AV.eqv, AC.eqv, eqvl, eqvt, Sl.eqv, rowsLe, mapLL, rowsCl, List.map_append, List.length_map, List.length_append, List.length_set, List.map_replicate, rowG, List.getElem?_cons_zero, List.getElem?_cons_succ, List.getElem?_nil, List.append_nil, List.nil_append, List.cons_append, ghosts, St.gh, Option.some.injEq, implies_true, setT, AV.ren, AC.ren, AV.cl, AC.cl, List.replicate_succ, List.replicate_zero, List.nodup_nil, List.length_nil, List.length_cons, List.getD_cons_zero, List.getD_cons_succ, ↓reduceIte]; try simp), by show 80 - (i + 1) < 80 - i; omega⟩
        · have e2 : decide (s = 2) = false := decide_eq_false (by omega)
          by_cases hC : s = 3 ∨ s = 4 ∨ s = 5
          · have key : (decide (s = 3) = true ∧ True ∧ True) ∨ (decide (s = 3) = false ∧ decide (s = 4) = true ∧ True) ∨ (decide (s = 3) = false ∧ decide (s = 4) = false ∧ decide (s = 5) = true) := by
              rcases hC with h | h | h
              · exact .inl ⟨decide_eq_true h, trivial, trivial⟩
              · exact .inr (.inl ⟨decide_eq_false (by omega), decide_eq_true h, trivial⟩)
              · exact .inr (.inr ⟨decide_eq_false (by omega), decide_eq_false (by omega), decide_eq_true h⟩)
            obtain ⟨dm, hdm⟩ : ∃ dm, dm = D.getD m default := ⟨_, rfl⟩
            have hgD : (List.map enc D).getD m [] = [AC.int .i64 dm] := by rw [hdm]; exact getD_enc _ _ (by omega)
            obtain ⟨q, hq⟩ : ∃ q, (atO L ((i + 2 : Nat) : Int)).tmod 6 = q := ⟨_, rfl⟩
            by_cases hcont : dm = 0 ∧ ¬ q = 0
            · obtain ⟨x1, x2⟩ := hcont
              have y1 : decide (dm = 0) = true := decide_eq_true x1
              have y2 : decide (q = 0) = false := decide_eq_false x2
              rcases key with ⟨e3, e4, e5⟩ | ⟨e3, e4, e5⟩ | ⟨e3, e4, e5⟩
              all_goals
                simp only [↓WP, ↓grdD, ↓grdT, ↓un_dead, ↓binVC, ↓buildVC, ↓sliceVC, WQ, WN, Int.reduceToNat, renl, cll, rent, clt, ↓reduceIte, Nat.reduceLeDiff, Nat.reduceEqDiff, Nat.reduceLT, reduceCtorEq, List.append_nil, Nat.reduceAdd, Nat.reduceSub, Nat.reduceBEq, forall_const, implies_true, cond_true, cond_false, AV.ren, AC.ren, AV.cl, AC.cl, eq_self, List.all_cons, List.all_nil, AV.eqv, AC.eqv, eqvl, eqvt, Sl.eqv, List.map_append, List.length_map, List.length_append, List.length_replicate, List.length_set, List.map_replicate, nilVC, zr_25, sz_25, el_22, zr_4, fl_25_4, sz_3, sz_4, fl_25_2, sz_23, el_23, fl_25_1, sz_22, fl_25_3, fl_25_0, bt_4, c_laws_big, c_impl_SigNew, c_spec_SigOk, c_laws_at, c_impl_SigSet, c_impl_SigMask, c_impl_SigSend, c_impl_SigNext, c_laws_has, c_impl_SigBack, hid, hu, ha, ← hL, hm, wn, wm, hw, hs', w2, hgD, hq, y1, y2, e0, e1, e2, e3, e4, e5, decide_true]
                repeat' (first | (refine And.intro (by omega) ?_) | with_reducible refine And.intro ?_ ?_ | intro _)
                all_goals try omega
                all_goals exact ⟨⟨(i + 1, ((P, K, D, Z, u), k1, k2, k3, k4), T), by show i + 1 ≤ 80; omega, hg, g1, g2, g3, g4⟩, Le_intro [0, 1, 2, 3, 4, 5] (by simp only [WL, WNL, swA_new, swA_ne, nest_sw_ne, mapLL, List.mem_cons, Nat.reduceAdd, Nat.reduceLT, Nat.reduceLeDiff, Nat.reduceEqDiff, okU, List.nodup_cons, List.not_mem_nil, toT, toL, toO, keysO, renl, rent, cll, clt, eq_self, AV.eqv, AC.eqv, eqvl, eqvt, Sl.eqv, rowsLe, mapLL, rowsCl, List.map_append, List.length_map, List.length_append, List.length_set, List.map_replicate, rowG, List.getElem?_cons_zero, List.getElem?_cons_succ, List.getElem?_nil, List.append_nil, List.nil_append, List.cons_append, ghosts, St.gh, Option.some.injEq, implies_true, setT, AV.ren, AC.ren, AV.cl, AC.cl, List.replicate_succ, List.replicate_zero, List.nodup_nil, List.length_nil, List.length_cons, List.getD_cons_zero, List.getD_cons_succ, ↓reduceIte]; try simp), by show 80 - (i + 1) < 80 - i; omega⟩
            · have kc : (decide (dm = 0) = false ∧ True) ∨ (decide (dm = 0) = true ∧ decide (q = 0) = true) := by
                by_cases x1 : dm = 0
                · exact .inr ⟨decide_eq_true x1, decide_eq_true (by by_cases x2 : q = 0; exact x2; exact absurd ⟨x1, x2⟩ hcont)⟩
                · exact .inl ⟨decide_eq_false x1, trivial⟩
              have hgood1 := send_good1 hg (n := ((m + 1 : Nat) : Int)) (by omega)
              have hgood0 := send_good0 hg (n := ((m + 1 : Nat) : Int))
              rw [em, ← hdm] at hgood1 hgood0
              obtain ⟨O, hO⟩ : ∃ O, sendO P K D Z u ((m + 1 : Nat) : Int) = O := ⟨_, rfl⟩
              rw [hO] at hgood0 hgood1
              obtain ⟨⟨P', K', D', Z', u'⟩, r⟩ := O
              dsimp only at hgood0 hgood1
              rw [Int.toNat_natCast] at hgood1
              by_cases hd1 : r = true ∧ ¬ dm = 1
              · obtain ⟨rfl, hd1⟩ := hd1
                have hg' := hgood1 rfl hd1
                have hokk : sigOk P' K' D' Z' u' := hg'.1
                have hok' : decide (sigOk P' K' D' Z' u') = true := decide_eq_true hokk
                obtain ⟨l1', l2', l3', l4', l5'⟩ := hokk.1
                have f21 : decide (dm = 1) = false := decide_eq_false hd1
                rcases key with ⟨e3, e4, e5⟩ | ⟨e3, e4, e5⟩ | ⟨e3, e4, e5⟩ <;> rcases kc with ⟨y1, y2⟩ | ⟨y1, y2⟩
                all_goals
                  as_aux_lemma =>
                    simp only [↓WP, ↓grdD, ↓grdT, ↓un_dead, ↓binVC, ↓buildVC, ↓sliceVC, WQ, WN, Int.reduceToNat, renl, cll, rent, clt, ↓reduceIte, Nat.reduceLeDiff, Nat.reduceEqDiff, Nat.reduceLT, reduceCtorEq, List.append_nil, Nat.reduceAdd, Nat.reduceSub, Nat.reduceBEq, forall_const, implies_true, cond_true, cond_false, AV.ren, AC.ren, AV.cl, AC.cl, eq_self, List.all_cons, List.all_nil, AV.eqv, AC.eqv, eqvl, eqvt, Sl.eqv, List.map_append, List.length_map, List.length_append, List.length_replicate, List.length_set, List.map_replicate, nilVC, zr_25, sz_25, el_22, zr_4, fl_25_4, sz_3, sz_4, fl_25_2, sz_23, el_23, fl_25_1, sz_22, fl_25_3, fl_25_0, bt_4, c_laws_big, c_impl_SigNew, c_spec_SigOk, c_laws_at, c_impl_SigSet, c_impl_SigMask, c_impl_SigSend, c_impl_SigNext, c_laws_has, c_impl_SigBack, hid, hu, ha, ← hL, hm, wn, hw, hs', hok', decide_true, wm, w2, hgD, hq, y1, y2, hO, f21, e0, e1, e2, e3, e4, e5]
                    repeat' (first | (refine And.intro (by first | omega | exact .inr trivial | exact ⟨by omega, .inr trivial⟩) ?_) | with_reducible refine And.intro ?_ ?_ | intro _)
                    all_goals try omega
                    all_goals try exact .inr trivial
                    all_goals try (rw [hasRow_rows]; exact ⟨rfl, rfl, Nat.zero_lt_one, Nat.zero_le _⟩)
                    all_goals
                      rename_i p hp
                      obtain ⟨c1, c2, c3, c4⟩ := p
                      obtain ⟨q1, q2, q3, q4⟩ := hp
                      dsimp only at q1 q2 q3 q4
                      refine loopI (J := {k : Nat // 1 ≤ k ∧ k ≤ 17}) (fun k => ⟨slots 262 [(0, .c (.sl a.up n ca)), (3, .c (.ptr ⟨.loc 4, 0, 0, 0⟩)), (4, .c (.sl ⟨.loc 5, 0, 0, 0⟩ 17 17)), (5, I (i : Nat)), (13, I (k.1 : Nat))], M, [], [rowG true 4 c1 P', rowG true 4 c2 K', rowG true 3 c3 D', rowG true 3 c4 Z', .box 25 [.sl ⟨.loc 0, 0, 0, 0⟩ (P').length c1, .sl ⟨.loc 1, 0, 0, 0⟩ (K').length c2, .sl ⟨.loc 2, 0, 0, 0⟩ (D').length c3, .sl ⟨.loc 3, 0, 0, 0⟩ (Z').length c4, .int .i64 u'], rowG true 4 17 (T.set (m + 1) true)]⟩) (fun k => 17 - k.1) ⟨1, by omega⟩ (Le_intro [7, 8, 9, 10, 4, 5] (by simp only [WL, WNL, swA_new, swA_ne, nest_sw_ne, mapLL, List.mem_cons, Nat.reduceAdd, Nat.reduceLT, Nat.reduceLeDiff, Nat.reduceEqDiff, okU, List.nodup_cons, List.not_mem_nil, toT, toL, toO, keysO, renl, rent, cll, clt, eq_self, AV.eqv, AC.eqv, eqvl, eqvt, Sl.eqv, rowsLe, mapLL, rowsCl, List.map_append, List.length_map, List.length_append, List.length_set, List.map_replicate, rowG, List.getElem?_cons_zero, List.getElem?_cons_succ, List.getElem?_nil, List.append_nil, List.nil_append, List.cons_append, ghosts, St.gh, Option.some.injEq, implies_true, setT, AV.ren, AC.ren, AV.cl, AC.cl, List.replicate_succ, List.replicate_zero, List.nodup_nil, List.length_nil, List.length_cons, List.getD_cons_zero, List.getD_cons_succ, ↓reduceIte, List.map_set, enc_bool]; try simp)) ?_
                      rintro ⟨k, hk0, hk⟩
                      have hwk := wS (i := k) (by omega)
                      by_cases hkk : k ≤ 16 ∧ u' = 0
                      · obtain ⟨hk16, hu'⟩ := hkk
                        have f1 : decide ((k : Int) ≤ 16) = true := decide_eq_true (by omega)
                        have f2 : decide (u' = 0) = true := decide_eq_true hu'
                        have f3 : IntKind.i64.wrap ((k : Int) - 1) = ((k - 1 : Nat) : Int) := by rw [w64 (by omega) (by omega)]; omega
                        have hte := hg'.2.2.2 hu' (k - 1) (by omega)
                        rw [show k - 1 + 1 = k by omega] at hte
                        have f4 : (List.map enc P').getD (k - 1) [] = [AC.bool ((T.set (m + 1) true).getD k default)] := by rw [getD_enc _ _ (by omega), hte]; rfl
                        have f5 : (List.map enc (T.set (m + 1) true)).getD k [] = [AC.bool ((T.set (m + 1) true).getD k default)] := by rw [getD_enc _ _ (by rw [hg'.2.2.1]; omega)]; rfl
                        have hbb : ∀ b : Bool, (b != b) = false := by decide
                        simp only [↓WP, ↓grdD, ↓grdT, ↓un_dead, ↓binVC, ↓buildVC, ↓sliceVC, WQ, WN, Int.reduceToNat, renl, cll, rent, clt, ↓reduceIte, Nat.reduceLeDiff, Nat.reduceEqDiff, Nat.reduceLT, reduceCtorEq, List.append_nil, Nat.reduceAdd, Nat.reduceSub, Nat.reduceBEq, forall_const, implies_true, cond_true, cond_false, AV.ren, AC.ren, AV.cl, AC.cl, eq_self, List.all_cons, List.all_nil, AV.eqv, AC.eqv, eqvl, eqvt, Sl.eqv, List.map_append, List.length_map, List.length_append, List.length_replicate, List.length_set, List.map_replicate, nilVC, zr_25, sz_25, el_22, zr_4, fl_25_4, sz_3, sz_4, fl_25_2, sz_23, el_23, fl_25_1, sz_22, fl_25_3, fl_25_0, bt_4, c_laws_big, c_impl_SigNew, c_spec_SigOk, c_laws_at, c_impl_SigSet, c_impl_SigMask, c_impl_SigSend, c_impl_SigNext, c_laws_has, c_impl_SigBack, f1, f2, f3, f4, f5, hwk, hbb]
                        repeat' (first | (refine And.intro (by omega) ?_) | with_reducible refine And.intro ?_ ?_ | intro _)
                        all_goals try omega
                        all_goals exact ⟨⟨k + 1, by omega⟩, Le_intro [0, 1, 2, 3, 4, 5] (by simp only [WL, WNL, swA_new, swA_ne, nest_sw_ne, mapLL, List.mem_cons, Nat.reduceAdd, Nat.reduceLT, Nat.reduceLeDiff, Nat.reduceEqDiff, okU, List.nodup_cons, List.not_mem_nil, toT, toL, toO, keysO, renl, rent, cll, clt, eq_self, AV.eqv, AC.eqv, eqvl, eqvt, Sl.eqv, rowsLe, mapLL, rowsCl, List.map_append, List.length_map, List.length_append, List.length_set, List.map_replicate, rowG, List.getElem?_cons_zero, List.getElem?_cons_succ, List.getElem?_nil, List.append_nil, List.nil_append, List.cons_append, ghosts, St.gh, Option.some.injEq, implies_true, setT, AV.ren, AC.ren, AV.cl, AC.cl, List.replicate_succ, List.replicate_zero, List.nodup_nil, List.length_nil, List.length_cons, List.getD_cons_zero, List.getD_cons_succ, ↓reduceIte]; try simp), by show 17 - (k + 1) < 17 - k; omega⟩
                      · have key : decide ((k : Int) ≤ 16) = false ∨ (decide ((k : Int) ≤ 16) = true ∧ decide (u' = 0) = false) := by
                          by_cases hk16 : k ≤ 16
                          · exact .inr ⟨decide_eq_true (by omega), decide_eq_false fun h => hkk ⟨hk16, h⟩⟩
                          · exact .inl (decide_eq_false (by omega))
                        rcases key with f1 | ⟨f1, f2⟩
                        · simp only [↓WP, ↓grdD, ↓grdT, ↓un_dead, ↓binVC, ↓buildVC, ↓sliceVC, WQ, WN, Int.reduceToNat, renl, cll, rent, clt, ↓reduceIte, Nat.reduceLeDiff, Nat.reduceEqDiff, Nat.reduceLT, reduceCtorEq, List.append_nil, Nat.reduceAdd, Nat.reduceSub, Nat.reduceBEq, forall_const, implies_true, cond_true, cond_false, AV.ren, AC.ren, AV.cl, AC.cl, eq_self, List.all_cons, List.all_nil, AV.eqv, AC.eqv, eqvl, eqvt, Sl.eqv, List.map_append, List.length_map, List.length_append, List.length_replicate, List.length_set, List.map_replicate, nilVC, zr_25, sz_25, el_22, zr_4, fl_25_4, sz_3, sz_4, fl_25_2, sz_23, el_23, fl_25_1, sz_22, fl_25_3, fl_25_0, bt_4, c_laws_big, c_impl_SigNew, c_spec_SigOk, c_laws_at, c_impl_SigSet, c_impl_SigMask, c_impl_SigSend, c_impl_SigNext, c_laws_has, c_impl_SigBack, f1, hw]
                          exact ⟨⟨(i + 1, ((P', K', D', Z', u'), c1, c2, c3, c4), T.set (m + 1) true), by show i + 1 ≤ 80; omega, hg', q1, q2, q3, q4⟩, Le_intro [0, 1, 2, 3, 4, 5] (by simp only [WL, WNL, swA_new, swA_ne, nest_sw_ne, mapLL, List.mem_cons, Nat.reduceAdd, Nat.reduceLT, Nat.reduceLeDiff, Nat.reduceEqDiff, okU, List.nodup_cons, List.not_mem_nil, toT, toL, toO, keysO, renl, rent, cll, clt, eq_self, AV.eqv, AC.eqv, eqvl, eqvt, Sl.eqv, rowsLe, mapLL, rowsCl, List.map_append, List.length_map, List.length_append, List.length_set, List.map_replicate, rowG, List.getElem?_cons_zero, List.getElem?_cons_succ, List.getElem?_nil, List.append_nil, List.nil_append, List.cons_append, ghosts, St.gh, Option.some.injEq, implies_true, setT, AV.ren, AC.ren, AV.cl, AC.cl, List.replicate_succ, List.replicate_zero, List.nodup_nil, List.length_nil, List.length_cons, List.getD_cons_zero, List.getD_cons_succ, ↓reduceIte]; try simp), by show 80 - (i + 1) < 80 - i; omega⟩
                        · simp only [↓WP, ↓grdD, ↓grdT, ↓un_dead, ↓binVC, ↓buildVC, ↓sliceVC, WQ, WN, Int.reduceToNat, renl, cll, rent, clt, ↓reduceIte, Nat.reduceLeDiff, Nat.reduceEqDiff, Nat.reduceLT, reduceCtorEq, List.append_nil, Nat.reduceAdd, Nat.reduceSub, Nat.reduceBEq, forall_const, implies_true, cond_true, cond_false, AV.ren, AC.ren, AV.cl, AC.cl, eq_self, List.all_cons, List.all_nil, AV.eqv, AC.eqv, eqvl, eqvt, Sl.eqv, List.map_append, List.length_map, List.length_append, List.length_replicate, List.length_set, List.map_replicate, nilVC, zr_25, sz_25, el_22, zr_4, fl_25_4, sz_3, sz_4, fl_25_2, sz_23, el_23, fl_25_1, sz_22, fl_25_3, fl_25_0, bt_4, c_laws_big, c_impl_SigNew, c_spec_SigOk, c_laws_at, c_impl_SigSet, c_impl_SigMask, c_impl_SigSend, c_impl_SigNext, c_laws_has, c_impl_SigBack, f1, f2, hw]
                          exact ⟨⟨(i + 1, ((P', K', D', Z', u'), c1, c2, c3, c4), T.set (m + 1) true), by show i + 1 ≤ 80; omega, hg', q1, q2, q3, q4⟩, Le_intro [0, 1, 2, 3, 4, 5] (by simp only [WL, WNL, swA_new, swA_ne, nest_sw_ne, mapLL, List.mem_cons, Nat.reduceAdd, Nat.reduceLT, Nat.reduceLeDiff, Nat.reduceEqDiff, okU, List.nodup_cons, List.not_mem_nil, toT, toL, toO, keysO, renl, rent, cll, clt, eq_self, AV.eqv, AC.eqv, eqvl, eqvt, Sl.eqv, rowsLe, mapLL, rowsCl, List.map_append, List.length_map, List.length_append, List.length_set, List.map_replicate, rowG, List.getElem?_cons_zero, List.getElem?_cons_succ, List.getElem?_nil, List.append_nil, List.nil_append, List.cons_append, ghosts, St.gh, Option.some.injEq, implies_true, setT, AV.ren, AC.ren, AV.cl, AC.cl, List.replicate_succ, List.replicate_zero, List.nodup_nil, List.length_nil, List.length_cons, List.getD_cons_zero, List.getD_cons_succ, ↓reduceIte]; try simp), by show 80 - (i + 1) < 80 - i; omega⟩
              · have kd : r = false ∨ (r = true ∧ dm = 1) := by
                  cases r with
                  | true => exact .inr ⟨rfl, by by_cases x1 : dm = 1; exact x1; exact absurd ⟨rfl, x1⟩ hd1⟩
                  | false => exact .inl rfl
                have hg' := hgood0 fun h => by
                  rcases kd with e | ⟨_, e⟩
                  · rw [e] at h; cases h
                  · exact e
                have hokk : sigOk P' K' D' Z' u' := hg'.1
                have hok' : decide (sigOk P' K' D' Z' u') = true := decide_eq_true hokk
                obtain ⟨l1', l2', l3', l4', l5'⟩ := hokk.1
                rcases kd with rfl | ⟨rfl, hd1'⟩
                · rcases key with ⟨e3, e4, e5⟩ | ⟨e3, e4, e5⟩ | ⟨e3, e4, e5⟩ <;> rcases kc with ⟨y1, y2⟩ | ⟨y1, y2⟩
                  all_goals
                    as_aux_lemma =>
                      simp only [↓WP, ↓grdD, ↓grdT, ↓un_dead, ↓binVC, ↓buildVC, ↓sliceVC, WQ, WN, Int.reduceToNat, renl, cll, rent, clt, ↓reduceIte, Nat.reduceLeDiff, Nat.reduceEqDiff, Nat.reduceLT, reduceCtorEq, List.append_nil, Nat.reduceAdd, Nat.reduceSub, Nat.reduceBEq, forall_const, implies_true, cond_true, cond_false, AV.ren, AC.ren, AV.cl, AC.cl, eq_self, List.all_cons, List.all_nil, AV.eqv, AC.eqv, eqvl, eqvt, Sl.eqv, List.map_append, List.length_map, List.length_append, List.length_replicate, List.length_set, List.map_replicate, nilVC, zr_25, sz_25, el_22, zr_4, fl_25_4, sz_3, sz_4, fl_25_2, sz_23, el_23, fl_25_1, sz_22, fl_25_3, fl_25_0, bt_4, c_laws_big, c_impl_SigNew, c_spec_SigOk, c_laws_at, c_impl_SigSet, c_impl_SigMask, c_impl_SigSend, c_impl_SigNext, c_laws_has, c_impl_SigBack, hid, hu, ha, ← hL, hm, wn, hw, hs', hok', decide_true, wm, w2, hgD, hq, y1, y2, hO, e0, e1, e2, e3, e4, e5]
                      repeat' (first | (refine And.intro (by first | omega | exact .inr trivial | exact ⟨by omega, .inr trivial⟩) ?_) | with_reducible refine And.intro ?_ ?_ | intro _)
                      all_goals try omega
                      all_goals try exact .inr trivial
                      all_goals try (rw [hasRow_rows]; exact ⟨rfl, rfl, Nat.zero_lt_one, Nat.zero_le _⟩)
                      all_goals
                        rename_i p hp
                        obtain ⟨c1, c2, c3, c4⟩ := p
                        obtain ⟨q1, q2, q3, q4⟩ := hp
                        dsimp only at q1 q2 q3 q4
                        refine loopI (J := {k : Nat // 1 ≤ k ∧ k ≤ 17}) (fun k => ⟨slots 262 [(0, .c (.sl a.up n ca)), (3, .c (.ptr ⟨.loc 4, 0, 0, 0⟩)), (4, .c (.sl ⟨.loc 5, 0, 0, 0⟩ 17 17)), (5, I (i : Nat)), (13, I (k.1 : Nat))], M, [], [rowG true 4 c1 P', rowG true 4 c2 K', rowG true 3 c3 D', rowG true 3 c4 Z', .box 25 [.sl ⟨.loc 0, 0, 0, 0⟩ (P').length c1, .sl ⟨.loc 1, 0, 0, 0⟩ (K').length c2, .sl ⟨.loc 2, 0, 0, 0⟩ (D').length c3, .sl ⟨.loc 3, 0, 0, 0⟩ (Z').length c4, .int .i64 u'], rowG true 4 17 (T)]⟩) (fun k => 17 - k.1) ⟨1, by omega⟩ (Le_intro [7, 8, 9, 10, 4, 5] (by simp only [WL, WNL, swA_new, swA_ne, nest_sw_ne, mapLL, List.mem_cons, Nat.reduceAdd, Nat.reduceLT, Nat.reduceLeDiff, Nat.reduceEqDiff, okU, List.nodup_cons, List.not_mem_nil, toT, toL, toO, keysO, renl, rent, cll, clt, eq_self, AV.eqv, AC.eqv, eqvl, eqvt, Sl.eqv, rowsLe, mapLL, rowsCl, List.map_append, List.length_map, List.length_append, List.length_set, List.map_replicate, rowG, List.getElem?_cons_zero, List.getElem?_cons_succ, List.getElem?_nil, List.append_nil, List.nil_append, List.cons_append, ghosts, St.gh, Option.some.injEq, implies_true, setT, AV.ren, AC.ren, AV.cl, AC.cl, List.replicate_succ, List.replicate_zero, List.nodup_nil, List.length_nil, List.length_cons, List.getD_cons_zero, List.getD_cons_succ, ↓reduceIte, List.map_set, enc_bool]; try simp)) ?_
                        rintro ⟨k, hk0, hk⟩
                        have hwk := wS (i := k) (by omega)
                        by_cases hkk : k ≤ 16 ∧ u' = 0
                        · obtain ⟨hk16, hu'⟩ := hkk
                          have f1 : decide ((k : Int) ≤ 16) = true := decide_eq_true (by omega)
                          have f2 : decide (u' = 0) = true := decide_eq_true hu'
                          have f3 : IntKind.i64.wrap ((k : Int) - 1) = ((k - 1 : Nat) : Int) := by rw [w64 (by omega) (by omega)]; omega
                          have hte := hg'.2.2.2 hu' (k - 1) (by omega)
                          rw [show k - 1 + 1 = k by omega] at hte
                          have f4 : (List.map enc P').getD (k - 1) [] = [AC.bool ((T).getD k default)] := by rw [getD_enc _ _ (by omega), hte]; rfl
                          have f5 : (List.map enc (T)).getD k [] = [AC.bool ((T).getD k default)] := by rw [getD_enc _ _ (by rw [hg'.2.2.1]; omega)]; rfl
                          have hbb : ∀ b : Bool, (b != b) = false := by decide
                          simp only [↓WP, ↓grdD, ↓grdT, ↓un_dead, ↓binVC, ↓buildVC, ↓sliceVC, WQ, WN, Int.reduceToNat, renl, cll, rent, clt, ↓reduceIte, Nat.reduceLeDiff, Nat.reduceEqDiff, Nat.reduceLT, reduceCtorEq, List.append_nil, Nat.reduceAdd, Nat.reduceSub, Nat.reduceBEq, forall_const, implies_true, cond_true, cond_false, AV.ren, AC.ren, AV.cl, AC.cl, eq_self, List.all_cons, List.all_nil, AV.eqv, AC.eqv, eqvl, eqvt, Sl.eqv, List.map_append, List.length_map, List.length_append, List.length_replicate, List.length_set, List.map_replicate, nilVC, zr_25, sz_25, el_22, zr_4, fl_25_4, sz_3, sz_4, fl_25_2, sz_23, el_23, fl_25_1, sz_22, fl_25_3, fl_25_0, bt_4, c_laws_big, c_impl_SigNew, c_spec_SigOk, c_laws_at, c_impl_SigSet, c_impl_SigMask, c_impl_SigSend, c_impl_SigNext, c_laws_has, c_impl_SigBack, f1, f2, f3, f4, f5, hwk, hbb]
                          repeat' (first | (refine And.intro (by omega) ?_) | with_reducible refine And.intro ?_ ?_ | intro _)
                          all_goals try omega
                          all_goals exact ⟨⟨k + 1, by omega⟩, Le_intro [0, 1, 2, 3, 4, 5] (by simp only [WL, WNL, swA_new, swA_ne, nest_sw_ne, mapLL, List.mem_cons, Nat.reduceAdd, Nat.reduceLT, Nat.reduceLeDiff, Nat.reduceEqDiff, okU, List.nodup_cons, List.not_mem_nil, toT, toL, toO, keysO, renl, rent, cll, clt, eq_self, AV.eqv, AC.eqv, eqvl, eqvt, Sl.eqv, rowsLe, mapLL, rowsCl, List.map_append, List.length_map, List.length_append, List.length_set, List.map_replicate, rowG, List.getElem?_cons_zero, List.getElem?_cons_succ, List.getElem?_nil, List.append_nil, List.nil_append, List.cons_append, ghosts, St.gh, Option.some.injEq, implies_true, setT, AV.ren, AC.ren, AV.cl, AC.cl, List.replicate_succ, List.replicate_zero, List.nodup_nil, List.length_nil, List.length_cons, List.getD_cons_zero, List.getD_cons_succ, ↓reduceIte]; try simp), by show 17 - (k + 1) < 17 - k; omega⟩
                        · have key : decide ((k : Int) ≤ 16) = false ∨ (decide ((k : Int) ≤ 16) = true ∧ decide (u' = 0) = false) := by
                            by_cases hk16 : k ≤ 16
                            · exact .inr ⟨decide_eq_true (by omega), decide_eq_false fun h => hkk ⟨hk16, h⟩⟩
                            · exact .inl (decide_eq_false (by omega))
                          rcases key with f1 | ⟨f1, f2⟩
                          · simp only [↓WP, ↓grdD, ↓grdT, ↓un_dead, ↓binVC, ↓buildVC, ↓sliceVC, WQ, WN, Int.reduceToNat, renl, cll, rent, clt, ↓reduceIte, Nat.reduceLeDiff, Nat.reduceEqDiff, Nat.reduceLT, reduceCtorEq, List.append_nil, Nat.reduceAdd, Nat.reduceSub, Nat.reduceBEq, forall_const, implies_true, cond_true, cond_false, AV.ren, AC.ren, AV.cl, AC.cl, eq_self, List.all_cons, List.all_nil, AV.eqv, AC.eqv, eqvl, eqvt, Sl.eqv, List.map_append, List.length_map, List.length_append, List.length_replicate, List.length_set, List.map_replicate, nilVC, zr_25, sz_25, el_22, zr_4, fl_25_4, sz_3, sz_4, fl_25_2, sz_23, el_23, fl_25_1, sz_22, fl_25_3, fl_25_0, bt_4, c_laws_big, c_impl_SigNew, c_spec_SigOk, c_laws_at, c_impl_SigSet, c_impl_SigMask, c_impl_SigSend, c_impl_SigNext, c_laws_has, c_impl_SigBack, f1, hw]
                            exact ⟨⟨(i + 1, ((P', K', D', Z', u'), c1, c2, c3, c4), T), by show i + 1 ≤ 80; omega, hg', q1, q2, q3, q4⟩, Le_intro [0, 1, 2, 3, 4, 5] (by simp only [WL, WNL, swA_new, swA_ne, nest_sw_ne, mapLL, List.mem_cons, Nat.reduceAdd, Nat.reduceLT, Nat.reduceLeDiff, Nat.reduceEqDiff, okU, List.nodup_cons, List.not_mem_nil, toT, toL, toO, keysO, renl, rent, cll, clt, eq_self, AV.eqv, AC.eqv, eqvl, eqvt, Sl.eqv, rowsLe, mapLL, rowsCl, List.map_append, List.length_map, List.length_append, List.length_set, List.map_replicate, rowG, List.getElem?_cons_zero, List.getElem?_cons_succ, List.getElem?_nil, List.append_nil, List.nil_append, List.cons_append, ghosts, St.gh, Option.some.injEq, implies_true, setT, AV.ren, AC.ren, AV.cl, AC.cl, List.replicate_succ, List.replicate_zero, List.nodup_nil, List.length_nil, List.length_cons, List.getD_cons_zero, List.getD_cons_succ, ↓reduceIte]; try simp), by show 80 - (i + 1) < 80 - i; omega⟩
                          · simp only [↓WP, ↓grdD, ↓grdT, ↓un_dead, ↓binVC, ↓buildVC, ↓sliceVC, WQ, WN, Int.reduceToNat, renl, cll, rent, clt, ↓reduceIte, Nat.reduceLeDiff, Nat.reduceEqDiff, Nat.reduceLT, reduceCtorEq, List.append_nil, Nat.reduceAdd, Nat.reduceSub, Nat.reduceBEq, forall_const, implies_true, cond_true, cond_false, AV.ren, AC.ren, AV.cl, AC.cl, eq_self, List.all_cons, List.all_nil, AV.eqv, AC.eqv, eqvl, eqvt, Sl.eqv, List.map_append, List.length_map, List.length_append, List.length_replicate, List.length_set, List.map_replicate, nilVC, zr_25, sz_25, el_22, zr_4, fl_25_4, sz_3, sz_4, fl_25_2, sz_23, el_23, fl_25_1, sz_22, fl_25_3, fl_25_0, bt_4, c_laws_big, c_impl_SigNew, c_spec_SigOk, c_laws_at, c_impl_SigSet, c_impl_SigMask, c_impl_SigSend, c_impl_SigNext, c_laws_has, c_impl_SigBack, f1, f2, hw]
                            exact ⟨⟨(i + 1, ((P', K', D', Z', u'), c1, c2, c3, c4), T), by show i + 1 ≤ 80; omega, hg', q1, q2, q3, q4⟩, Le_intro [0, 1, 2, 3, 4, 5] (by simp only [WL, WNL, swA_new, swA_ne, nest_sw_ne, mapLL, List.mem_cons, Nat.reduceAdd, Nat.reduceLT, Nat.reduceLeDiff, Nat.reduceEqDiff, okU, List.nodup_cons, List.not_mem_nil, toT, toL, toO, keysO, renl, rent, cll, clt, eq_self, AV.eqv, AC.eqv, eqvl, eqvt, Sl.eqv, rowsLe, mapLL, rowsCl, List.map_append, List.length_map, List.length_append, List.length_set, List.map_replicate, rowG, List.getElem?_cons_zero, List.getElem?_cons_succ, List.getElem?_nil, List.append_nil, List.nil_append, List.cons_append, ghosts, St.gh, Option.some.injEq, implies_true, setT, AV.ren, AC.ren, AV.cl, AC.cl, List.replicate_succ, List.replicate_zero, List.nodup_nil, List.length_nil, List.length_cons, List.getD_cons_zero, List.getD_cons_succ, ↓reduceIte]; try simp), by show 80 - (i + 1) < 80 - i; omega⟩
                · have f21 : decide (dm = 1) = true := decide_eq_true hd1'
                  rcases key with ⟨e3, e4, e5⟩ | ⟨e3, e4, e5⟩ | ⟨e3, e4, e5⟩ <;> rcases kc with ⟨y1, y2⟩ | ⟨y1, y2⟩
                  all_goals
                    as_aux_lemma =>
                      simp only [↓WP, ↓grdD, ↓grdT, ↓un_dead, ↓binVC, ↓buildVC, ↓sliceVC, WQ, WN, Int.reduceToNat, renl, cll, rent, clt, ↓reduceIte, Nat.reduceLeDiff, Nat.reduceEqDiff, Nat.reduceLT, reduceCtorEq, List.append_nil, Nat.reduceAdd, Nat.reduceSub, Nat.reduceBEq, forall_const, implies_true, cond_true, cond_false, AV.ren, AC.ren, AV.cl, AC.cl, eq_self, List.all_cons, List.all_nil, AV.eqv, AC.eqv, eqvl, eqvt, Sl.eqv, List.map_append, List.length_map, List.length_append, List.length_replicate, List.length_set, List.map_replicate, nilVC, zr_25, sz_25, el_22, zr_4, fl_25_4, sz_3, sz_4, fl_25_2, sz_23, el_23, fl_25_1, sz_22, fl_25_3, fl_25_0, bt_4, c_laws_big, c_impl_SigNew, c_spec_SigOk, c_laws_at, c_impl_SigSet, c_impl_SigMask, c_impl_SigSend, c_impl_SigNext, c_laws_has, c_impl_SigBack, hid, hu, ha, ← hL, hm, wn, hw, hs', hok', decide_true, wm, w2, hgD, hq, y1, y2, hO, f21, e0, e1, e2, e3, e4, e5]
                      repeat' (first | (refine And.intro (by first | omega | exact .inr trivial | exact ⟨by omega, .inr trivial⟩) ?_) | with_reducible refine And.intro ?_ ?_ | intro _)
                      all_goals try omega
                      all_goals try exact .inr trivial
                      all_goals try (rw [hasRow_rows]; exact ⟨rfl, rfl, Nat.zero_lt_one, Nat.zero_le _⟩)
                      all_goals
                        rename_i p hp
                        obtain ⟨c1, c2, c3, c4⟩ := p
                        obtain ⟨q1, q2, q3, q4⟩ := hp
                        dsimp only at q1 q2 q3 q4
                        refine loopI (J := {k : Nat // 1 ≤ k ∧ k ≤ 17}) (fun k => ⟨slots 262 [(0, .c (.sl a.up n ca)), (3, .c (.ptr ⟨.loc 4, 0, 0, 0⟩)), (4, .c (.sl ⟨.loc 5, 0, 0, 0⟩ 17 17)), (5, I (i : Nat)), (13, I (k.1 : Nat))], M, [], [rowG true 4 c1 P', rowG true 4 c2 K', rowG true 3 c3 D', rowG true 3 c4 Z', .box 25 [.sl ⟨.loc 0, 0, 0, 0⟩ (P').length c1, .sl ⟨.loc 1, 0, 0, 0⟩ (K').length c2, .sl ⟨.loc 2, 0, 0, 0⟩ (D').length c3, .sl ⟨.loc 3, 0, 0, 0⟩ (Z').length c4, .int .i64 u'], rowG true 4 17 (T)]⟩) (fun k => 17 - k.1) ⟨1, by omega⟩ (Le_intro [7, 8, 9, 10, 4, 5] (by simp only [WL, WNL, swA_new, swA_ne, nest_sw_ne, mapLL, List.mem_cons, Nat.reduceAdd, Nat.reduceLT, Nat.reduceLeDiff, Nat.reduceEqDiff, okU, List.nodup_cons, List.not_mem_nil, toT, toL, toO, keysO, renl, rent, cll, clt, eq_self, AV.eqv, AC.eqv, eqvl, eqvt, Sl.eqv, rowsLe, mapLL, rowsCl, List.map_append, List.length_map, List.length_append, List.length_set, List.map_replicate, rowG, List.getElem?_cons_zero, List.getElem?_cons_succ, List.getElem?_nil, List.append_nil, List.nil_append, List.cons_append, ghosts, St.gh, Option.some.injEq, implies_true, setT, AV.ren, AC.ren, AV.cl, AC.cl, List.replicate_succ, List.replicate_zero, List.nodup_nil, List.length_nil, List.length_cons, List.getD_cons_zero, List.getD_cons_succ, ↓reduceIte, List.map_set, enc_bool]; try simp)) ?_
                        rintro ⟨k, hk0, hk⟩
                        have hwk := wS (i := k) (by omega)
                        by_cases hkk : k ≤ 16 ∧ u' = 0
                        · obtain ⟨hk16, hu'⟩ := hkk
                          have f1 : decide ((k : Int) ≤ 16) = true := decide_eq_true (by omega)
                          have f2 : decide (u' = 0) = true := decide_eq_true hu'
                          have f3 : IntKind.i64.wrap ((k : Int) - 1) = ((k - 1 : Nat) : Int) := by rw [w64 (by omega) (by omega)]; omega
                          have hte := hg'.2.2.2 hu' (k - 1) (by omega)
                          rw [show k - 1 + 1 = k by omega] at hte
                          have f4 : (List.map enc P').getD (k - 1) [] = [AC.bool ((T).getD k default)] := by rw [getD_enc _ _ (by omega), hte]; rfl
                          have f5 : (List.map enc (T)).getD k [] = [AC.bool ((T).getD k default)] := by rw [getD_enc _ _ (by rw [hg'.2.2.1]; omega)]; rfl
                          have hbb : ∀ b : Bool, (b != b) = false := by decide
                          simp only [↓WP, ↓grdD, ↓grdT, ↓un_dead, ↓binVC, ↓buildVC, ↓sliceVC, WQ, WN, Int.reduceToNat, renl, cll, rent, clt, ↓reduceIte, Nat.reduceLeDiff, Nat.reduceEqDiff, Nat.reduceLT, reduceCtorEq, List.append_nil, Nat.reduceAdd, Nat.reduceSub, Nat.reduceBEq, forall_const, implies_true, cond_true, cond_false, AV.ren, AC.ren, AV.cl, AC.cl, eq_self, List.all_cons, List.all_nil, AV.eqv, AC.eqv, eqvl, eqvt, Sl.eqv, List.map_append, List.length_map, List.length_append, List.length_replicate, List.length_set, List.map_replicate, nilVC, zr_25, sz_25, el_22, zr_4, fl_25_4, sz_3, sz_4, fl_25_2, sz_23, el_23, fl_25_1, sz_22, fl_25_3, fl_25_0, bt_4, c_laws_big, c_impl_SigNew, c_spec_SigOk, c_laws_at, c_impl_SigSet, c_impl_SigMask, c_impl_SigSend, c_impl_SigNext, c_laws_has, c_impl_SigBack, f1, f2, f3, f4, f5, hwk, hbb]
                          repeat' (first | (refine And.intro (by omega) ?_) | with_reducible refine And.intro ?_ ?_ | intro _)
                          all_goals try omega
                          all_goals exact ⟨⟨k + 1, by omega⟩, Le_intro [0, 1, 2, 3, 4, 5] (by simp only [WL, WNL, swA_new, swA_ne, nest_sw_ne, mapLL, List.mem_cons, Nat.reduceAdd, Nat.reduceLT, Nat.reduceLeDiff, Nat.reduceEqDiff, okU, List.nodup_cons, List.not_mem_nil, toT, toL, toO, keysO, renl, rent, cll, clt, eq_self, AV.eqv, AC.eqv, eqvl, eqvt, Sl.eqv, rowsLe, mapLL, rowsCl, List.map_append, List.length_map, List.length_append, List.length_set, List.map_replicate, rowG, List.getElem?_cons_zero, List.getElem?_cons_succ, List.getElem?_nil, List.append_nil, List.nil_append, List.cons_append, ghosts, St.gh, Option.some.injEq, implies_true, setT, AV.ren, AC.ren, AV.cl, AC.cl, List.replicate_succ, List.replicate_zero, List.nodup_nil, List.length_nil, List.length_cons, List.getD_cons_zero, List.getD_cons_succ, ↓reduceIte]; try simp), by show 17 - (k + 1) < 17 - k; omega⟩
                        · have key : decide ((k : Int) ≤ 16) = false ∨ (decide ((k : Int) ≤ 16) = true ∧ decide (u' = 0) = false) := by
                            by_cases hk16 : k ≤ 16
                            · exact .inr ⟨decide_eq_true (by omega), decide_eq_false fun h => hkk ⟨hk16, h⟩⟩
                            · exact .inl (decide_eq_false (by omega))
                          rcases key with f1 | ⟨f1, f2⟩
                          · simp only [↓WP, ↓grdD, ↓grdT, ↓un_dead, ↓binVC, ↓buildVC, ↓sliceVC, WQ, WN, Int.reduceToNat, renl, cll, rent, clt, ↓reduceIte, Nat.reduceLeDiff, Nat.reduceEqDiff, Nat.reduceLT, reduceCtorEq, List.append_nil, Nat.reduceAdd, Nat.reduceSub, Nat.reduceBEq, forall_const, implies_true, cond_true, cond_false, AV.ren, AC.ren, AV.cl, AC.cl, eq_self, List.all_cons, List.all_nil, AV.eqv, AC.eqv, eqvl, eqvt, Sl.eqv, List.map_append, List.length_map, List.length_append, List.length_replicate, List.length_set, List.map_replicate, nilVC, zr_25, sz_25, el_22, zr_4, fl_25_4, sz_3, sz_4, fl_25_2, sz_23, el_23, fl_25_1, sz_22, fl_25_3, fl_25_0, bt_4, c_laws_big, c_impl_SigNew, c_spec_SigOk, c_laws_at, c_impl_SigSet, c_impl_SigMask, c_impl_SigSend, c_impl_SigNext, c_laws_has, c_impl_SigBack, f1, hw]
                            exact ⟨⟨(i + 1, ((P', K', D', Z', u'), c1, c2, c3, c4), T), by show i + 1 ≤ 80; omega, hg', q1, q2, q3, q4⟩, Le_intro [0, 1, 2, 3, 4, 5] (by simp only [WL, WNL, swA_new, swA_ne, nest_sw_ne, mapLL, List.mem_cons, Nat.reduceAdd, Nat.reduceLT, Nat.reduceLeDiff, Nat.reduceEqDiff, okU, List.nodup_cons, List.not_mem_nil, toT, toL, toO, keysO, renl, rent, cll, clt, eq_self, AV.eqv, AC.eqv, eqvl, eqvt, Sl.eqv, rowsLe, mapLL, rowsCl, List.map_append, List.length_map, List.length_append, List.length_set, List.map_replicate, rowG, List.getElem?_cons_zero, List.getElem?_cons_succ, List.getElem?_nil, List.append_nil, List.nil_append, List.cons_append, ghosts, St.gh, Option.some.injEq, implies_true, setT, AV.ren, AC.ren, AV.cl, AC.cl, List.replicate_succ, List.replicate_zero, List.nodup_nil, List.length_nil, List.length_cons, List.getD_cons_zero, List.getD_cons_succ, ↓reduceIte]; try simp), by show 80 - (i + 1) < 80 - i; omega⟩
                          · simp only [↓WP, ↓grdD, ↓grdT, ↓un_dead, ↓binVC, ↓buildVC, ↓sliceVC, WQ, WN, Int.reduceToNat, renl, cll, rent, clt, ↓reduceIte, Nat.reduceLeDiff, Nat.reduceEqDiff, Nat.reduceLT, reduceCtorEq, List.append_nil, Nat.reduceAdd, Nat.reduceSub, Nat.reduceBEq, forall_const, implies_true, cond_true, cond_false, AV.ren, AC.ren, AV.cl, AC.cl, eq_self, List.all_cons, List.all_nil, AV.eqv, AC.eqv, eqvl, eqvt, Sl.eqv, List.map_append, List.length_map, List.length_append, List.length_replicate, List.length_set, List.map_replicate, nilVC, zr_25, sz_25, el_22, zr_4, fl_25_4, sz_3, sz_4, fl_25_2, sz_23, el_23, fl_25_1, sz_22, fl_25_3, fl_25_0, bt_4, c_laws_big, c_impl_SigNew, c_spec_SigOk, c_laws_at, c_impl_SigSet, c_impl_SigMask, c_impl_SigSend, c_impl_SigNext, c_laws_has, c_impl_SigBack, f1, f2, hw]
                            exact ⟨⟨(i + 1, ((P', K', D', Z', u'), c1, c2, c3, c4), T), by show i + 1 ≤ 80; omega, hg', q1, q2, q3, q4⟩, Le_intro [0, 1, 2, 3, 4, 5] (by simp only [WL, WNL, swA_new, swA_ne, nest_sw_ne, mapLL, List.mem_cons, Nat.reduceAdd, Nat.reduceLT, Nat.reduceLeDiff, Nat.reduceEqDiff, okU, List.nodup_cons, List.not_mem_nil, toT, toL, toO, keysO, renl, rent, cll, clt, eq_self, AV.eqv, AC.eqv, eqvl, eqvt, Sl.eqv, rowsLe, mapLL, rowsCl, List.map_append, List.length_map, List.length_append, List.length_set, List.map_replicate, rowG, List.getElem?_cons_zero, List.getElem?_cons_succ, List.getElem?_nil, List.append_nil, List.nil_append, List.cons_append, ghosts, St.gh, Option.some.injEq, implies_true, setT, AV.ren, AC.ren, AV.cl, AC.cl, List.replicate_succ, List.replicate_zero, List.nodup_nil, List.length_nil, List.length_cons, List.getD_cons_zero, List.getD_cons_succ, ↓reduceIte]; try simp), by show 80 - (i + 1) < 80 - i; omega⟩
          · have e3 : decide (s = 3) = false := decide_eq_false (by omega)
            have e4 : decide (s = 4) = false := decide_eq_false (by omega)
            have e5 : decide (s = 5) = false := decide_eq_false (by omega)
            by_cases hD6 : s = 6 ∨ s = 7
            · have key : (decide (s = 6) = true ∧ True) ∨ (decide (s = 6) = false ∧ decide (s = 7) = true) := hD6.elim (fun h => .inl ⟨decide_eq_true h, trivial⟩) fun h => .inr ⟨decide_eq_false (by omega), decide_eq_true h⟩
              have hg' := next_good hg
              have hbd := next_bd (P := P) (K := K) (D := D) (I := Z) (u := u)
              have hhit := fun (j : Nat) (h : (nextO P K D Z u).2 = ((j + 1 : Nat) : Int)) => next_hit hg hu0 h
              have hnone := fun (h : (nextO P K D Z u).2 = 0) (k : Nat) (hk : k < 16) => next_none hg hu0 h hk
              obtain ⟨O, hO⟩ : ∃ O, nextO P K D Z u = O := ⟨_, rfl⟩
              rw [hO] at hg' hbd hhit hnone
              obtain ⟨⟨P', K', D', Z', u'⟩, g⟩ := O
              dsimp only at hg' hbd hhit hnone
              by_cases hg0 : g = 0
              · subst hg0
                rw [show Int.toNat 0 = 0 from rfl] at hg'
                have hokk : sigOk P' K' D' Z' u' := hg'.1
                have hok' : decide (sigOk P' K' D' Z' u') = true := decide_eq_true hokk
                obtain ⟨l1', l2', l3', l4', l5'⟩ := hokk.1
                have z1 : (List.map enc T).getD 0 [] = [AC.bool (T.getD 0 default)] := by rw [getD_enc _ _ (by omega)]; rfl
                have z2 : (List.map enc K).getD 0 [] = [AC.bool (K.getD 0 default)] := by rw [getD_enc _ _ (by omega)]; rfl
                have z3 : decide ((0 : Int) < 0) = false := by decide
                have z4 : decide ((0 : Int) = 0) = true := by decide
                have z6 : (IntKind.i64.wrap ((0 : Int) - 1)).toNat = 0 := by decide
                rcases key with ⟨e6, e7⟩ | ⟨e6, e7⟩
                all_goals
                  as_aux_lemma =>
                    simp only [↓WP, ↓grdD, ↓grdT, ↓un_dead, ↓binVC, ↓buildVC, ↓sliceVC, WQ, WN, Int.reduceToNat, renl, cll, rent, clt, ↓reduceIte, Nat.reduceLeDiff, Nat.reduceEqDiff, Nat.reduceLT, reduceCtorEq, List.append_nil, Nat.reduceAdd, Nat.reduceSub, Nat.reduceBEq, forall_const, implies_true, cond_true, cond_false, AV.ren, AC.ren, AV.cl, AC.cl, eq_self, List.all_cons, List.all_nil, AV.eqv, AC.eqv, eqvl, eqvt, Sl.eqv, List.map_append, List.length_map, List.length_append, List.length_replicate, List.length_set, List.map_replicate, nilVC, zr_25, sz_25, el_22, zr_4, fl_25_4, sz_3, sz_4, fl_25_2, sz_23, el_23, fl_25_1, sz_22, fl_25_3, fl_25_0, bt_4, c_laws_big, c_impl_SigNew, c_spec_SigOk, c_laws_at, c_impl_SigSet, c_impl_SigMask, c_impl_SigSend, c_impl_SigNext, c_laws_has, c_impl_SigBack, hid, hu, ha, ← hL, hm, wn, hw, hs', hO, z1, z2, z3, z4, z6, e0, e1, e2, e3, e4, e5, e6, e7, decide_true, decide_false]
                    repeat' (first | (refine And.intro (by first | omega | exact .inr trivial | exact ⟨by omega, .inr trivial⟩) ?_) | with_reducible refine And.intro ?_ ?_ | intro _)
                    all_goals try omega
                    all_goals try exact .inr trivial
                    all_goals
                      rename_i p hp
                      obtain ⟨c1, c2, c3, c4⟩ := p
                      obtain ⟨q1, q2, q3, q4⟩ := hp
                      dsimp only at q1 q2 q3 q4
                      refine loopI (J := {k : Nat // 1 ≤ k ∧ k ≤ 17}) (fun k => ⟨slots 262 [(0, .c (.sl a.up n ca)), (3, .c (.ptr ⟨.loc 4, 0, 0, 0⟩)), (4, .c (.sl ⟨.loc 5, 0, 0, 0⟩ 17 17)), (5, I (i : Nat)), (7, .c (.ptr ⟨.loc 6, 0, 0, 0⟩)), (10, .c (.ptr ⟨.loc 11, 0, 0, 0⟩)), (11, I 0), (12, I (k.1 : Nat))], M, [], [rowG true 4 k1 P, rowG true 4 k2 K, rowG true 3 k3 D, rowG true 3 k4 Z, .box 25 [.sl ⟨.loc 0, 0, 0, 0⟩ (P).length k1, .sl ⟨.loc 1, 0, 0, 0⟩ (K).length k2, .sl ⟨.loc 2, 0, 0, 0⟩ (D).length k3, .sl ⟨.loc 3, 0, 0, 0⟩ (Z).length k4, .int .i64 u], rowG true 4 17 T, .box 25 [.sl ⟨.loc 0, 0, 0, 0⟩ (P).length k1, .sl ⟨.loc 1, 0, 0, 0⟩ (K).length k2, .sl ⟨.loc 2, 0, 0, 0⟩ (D).length k3, .sl ⟨.loc 3, 0, 0, 0⟩ (Z).length k4, .int .i64 u], rowG true 4 c1 P', rowG true 4 c2 K', rowG true 3 c3 D', rowG true 3 c4 Z', .box 25 [.sl ⟨.loc 7, 0, 0, 0⟩ (P').length c1, .sl ⟨.loc 8, 0, 0, 0⟩ (K').length c2, .sl ⟨.loc 9, 0, 0, 0⟩ (D').length c3, .sl ⟨.loc 10, 0, 0, 0⟩ (Z').length c4, .int .i64 u']]⟩) (fun k => 17 - k.1) ⟨1, by omega⟩ (Le_intro [0, 1, 2, 3, 4, 5, 6, 7, 8, 9, 10, 11] (by simp only [WL, WNL, swA_new, swA_ne, nest_sw_ne, mapLL, List.mem_cons, Nat.reduceAdd, Nat.reduceLT, Nat.reduceLeDiff, Nat.reduceEqDiff, okU, List.nodup_cons, List.not_mem_nil, toT, toL, toO, keysO, renl, rent, cll, clt, eq_self, AV.eqv, AC.eqv, eqvl, eqvt, Sl.eqv, rowsLe, mapLL, rowsCl, List.map_append, List.length_map, List.length_append, List.length_set, List.map_replicate, rowG, List.getElem?_cons_zero, List.getElem?_cons_succ, List.getElem?_nil, List.append_nil, List.nil_append, List.cons_append, ghosts, St.gh, Option.some.injEq, implies_true, setT, AV.ren, AC.ren, AV.cl, AC.cl, List.replicate_succ, List.replicate_zero, List.nodup_nil, List.length_nil, List.length_cons, List.getD_cons_zero, List.getD_cons_succ, ↓reduceIte]; try simp)) ?_
                      rintro ⟨k, hk0, hk⟩
                      have hwk := wS (i := k) (by omega)
                      by_cases hk16 : k ≤ 16
                      · have f1 : decide ((k : Int) ≤ 16) = true := decide_eq_true (by omega)
                        have f3 : IntKind.i64.wrap ((k : Int) - 1) = ((k - 1 : Nat) : Int) := by rw [w64 (by omega) (by omega)]; omega
                        have hn := hnone rfl (k - 1) (by omega)
                        rw [show k - 1 + 1 = k by omega] at hn
                        obtain ⟨tk, htk⟩ : ∃ tk, T.getD k default = tk := ⟨_, rfl⟩
                        obtain ⟨kk, hkk⟩ : ∃ kk, K.getD (k - 1) default = kk := ⟨_, rfl⟩
                        obtain ⟨ak, hak⟩ : ∃ ak, (Z.any fun x => decide (x = (k : Int))) = ak := ⟨_, rfl⟩
                        have f4 : (List.map enc T).getD k [] = [AC.bool tk] := by rw [getD_enc _ _ (by omega), htk]; rfl
                        have f5 : (List.map enc K).getD (k - 1) [] = [AC.bool kk] := by rw [getD_enc _ _ (by omega), hkk]; rfl
                        have kd : tk = false ∨ (tk = true ∧ kk = true) ∨ (tk = true ∧ kk = false ∧ ak = true) := by
                          cases tk with
                          | false => exact .inl rfl
                          | true => cases kk with
                            | true => exact .inr (.inl ⟨rfl, rfl⟩)
                            | false => exact .inr (.inr ⟨rfl, rfl, by rw [← hak]; exact List.any_eq_true.2 ⟨_, hn htk hkk, by simp⟩⟩)
                        rcases kd with rfl | ⟨rfl, rfl⟩ | ⟨rfl, rfl, rfl⟩
                        all_goals
                          simp only [↓WP, ↓grdD, ↓grdT, ↓un_dead, ↓binVC, ↓buildVC, ↓sliceVC, WQ, WN, Int.reduceToNat, renl, cll, rent, clt, ↓reduceIte, Nat.reduceLeDiff, Nat.reduceEqDiff, Nat.reduceLT, reduceCtorEq, List.append_nil, Nat.reduceAdd, Nat.reduceSub, Nat.reduceBEq, forall_const, implies_true, cond_true, cond_false, AV.ren, AC.ren, AV.cl, AC.cl, eq_self, List.all_cons, List.all_nil, AV.eqv, AC.eqv, eqvl, eqvt, Sl.eqv, List.map_append, List.length_map, List.length_append, List.length_replicate, List.length_set, List.map_replicate, nilVC, zr_25, sz_25, el_22, zr_4, fl_25_4, sz_3, sz_4, fl_25_2, sz_23, el_23, fl_25_1, sz_22, fl_25_3, fl_25_0, bt_4, c_laws_big, c_impl_SigNew, c_spec_SigOk, c_laws_at, c_impl_SigSet, c_impl_SigMask, c_impl_SigSend, c_impl_SigNext, c_laws_has, c_impl_SigBack, f1, f3, f4, f5, hwk, hak]
                          repeat' (first | (refine And.intro (by first | omega | exact .inr trivial | exact ⟨by omega, .inr trivial⟩) ?_) | with_reducible refine And.intro ?_ ?_ | intro _)
                          all_goals try omega
                          all_goals try exact .inr trivial
                          all_goals exact ⟨⟨k + 1, by omega⟩, Le_intro [0, 1, 2, 3, 4, 5, 6, 7, 8, 9, 10, 11] (by simp only [WL, WNL, swA_new, swA_ne, nest_sw_ne, mapLL, List.mem_cons, Nat.reduceAdd, Nat.reduceLT, Nat.reduceLeDiff, Nat.reduceEqDiff, okU, List.nodup_cons, List.not_mem_nil, toT, toL, toO, keysO, renl, rent, cll, clt, eq_self, AV.eqv, AC.eqv, eqvl, eqvt, Sl.eqv, rowsLe, mapLL, rowsCl, List.map_append, List.length_map, List.length_append, List.length_set, List.map_replicate, rowG, List.getElem?_cons_zero, List.getElem?_cons_succ, List.getElem?_nil, List.append_nil, List.nil_append, List.cons_append, ghosts, St.gh, Option.some.injEq, implies_true, setT, AV.ren, AC.ren, AV.cl, AC.cl, List.replicate_succ, List.replicate_zero, List.nodup_nil, List.length_nil, List.length_cons, List.getD_cons_zero, List.getD_cons_succ, ↓reduceIte]; try simp), by show 17 - (k + 1) < 17 - k; omega⟩
                      · have f1 : decide ((k : Int) ≤ 16) = false := decide_eq_false (by omega)
                        simp only [↓WP, ↓grdD, ↓grdT, ↓un_dead, ↓binVC, ↓buildVC, ↓sliceVC, WQ, WN, Int.reduceToNat, renl, cll, rent, clt, ↓reduceIte, Nat.reduceLeDiff, Nat.reduceEqDiff, Nat.reduceLT, reduceCtorEq, List.append_nil, Nat.reduceAdd, Nat.reduceSub, Nat.reduceBEq, forall_const, implies_true, cond_true, cond_false, AV.ren, AC.ren, AV.cl, AC.cl, eq_self, List.all_cons, List.all_nil, AV.eqv, AC.eqv, eqvl, eqvt, Sl.eqv, List.map_append, List.length_map, List.length_append, List.length_replicate, List.length_set, List.map_replicate, nilVC, zr_25, sz_25, el_22, zr_4, fl_25_4, sz_3, sz_4, fl_25_2, sz_23, el_23, fl_25_1, sz_22, fl_25_3, fl_25_0, bt_4, c_laws_big, c_impl_SigNew, c_spec_SigOk, c_laws_at, c_impl_SigSet, c_impl_SigMask, c_impl_SigSend, c_impl_SigNext, c_laws_has, c_impl_SigBack, f1, hok', decide_true]
                        repeat' (first | (refine And.intro (by first | omega | exact .inr trivial | exact ⟨by omega, .inr trivial⟩) ?_) | with_reducible refine And.intro ?_ ?_ | intro _)
                        all_goals try omega
                        all_goals try exact .inr trivial
                        all_goals try (rw [hasRow_rows]; exact ⟨rfl, rfl, Nat.zero_lt_one, Nat.zero_le _⟩)
                        all_goals
                          refine loopI (J := {k : Nat // 1 ≤ k ∧ k ≤ 17}) (fun k => ⟨slots 262 [(0, .c (.sl a.up n ca)), (3, .c (.ptr ⟨.loc 4, 0, 0, 0⟩)), (4, .c (.sl ⟨.loc 5, 0, 0, 0⟩ 17 17)), (5, I (i : Nat)), (13, I (k.1 : Nat))], M, [], [rowG true 4 c1 P', rowG true 4 c2 K', rowG true 3 c3 D', rowG true 3 c4 Z', .box 25 [.sl ⟨.loc 0, 0, 0, 0⟩ (P').length c1, .sl ⟨.loc 1, 0, 0, 0⟩ (K').length c2, .sl ⟨.loc 2, 0, 0, 0⟩ (D').length c3, .sl ⟨.loc 3, 0, 0, 0⟩ (Z').length c4, .int .i64 u'], rowG true 4 17 (T.set 0 false)]⟩) (fun k => 17 - k.1) ⟨1, by omega⟩ (Le_intro [7, 8, 9, 10, 4, 5] (by simp only [WL, WNL, swA_new, swA_ne, nest_sw_ne, mapLL, List.mem_cons, Nat.reduceAdd, Nat.reduceLT, Nat.reduceLeDiff, Nat.reduceEqDiff, okU, List.nodup_cons, List.not_mem_nil, toT, toL, toO, keysO, renl, rent, cll, clt, eq_self, AV.eqv, AC.eqv, eqvl, eqvt, Sl.eqv, rowsLe, mapLL, rowsCl, List.map_append, List.length_map, List.length_append, List.length_set, List.map_replicate, rowG, List.getElem?_cons_zero, List.getElem?_cons_succ, List.getElem?_nil, List.append_nil, List.nil_append, List.cons_append, ghosts, St.gh, Option.some.injEq, implies_true, setT, AV.ren, AC.ren, AV.cl, AC.cl, List.replicate_succ, List.replicate_zero, List.nodup_nil, List.length_nil, List.length_cons, List.getD_cons_zero, List.getD_cons_succ, ↓reduceIte, List.map_set, enc_bool]; try simp)) ?_
                          rintro ⟨k, hk0, hk⟩
                          have hwk := wS (i := k) (by omega)
                          by_cases hkk : k ≤ 16 ∧ u' = 0
                          · obtain ⟨hk16, hu'⟩ := hkk
                            have f1 : decide ((k : Int) ≤ 16) = true := decide_eq_true (by omega)
                            have f2 : decide (u' = 0) = true := decide_eq_true hu'
                            have f3 : IntKind.i64.wrap ((k : Int) - 1) = ((k - 1 : Nat) : Int) := by rw [w64 (by omega) (by omega)]; omega
                            have hte := hg'.2.2.2 hu' (k - 1) (by omega)
                            rw [show k - 1 + 1 = k by omega] at hte
                            have f4 : (List.map enc P').getD (k - 1) [] = [AC.bool ((T.set 0 false).getD k default)] := by rw [getD_enc _ _ (by omega), hte]; rfl
                            have f5 : (List.map enc (T.set 0 false)).getD k [] = [AC.bool ((T.set 0 false).getD k default)] := by rw [getD_enc _ _ (by rw [hg'.2.2.1]; omega)]; rfl
                            have hbb : ∀ b : Bool, (b != b) = false := by decide
                            simp only [↓WP, ↓grdD, ↓grdT, ↓un_dead, ↓binVC, ↓buildVC, ↓sliceVC, WQ, WN, Int.reduceToNat, renl, cll, rent, clt, ↓reduceIte, Nat.reduceLeDiff, Nat.reduceEqDiff, Nat.reduceLT, reduceCtorEq, List.append_nil, Nat.reduceAdd, Nat.reduceSub, Nat.reduceBEq, forall_const, implies_true, cond_true, cond_false, AV.ren, AC.ren, AV.cl, AC.cl, eq_self, List.all_cons, List.all_nil, AV.eqv, AC.eqv, eqvl, eqvt, Sl.eqv, List.map_append, List.length_map, List.length_append, List.length_replicate, List.length_set, List.map_replicate, nilVC, zr_25, sz_25, el_22, zr_4, fl_25_4, sz_3, sz_4, fl_25_2, sz_23, el_23, fl_25_1, sz_22, fl_25_3, fl_25_0, bt_4, c_laws_big, c_impl_SigNew, c_spec_SigOk, c_laws_at, c_impl_SigSet, c_impl_SigMask, c_impl_SigSend, c_impl_SigNext, c_laws_has, c_impl_SigBack, f1, f2, f3, f4, f5, hwk, hbb]
                            repeat' (first | (refine And.intro (by omega) ?_) | with_reducible refine And.intro ?_ ?_ | intro _)
                            all_goals try omega
                            all_goals exact ⟨⟨k + 1, by omega⟩, Le_intro [0, 1, 2, 3, 4, 5] (by simp only [WL, WNL, swA_new, swA_ne, nest_sw_ne, mapLL, List.mem_cons, Nat.reduceAdd, Nat.reduceLT, Nat.reduceLeDiff, Nat.reduceEqDiff, okU, List.nodup_cons, List.not_mem_nil, toT, toL, toO, keysO, renl, rent, cll, clt, eq_self, AV.eqv, AC.eqv, eqvl, eqvt, Sl.eqv, rowsLe, mapLL, rowsCl, List.map_append, List.length_map, List.length_append, List.length_set, List.map_replicate, rowG, List.getElem?_cons_zero, List.getElem?_cons_succ, List.getElem?_nil, List.append_nil, List.nil_append, List.cons_append, ghosts, St.gh, Option.some.injEq, implies_true, setT, AV.ren, AC.ren, AV.cl, AC.cl, List.replicate_succ, List.replicate_zero, List.nodup_nil, List.length_nil, List.length_cons, List.getD_cons_zero, List.getD_cons_succ, ↓reduceIte]; try simp), by show 17 - (k + 1) < 17 - k; omega⟩
                          · have key : decide ((k : Int) ≤ 16) = false ∨ (decide ((k : Int) ≤ 16) = true ∧ decide (u' = 0) = false) := by
                              by_cases hk16 : k ≤ 16
                              · exact .inr ⟨decide_eq_true (by omega), decide_eq_false fun h => hkk ⟨hk16, h⟩⟩
                              · exact .inl (decide_eq_false (by omega))
                            rcases key with f1 | ⟨f1, f2⟩
                            · simp only [↓WP, ↓grdD, ↓grdT, ↓un_dead, ↓binVC, ↓buildVC, ↓sliceVC, WQ, WN, Int.reduceToNat, renl, cll, rent, clt, ↓reduceIte, Nat.reduceLeDiff, Nat.reduceEqDiff, Nat.reduceLT, reduceCtorEq, List.append_nil, Nat.reduceAdd, Nat.reduceSub, Nat.reduceBEq, forall_const, implies_true, cond_true, cond_false, AV.ren, AC.ren, AV.cl, AC.cl, eq_self, List.all_cons, List.all_nil, AV.eqv, AC.eqv, eqvl, eqvt, Sl.eqv, List.map_append, List.length_map, List.length_append, List.length_replicate, List.length_set, List.map_replicate, nilVC, zr_25, sz_25, el_22, zr_4, fl_25_4, sz_3, sz_4, fl_25_2, sz_23, el_23, fl_25_1, sz_22, fl_25_3, fl_25_0, bt_4, c_laws_big, c_impl_SigNew, c_spec_SigOk, c_laws_at, c_impl_SigSet, c_impl_SigMask, c_impl_SigSend, c_impl_SigNext, c_laws_has, c_impl_SigBack, f1, hw]
                              exact ⟨⟨(i + 1, ((P', K', D', Z', u'), c1, c2, c3, c4), T.set 0 false), by show i + 1 ≤ 80; omega, hg', q1, q2, q3, q4⟩, Le_intro [0, 1, 2, 3, 4, 5] (by simp only [WL, WNL, swA_new, swA_ne, nest_sw_ne, mapLL, List.mem_cons, Nat.reduceAdd, Nat.reduceLT, Nat.reduceLeDiff, Nat.reduceEqDiff, okU, List.nodup_cons, List.not_mem_nil, toT, toL, toO, keysO, renl, rent, cll, clt, eq_self, AV.eqv, AC.eqv, eqvl, eqvt, Sl.eqv, rowsLe, mapLL, rowsCl, List.map_append, List.length_map, List.length_append, List.length_set, List.map_replicate, rowG, List.getElem?_cons_zero, List.getElem?_cons_succ, List.getElem?_nil, List.append_nil, List.nil_append, List.cons_append, ghosts, St.gh, Option.some.injEq, implies_true, setT, AV.ren, AC.ren, AV.cl, AC.cl, List.replicate_succ, List.replicate_zero, List.nodup_nil, List.length_nil, List.length_cons, List.getD_cons_zero, List.getD_cons_succ, ↓reduceIte]; try simp), by show 80 - (i + 1) < 80 - i; omega⟩
                            · simp only [↓WP, ↓grdD, ↓grdT, ↓un_dead, ↓binVC, ↓buildVC, ↓sliceVC, WQ, WN, Int.reduceToNat, renl, cll, rent, clt, ↓reduceIte, Nat.reduceLeDiff, Nat.reduceEqDiff, Nat.reduceLT, reduceCtorEq, List.append_nil, Nat.reduceAdd, Nat.reduceSub, Nat.reduceBEq, forall_const, implies_true, cond_true, cond_false, AV.ren, AC.ren, AV.cl, AC.cl, eq_self, List.all_cons, List.all_nil, AV.eqv, AC.eqv, eqvl, eqvt, Sl.eqv, List.map_append, List.length_map, List.length_append, List.length_replicate, List.length_set, List.map_replicate, nilVC, zr_25, sz_25, el_22, zr_4, fl_25_4, sz_3, sz_4, fl_25_2, sz_23, el_23, fl_25_1, sz_22, fl_25_3, fl_25_0, bt_4, c_laws_big, c_impl_SigNew, c_spec_SigOk, c_laws_at, c_impl_SigSet, c_impl_SigMask, c_impl_SigSend, c_impl_SigNext, c_laws_has, c_impl_SigBack, f1, f2, hw]
                              exact ⟨⟨(i + 1, ((P', K', D', Z', u'), c1, c2, c3, c4), T.set 0 false), by show i + 1 ≤ 80; omega, hg', q1, q2, q3, q4⟩, Le_intro [0, 1, 2, 3, 4, 5] (by simp only [WL, WNL, swA_new, swA_ne, nest_sw_ne, mapLL, List.mem_cons, Nat.reduceAdd, Nat.reduceLT, Nat.reduceLeDiff, Nat.reduceEqDiff, okU, List.nodup_cons, List.not_mem_nil, toT, toL, toO, keysO, renl, rent, cll, clt, eq_self, AV.eqv, AC.eqv, eqvl, eqvt, Sl.eqv, rowsLe, mapLL, rowsCl, List.map_append, List.length_map, List.length_append, List.length_set, List.map_replicate, rowG, List.getElem?_cons_zero, List.getElem?_cons_succ, List.getElem?_nil, List.append_nil, List.nil_append, List.cons_append, ghosts, St.gh, Option.some.injEq, implies_true, setT, AV.ren, AC.ren, AV.cl, AC.cl, List.replicate_succ, List.replicate_zero, List.nodup_nil, List.length_nil, List.length_cons, List.getD_cons_zero, List.getD_cons_succ, ↓reduceIte]; try simp), by show 80 - (i + 1) < 80 - i; omega⟩
              · obtain ⟨j, rfl⟩ : ∃ j : Nat, g = ((j + 1 : Nat) : Int) := ⟨(g - 1).toNat, by omega⟩
                obtain ⟨x0, x1, x2, x3⟩ := hhit j rfl
                rw [Int.toNat_natCast] at hg'
                have hokk : sigOk P' K' D' Z' u' := hg'.1
                have hok' : decide (sigOk P' K' D' Z' u') = true := decide_eq_true hokk
                obtain ⟨l1', l2', l3', l4', l5'⟩ := hokk.1
                have z1 : (List.map enc T).getD (j + 1) [] = [AC.bool true] := by rw [getD_enc _ _ (by omega), x1]; rfl
                have z2 : (List.map enc K).getD j [] = [AC.bool false] := by rw [getD_enc _ _ (by omega), x2]; rfl
                have z3 : decide ((0 : Int) < ((j + 1 : Nat) : Int)) = true := decide_eq_true (by omega)
                have z4 : decide (((j + 1 : Nat) : Int) = 0) = false := decide_eq_false (by omega)
                have z5 : IntKind.i64.wrap (((j + 1 : Nat) : Int) - 1) = (j : Int) := by rw [w64 (by omega) (by omega)]; omega
                have z6 : (Z.any fun x => decide (x = ((j + 1 : Nat) : Int))) = false := List.any_eq_false.2 fun x hx => by
                  simp only [decide_eq_true_eq]
                  rintro rfl
                  exact x3 hx
                rcases key with ⟨e6, e7⟩ | ⟨e6, e7⟩
                all_goals
                  as_aux_lemma =>
                    simp only [↓WP, ↓grdD, ↓grdT, ↓un_dead, ↓binVC, ↓buildVC, ↓sliceVC, WQ, WN, Int.reduceToNat, renl, cll, rent, clt, ↓reduceIte, Nat.reduceLeDiff, Nat.reduceEqDiff, Nat.reduceLT, reduceCtorEq, List.append_nil, Nat.reduceAdd, Nat.reduceSub, Nat.reduceBEq, forall_const, implies_true, cond_true, cond_false, AV.ren, AC.ren, AV.cl, AC.cl, eq_self, List.all_cons, List.all_nil, AV.eqv, AC.eqv, eqvl, eqvt, Sl.eqv, List.map_append, List.length_map, List.length_append, List.length_replicate, List.length_set, List.map_replicate, nilVC, zr_25, sz_25, el_22, zr_4, fl_25_4, sz_3, sz_4, fl_25_2, sz_23, el_23, fl_25_1, sz_22, fl_25_3, fl_25_0, bt_4, c_laws_big, c_impl_SigNew, c_spec_SigOk, c_laws_at, c_impl_SigSet, c_impl_SigMask, c_impl_SigSend, c_impl_SigNext, c_laws_has, c_impl_SigBack, hid, hu, ha, ← hL, hm, wn, hw, hs', hok', decide_true, hO, z1, z2, z3, z4, z5, z6, e0, e1, e2, e3, e4, e5, e6, e7, decide_true, decide_false]
                    repeat' (first | (refine And.intro (by first | omega | exact .inr trivial | exact ⟨by omega, .inr trivial⟩) ?_) | with_reducible refine And.intro ?_ ?_ | intro _)
                    all_goals try omega
                    all_goals try exact .inr trivial
                    all_goals try (rw [hasRow_rows]; exact ⟨rfl, rfl, Nat.zero_lt_one, Nat.zero_le _⟩)
                    all_goals
                      rename_i p hp
                      obtain ⟨c1, c2, c3, c4⟩ := p
                      obtain ⟨q1, q2, q3, q4⟩ := hp
                      dsimp only at q1 q2 q3 q4
                      refine loopI (J := {k : Nat // 1 ≤ k ∧ k ≤ 17}) (fun k => ⟨slots 262 [(0, .c (.sl a.up n ca)), (3, .c (.ptr ⟨.loc 4, 0, 0, 0⟩)), (4, .c (.sl ⟨.loc 5, 0, 0, 0⟩ 17 17)), (5, I (i : Nat)), (13, I (k.1 : Nat))], M, [], [rowG true 4 c1 P', rowG true 4 c2 K', rowG true 3 c3 D', rowG true 3 c4 Z', .box 25 [.sl ⟨.loc 0, 0, 0, 0⟩ (P').length c1, .sl ⟨.loc 1, 0, 0, 0⟩ (K').length c2, .sl ⟨.loc 2, 0, 0, 0⟩ (D').length c3, .sl ⟨.loc 3, 0, 0, 0⟩ (Z').length c4, .int .i64 u'], rowG true 4 17 (T.set (j + 1) false)]⟩) (fun k => 17 - k.1) ⟨1, by omega⟩ (Le_intro [7, 8, 9, 10, 4, 5] (by simp only [WL, WNL, swA_new, swA_ne, nest_sw_ne, mapLL, List.mem_cons, Nat.reduceAdd, Nat.reduceLT, Nat.reduceLeDiff, Nat.reduceEqDiff, okU, List.nodup_cons, List.not_mem_nil, toT, toL, toO, keysO, renl, rent, cll, clt, eq_self, AV.eqv, AC.eqv, eqvl, eqvt, Sl.eqv, rowsLe, mapLL, rowsCl, List.map_append, List.length_map, List.length_append, List.length_set, List.map_replicate, rowG, List.getElem?_cons_zero, List.getElem?_cons_succ, List.getElem?_nil, List.append_nil, List.nil_append, List.cons_append, ghosts, St.gh, Option.some.injEq, implies_true, setT, AV.ren, AC.ren, AV.cl, AC.cl, List.replicate_succ, List.replicate_zero, List.nodup_nil, List.length_nil, List.length_cons, List.getD_cons_zero, List.getD_cons_succ, ↓reduceIte, List.map_set, enc_bool]; try simp)) ?_
                      rintro ⟨k, hk0, hk⟩
                      have hwk := wS (i := k) (by omega)
                      by_cases hkk : k ≤ 16 ∧ u' = 0
                      · obtain ⟨hk16, hu'⟩ := hkk
                        have f1 : decide ((k : Int) ≤ 16) = true := decide_eq_true (by omega)
                        have f2 : decide (u' = 0) = true := decide_eq_true hu'
                        have f3 : IntKind.i64.wrap ((k : Int) - 1) = ((k - 1 : Nat) : Int) := by rw [w64 (by omega) (by omega)]; omega
                        have hte := hg'.2.2.2 hu' (k - 1) (by omega)
                        rw [show k - 1 + 1 = k by omega] at hte
                        have f4 : (List.map enc P').getD (k - 1) [] = [AC.bool ((T.set (j + 1) false).getD k default)] := by rw [getD_enc _ _ (by omega), hte]; rfl
                        have f5 : (List.map enc (T.set (j + 1) false)).getD k [] = [AC.bool ((T.set (j + 1) false).getD k default)] := by rw [getD_enc _ _ (by rw [hg'.2.2.1]; omega)]; rfl
                        have hbb : ∀ b : Bool, (b != b) = false := by decide
                        simp only [↓WP, ↓grdD, ↓grdT, ↓un_dead, ↓binVC, ↓buildVC, ↓sliceVC, WQ, WN, Int.reduceToNat, renl, cll, rent, clt, ↓reduceIte, Nat.reduceLeDiff, Nat.reduceEqDiff, Nat.reduceLT, reduceCtorEq, List.append_nil, Nat.reduceAdd, Nat.reduceSub, Nat.reduceBEq, forall_const, implies_true, cond_true, cond_false, AV.ren, AC.ren, AV.cl, AC.cl, eq_self, List.all_cons, List.all_nil, AV.eqv, AC.eqv, eqvl, eqvt, Sl.eqv, List.map_append, List.length_map, List.length_append, List.length_replicate, List.length_set, List.map_replicate, nilVC, zr_25, sz_25, el_22, zr_4, fl_25_4, sz_3, sz_4, fl_25_2, sz_23, el_23, fl_25_1, sz_22, fl_25_3, fl_25_0, bt_4, c_laws_big, c_impl_SigNew, c_spec_SigOk, c_laws_at, c_impl_SigSet, c_impl_SigMask, c_impl_SigSend, c_impl_SigNext, c_laws_has, c_impl_SigBack, f1, f2, f3, f4, f5, hwk, hbb]
                        repeat' (first | (refine And.intro (by omega) ?_) | with_reducible refine And.intro ?_ ?_ | intro _)
                        all_goals try omega
                        all_goals exact ⟨⟨k + 1, by omega⟩, Le_intro [0, 1, 2, 3, 4, 5] (by simp only [WL, WNL, swA_new, swA_ne, nest_sw_ne, mapLL, List.mem_cons, Nat.reduceAdd, Nat.reduceLT, Nat.reduceLeDiff, Nat.reduceEqDiff, okU, List.nodup_cons, List.not_mem_nil, toT, toL, toO, keysO, renl, rent, cll, clt, eq_self, AV.eqv, AC.eqv, eqvl, eqvt, Sl.eqv, rowsLe, mapLL, rowsCl, List.map_append, List.length_map, List.length_append, List.length_set, List.map_replicate, rowG, List.getElem?_cons_zero, List.getElem?_cons_succ, List.getElem?_nil, List.append_nil, List.nil_append, List.cons_append, ghosts, St.gh, Option.some.injEq, implies_true, setT, AV.ren, AC.ren, AV.cl, AC.cl, List.replicate_succ, List.replicate_zero, List.nodup_nil, List.length_nil, List.length_cons, List.getD_cons_zero, List.getD_cons_succ, ↓reduceIte]; try simp), by show 17 - (k + 1) < 17 - k; omega⟩
                      · have key : decide ((k : Int) ≤ 16) = false ∨ (decide ((k : Int) ≤ 16) = true ∧ decide (u' = 0) = false) := by
                          by_cases hk16 : k ≤ 16
                          · exact .inr ⟨decide_eq_true (by omega), decide_eq_false fun h => hkk ⟨hk16, h⟩⟩
                          · exact .inl (decide_eq_false (by omega))
                        rcases key with f1 | ⟨f1, f2⟩
                        · simp only [↓WP, ↓grdD, ↓grdT, ↓un_dead, ↓binVC, ↓buildVC, ↓sliceVC, WQ, WN, Int.reduceToNat, renl, cll, rent, clt, ↓reduceIte, Nat.reduceLeDiff, Nat.reduceEqDiff, Nat.reduceLT, reduceCtorEq, List.append_nil, Nat.reduceAdd, Nat.reduceSub, Nat.reduceBEq, forall_const, implies_true, cond_true, cond_false, AV.ren, AC.ren, AV.cl, AC.cl, eq_self, List.all_cons, List.all_nil, AV.eqv, AC.eqv, eqvl, eqvt, Sl.eqv, List.map_append, List.length_map, List.length_append, List.length_replicate, List.length_set, List.map_replicate, nilVC, zr_25, sz_25, el_22, zr_4, fl_25_4, sz_3, sz_4, fl_25_2, sz_23, el_23, fl_25_1, sz_22, fl_25_3, fl_25_0, bt_4, c_laws_big, c_impl_SigNew, c_spec_SigOk, c_laws_at, c_impl_SigSet, c_impl_SigMask, c_impl_SigSend, c_impl_SigNext, c_laws_has, c_impl_SigBack, f1, hw]
                          exact ⟨⟨(i + 1, ((P', K', D', Z', u'), c1, c2, c3, c4), T.set (j + 1) false), by show i + 1 ≤ 80; omega, hg', q1, q2, q3, q4⟩, Le_intro [0, 1, 2, 3, 4, 5] (by simp only [WL, WNL, swA_new, swA_ne, nest_sw_ne, mapLL, List.mem_cons, Nat.reduceAdd, Nat.reduceLT, Nat.reduceLeDiff, Nat.reduceEqDiff, okU, List.nodup_cons, List.not_mem_nil, toT, toL, toO, keysO, renl, rent, cll, clt, eq_self, AV.eqv, AC.eqv, eqvl, eqvt, Sl.eqv, rowsLe, mapLL, rowsCl, List.map_append, List.length_map, List.length_append, List.length_set, List.map_replicate, rowG, List.getElem?_cons_zero, List.getElem?_cons_succ, List.getElem?_nil, List.append_nil, List.nil_append, List.cons_append, ghosts, St.gh, Option.some.injEq, implies_true, setT, AV.ren, AC.ren, AV.cl, AC.cl, List.replicate_succ, List.replicate_zero, List.nodup_nil, List.length_nil, List.length_cons, List.getD_cons_zero, List.getD_cons_succ, ↓reduceIte]; try simp), by show 80 - (i + 1) < 80 - i; omega⟩
                        · simp only [↓WP, ↓grdD, ↓grdT, ↓un_dead, ↓binVC, ↓buildVC, ↓sliceVC, WQ, WN, Int.reduceToNat, renl, cll, rent, clt, ↓reduceIte, Nat.reduceLeDiff, Nat.reduceEqDiff, Nat.reduceLT, reduceCtorEq, List.append_nil, Nat.reduceAdd, Nat.reduceSub, Nat.reduceBEq, forall_const, implies_true, cond_true, cond_false, AV.ren, AC.ren, AV.cl, AC.cl, eq_self, List.all_cons, List.all_nil, AV.eqv, AC.eqv, eqvl, eqvt, Sl.eqv, List.map_append, List.length_map, List.length_append, List.length_replicate, List.length_set, List.map_replicate, nilVC, zr_25, sz_25, el_22, zr_4, fl_25_4, sz_3, sz_4, fl_25_2, sz_23, el_23, fl_25_1, sz_22, fl_25_3, fl_25_0, bt_4, c_laws_big, c_impl_SigNew, c_spec_SigOk, c_laws_at, c_impl_SigSet, c_impl_SigMask, c_impl_SigSend, c_impl_SigNext, c_laws_has, c_impl_SigBack, f1, f2, hw]
                          exact ⟨⟨(i + 1, ((P', K', D', Z', u'), c1, c2, c3, c4), T.set (j + 1) false), by show i + 1 ≤ 80; omega, hg', q1, q2, q3, q4⟩, Le_intro [0, 1, 2, 3, 4, 5] (by simp only [WL, WNL, swA_new, swA_ne, nest_sw_ne, mapLL, List.mem_cons, Nat.reduceAdd, Nat.reduceLT, Nat.reduceLeDiff, Nat.reduceEqDiff, okU, List.nodup_cons, List.not_mem_nil, toT, toL, toO, keysO, renl, rent, cll, clt, eq_self, AV.eqv, AC.eqv, eqvl, eqvt, Sl.eqv, rowsLe, mapLL, rowsCl, List.map_append, List.length_map, List.length_append, List.length_set, List.map_replicate, rowG, List.getElem?_cons_zero, List.getElem?_cons_succ, List.getElem?_nil, List.append_nil, List.nil_append, List.cons_append, ghosts, St.gh, Option.some.injEq, implies_true, setT, AV.ren, AC.ren, AV.cl, AC.cl, List.replicate_succ, List.replicate_zero, List.nodup_nil, List.length_nil, List.length_cons, List.getD_cons_zero, List.getD_cons_succ, ↓reduceIte]; try simp), by show 80 - (i + 1) < 80 - i; omega⟩
            · have e6 : decide (s = 6) = false := decide_eq_false (by omega)
              have e7 : decide (s = 7) = false := decide_eq_false (by omega)
              have hg' := back_good hg
              obtain ⟨O, hO⟩ : ∃ O, backO P K D Z u = O := ⟨_, rfl⟩
              rw [hO] at hg'
              obtain ⟨⟨P', K', D', Z', u'⟩, r⟩ := O
              dsimp only at hg'
              have hokk : sigOk P' K' D' Z' u' := hg'.1
              have hok' : decide (sigOk P' K' D' Z' u') = true := decide_eq_true hokk
              obtain ⟨l1', l2', l3', l4', l5'⟩ := hokk.1
              as_aux_lemma =>
                simp only [↓WP, ↓grdD, ↓grdT, ↓un_dead, ↓binVC, ↓buildVC, ↓sliceVC, WQ, WN, Int.reduceToNat, renl, cll, rent, clt, ↓reduceIte, Nat.reduceLeDiff, Nat.reduceEqDiff, Nat.reduceLT, reduceCtorEq, List.append_nil, Nat.reduceAdd, Nat.reduceSub, Nat.reduceBEq, forall_const, implies_true, cond_true, cond_false, AV.ren, AC.ren, AV.cl, AC.cl, eq_self, List.all_cons, List.all_nil, AV.eqv, AC.eqv, eqvl, eqvt, Sl.eqv, List.map_append, List.length_map, List.length_append, List.length_replicate, List.length_set, List.map_replicate, nilVC, zr_25, sz_25, el_22, zr_4, fl_25_4, sz_3, sz_4, fl_25_2, sz_23, el_23, fl_25_1, sz_22, fl_25_3, fl_25_0, bt_4, c_laws_big, c_impl_SigNew, c_spec_SigOk, c_laws_at, c_impl_SigSet, c_impl_SigMask, c_impl_SigSend, c_impl_SigNext, c_laws_has, c_impl_SigBack, hid, hu, ha, ← hL, hm, wn, hw, hs', hok', decide_true, hO, e0, e1, e2, e3, e4, e5, e6, e7]
                repeat' (first | (refine And.intro (by first | omega | exact .inr trivial | exact ⟨by omega, .inr trivial⟩) ?_) | with_reducible refine And.intro ?_ ?_ | intro _)
                all_goals try omega
                all_goals try exact .inr trivial
                all_goals try (rw [hasRow_rows]; exact ⟨rfl, rfl, Nat.zero_lt_one, Nat.zero_le _⟩)
                all_goals
                  rename_i p hp
                  obtain ⟨c1, c2, c3, c4⟩ := p
                  obtain ⟨q1, q2, q3, q4⟩ := hp
                  dsimp only at q1 q2 q3 q4
                  refine loopI (J := {k : Nat // 1 ≤ k ∧ k ≤ 17}) (fun k => ⟨slots 262 [(0, .c (.sl a.up n ca)), (3, .c (.ptr ⟨.loc 4, 0, 0, 0⟩)), (4, .c (.sl ⟨.loc 5, 0, 0, 0⟩ 17 17)), (5, I (i : Nat)), (13, I (k.1 : Nat))], M, [], [rowG true 4 c1 P', rowG true 4 c2 K', rowG true 3 c3 D', rowG true 3 c4 Z', .box 25 [.sl ⟨.loc 0, 0, 0, 0⟩ (P').length c1, .sl ⟨.loc 1, 0, 0, 0⟩ (K').length c2, .sl ⟨.loc 2, 0, 0, 0⟩ (D').length c3, .sl ⟨.loc 3, 0, 0, 0⟩ (Z').length c4, .int .i64 u'], rowG true 4 17 (T)]⟩) (fun k => 17 - k.1) ⟨1, by omega⟩ (Le_intro [7, 8, 9, 10, 4, 5] (by simp only [WL, WNL, swA_new, swA_ne, nest_sw_ne, mapLL, List.mem_cons, Nat.reduceAdd, Nat.reduceLT, Nat.reduceLeDiff, Nat.reduceEqDiff, okU, List.nodup_cons, List.not_mem_nil, toT, toL, toO, keysO, renl, rent, cll, clt, eq_self, AV.eqv, AC.eqv, eqvl, eqvt, Sl.eqv, rowsLe, mapLL, rowsCl, List.map_append, List.length_map, List.length_append, List.length_set, List.map_replicate, rowG, List.getElem?_cons_zero, List.getElem?_cons_succ, List.getElem?_nil, List.append_nil, List.nil_append, List.cons_append, ghosts, St.gh, Option.some.injEq, implies_true, setT, AV.ren, AC.ren, AV.cl, AC.cl, List.replicate_succ, List.replicate_zero, List.nodup_nil, List.length_nil, List.length_cons, List.getD_cons_zero, List.getD_cons_succ, ↓reduceIte, List.map_set, enc_bool]; try simp)) ?_
                  rintro ⟨k, hk0, hk⟩
                  have hwk := wS (i := k) (by omega)
                  by_cases hkk : k ≤ 16 ∧ u' = 0
                  · obtain ⟨hk16, hu'⟩ := hkk
                    have f1 : decide ((k : Int) ≤ 16) = true := decide_eq_true (by omega)
                    have f2 : decide (u' = 0) = true := decide_eq_true hu'
                    have f3 : IntKind.i64.wrap ((k : Int) - 1) = ((k - 1 : Nat) : Int) := by rw [w64 (by omega) (by omega)]; omega
                    have hte := hg'.2.2.2 hu' (k - 1) (by omega)
                    rw [show k - 1 + 1 = k by omega] at hte
                    have f4 : (List.map enc P').getD (k - 1) [] = [AC.bool ((T).getD k default)] := by rw [getD_enc _ _ (by omega), hte]; rfl
                    have f5 : (List.map enc (T)).getD k [] = [AC.bool ((T).getD k default)] := by rw [getD_enc _ _ (by rw [hg'.2.2.1]; omega)]; rfl
                    have hbb : ∀ b : Bool, (b != b) = false := by decide
                    simp only [↓WP, ↓grdD, ↓grdT, ↓un_dead, ↓binVC, ↓buildVC, ↓sliceVC, WQ, WN, Int.reduceToNat, renl, cll, rent, clt, ↓reduceIte, Nat.reduceLeDiff, Nat.reduceEqDiff, Nat.reduceLT, reduceCtorEq, List.append_nil, Nat.reduceAdd, Nat.reduceSub, Nat.reduceBEq, forall_const, implies_true, cond_true, cond_false, AV.ren, AC.ren, AV.cl, AC.cl, eq_self, List.all_cons, List.all_nil, AV.eqv, AC.eqv, eqvl, eqvt, Sl.eqv, List.map_append, List.length_map, List.length_append, List.length_replicate, List.length_set, List.map_replicate, nilVC, zr_25, sz_25, el_22, zr_4, fl_25_4, sz_3, sz_4, fl_25_2, sz_23, el_23, fl_25_1, sz_22, fl_25_3, fl_25_0, bt_4, c_laws_big, c_impl_SigNew, c_spec_SigOk, c_laws_at, c_impl_SigSet, c_impl_SigMask, c_impl_SigSend, c_impl_SigNext, c_laws_has, c_impl_SigBack, f1, f2, f3, f4, f5, hwk, hbb]
                    repeat' (first | (refine And.intro (by omega) ?_) | with_reducible refine And.intro ?_ ?_ | intro _)
                    all_goals try omega
                    all_goals exact ⟨⟨k + 1, by omega⟩, Le_intro [0, 1, 2, 3, 4, 5] (by simp only [WL, WNL, swA_new, swA_ne, nest_sw_ne, mapLL, List.mem_cons, Nat.reduceAdd, Nat.reduceLT, Nat.reduceLeDiff, Nat.reduceEqDiff, okU, List.nodup_cons, List.not_mem_nil, toT, toL, toO, keysO, renl, rent, cll, clt, eq_self, AV.eqv, AC.eqv, eqvl, eqvt, Sl.eqv, rowsLe, mapLL, rowsCl, List.map_append, List.length_map, List.length_append, List.length_set, List.map_replicate, rowG, List.getElem?_cons_zero, List.getElem?_cons_succ, List.getElem?_nil, List.append_nil, List.nil_append, List.cons_append, ghosts, St.gh, Option.some.injEq, implies_true, setT, AV.ren, AC.ren, AV.cl, AC.cl, List.replicate_succ, List.replicate_zero, List.nodup_nil, List.length_nil, List.length_cons, List.getD_cons_zero, List.getD_cons_succ, ↓reduceIte]; try simp), by show 17 - (k + 1) < 17 - k; omega⟩
                  · have key : decide ((k : Int) ≤ 16) = false ∨ (decide ((k : Int) ≤ 16) = true ∧ decide (u' = 0) = false) := by
                      by_cases hk16 : k ≤ 16
                      · exact .inr ⟨decide_eq_true (by omega), decide_eq_false fun h => hkk ⟨hk16, h⟩⟩
                      · exact .inl (decide_eq_false (by omega))
                    rcases key with f1 | ⟨f1, f2⟩
                    · simp only [↓WP, ↓grdD, ↓grdT, ↓un_dead, ↓binVC, ↓buildVC, ↓sliceVC, WQ, WN, Int.reduceToNat, renl, cll, rent, clt, ↓reduceIte, Nat.reduceLeDiff, Nat.reduceEqDiff, Nat.reduceLT, reduceCtorEq, List.append_nil, Nat.reduceAdd, Nat.reduceSub, Nat.reduceBEq, forall_const, implies_true, cond_true, cond_false, AV.ren, AC.ren, AV.cl, AC.cl, eq_self, List.all_cons, List.all_nil, AV.eqv, AC.eqv, eqvl, eqvt, Sl.eqv, List.map_append, List.length_map, List.length_append, List.length_replicate, List.length_set, List.map_replicate, nilVC, zr_25, sz_25, el_22, zr_4, fl_25_4, sz_3, sz_4, fl_25_2, sz_23, el_23, fl_25_1, sz_22, fl_25_3, fl_25_0, bt_4, c_laws_big, c_impl_SigNew, c_spec_SigOk, c_laws_at, c_impl_SigSet, c_impl_SigMask, c_impl_SigSend, c_impl_SigNext, c_laws_has, c_impl_SigBack, f1, hw]
                      exact ⟨⟨(i + 1, ((P', K', D', Z', u'), c1, c2, c3, c4), T), by show i + 1 ≤ 80; omega, hg', q1, q2, q3, q4⟩, Le_intro [0, 1, 2, 3, 4, 5] (by simp only [WL, WNL, swA_new, swA_ne, nest_sw_ne, mapLL, List.mem_cons, Nat.reduceAdd, Nat.reduceLT, Nat.reduceLeDiff, Nat.reduceEqDiff, okU, List.nodup_cons, List.not_mem_nil, toT, toL, toO, keysO, renl, rent, cll, clt, eq_self, AV.eqv, AC.eqv, eqvl, eqvt, Sl.eqv, rowsLe, mapLL, rowsCl, List.map_append, List.length_map, List.length_append, List.length_set, List.map_replicate, rowG, List.getElem?_cons_zero, List.getElem?_cons_succ, List.getElem?_nil, List.append_nil, List.nil_append, List.cons_append, ghosts, St.gh, Option.some.injEq, implies_true, setT, AV.ren, AC.ren, AV.cl, AC.cl, List.replicate_succ, List.replicate_zero, List.nodup_nil, List.length_nil, List.length_cons, List.getD_cons_zero, List.getD_cons_succ, ↓reduceIte]; try simp), by show 80 - (i + 1) < 80 - i; omega⟩
                    · simp only [↓WP, ↓grdD, ↓grdT, ↓un_dead, ↓binVC, ↓buildVC, ↓sliceVC, WQ, WN, Int.reduceToNat, renl, cll, rent, clt, ↓reduceIte, Nat.reduceLeDiff, Nat.reduceEqDiff, Nat.reduceLT, reduceCtorEq, List.append_nil, Nat.reduceAdd, Nat.reduceSub, Nat.reduceBEq, forall_const, implies_true, cond_true, cond_false, AV.ren, AC.ren, AV.cl, AC.cl, eq_self, List.all_cons, List.all_nil, AV.eqv, AC.eqv, eqvl, eqvt, Sl.eqv, List.map_append, List.length_map, List.length_append, List.length_replicate, List.length_set, List.map_replicate, nilVC, zr_25, sz_25, el_22, zr_4, fl_25_4, sz_3, sz_4, fl_25_2, sz_23, el_23, fl_25_1, sz_22, fl_25_3, fl_25_0, bt_4, c_laws_big, c_impl_SigNew, c_spec_SigOk, c_laws_at, c_impl_SigSet, c_impl_SigMask, c_impl_SigSend, c_impl_SigNext, c_laws_has, c_impl_SigBack, f1, f2, hw]
                      exact ⟨⟨(i + 1, ((P', K', D', Z', u'), c1, c2, c3, c4), T), by show i + 1 ≤ 80; omega, hg', q1, q2, q3, q4⟩, Le_intro [0, 1, 2, 3, 4, 5] (by simp only [WL, WNL, swA_new, swA_ne, nest_sw_ne, mapLL, List.mem_cons, Nat.reduceAdd, Nat.reduceLT, Nat.reduceLeDiff, Nat.reduceEqDiff, okU, List.nodup_cons, List.not_mem_nil, toT, toL, toO, keysO, renl, rent, cll, clt, eq_self, AV.eqv, AC.eqv, eqvl, eqvt, Sl.eqv, rowsLe, mapLL, rowsCl, List.map_append, List.length_map, List.length_append, List.length_set, List.map_replicate, rowG, List.getElem?_cons_zero, List.getElem?_cons_succ, List.getElem?_nil, List.append_nil, List.nil_append, List.cons_append, ghosts, St.gh, Option.some.injEq, implies_true, setT, AV.ren, AC.ren, AV.cl, AC.cl, List.replicate_succ, List.replicate_zero, List.nodup_nil, List.length_nil, List.length_cons, List.getD_cons_zero, List.getD_cons_succ, ↓reduceIte]; try simp), by show 80 - (i + 1) < 80 - i; omega⟩
    · by_cases hu0 : u = 0
      · have hid : decide ((i : Int) < 80) = false := decide_eq_false (by have : ¬ i < 80 := fun h => hgo ⟨h, hu0⟩; omega)
        have hu : decide (u = 0) = true := decide_eq_true hu0
        obtain ⟨ts1, ts2⟩ := toll_send hg hu0
        obtain ⟨O, hO⟩ : ∃ O, sendO P K D Z u 9 = O := ⟨_, rfl⟩
        rw [hO] at ts1 ts2
        obtain ⟨⟨P', K', D', Z', u'⟩, r⟩ := O
        dsimp only at ts1 ts2
        subst ts1
        simp only [↓WP, ↓grdD, ↓grdT, ↓un_dead, ↓binVC, ↓buildVC, ↓sliceVC, WQ, WN, Int.reduceToNat, renl, cll, rent, clt, ↓reduceIte, Nat.reduceLeDiff, Nat.reduceEqDiff, Nat.reduceLT, reduceCtorEq, List.append_nil, Nat.reduceAdd, Nat.reduceSub, Nat.reduceBEq, forall_const, implies_true, cond_true, cond_false, AV.ren, AC.ren, AV.cl, AC.cl, eq_self, List.all_cons, List.all_nil, AV.eqv, AC.eqv, eqvl, eqvt, Sl.eqv, List.map_append, List.length_map, List.length_append, List.length_replicate, List.length_set, List.map_replicate, nilVC, zr_25, sz_25, el_22, zr_4, fl_25_4, sz_3, sz_4, fl_25_2, sz_23, el_23, fl_25_1, sz_22, fl_25_3, fl_25_0, bt_4, c_laws_big, c_impl_SigNew, c_spec_SigOk, c_laws_at, c_impl_SigSet, c_impl_SigMask, c_impl_SigSend, c_impl_SigNext, c_laws_has, c_impl_SigBack, hid, hu, hO, decide_true]
        repeat' (first | (refine And.intro (by first | omega | exact .inr trivial | exact ⟨by omega, .inr trivial⟩) ?_) | with_reducible refine And.intro ?_ ?_ | intro _)
        all_goals try omega
        all_goals try exact .inr trivial
        rename_i p hp
        obtain ⟨c1, c2, c3, c4⟩ := p
        obtain ⟨q1, q2, q3, q4⟩ := hp
        dsimp only at q1 q2 q3 q4
        refine loopI (J := {q : Nat × OwnS // q.1 ≤ 20 ∧ toll q.2.1 q.1 ∧ q.2.1.1.length ≤ q.2.2.1 ∧ q.2.1.2.1.length ≤ q.2.2.2.1 ∧ q.2.1.2.2.1.length ≤ q.2.2.2.2.1 ∧ q.2.1.2.2.2.1.length ≤ q.2.2.2.2.2}) (fun q => ⟨slots 262 [(18, .c (.ptr ⟨.loc 4, 0, 0, 0⟩)), (19, Eng.B true), (20, I (q.1.1 : Nat))], M, [], [rowG true 4 q.1.2.2.1 q.1.2.1.1, rowG true 4 q.1.2.2.2.1 q.1.2.1.2.1, rowG true 3 q.1.2.2.2.2.1 q.1.2.1.2.2.1, rowG true 3 q.1.2.2.2.2.2 q.1.2.1.2.2.2.1, .box 25 [.sl ⟨.loc 0, 0, 0, 0⟩ (q.1.2.1.1).length q.1.2.2.1, .sl ⟨.loc 1, 0, 0, 0⟩ (q.1.2.1.2.1).length q.1.2.2.2.1, .sl ⟨.loc 2, 0, 0, 0⟩ (q.1.2.1.2.2.1).length q.1.2.2.2.2.1, .sl ⟨.loc 3, 0, 0, 0⟩ (q.1.2.1.2.2.2.1).length q.1.2.2.2.2.2, .int .i64 q.1.2.1.2.2.2.2]]⟩) (fun q => 20 - q.1.1) ⟨(0, ((P', K', D', Z', u'), c1, c2, c3, c4)), by show 0 ≤ 20; omega, ts2, q1, q2, q3, q4⟩ (Le_intro [6, 7, 8, 9, 10] (by simp only [WL, WNL, swA_new, swA_ne, nest_sw_ne, mapLL, List.mem_cons, Nat.reduceAdd, Nat.reduceLT, Nat.reduceLeDiff, Nat.reduceEqDiff, okU, List.nodup_cons, List.not_mem_nil, toT, toL, toO, keysO, renl, rent, cll, clt, eq_self, AV.eqv, AC.eqv, eqvl, eqvt, Sl.eqv, rowsLe, mapLL, rowsCl, List.map_append, List.length_map, List.length_append, List.length_set, List.map_replicate, rowG, List.getElem?_cons_zero, List.getElem?_cons_succ, List.getElem?_nil, List.append_nil, List.nil_append, List.cons_append, ghosts, St.gh, Option.some.injEq, implies_true, setT, AV.ren, AC.ren, AV.cl, AC.cl, List.replicate_succ, List.replicate_zero, List.nodup_nil, List.length_nil, List.length_cons, List.getD_cons_zero, List.getD_cons_succ, ↓reduceIte]; try simp)) ?_
        rintro ⟨⟨j, ⟨⟨P2, K2, D2, Z2, u2⟩, d1, d2, d3, d4⟩⟩, hj, ht, x1, x2, x3, x4⟩
        dsimp only at hj ht x1 x2 x3 x4
        have hwj := wS (i := j) (by omega)
        obtain ⟨y1, y2, y3, y4, y5⟩ := (show sigOk P2 K2 D2 Z2 u2 from ht.1).1
        by_cases hgo2 : j < 20 ∧ u2 = 0
        · obtain ⟨hj2, hu2⟩ := hgo2
          have f1 : decide ((j : Int) < 20) = true := decide_eq_true (by omega)
          have f2 : decide (u2 = 0) = true := decide_eq_true hu2
          have hn := toll_next ht hu2
          obtain ⟨O, hO2⟩ : ∃ O, nextO P2 K2 D2 Z2 u2 = O := ⟨_, rfl⟩
          rw [hO2] at hn
          obtain ⟨⟨P3, K3, D3, Z3, u3⟩, g⟩ := O
          dsimp only at hn
          simp only [↓WP, ↓grdD, ↓grdT, ↓un_dead, ↓binVC, ↓buildVC, ↓sliceVC, WQ, WN, Int.reduceToNat, renl, cll, rent, clt, ↓reduceIte, Nat.reduceLeDiff, Nat.reduceEqDiff, Nat.reduceLT, reduceCtorEq, List.append_nil, Nat.reduceAdd, Nat.reduceSub, Nat.reduceBEq, forall_const, implies_true, cond_true, cond_false, AV.ren, AC.ren, AV.cl, AC.cl, eq_self, List.all_cons, List.all_nil, AV.eqv, AC.eqv, eqvl, eqvt, Sl.eqv, List.map_append, List.length_map, List.length_append, List.length_replicate, List.length_set, List.map_replicate, nilVC, zr_25, sz_25, el_22, zr_4, fl_25_4, sz_3, sz_4, fl_25_2, sz_23, el_23, fl_25_1, sz_22, fl_25_3, fl_25_0, bt_4, c_laws_big, c_impl_SigNew, c_spec_SigOk, c_laws_at, c_impl_SigSet, c_impl_SigMask, c_impl_SigSend, c_impl_SigNext, c_laws_has, c_impl_SigBack, f1, f2, hO2, hwj]
          repeat' (first | (refine And.intro (by first | omega | exact .inr trivial | exact ⟨by omega, .inr trivial⟩) ?_) | with_reducible refine And.intro ?_ ?_ | intro _)
          all_goals try omega
          all_goals try exact .inr trivial
          rename_i p hp
          obtain ⟨b1, b2, b3, b4⟩ := p
          obtain ⟨n1, n2, n3, n4⟩ := hp
          exact ⟨⟨(j + 1, ((P3, K3, D3, Z3, u3), b1, b2, b3, b4)), by show j + 1 ≤ 20; omega, hn, n1, n2, n3, n4⟩, Le_intro [5, 6, 7, 8, 4] (by simp only [WL, WNL, swA_new, swA_ne, nest_sw_ne, mapLL, List.mem_cons, Nat.reduceAdd, Nat.reduceLT, Nat.reduceLeDiff, Nat.reduceEqDiff, okU, List.nodup_cons, List.not_mem_nil, toT, toL, toO, keysO, renl, rent, cll, clt, eq_self, AV.eqv, AC.eqv, eqvl, eqvt, Sl.eqv, rowsLe, mapLL, rowsCl, List.map_append, List.length_map, List.length_append, List.length_set, List.map_replicate, rowG, List.getElem?_cons_zero, List.getElem?_cons_succ, List.getElem?_nil, List.append_nil, List.nil_append, List.cons_append, ghosts, St.gh, Option.some.injEq, implies_true, setT, AV.ren, AC.ren, AV.cl, AC.cl, List.replicate_succ, List.replicate_zero, List.nodup_nil, List.length_nil, List.length_cons, List.getD_cons_zero, List.getD_cons_succ, ↓reduceIte]; try simp), by show 20 - (j + 1) < 20 - j; omega⟩
        · have hu2 : ¬ u2 = 0 := fun h => by
            have hj20 : ¬ j < 20 := fun h' => hgo2 ⟨h', h⟩
            have := (ht.2.2 h).2
            omega
          have f2 : decide (u2 = 0) = false := decide_eq_false hu2
          have key : decide ((j : Int) < 20) = false ∨ decide ((j : Int) < 20) = true := by
            cases decide ((j : Int) < 20)
            · exact .inl rfl
            · exact .inr rfl
          rcases key with f1 | f1
          all_goals simp only [↓WP, ↓grdD, ↓grdT, ↓un_dead, ↓binVC, ↓buildVC, ↓sliceVC, WQ, WN, Int.reduceToNat, renl, cll, rent, clt, ↓reduceIte, Nat.reduceLeDiff, Nat.reduceEqDiff, Nat.reduceLT, reduceCtorEq, List.append_nil, Nat.reduceAdd, Nat.reduceSub, Nat.reduceBEq, forall_const, implies_true, cond_true, cond_false, AV.ren, AC.ren, AV.cl, AC.cl, eq_self, List.all_cons, List.all_nil, AV.eqv, AC.eqv, eqvl, eqvt, Sl.eqv, List.map_append, List.length_map, List.length_append, List.length_replicate, List.length_set, List.map_replicate, nilVC, zr_25, sz_25, el_22, zr_4, fl_25_4, sz_3, sz_4, fl_25_2, sz_23, el_23, fl_25_1, sz_22, fl_25_3, fl_25_0, bt_4, c_laws_big, c_impl_SigNew, c_spec_SigOk, c_laws_at, c_impl_SigSet, c_impl_SigMask, c_impl_SigSend, c_impl_SigNext, c_laws_has, c_impl_SigBack, f1, f2]
      · have hu : decide (u = 0) = false := decide_eq_false hu0
        obtain ⟨sd1, sd2⟩ := sig_dead hok hu0
        obtain ⟨O, hO⟩ : ∃ O, sendO P K D Z u 1 = O := ⟨_, rfl⟩
        obtain ⟨O2, hO2⟩ : ∃ O, nextO P K D Z u = O := ⟨_, rfl⟩
        rw [hO] at sd1
        rw [hO2] at sd2
        obtain ⟨⟨P', K', D', Z', u'⟩, r⟩ := O
        obtain ⟨⟨P2, K2, D2, Z2, u2⟩, g⟩ := O2
        dsimp only at sd1 sd2
        subst sd1
        have hz : decide (g = 0) = true := decide_eq_true sd2
        have key : decide ((i : Int) < 80) = false ∨ decide ((i : Int) < 80) = true := by
          cases decide ((i : Int) < 80)
          · exact .inl rfl
          · exact .inr rfl
        rcases key with hid | hid
        all_goals
          simp only [↓WP, ↓grdD, ↓grdT, ↓un_dead, ↓binVC, ↓buildVC, ↓sliceVC, WQ, WN, Int.reduceToNat, renl, cll, rent, clt, ↓reduceIte, Nat.reduceLeDiff, Nat.reduceEqDiff, Nat.reduceLT, reduceCtorEq, List.append_nil, Nat.reduceAdd, Nat.reduceSub, Nat.reduceBEq, forall_const, implies_true, cond_true, cond_false, AV.ren, AC.ren, AV.cl, AC.cl, eq_self, List.all_cons, List.all_nil, AV.eqv, AC.eqv, eqvl, eqvt, Sl.eqv, List.map_append, List.length_map, List.length_append, List.length_replicate, List.length_set, List.map_replicate, nilVC, zr_25, sz_25, el_22, zr_4, fl_25_4, sz_3, sz_4, fl_25_2, sz_23, el_23, fl_25_1, sz_22, fl_25_3, fl_25_0, bt_4, c_laws_big, c_impl_SigNew, c_spec_SigOk, c_laws_at, c_impl_SigSet, c_impl_SigMask, c_impl_SigSend, c_impl_SigNext, c_laws_has, c_impl_SigBack, hid, hu, hO, hO2, hz]
          repeat' (first | (refine And.intro (by first | omega | exact .inr trivial | exact ⟨by omega, .inr trivial⟩) ?_) | with_reducible refine And.intro ?_ ?_ | intro _)
          all_goals try omega
          all_goals try exact .inr trivial
end Go.Eng.T
