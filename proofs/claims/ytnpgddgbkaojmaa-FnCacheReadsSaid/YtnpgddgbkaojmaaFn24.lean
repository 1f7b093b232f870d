/- cache: a text that is drawn. -/
import Derived.Test.YtnpgddgbkaojmaaFn23
set_option linter.unusedVariables false
set_option linter.unusedSimpArgs false
set_option linter.unusedSectionVars false
namespace Go.Eng.T
open Go.Proofs
open Cel (enc dec)
set_option maxRecDepth 100000
set_option maxHeartbeats 8000000
def c_spec_l1New : Contract := ⟨54, fun args M => match args with
  | [.c (.sl a n c)] => .eff (RowOk UInt8 a n (M a.r)) Int (fun _ => True) (fun _ => .c (.ptr ⟨.loc 0, 0, 0, 0⟩)) (fun h => [.box 87 [.sl a.up n c, .int .i64 0, .int .i64 h]]) (fun _ => [])
  | _ => .bad⟩
theorem ok_spec_l1New : fnP Try.prog c_spec_l1New.f = true ∧ ∀ args M, (c_spec_l1New.sp args M).OK Try.prog c_spec_l1New.f args M := by
  refine ⟨fp_54, fun args M => ?_⟩
  unfold c_spec_l1New
  dsimp only
  split
  case h_2 => trivial
  rename_i a n ca
  intro ha
  obtain ⟨hs, X, hX, rfl, hat⟩ := ha.x
  refine goIn hf_54 rfl (nt := 32) rfl (rs := [.tmp 2]) rfl (C := []) trivial (q := fun _ => false) okQ_none mixed (O := fun _ => .nil) (by kernel_rfl) ?_
  simp only [↓WP, ↓grdD, ↓grdT, ↓un_dead, ↓binVC, ↓buildVC, ↓sliceVC, WQ, WN, Int.reduceToNat, renl, cll, rent, clt, ↓reduceIte, Nat.reduceLeDiff, Nat.reduceEqDiff, Nat.reduceLT, reduceCtorEq, List.append_nil, Nat.reduceAdd, Nat.reduceSub, Nat.reduceBEq, forall_const, implies_true, cond_true, cond_false, AV.ren, AC.ren, AV.cl, AC.cl, eq_self, List.all_cons, List.all_nil, AV.eqv, AC.eqv, eqvl, eqvt, Sl.eqv, List.map_append, List.length_map, List.length_append, List.length_replicate, List.length_set, List.map_replicate, nilVC, sd_46, el_46, sz_5, cv_5_3, zr_87, fs_87]
  refine loopI (J := {p : Nat × Int // p.1 ≤ X.length}) (fun p => ⟨slots 32 [(0, .c (.sl a.up X.length ca)), (3, I p.1.2), (4, I p.1.1)], M, [], []⟩) (fun p => X.length - p.1.1) ⟨(0, IntKind.i64.wrap (10101 + X.length)), by simp⟩ (Le_intro [] (by simp [WL, WNL, swA_new, swA_ne, nest_sw_ne, mapLL, List.mem_cons, Nat.reduceAdd, Nat.reduceLT, Nat.reduceLeDiff, Nat.reduceEqDiff, okU, List.nodup_cons, List.not_mem_nil, toT, toL, toO, keysO, renl, rent, cll, clt, eq_self, AV.eqv, AC.eqv, eqvl, eqvt, Sl.eqv, rowsLe, mapLL, rowsCl, List.map_append, List.length_map, List.length_append, List.length_set, List.map_replicate, rowG, List.getElem?_cons_zero, List.getElem?_cons_succ, List.getElem?_nil, List.append_nil, List.nil_append, List.cons_append, ghosts, St.gh, Option.some.injEq, implies_true, setT, AV.ren, AC.ren, AV.cl, AC.cl, List.replicate_succ, List.replicate_zero, List.nodup_nil, List.length_nil, List.length_cons, List.getD_cons_zero, List.getD_cons_succ, ↓reduceIte])) ?_
  rintro ⟨⟨i, h⟩, hi⟩
  dsimp only at hi
  have hw := wS (i := i) (by omega)
  rcases Nat.lt_or_ge i X.length with hlt | hge
  · obtain ⟨own, ty, cnt, cap, len, get, hM, hf, hic, hkn, hget⟩ := hat (by omega)
    simp only [↓WP, ↓grdD, ↓grdT, ↓un_dead, ↓binVC, ↓buildVC, ↓sliceVC, WQ, WN, Int.reduceToNat, renl, cll, rent, clt, ↓reduceIte, Nat.reduceLeDiff, Nat.reduceEqDiff, Nat.reduceLT, reduceCtorEq, List.append_nil, Nat.reduceAdd, Nat.reduceSub, Nat.reduceBEq, forall_const, implies_true, cond_true, cond_false, AV.ren, AC.ren, AV.cl, AC.cl, eq_self, List.all_cons, List.all_nil, AV.eqv, AC.eqv, eqvl, eqvt, Sl.eqv, List.map_append, List.length_map, List.length_append, List.length_replicate, List.length_set, List.map_replicate, nilVC, sd_46, el_46, sz_5, cv_5_3, zr_87, fs_87, dlt hlt, hw, hM, hf, hget i hlt]
    refine ⟨fun h1 => ?_, fun h1 => ?_⟩
    · repeat refine ⟨by omega, ?_⟩
      refine ⟨⟨(i + 1, ?h), hlt⟩, Le_intro [] ?g, by show X.length - (i + 1) < X.length - i; omega⟩
      case g =>
        simp [WL, WNL, swA_new, swA_ne, nest_sw_ne, mapLL, List.mem_cons, Nat.reduceAdd, Nat.reduceLT, Nat.reduceLeDiff, Nat.reduceEqDiff, okU, List.nodup_cons, List.not_mem_nil, toT, toL, toO, keysO, renl, rent, cll, clt, eq_self, AV.eqv, AC.eqv, eqvl, eqvt, Sl.eqv, rowsLe, mapLL, rowsCl, List.map_append, List.length_map, List.length_append, List.length_set, List.map_replicate, rowG, List.getElem?_cons_zero, List.getElem?_cons_succ, List.getElem?_nil, List.append_nil, List.nil_append, List.cons_append, ghosts, St.gh, Option.some.injEq, implies_true, setT, AV.ren, AC.ren, AV.cl, AC.cl, List.replicate_succ, List.replicate_zero, List.nodup_nil, List.length_nil, List.length_cons, List.getD_cons_zero, List.getD_cons_succ, ↓reduceIte]
        rfl
    · refine end_ret ?_
      simp only [↓WP, ↓grdD, ↓grdT, ↓un_dead, ↓binVC, ↓buildVC, ↓sliceVC, WQ, WN, Int.reduceToNat, renl, cll, rent, clt, ↓reduceIte, Nat.reduceLeDiff, Nat.reduceEqDiff, Nat.reduceLT, reduceCtorEq, List.append_nil, Nat.reduceAdd, Nat.reduceSub, Nat.reduceBEq, forall_const, implies_true, cond_true, cond_false, AV.ren, AC.ren, AV.cl, AC.cl, eq_self, List.all_cons, List.all_nil, AV.eqv, AC.eqv, eqvl, eqvt, Sl.eqv, List.map_append, List.length_map, List.length_append, List.length_replicate, List.length_set, List.map_replicate, nilVC, sd_46, el_46, sz_5, cv_5_3, zr_87, fs_87]
      refine ⟨h, [], [0], ?_⟩
      simp [WL, WNL, swA_new, swA_ne, nest_sw_ne, mapLL, List.mem_cons, Nat.reduceAdd, Nat.reduceLT, Nat.reduceLeDiff, Nat.reduceEqDiff, okU, List.nodup_cons, List.not_mem_nil, toT, toL, toO, keysO, renl, rent, cll, clt, eq_self, AV.eqv, AC.eqv, eqvl, eqvt, Sl.eqv, rowsLe, mapLL, rowsCl, List.map_append, List.length_map, List.length_append, List.length_set, List.map_replicate, rowG, List.getElem?_cons_zero, List.getElem?_cons_succ, List.getElem?_nil, List.append_nil, List.nil_append, List.cons_append, ghosts, St.gh, Option.some.injEq, implies_true, setT, AV.ren, AC.ren, AV.cl, AC.cl, List.replicate_succ, List.replicate_zero, List.nodup_nil, List.length_nil, List.length_cons, List.getD_cons_zero, List.getD_cons_succ, ↓reduceIte, retP]
  · obtain rfl : i = X.length := by omega
    simp only [↓WP, ↓grdD, ↓grdT, ↓un_dead, ↓binVC, ↓buildVC, ↓sliceVC, WQ, WN, Int.reduceToNat, renl, cll, rent, clt, ↓reduceIte, Nat.reduceLeDiff, Nat.reduceEqDiff, Nat.reduceLT, reduceCtorEq, List.append_nil, Nat.reduceAdd, Nat.reduceSub, Nat.reduceBEq, forall_const, implies_true, cond_true, cond_false, AV.ren, AC.ren, AV.cl, AC.cl, eq_self, List.all_cons, List.all_nil, AV.eqv, AC.eqv, eqvl, eqvt, Sl.eqv, List.map_append, List.length_map, List.length_append, List.length_replicate, List.length_set, List.map_replicate, nilVC, sd_46, el_46, sz_5, cv_5_3, zr_87, fs_87, dge hge, hw]
    refine end_ret ?_
    simp only [↓WP, ↓grdD, ↓grdT, ↓un_dead, ↓binVC, ↓buildVC, ↓sliceVC, WQ, WN, Int.reduceToNat, renl, cll, rent, clt, ↓reduceIte, Nat.reduceLeDiff, Nat.reduceEqDiff, Nat.reduceLT, reduceCtorEq, List.append_nil, Nat.reduceAdd, Nat.reduceSub, Nat.reduceBEq, forall_const, implies_true, cond_true, cond_false, AV.ren, AC.ren, AV.cl, AC.cl, eq_self, List.all_cons, List.all_nil, AV.eqv, AC.eqv, eqvl, eqvt, Sl.eqv, List.map_append, List.length_map, List.length_append, List.length_replicate, List.length_set, List.map_replicate, nilVC, sd_46, el_46, sz_5, cv_5_3, zr_87, fs_87]
    refine ⟨h, [], [0], ?_⟩
    simp [WL, WNL, swA_new, swA_ne, nest_sw_ne, mapLL, List.mem_cons, Nat.reduceAdd, Nat.reduceLT, Nat.reduceLeDiff, Nat.reduceEqDiff, okU, List.nodup_cons, List.not_mem_nil, toT, toL, toO, keysO, renl, rent, cll, clt, eq_self, AV.eqv, AC.eqv, eqvl, eqvt, Sl.eqv, rowsLe, mapLL, rowsCl, List.map_append, List.length_map, List.length_append, List.length_set, List.map_replicate, rowG, List.getElem?_cons_zero, List.getElem?_cons_succ, List.getElem?_nil, List.append_nil, List.nil_append, List.cons_append, ghosts, St.gh, Option.some.injEq, implies_true, setT, AV.ren, AC.ren, AV.cl, AC.cl, List.replicate_succ, List.replicate_zero, List.nodup_nil, List.length_nil, List.length_cons, List.getD_cons_zero, List.getD_cons_succ, ↓reduceIte, retP]
theorem q_spec_l1New : Quiet c_spec_l1New := by
  intro args M
  unfold c_spec_l1New
  dsimp only
  split <;> first | trivial | (intro _; rfl)
def c_spec_l1Size : Contract := ⟨57, fun args M => match args with
  | [.c (.sl _ n _), .c (.int .i64 m)] => .eff (n ≤ 4611686018427387904) Int (fun q => q ≤ m) (fun q => I q) (fun _ => []) (fun _ => [])
  | _ => .bad⟩
theorem ok_spec_l1Size : fnP Try.prog c_spec_l1Size.f = true ∧ ∀ args M, (c_spec_l1Size.sp args M).OK Try.prog c_spec_l1Size.f args M := by
  refine ⟨fp_57, fun args M => ?_⟩
  unfold c_spec_l1Size
  dsimp only
  split
  case h_2 => trivial
  rename_i a n ca m
  intro hn
  refine goIn hf_57 rfl (nt := 15) rfl (rs := [.tmp 4]) rfl (C := []) trivial (q := fun _ => false) okQ_none mixed (O := fun _ => .nil) (by kernel_rfl) ?_
  simp only [↓WP, ↓grdD, ↓grdT, ↓un_dead, ↓binVC, ↓buildVC, ↓sliceVC, WQ, WN, Int.reduceToNat, renl, cll, rent, clt, ↓reduceIte, Nat.reduceLeDiff, Nat.reduceEqDiff, Nat.reduceLT, reduceCtorEq, List.append_nil, Nat.reduceAdd, Nat.reduceSub, Nat.reduceBEq, forall_const, implies_true, cond_true, cond_false, AV.ren, AC.ren, AV.cl, AC.cl, eq_self, List.all_cons, List.all_nil, AV.eqv, AC.eqv, eqvl, eqvt, Sl.eqv, List.map_append, List.length_map, List.length_append, List.length_replicate, List.length_set, List.map_replicate, nilVC, sd_46]
  repeat' (first | with_reducible refine And.intro ?_ ?_ | intro _)
  all_goals try omega
  all_goals
    refine end_ret ?_
    simp only [↓WP, ↓grdD, ↓grdT, ↓un_dead, ↓binVC, ↓buildVC, ↓sliceVC, WQ, WN, Int.reduceToNat, renl, cll, rent, clt, ↓reduceIte, Nat.reduceLeDiff, Nat.reduceEqDiff, Nat.reduceLT, reduceCtorEq, List.append_nil, Nat.reduceAdd, Nat.reduceSub, Nat.reduceBEq, forall_const, implies_true, cond_true, cond_false, AV.ren, AC.ren, AV.cl, AC.cl, eq_self, List.all_cons, List.all_nil, AV.eqv, AC.eqv, eqvl, eqvt, Sl.eqv, List.map_append, List.length_map, List.length_append, List.length_replicate, List.length_set, List.map_replicate, nilVC, sd_46]
    apply Exists.intro
    refine ⟨[], [], ?q1, ⟨rfl, List.nodup_nil, trivial, ?k1, ?o1⟩, ⟨?e1, ?cl⟩, ?u1⟩
    case e1 => exact ⟨rfl, rfl⟩
    case cl => trivial
    case o1 => simp [WL, WNL, swA_new, swA_ne, nest_sw_ne, mapLL, List.mem_cons, Nat.reduceAdd, Nat.reduceLT, Nat.reduceLeDiff, Nat.reduceEqDiff, okU, List.nodup_cons, List.not_mem_nil, toT, toL, toO, keysO, renl, rent, cll, clt, eq_self, AV.eqv, AC.eqv, eqvl, eqvt, Sl.eqv, rowsLe, mapLL, rowsCl, List.map_append, List.length_map, List.length_append, List.length_set, List.map_replicate, rowG, List.getElem?_cons_zero, List.getElem?_cons_succ, List.getElem?_nil, List.append_nil, List.nil_append, List.cons_append, ghosts, St.gh, Option.some.injEq, implies_true, setT, AV.ren, AC.ren, AV.cl, AC.cl, List.replicate_succ, List.replicate_zero, List.nodup_nil, List.length_nil, List.length_cons, List.getD_cons_zero, List.getD_cons_succ, ↓reduceIte]
    case k1 => simp [WL, WNL, swA_new, swA_ne, nest_sw_ne, mapLL, List.mem_cons, Nat.reduceAdd, Nat.reduceLT, Nat.reduceLeDiff, Nat.reduceEqDiff, okU, List.nodup_cons, List.not_mem_nil, toT, toL, toO, keysO, renl, rent, cll, clt, eq_self, AV.eqv, AC.eqv, eqvl, eqvt, Sl.eqv, rowsLe, mapLL, rowsCl, List.map_append, List.length_map, List.length_append, List.length_set, List.map_replicate, rowG, List.getElem?_cons_zero, List.getElem?_cons_succ, List.getElem?_nil, List.append_nil, List.nil_append, List.cons_append, ghosts, St.gh, Option.some.injEq, implies_true, setT, AV.ren, AC.ren, AV.cl, AC.cl, List.replicate_succ, List.replicate_zero, List.nodup_nil, List.length_nil, List.length_cons, List.getD_cons_zero, List.getD_cons_succ, ↓reduceIte]
    case u1 => simp [okU]
    case q1 => first | omega | (simp only [decide_eq_false_iff_not] at *; omega)
def c_spec_l1Byte : Contract := ⟨77, fun args M => match args with
  | [.c (.ptr a)] => curK a (M a.r) fun r t b n c p _ => .eff (CurOk b n p (M b.r)) (Int × Int × Int) (fun q => (0 ≤ q.1 ∧ q.1 ≤ 255) ∧ 0 ≤ q.2.1 ∧ q.2.1 ≤ n) (fun q => I q.1) (fun _ => []) (fun q => [(r, .box t [.sl b.up n c, .int .i64 q.2.1, .int .i64 q.2.2])])
  | _ => .bad⟩
theorem ok_spec_l1Byte : fnP Try.prog c_spec_l1Byte.f = true ∧ ∀ args M, (c_spec_l1Byte.sp args M).OK Try.prog c_spec_l1Byte.f args M := by
  refine ⟨fp_77, fun args M => ?_⟩
  unfold c_spec_l1Byte
  dsimp only
  split
  case h_2 => trivial
  rename_i a
  refine curK_cases ?_
  rintro r t b n c p h rfl hr
  rintro ⟨hb, hp0, hpn⟩
  obtain ⟨hs, X, hX, rfl, hat⟩ := hb.x
  dsimp only at hr
  refine goIn hf_77 rfl (nt := 58) rfl (rs := [.tmp 2]) rfl (C := []) trivial (q := fun f => [].contains f) trivial mixed (O := ots [(2, otl [0, 1, 2, 3, 4, 5, 6, 7, 8, 9, 10, 11, 12] .nil), (3, otl [0, 1, 2, 3, 4, 5, 6, 7, 8, 9] .nil), (4, otl [0, 1, 2, 3, 4, 5, 6, 7, 8, 9, 10, 11, 12, 13, 14] .nil)]) (by kernel_rfl) ?_
  by_cases hp : p < X.length
  · obtain ⟨own, ty, cnt, cap, len, get, hM, hf, hic, hkn, hget⟩ := hat (by omega)
    have hne : ¬ r = b.r := by rintro rfl; rw [hr] at hM; cases hM
    simp only [↓WP, ↓grdD, ↓grdT, ↓un_dead, ↓binVC, ↓buildVC, ↓sliceVC, WQ, WN, Int.reduceToNat, renl, cll, rent, clt, ↓reduceIte, Nat.reduceLeDiff, Nat.reduceEqDiff, Nat.reduceLT, reduceCtorEq, List.append_nil, Nat.reduceAdd, Nat.reduceSub, Nat.reduceBEq, forall_const, implies_true, cond_true, cond_false, AV.ren, AC.ren, AV.cl, AC.cl, eq_self, List.all_cons, List.all_nil, AV.eqv, AC.eqv, eqvl, eqvt, Sl.eqv, List.map_append, List.length_map, List.length_append, List.length_replicate, List.length_set, List.map_replicate, nilVC, fl_87_2, sz_3, fl_87_1, fl_87_0, sz_46, sd_46, el_46, sz_5, cv_5_3, hr, hM, hf, if_neg hne, decide_eq_true hp, hget p.toNat (by omega), w64 (n := p + 1) (by omega) (by omega)]
    repeat refine ⟨by omega, ?_⟩
    refine end_ret ?_
    simp only [↓WP, ↓grdD, ↓grdT, ↓un_dead, ↓binVC, ↓buildVC, ↓sliceVC, WQ, WN, Int.reduceToNat, renl, cll, rent, clt, ↓reduceIte, Nat.reduceLeDiff, Nat.reduceEqDiff, Nat.reduceLT, reduceCtorEq, List.append_nil, Nat.reduceAdd, Nat.reduceSub, Nat.reduceBEq, forall_const, implies_true, cond_true, cond_false, AV.ren, AC.ren, AV.cl, AC.cl, eq_self, List.all_cons, List.all_nil, AV.eqv, AC.eqv, eqvl, eqvt, Sl.eqv, List.map_append, List.length_map, List.length_append, List.length_replicate, List.length_set, List.map_replicate, nilVC, fl_87_2, sz_3, fl_87_1, fl_87_0, sz_46, sd_46, el_46, sz_5, cv_5_3]
    apply Exists.intro (Prod.mk _ (Prod.mk _ _))
    refine ⟨[], [], ?c1, ⟨rfl, List.nodup_nil, trivial, ?k1, ?o1⟩, ⟨?e1, trivial⟩, ?u1⟩
    case e1 => exact ⟨rfl, rfl⟩
    case o1 =>
      simp only [WL, WNL, swA_new, swA_ne, nest_sw_ne, mapLL, List.mem_cons, Nat.reduceAdd, Nat.reduceLT, Nat.reduceLeDiff, Nat.reduceEqDiff, okU, List.nodup_cons, List.not_mem_nil, toT, toL, toO, keysO, renl, rent, cll, clt, eq_self, AV.eqv, AC.eqv, eqvl, eqvt, Sl.eqv, rowsLe, mapLL, rowsCl, List.map_append, List.length_map, List.length_append, List.length_set, List.map_replicate, rowG, List.getElem?_cons_zero, List.getElem?_cons_succ, List.getElem?_nil, List.append_nil, List.nil_append, List.cons_append, ghosts, St.gh, Option.some.injEq, implies_true, setT, AV.ren, AC.ren, AV.cl, AC.cl, List.replicate_succ, List.replicate_zero, List.nodup_nil, List.length_nil, List.length_cons, List.getD_cons_zero, List.getD_cons_succ, ↓reduceIte]
      exact ⟨rfl, rfl⟩
    case k1 => simp [WL, WNL, swA_new, swA_ne, nest_sw_ne, mapLL, List.mem_cons, Nat.reduceAdd, Nat.reduceLT, Nat.reduceLeDiff, Nat.reduceEqDiff, okU, List.nodup_cons, List.not_mem_nil, toT, toL, toO, keysO, renl, rent, cll, clt, eq_self, AV.eqv, AC.eqv, eqvl, eqvt, Sl.eqv, rowsLe, mapLL, rowsCl, List.map_append, List.length_map, List.length_append, List.length_set, List.map_replicate, rowG, List.getElem?_cons_zero, List.getElem?_cons_succ, List.getElem?_nil, List.append_nil, List.nil_append, List.cons_append, ghosts, St.gh, Option.some.injEq, implies_true, setT, AV.ren, AC.ren, AV.cl, AC.cl, List.replicate_succ, List.replicate_zero, List.nodup_nil, List.length_nil, List.length_cons, List.getD_cons_zero, List.getD_cons_succ, ↓reduceIte]
    case u1 => simp [okU, hr]
    case c1 => exact ⟨and_byte _, (by omega : 0 ≤ p + 1), (by omega : p + 1 ≤ X.length)⟩
  · simp only [↓WP, ↓grdD, ↓grdT, ↓un_dead, ↓binVC, ↓buildVC, ↓sliceVC, WQ, WN, Int.reduceToNat, renl, cll, rent, clt, ↓reduceIte, Nat.reduceLeDiff, Nat.reduceEqDiff, Nat.reduceLT, reduceCtorEq, List.append_nil, Nat.reduceAdd, Nat.reduceSub, Nat.reduceBEq, forall_const, implies_true, cond_true, cond_false, AV.ren, AC.ren, AV.cl, AC.cl, eq_self, List.all_cons, List.all_nil, AV.eqv, AC.eqv, eqvl, eqvt, Sl.eqv, List.map_append, List.length_map, List.length_append, List.length_replicate, List.length_set, List.map_replicate, nilVC, fl_87_2, sz_3, fl_87_1, fl_87_0, sz_46, sd_46, el_46, sz_5, cv_5_3, hr, decide_eq_false hp]
    repeat refine ⟨by omega, ?_⟩
    refine end_ret ?_
    simp only [↓WP, ↓grdD, ↓grdT, ↓un_dead, ↓binVC, ↓buildVC, ↓sliceVC, WQ, WN, Int.reduceToNat, renl, cll, rent, clt, ↓reduceIte, Nat.reduceLeDiff, Nat.reduceEqDiff, Nat.reduceLT, reduceCtorEq, List.append_nil, Nat.reduceAdd, Nat.reduceSub, Nat.reduceBEq, forall_const, implies_true, cond_true, cond_false, AV.ren, AC.ren, AV.cl, AC.cl, eq_self, List.all_cons, List.all_nil, AV.eqv, AC.eqv, eqvl, eqvt, Sl.eqv, List.map_append, List.length_map, List.length_append, List.length_replicate, List.length_set, List.map_replicate, nilVC, fl_87_2, sz_3, fl_87_1, fl_87_0, sz_46, sd_46, el_46, sz_5, cv_5_3]
    apply Exists.intro (Prod.mk _ (Prod.mk _ _))
    refine ⟨[], [], ?c2, ⟨rfl, List.nodup_nil, trivial, ?k2, ?o2⟩, ⟨?e2, trivial⟩, ?u2⟩
    case e2 => exact ⟨rfl, rfl⟩
    case o2 =>
      simp only [WL, WNL, swA_new, swA_ne, nest_sw_ne, mapLL, List.mem_cons, Nat.reduceAdd, Nat.reduceLT, Nat.reduceLeDiff, Nat.reduceEqDiff, okU, List.nodup_cons, List.not_mem_nil, toT, toL, toO, keysO, renl, rent, cll, clt, eq_self, AV.eqv, AC.eqv, eqvl, eqvt, Sl.eqv, rowsLe, mapLL, rowsCl, List.map_append, List.length_map, List.length_append, List.length_set, List.map_replicate, rowG, List.getElem?_cons_zero, List.getElem?_cons_succ, List.getElem?_nil, List.append_nil, List.nil_append, List.cons_append, ghosts, St.gh, Option.some.injEq, implies_true, setT, AV.ren, AC.ren, AV.cl, AC.cl, List.replicate_succ, List.replicate_zero, List.nodup_nil, List.length_nil, List.length_cons, List.getD_cons_zero, List.getD_cons_succ, ↓reduceIte]
      exact ⟨rfl, rfl⟩
    case k2 => simp [WL, WNL, swA_new, swA_ne, nest_sw_ne, mapLL, List.mem_cons, Nat.reduceAdd, Nat.reduceLT, Nat.reduceLeDiff, Nat.reduceEqDiff, okU, List.nodup_cons, List.not_mem_nil, toT, toL, toO, keysO, renl, rent, cll, clt, eq_self, AV.eqv, AC.eqv, eqvl, eqvt, Sl.eqv, rowsLe, mapLL, rowsCl, List.map_append, List.length_map, List.length_append, List.length_set, List.map_replicate, rowG, List.getElem?_cons_zero, List.getElem?_cons_succ, List.getElem?_nil, List.append_nil, List.nil_append, List.cons_append, ghosts, St.gh, Option.some.injEq, implies_true, setT, AV.ren, AC.ren, AV.cl, AC.cl, List.replicate_succ, List.replicate_zero, List.nodup_nil, List.length_nil, List.length_cons, List.getD_cons_zero, List.getD_cons_succ, ↓reduceIte]
    case u2 => simp [okU, hr]
    case c2 => exact ⟨and_byte _, hp0, hpn⟩
def c_spec_l1Below : Contract := ⟨71, fun args M => match args with
  | [.c (.ptr a), .c (.int .i64 k)] => curK a (M a.r) fun r t b n c p _ => .eff (CurOk b n p (M b.r)) (Int × Int × Int) (fun q => ((k ≤ 0 → q.1 = 0) ∧ (0 < k → 0 ≤ q.1 ∧ q.1 < k)) ∧ 0 ≤ q.2.1 ∧ q.2.1 ≤ n) (fun q => I q.1) (fun _ => []) (fun q => [(r, .box t [.sl b.up n c, .int .i64 q.2.1, .int .i64 q.2.2])])
  | _ => .bad⟩
theorem ok_spec_l1Below : fnP Try.prog c_spec_l1Below.f = true ∧ ∀ args M, (c_spec_l1Below.sp args M).OK Try.prog c_spec_l1Below.f args M := by
  refine ⟨fp_71, fun args M => ?_⟩
  unfold c_spec_l1Below
  dsimp only
  split
  case h_2 => trivial
  rename_i a k
  refine curK_cases ?_
  rintro r t b n c p h rfl hr
  rintro ⟨hb, hp0, hpn⟩
  dsimp only at hr
  have hal := cur_alias hb hr
  refine goIn hf_71 rfl (nt := 37) rfl (rs := [.tmp 4]) rfl (C := [c_spec_l1Byte]) ⟨(by first | exact .inl ok_spec_l1Byte | exact ok_spec_l1Byte), trivial⟩ (q := fun _ => false) okQ_none mixed (O := fun _ => .nil) (by kernel_rfl) ?_
  rcases Int.lt_or_le 0 k with h0 | h0
  · rcases Int.lt_or_le 256 k with h1 | h1
    · simp only [↓WP, ↓grdD, ↓grdT, ↓un_dead, ↓binVC, ↓buildVC, ↓sliceVC, WQ, WN, Int.reduceToNat, renl, cll, rent, clt, ↓reduceIte, Nat.reduceLeDiff, Nat.reduceEqDiff, Nat.reduceLT, reduceCtorEq, List.append_nil, Nat.reduceAdd, Nat.reduceSub, Nat.reduceBEq, forall_const, implies_true, cond_true, cond_false, AV.ren, AC.ren, AV.cl, AC.cl, eq_self, List.all_cons, List.all_nil, AV.eqv, AC.eqv, eqvl, eqvt, Sl.eqv, List.map_append, List.length_map, List.length_append, List.length_replicate, List.length_set, List.map_replicate, nilVC, c_spec_l1Byte, hr, hb, hal, decide_eq_false (Int.not_le.2 h0), decide_eq_false (Int.not_le.2 h1)]
      refine ⟨⟨hp0, hpn⟩, ?_⟩
      rintro ⟨x1, p1, k1⟩ ⟨e1, f1⟩
      refine ⟨f1, ?_⟩
      rintro ⟨x2, p2, k2⟩ ⟨e2, f2⟩
      refine ⟨f2, ?_⟩
      rintro ⟨x3, p3, k3⟩ ⟨e3, f3⟩
      refine ⟨f3, ?_⟩
      rintro ⟨x4, p4, k4⟩ ⟨e4, f4⟩
      dsimp only at e1 f1 e2 f2 e3 f3 e4 f4
      refine ⟨by omega, ?_⟩
      rw [w64 (n := x1 * 16777216) (by omega) (by omega), w64 (n := x2 * 65536) (by omega) (by omega), w64 (n := x3 * 256) (by omega) (by omega), w64 (n := x1 * 16777216 + x2 * 65536) (by omega) (by omega), w64 (n := x1 * 16777216 + x2 * 65536 + x3 * 256) (by omega) (by omega), w64 (n := x1 * 16777216 + x2 * 65536 + x3 * 256 + x4) (by omega) (by omega)]
      refine end_ret ?_
      simp only [↓WP, ↓grdD, ↓grdT, ↓un_dead, ↓binVC, ↓buildVC, ↓sliceVC, WQ, WN, Int.reduceToNat, renl, cll, rent, clt, ↓reduceIte, Nat.reduceLeDiff, Nat.reduceEqDiff, Nat.reduceLT, reduceCtorEq, List.append_nil, Nat.reduceAdd, Nat.reduceSub, Nat.reduceBEq, forall_const, implies_true, cond_true, cond_false, AV.ren, AC.ren, AV.cl, AC.cl, eq_self, List.all_cons, List.all_nil, AV.eqv, AC.eqv, eqvl, eqvt, Sl.eqv, List.map_append, List.length_map, List.length_append, List.length_replicate, List.length_set, List.map_replicate, nilVC, c_spec_l1Byte]
      apply Exists.intro (Prod.mk _ (Prod.mk _ _))
      refine ⟨[], [], ?c1, ⟨rfl, List.nodup_nil, trivial, ?k1, ?o1⟩, ⟨?e1, trivial⟩, ?u1⟩
      case e1 => exact ⟨rfl, rfl⟩
      case o1 =>
        simp only [WL, WNL, swA_new, swA_ne, nest_sw_ne, mapLL, List.mem_cons, Nat.reduceAdd, Nat.reduceLT, Nat.reduceLeDiff, Nat.reduceEqDiff, okU, List.nodup_cons, List.not_mem_nil, toT, toL, toO, keysO, renl, rent, cll, clt, eq_self, AV.eqv, AC.eqv, eqvl, eqvt, Sl.eqv, rowsLe, mapLL, rowsCl, List.map_append, List.length_map, List.length_append, List.length_set, List.map_replicate, rowG, List.getElem?_cons_zero, List.getElem?_cons_succ, List.getElem?_nil, List.append_nil, List.nil_append, List.cons_append, ghosts, St.gh, Option.some.injEq, implies_true, setT, AV.ren, AC.ren, AV.cl, AC.cl, List.replicate_succ, List.replicate_zero, List.nodup_nil, List.length_nil, List.length_cons, List.getD_cons_zero, List.getD_cons_succ, ↓reduceIte, hr]
        exact ⟨rfl, rfl⟩
      case k1 => simp [WL, WNL, swA_new, swA_ne, nest_sw_ne, mapLL, List.mem_cons, Nat.reduceAdd, Nat.reduceLT, Nat.reduceLeDiff, Nat.reduceEqDiff, okU, List.nodup_cons, List.not_mem_nil, toT, toL, toO, keysO, renl, rent, cll, clt, eq_self, AV.eqv, AC.eqv, eqvl, eqvt, Sl.eqv, rowsLe, mapLL, rowsCl, List.map_append, List.length_map, List.length_append, List.length_set, List.map_replicate, rowG, List.getElem?_cons_zero, List.getElem?_cons_succ, List.getElem?_nil, List.append_nil, List.nil_append, List.cons_append, ghosts, St.gh, Option.some.injEq, implies_true, setT, AV.ren, AC.ren, AV.cl, AC.cl, List.replicate_succ, List.replicate_zero, List.nodup_nil, List.length_nil, List.length_cons, List.getD_cons_zero, List.getD_cons_succ, ↓reduceIte]
      case u1 => simp [okU, hr]
      case c1 => exact ⟨⟨fun h => absurd h (by omega), fun _ => tmod_range (by omega) h0⟩, f4⟩
    · simp only [↓WP, ↓grdD, ↓grdT, ↓un_dead, ↓binVC, ↓buildVC, ↓sliceVC, WQ, WN, Int.reduceToNat, renl, cll, rent, clt, ↓reduceIte, Nat.reduceLeDiff, Nat.reduceEqDiff, Nat.reduceLT, reduceCtorEq, List.append_nil, Nat.reduceAdd, Nat.reduceSub, Nat.reduceBEq, forall_const, implies_true, cond_true, cond_false, AV.ren, AC.ren, AV.cl, AC.cl, eq_self, List.all_cons, List.all_nil, AV.eqv, AC.eqv, eqvl, eqvt, Sl.eqv, List.map_append, List.length_map, List.length_append, List.length_replicate, List.length_set, List.map_replicate, nilVC, c_spec_l1Byte, hr, hb, hal, decide_eq_false (Int.not_le.2 h0), decide_eq_true h1]
      refine ⟨⟨hp0, hpn⟩, ?_⟩
      rintro ⟨x1, p1, k1⟩ ⟨e1, f1⟩
      dsimp only at e1 f1
      refine ⟨by omega, ?_⟩
      refine end_ret ?_
      simp only [↓WP, ↓grdD, ↓grdT, ↓un_dead, ↓binVC, ↓buildVC, ↓sliceVC, WQ, WN, Int.reduceToNat, renl, cll, rent, clt, ↓reduceIte, Nat.reduceLeDiff, Nat.reduceEqDiff, Nat.reduceLT, reduceCtorEq, List.append_nil, Nat.reduceAdd, Nat.reduceSub, Nat.reduceBEq, forall_const, implies_true, cond_true, cond_false, AV.ren, AC.ren, AV.cl, AC.cl, eq_self, List.all_cons, List.all_nil, AV.eqv, AC.eqv, eqvl, eqvt, Sl.eqv, List.map_append, List.length_map, List.length_append, List.length_replicate, List.length_set, List.map_replicate, nilVC, c_spec_l1Byte]
      apply Exists.intro (Prod.mk _ (Prod.mk _ _))
      refine ⟨[], [], ?c2, ⟨rfl, List.nodup_nil, trivial, ?k2, ?o2⟩, ⟨?e2, trivial⟩, ?u2⟩
      case e2 => exact ⟨rfl, rfl⟩
      case o2 =>
        simp only [WL, WNL, swA_new, swA_ne, nest_sw_ne, mapLL, List.mem_cons, Nat.reduceAdd, Nat.reduceLT, Nat.reduceLeDiff, Nat.reduceEqDiff, okU, List.nodup_cons, List.not_mem_nil, toT, toL, toO, keysO, renl, rent, cll, clt, eq_self, AV.eqv, AC.eqv, eqvl, eqvt, Sl.eqv, rowsLe, mapLL, rowsCl, List.map_append, List.length_map, List.length_append, List.length_set, List.map_replicate, rowG, List.getElem?_cons_zero, List.getElem?_cons_succ, List.getElem?_nil, List.append_nil, List.nil_append, List.cons_append, ghosts, St.gh, Option.some.injEq, implies_true, setT, AV.ren, AC.ren, AV.cl, AC.cl, List.replicate_succ, List.replicate_zero, List.nodup_nil, List.length_nil, List.length_cons, List.getD_cons_zero, List.getD_cons_succ, ↓reduceIte, hr]
        exact ⟨rfl, rfl⟩
      case k2 => simp [WL, WNL, swA_new, swA_ne, nest_sw_ne, mapLL, List.mem_cons, Nat.reduceAdd, Nat.reduceLT, Nat.reduceLeDiff, Nat.reduceEqDiff, okU, List.nodup_cons, List.not_mem_nil, toT, toL, toO, keysO, renl, rent, cll, clt, eq_self, AV.eqv, AC.eqv, eqvl, eqvt, Sl.eqv, rowsLe, mapLL, rowsCl, List.map_append, List.length_map, List.length_append, List.length_set, List.map_replicate, rowG, List.getElem?_cons_zero, List.getElem?_cons_succ, List.getElem?_nil, List.append_nil, List.nil_append, List.cons_append, ghosts, St.gh, Option.some.injEq, implies_true, setT, AV.ren, AC.ren, AV.cl, AC.cl, List.replicate_succ, List.replicate_zero, List.nodup_nil, List.length_nil, List.length_cons, List.getD_cons_zero, List.getD_cons_succ, ↓reduceIte]
      case u2 => simp [okU, hr]
      case c2 => exact ⟨⟨fun h => absurd h (by omega), fun _ => tmod_range (by omega) h0⟩, f1⟩
  · simp only [↓WP, ↓grdD, ↓grdT, ↓un_dead, ↓binVC, ↓buildVC, ↓sliceVC, WQ, WN, Int.reduceToNat, renl, cll, rent, clt, ↓reduceIte, Nat.reduceLeDiff, Nat.reduceEqDiff, Nat.reduceLT, reduceCtorEq, List.append_nil, Nat.reduceAdd, Nat.reduceSub, Nat.reduceBEq, forall_const, implies_true, cond_true, cond_false, AV.ren, AC.ren, AV.cl, AC.cl, eq_self, List.all_cons, List.all_nil, AV.eqv, AC.eqv, eqvl, eqvt, Sl.eqv, List.map_append, List.length_map, List.length_append, List.length_replicate, List.length_set, List.map_replicate, nilVC, c_spec_l1Byte, hr, decide_eq_true h0]
    refine end_ret ?_
    simp only [↓WP, ↓grdD, ↓grdT, ↓un_dead, ↓binVC, ↓buildVC, ↓sliceVC, WQ, WN, Int.reduceToNat, renl, cll, rent, clt, ↓reduceIte, Nat.reduceLeDiff, Nat.reduceEqDiff, Nat.reduceLT, reduceCtorEq, List.append_nil, Nat.reduceAdd, Nat.reduceSub, Nat.reduceBEq, forall_const, implies_true, cond_true, cond_false, AV.ren, AC.ren, AV.cl, AC.cl, eq_self, List.all_cons, List.all_nil, AV.eqv, AC.eqv, eqvl, eqvt, Sl.eqv, List.map_append, List.length_map, List.length_append, List.length_replicate, List.length_set, List.map_replicate, nilVC, c_spec_l1Byte]
    apply Exists.intro (Prod.mk _ (Prod.mk _ _))
    refine ⟨[], [], ?c3, ⟨rfl, List.nodup_nil, trivial, ?k3, ?o3⟩, ⟨?e3, trivial⟩, ?u3⟩
    case e3 => exact ⟨rfl, rfl⟩
    case o3 =>
      simp only [WL, WNL, swA_new, swA_ne, nest_sw_ne, mapLL, List.mem_cons, Nat.reduceAdd, Nat.reduceLT, Nat.reduceLeDiff, Nat.reduceEqDiff, okU, List.nodup_cons, List.not_mem_nil, toT, toL, toO, keysO, renl, rent, cll, clt, eq_self, AV.eqv, AC.eqv, eqvl, eqvt, Sl.eqv, rowsLe, mapLL, rowsCl, List.map_append, List.length_map, List.length_append, List.length_set, List.map_replicate, rowG, List.getElem?_cons_zero, List.getElem?_cons_succ, List.getElem?_nil, List.append_nil, List.nil_append, List.cons_append, ghosts, St.gh, Option.some.injEq, implies_true, setT, AV.ren, AC.ren, AV.cl, AC.cl, List.replicate_succ, List.replicate_zero, List.nodup_nil, List.length_nil, List.length_cons, List.getD_cons_zero, List.getD_cons_succ, ↓reduceIte, hr]
      exact ⟨rfl, rfl⟩
    case k3 => simp [WL, WNL, swA_new, swA_ne, nest_sw_ne, mapLL, List.mem_cons, Nat.reduceAdd, Nat.reduceLT, Nat.reduceLeDiff, Nat.reduceEqDiff, okU, List.nodup_cons, List.not_mem_nil, toT, toL, toO, keysO, renl, rent, cll, clt, eq_self, AV.eqv, AC.eqv, eqvl, eqvt, Sl.eqv, rowsLe, mapLL, rowsCl, List.map_append, List.length_map, List.length_append, List.length_set, List.map_replicate, rowG, List.getElem?_cons_zero, List.getElem?_cons_succ, List.getElem?_nil, List.append_nil, List.nil_append, List.cons_append, ghosts, St.gh, Option.some.injEq, implies_true, setT, AV.ren, AC.ren, AV.cl, AC.cl, List.replicate_succ, List.replicate_zero, List.nodup_nil, List.length_nil, List.length_cons, List.getD_cons_zero, List.getD_cons_succ, ↓reduceIte]
    case u3 => simp [okU, hr]
    case c3 => exact ⟨⟨fun _ => rfl, fun h => absurd h (by omega)⟩, hp0, hpn⟩
def c_spec_l1Once : Contract := ⟨73, fun args M => match args with
  | [.c (.ptr a), .c (.int .i64 _)] => curK a (M a.r) fun r t b n c p _ => .eff (CurOk b n p (M b.r)) (Bool × Int × Int) (fun q => 0 ≤ q.2.1 ∧ q.2.1 ≤ n) (fun q => Eng.B q.1) (fun _ => []) (fun q => [(r, .box t [.sl b.up n c, .int .i64 q.2.1, .int .i64 q.2.2])])
  | _ => .bad⟩
theorem ok_spec_l1Once : fnP Try.prog c_spec_l1Once.f = true ∧ ∀ args M, (c_spec_l1Once.sp args M).OK Try.prog c_spec_l1Once.f args M := by
  refine ⟨fp_73, fun args M => ?_⟩
  unfold c_spec_l1Once
  dsimp only
  split
  case h_2 => trivial
  rename_i a k
  refine curK_cases ?_
  rintro r t b n c p h rfl hr
  rintro ⟨hb, hp0, hpn⟩
  dsimp only at hr
  have hal := cur_alias hb hr
  refine goIn hf_73 rfl (nt := 9) rfl (rs := [.tmp 4]) rfl (C := [c_spec_l1Below]) ⟨(by first | exact .inl ok_spec_l1Below | exact ok_spec_l1Below), trivial⟩ (q := fun _ => false) okQ_none mixed (O := fun _ => .nil) (by kernel_rfl) ?_
  simp only [↓WP, ↓grdD, ↓grdT, ↓un_dead, ↓binVC, ↓buildVC, ↓sliceVC, WQ, WN, Int.reduceToNat, renl, cll, rent, clt, ↓reduceIte, Nat.reduceLeDiff, Nat.reduceEqDiff, Nat.reduceLT, reduceCtorEq, List.append_nil, Nat.reduceAdd, Nat.reduceSub, Nat.reduceBEq, forall_const, implies_true, cond_true, cond_false, AV.ren, AC.ren, AV.cl, AC.cl, eq_self, List.all_cons, List.all_nil, AV.eqv, AC.eqv, eqvl, eqvt, Sl.eqv, List.map_append, List.length_map, List.length_append, List.length_replicate, List.length_set, List.map_replicate, nilVC, c_spec_l1Below, hr, hb, hal]
  refine ⟨⟨hp0, hpn⟩, ?_⟩
  rintro ⟨x1, p1, k1⟩ ⟨e1, f1⟩
  dsimp only at e1 f1
  refine end_ret ?_
  simp only [↓WP, ↓grdD, ↓grdT, ↓un_dead, ↓binVC, ↓buildVC, ↓sliceVC, WQ, WN, Int.reduceToNat, renl, cll, rent, clt, ↓reduceIte, Nat.reduceLeDiff, Nat.reduceEqDiff, Nat.reduceLT, reduceCtorEq, List.append_nil, Nat.reduceAdd, Nat.reduceSub, Nat.reduceBEq, forall_const, implies_true, cond_true, cond_false, AV.ren, AC.ren, AV.cl, AC.cl, eq_self, List.all_cons, List.all_nil, AV.eqv, AC.eqv, eqvl, eqvt, Sl.eqv, List.map_append, List.length_map, List.length_append, List.length_replicate, List.length_set, List.map_replicate, nilVC, c_spec_l1Below]
  apply Exists.intro (Prod.mk _ (Prod.mk _ _))
  refine ⟨[], [], ?c1, ⟨rfl, List.nodup_nil, trivial, ?k1, ?o1⟩, ⟨?e1, trivial⟩, ?u1⟩
  case e1 => exact rfl
  case o1 =>
    simp only [WL, WNL, swA_new, swA_ne, nest_sw_ne, mapLL, List.mem_cons, Nat.reduceAdd, Nat.reduceLT, Nat.reduceLeDiff, Nat.reduceEqDiff, okU, List.nodup_cons, List.not_mem_nil, toT, toL, toO, keysO, renl, rent, cll, clt, eq_self, AV.eqv, AC.eqv, eqvl, eqvt, Sl.eqv, rowsLe, mapLL, rowsCl, List.map_append, List.length_map, List.length_append, List.length_set, List.map_replicate, rowG, List.getElem?_cons_zero, List.getElem?_cons_succ, List.getElem?_nil, List.append_nil, List.nil_append, List.cons_append, ghosts, St.gh, Option.some.injEq, implies_true, setT, AV.ren, AC.ren, AV.cl, AC.cl, List.replicate_succ, List.replicate_zero, List.nodup_nil, List.length_nil, List.length_cons, List.getD_cons_zero, List.getD_cons_succ, ↓reduceIte, hr]
    exact ⟨rfl, rfl⟩
  case k1 => simp [WL, WNL, swA_new, swA_ne, nest_sw_ne, mapLL, List.mem_cons, Nat.reduceAdd, Nat.reduceLT, Nat.reduceLeDiff, Nat.reduceEqDiff, okU, List.nodup_cons, List.not_mem_nil, toT, toL, toO, keysO, renl, rent, cll, clt, eq_self, AV.eqv, AC.eqv, eqvl, eqvt, Sl.eqv, rowsLe, mapLL, rowsCl, List.map_append, List.length_map, List.length_append, List.length_set, List.map_replicate, rowG, List.getElem?_cons_zero, List.getElem?_cons_succ, List.getElem?_nil, List.append_nil, List.nil_append, List.cons_append, ghosts, St.gh, Option.some.injEq, implies_true, setT, AV.ren, AC.ren, AV.cl, AC.cl, List.replicate_succ, List.replicate_zero, List.nodup_nil, List.length_nil, List.length_cons, List.getD_cons_zero, List.getD_cons_succ, ↓reduceIte]
  case u1 => simp [okU, hr]
  case c1 => exact f1
def c_spec_l1PickInt : Contract := ⟨55, fun args M => match args with
  | [.c (.ptr a), .c (.sl l m _)] => curK a (M a.r) fun r t b n c p _ => .eff (CurOk b n p (M b.r) ∧ RowOk Int l m (M l.r) ∧ 0 < m) (Int × Int × Int) (fun q => q.1 ∈ row Int l m (M l.r) ∧ 0 ≤ q.2.1 ∧ q.2.1 ≤ n) (fun q => I q.1) (fun _ => []) (fun q => [(r, .box t [.sl b.up n c, .int .i64 q.2.1, .int .i64 q.2.2])])
  | _ => .bad⟩
theorem ok_spec_l1PickInt : fnP Try.prog c_spec_l1PickInt.f = true ∧ ∀ args M, (c_spec_l1PickInt.sp args M).OK Try.prog c_spec_l1PickInt.f args M := by
  refine ⟨fp_55, fun args M => ?_⟩
  unfold c_spec_l1PickInt
  dsimp only
  split
  case h_2 => trivial
  rename_i a l m c'
  refine curK_cases ?_
  rintro r t b n c p h rfl hr
  rintro ⟨⟨hb, hp0, hpn⟩, hl, h0⟩
  dsimp only at hr
  have hal := cur_alias hb hr
  obtain ⟨hs, X, hX, rfl, hat⟩ := hl.x
  rw [hX]
  obtain ⟨own, ty, cnt, cap, len, get, hM, hf, hic, hkn, hget⟩ := hat (by omega)
  have hne : ¬ r = l.r := by rintro rfl; rw [hr] at hM; cases hM
  refine goIn hf_55 rfl (nt := 12) rfl (rs := [.tmp 4]) rfl (C := [c_spec_l1Below]) ⟨(by first | exact .inl ok_spec_l1Below | exact ok_spec_l1Below), trivial⟩ (q := fun _ => false) okQ_none mixed (O := fun _ => .nil) (by kernel_rfl) ?_
  simp only [↓WP, ↓grdD, ↓grdT, ↓un_dead, ↓binVC, ↓buildVC, ↓sliceVC, WQ, WN, Int.reduceToNat, renl, cll, rent, clt, ↓reduceIte, Nat.reduceLeDiff, Nat.reduceEqDiff, Nat.reduceLT, reduceCtorEq, List.append_nil, Nat.reduceAdd, Nat.reduceSub, Nat.reduceBEq, forall_const, implies_true, cond_true, cond_false, AV.ren, AC.ren, AV.cl, AC.cl, eq_self, List.all_cons, List.all_nil, AV.eqv, AC.eqv, eqvl, eqvt, Sl.eqv, List.map_append, List.length_map, List.length_append, List.length_replicate, List.length_set, List.map_replicate, nilVC, sd_49, el_49, sz_3, c_spec_l1Below, hr, hb, hal, hM, if_neg hne]
  refine ⟨⟨hp0, hpn⟩, ?_⟩
  rintro ⟨x1, p1, k1⟩ ⟨⟨_, e1⟩, f1⟩
  dsimp only at e1 f1
  obtain ⟨e0, e1⟩ := e1 (by omega)
  simp only [↓WP, ↓grdD, ↓grdT, ↓un_dead, ↓binVC, ↓buildVC, ↓sliceVC, WQ, WN, Int.reduceToNat, renl, cll, rent, clt, ↓reduceIte, Nat.reduceLeDiff, Nat.reduceEqDiff, Nat.reduceLT, reduceCtorEq, List.append_nil, Nat.reduceAdd, Nat.reduceSub, Nat.reduceBEq, forall_const, implies_true, cond_true, cond_false, AV.ren, AC.ren, AV.cl, AC.cl, eq_self, List.all_cons, List.all_nil, AV.eqv, AC.eqv, eqvl, eqvt, Sl.eqv, List.map_append, List.length_map, List.length_append, List.length_replicate, List.length_set, List.map_replicate, nilVC, sd_49, el_49, sz_3, c_spec_l1Below, hf, hget x1.toNat (by omega)]
  repeat refine ⟨by omega, ?_⟩
  refine end_ret ?_
  simp only [↓WP, ↓grdD, ↓grdT, ↓un_dead, ↓binVC, ↓buildVC, ↓sliceVC, WQ, WN, Int.reduceToNat, renl, cll, rent, clt, ↓reduceIte, Nat.reduceLeDiff, Nat.reduceEqDiff, Nat.reduceLT, reduceCtorEq, List.append_nil, Nat.reduceAdd, Nat.reduceSub, Nat.reduceBEq, forall_const, implies_true, cond_true, cond_false, AV.ren, AC.ren, AV.cl, AC.cl, eq_self, List.all_cons, List.all_nil, AV.eqv, AC.eqv, eqvl, eqvt, Sl.eqv, List.map_append, List.length_map, List.length_append, List.length_replicate, List.length_set, List.map_replicate, nilVC, sd_49, el_49, sz_3, c_spec_l1Below]
  apply Exists.intro (Prod.mk _ (Prod.mk _ _))
  refine ⟨[], [], ?c1, ⟨rfl, List.nodup_nil, trivial, ?k1, ?o1⟩, ⟨?e1, trivial⟩, ?u1⟩
  case e1 => exact ⟨rfl, rfl⟩
  case o1 =>
    simp only [WL, WNL, swA_new, swA_ne, nest_sw_ne, mapLL, List.mem_cons, Nat.reduceAdd, Nat.reduceLT, Nat.reduceLeDiff, Nat.reduceEqDiff, okU, List.nodup_cons, List.not_mem_nil, toT, toL, toO, keysO, renl, rent, cll, clt, eq_self, AV.eqv, AC.eqv, eqvl, eqvt, Sl.eqv, rowsLe, mapLL, rowsCl, List.map_append, List.length_map, List.length_append, List.length_set, List.map_replicate, rowG, List.getElem?_cons_zero, List.getElem?_cons_succ, List.getElem?_nil, List.append_nil, List.nil_append, List.cons_append, ghosts, St.gh, Option.some.injEq, implies_true, setT, AV.ren, AC.ren, AV.cl, AC.cl, List.replicate_succ, List.replicate_zero, List.nodup_nil, List.length_nil, List.length_cons, List.getD_cons_zero, List.getD_cons_succ, ↓reduceIte, hr]
    exact ⟨rfl, rfl⟩
  case k1 => simp [WL, WNL, swA_new, swA_ne, nest_sw_ne, mapLL, List.mem_cons, Nat.reduceAdd, Nat.reduceLT, Nat.reduceLeDiff, Nat.reduceEqDiff, okU, List.nodup_cons, List.not_mem_nil, toT, toL, toO, keysO, renl, rent, cll, clt, eq_self, AV.eqv, AC.eqv, eqvl, eqvt, Sl.eqv, rowsLe, mapLL, rowsCl, List.map_append, List.length_map, List.length_append, List.length_set, List.map_replicate, rowG, List.getElem?_cons_zero, List.getElem?_cons_succ, List.getElem?_nil, List.append_nil, List.nil_append, List.cons_append, ghosts, St.gh, Option.some.injEq, implies_true, setT, AV.ren, AC.ren, AV.cl, AC.cl, List.replicate_succ, List.replicate_zero, List.nodup_nil, List.length_nil, List.length_cons, List.getD_cons_zero, List.getD_cons_succ, ↓reduceIte]
  case u1 => simp [okU, hr]
  case c1 => exact ⟨getD_mem (i := x1.toNat) (by omega), f1⟩
theorem tm_range {x k : Int} (h0 : 0 ≤ x) (hk : 0 < k) : 0 ≤ x.tmod k ∧ x.tmod k < k := by
  rw [Int.tmod_eq_emod_of_nonneg h0]
  exact ⟨Int.emod_nonneg _ (by omega), Int.emod_lt_of_pos _ hk⟩
def c_spec_l1Text : Contract := ⟨72, fun args M => match args with
  | [.c (.ptr a), .c (.int .i64 most)] => curK a (M a.r) fun r t b n c p _ => .eff (CurOk b n p (M b.r) ∧ 0 ≤ most ∧ most ≤ 100) (ByteArray × Int × Int) (fun q => (q.1.size : Int) ≤ most ∧ 0 ≤ q.2.1 ∧ q.2.1 ≤ n) (fun q => .c (.str q.1)) (fun _ => []) (fun q => [(r, .box t [.sl b.up n c, .int .i64 q.2.1, .int .i64 q.2.2])])
  | _ => .bad⟩
theorem ok_spec_l1Text : fnP Try.prog c_spec_l1Text.f = true ∧ ∀ args M, (c_spec_l1Text.sp args M).OK Try.prog c_spec_l1Text.f args M := by
  refine ⟨fp_72, fun args M => ?_⟩
  unfold c_spec_l1Text
  dsimp only
  split
  case h_2 => trivial
  rename_i a most
  refine curK_cases ?_
  rintro r t b n c p h rfl hr
  rintro ⟨⟨hb, hp0, hpn⟩, hm0, hm1⟩
  dsimp only at hr
  have hal := cur_alias hb hr
  have hwm : IntKind.i64.wrap (most + 1) = most + 1 := w64 (by omega) (by omega)
  refine goIn hf_72 rfl (nt := 38) rfl (rs := [.tmp 4]) rfl (C := [c_spec_l1Below, c_spec_l1Byte]) ⟨(by first | exact .inl ok_spec_l1Below | exact ok_spec_l1Below), (by first | exact .inl ok_spec_l1Byte | exact ok_spec_l1Byte), trivial⟩ (q := fun _ => false) okQ_none mixed (O := fun _ => .nil) (by kernel_rfl) ?_
  simp only [↓WP, ↓grdD, ↓grdT, ↓un_dead, ↓binVC, ↓buildVC, ↓sliceVC, WQ, WN, Int.reduceToNat, renl, cll, rent, clt, ↓reduceIte, Nat.reduceLeDiff, Nat.reduceEqDiff, Nat.reduceLT, reduceCtorEq, List.append_nil, Nat.reduceAdd, Nat.reduceSub, Nat.reduceBEq, forall_const, implies_true, cond_true, cond_false, AV.ren, AC.ren, AV.cl, AC.cl, eq_self, List.all_cons, List.all_nil, AV.eqv, AC.eqv, eqvl, eqvt, Sl.eqv, List.map_append, List.length_map, List.length_append, List.length_replicate, List.length_set, List.map_replicate, nilVC, el_46, zr_5, cv_3_5, cv_46_9, c_spec_l1Below, c_spec_l1Byte, hr, hb, hal, hwm]
  refine ⟨by omega, ⟨hp0, hpn⟩, ?_⟩
  rintro ⟨st, p1, z1⟩ ⟨_, f1⟩
  refine ⟨f1, ?_⟩
  rintro ⟨x, p2, z2⟩ ⟨⟨_, hx⟩, f2⟩
  dsimp only at hx f1 f2 ⊢
  obtain ⟨hx1, hx2⟩ := hx (by omega)
  refine loopI (J := {q : Int × List UInt8 × Nat × Int × Int // (0 ≤ q.1 ∧ q.2.1.length + q.1 ≤ most) ∧ q.2.1.length ≤ q.2.2.1 ∧ 0 ≤ q.2.2.2.1 ∧ q.2.2.2.1 ≤ n}) (fun q => ⟨slots 38 [(0, .c (.ptr ⟨r.out, 0, 0, 0⟩)), (5, .c (.sl ⟨.loc 0, 0, 0, 0⟩ q.1.2.1.length q.1.2.2.1)), (6, I st), (7, I q.1.1)], M, [(r, .box t [.sl b.up n c, .int .i64 q.1.2.2.2.1, .int .i64 q.1.2.2.2.2])], [rowG true 5 q.1.2.2.1 q.1.2.1]⟩) (fun q => q.1.1.toNat) ⟨(x, [], 0, p2, z2), by simp; omega, by simp, f2.1, f2.2⟩ (Le.trans (Le_gh _ [(5, 1)]) (Le_intro [0] (by simp only [WL, WNL, swA_new, swA_ne, nest_sw_ne, mapLL, List.mem_cons, Nat.reduceAdd, Nat.reduceLT, Nat.reduceLeDiff, Nat.reduceEqDiff, okU, List.nodup_cons, List.not_mem_nil, toT, toL, toO, keysO, renl, rent, cll, clt, eq_self, AV.eqv, AC.eqv, eqvl, eqvt, Sl.eqv, rowsLe, mapLL, rowsCl, List.map_append, List.length_map, List.length_append, List.length_set, List.map_replicate, rowG, List.getElem?_cons_zero, List.getElem?_cons_succ, List.getElem?_nil, List.append_nil, List.nil_append, List.cons_append, ghosts, St.gh, Option.some.injEq, implies_true, setT, AV.ren, AC.ren, AV.cl, AC.cl, List.replicate_succ, List.replicate_zero, List.nodup_nil, List.length_nil, List.length_cons, List.getD_cons_zero, List.getD_cons_succ, ↓reduceIte]; try simp))) ?_
  rintro ⟨⟨x, X, cap, p2, z2⟩, ⟨g0, g1⟩, g2, hq0, hqn⟩
  dsimp only at g0 g1 g2 hq0 hqn
  rcases Int.lt_or_le 0 x with hlt | hge
  · have hl : decide (x > 0) = true := decide_eq_true hlt
    have hwx : IntKind.i64.wrap (x - 1) = x - 1 := w64 (by omega) (by omega)
    by_cases e1 : st = 1
    · have e2 : decide (st = 2) = false := decide_eq_false (by omega)
      simp only [↓WP, ↓grdD, ↓grdT, ↓un_dead, ↓binVC, ↓buildVC, ↓sliceVC, WQ, WN, Int.reduceToNat, renl, cll, rent, clt, ↓reduceIte, Nat.reduceLeDiff, Nat.reduceEqDiff, Nat.reduceLT, reduceCtorEq, List.append_nil, Nat.reduceAdd, Nat.reduceSub, Nat.reduceBEq, forall_const, implies_true, cond_true, cond_false, AV.ren, AC.ren, AV.cl, AC.cl, eq_self, List.all_cons, List.all_nil, AV.eqv, AC.eqv, eqvl, eqvt, Sl.eqv, List.map_append, List.length_map, List.length_append, List.length_replicate, List.length_set, List.map_replicate, nilVC, el_46, zr_5, cv_3_5, cv_46_9, c_spec_l1Below, c_spec_l1Byte, hl, hr, hb, hal, hwx, decide_eq_true e1, e2]
      repeat' (first | with_reducible refine And.intro ?_ ?_ | intro _)
      all_goals try omega
      all_goals try exact .inr trivial
      all_goals try exact .inl trivial
      all_goals first
        | (rename_i d hd b0 kk b1 b2; have hd1 := hd.1; have htm := tm_range (k := 2) hd.1.1 (by omega); obtain ⟨u, hu⟩ : ∃ u : UInt8, IntKind.u8.wrap (d.1.tmod 2) = (u.toNat : Int) := ⟨_, wu8 (by omega) (by omega)⟩; rw [hu]; have hfo : List.map enc X ++ [[AC.int .u8 (u.toNat : Int)]] = List.map enc (X ++ [u]) := by { rw [List.map_append]; rfl }; rw [hfo]; refine ⟨⟨(x - 1, X ++ [u], kk, d.2.1, d.2.2), ⟨by show 0 ≤ x - 1; omega, by show ((X ++ [u]).length : Int) + (x - 1) ≤ most; simp; omega⟩, by show (X ++ [u]).length ≤ kk; simp; omega, hd.2.1, hd.2.2⟩, Le_intro [2] ?_, by show (x - 1).toNat < x.toNat; omega⟩; simp only [WL, WNL, swA_new, swA_ne, nest_sw_ne, mapLL, List.mem_cons, Nat.reduceAdd, Nat.reduceLT, Nat.reduceLeDiff, Nat.reduceEqDiff, okU, List.nodup_cons, List.not_mem_nil, toT, toL, toO, keysO, renl, rent, cll, clt, eq_self, AV.eqv, AC.eqv, eqvl, eqvt, Sl.eqv, rowsLe, mapLL, rowsCl, List.map_append, List.length_map, List.length_append, List.length_set, List.map_replicate, rowG, List.getElem?_cons_zero, List.getElem?_cons_succ, List.getElem?_nil, List.append_nil, List.nil_append, List.cons_append, ghosts, St.gh, Option.some.injEq, implies_true, setT, AV.ren, AC.ren, AV.cl, AC.cl, List.replicate_succ, List.replicate_zero, List.nodup_nil, List.length_nil, List.length_cons, List.getD_cons_zero, List.getD_cons_succ, ↓reduceIte, List.length_append, List.length_cons, List.length_nil]; (try simp); done)
        | (rename_i d hd b1; have hd1 := hd.1; have htm := tm_range (k := 2) hd.1.1 (by omega); obtain ⟨u, hu⟩ : ∃ u : UInt8, IntKind.u8.wrap (d.1.tmod 2) = (u.toNat : Int) := ⟨_, wu8 (by omega) (by omega)⟩; rw [hu]; have hfo : List.map enc X ++ [[AC.int .u8 (u.toNat : Int)]] = List.map enc (X ++ [u]) := by { rw [List.map_append]; rfl }; rw [hfo]; refine ⟨⟨(x - 1, X ++ [u], cap, d.2.1, d.2.2), ⟨by show 0 ≤ x - 1; omega, by show ((X ++ [u]).length : Int) + (x - 1) ≤ most; simp; omega⟩, by show (X ++ [u]).length ≤ cap; simp; omega, hd.2.1, hd.2.2⟩, Le_intro [0] ?_, by show (x - 1).toNat < x.toNat; omega⟩; simp only [WL, WNL, swA_new, swA_ne, nest_sw_ne, mapLL, List.mem_cons, Nat.reduceAdd, Nat.reduceLT, Nat.reduceLeDiff, Nat.reduceEqDiff, okU, List.nodup_cons, List.not_mem_nil, toT, toL, toO, keysO, renl, rent, cll, clt, eq_self, AV.eqv, AC.eqv, eqvl, eqvt, Sl.eqv, rowsLe, mapLL, rowsCl, List.map_append, List.length_map, List.length_append, List.length_set, List.map_replicate, rowG, List.getElem?_cons_zero, List.getElem?_cons_succ, List.getElem?_nil, List.append_nil, List.nil_append, List.cons_append, ghosts, St.gh, Option.some.injEq, implies_true, setT, AV.ren, AC.ren, AV.cl, AC.cl, List.replicate_succ, List.replicate_zero, List.nodup_nil, List.length_nil, List.length_cons, List.getD_cons_zero, List.getD_cons_succ, ↓reduceIte, List.length_append, List.length_cons, List.length_nil]; (try simp); done)
    · by_cases e2 : st = 2
      · simp only [↓WP, ↓grdD, ↓grdT, ↓un_dead, ↓binVC, ↓buildVC, ↓sliceVC, WQ, WN, Int.reduceToNat, renl, cll, rent, clt, ↓reduceIte, Nat.reduceLeDiff, Nat.reduceEqDiff, Nat.reduceLT, reduceCtorEq, List.append_nil, Nat.reduceAdd, Nat.reduceSub, Nat.reduceBEq, forall_const, implies_true, cond_true, cond_false, AV.ren, AC.ren, AV.cl, AC.cl, eq_self, List.all_cons, List.all_nil, AV.eqv, AC.eqv, eqvl, eqvt, Sl.eqv, List.map_append, List.length_map, List.length_append, List.length_replicate, List.length_set, List.map_replicate, nilVC, el_46, zr_5, cv_3_5, cv_46_9, c_spec_l1Below, c_spec_l1Byte, hl, hr, hb, hal, hwx, decide_eq_false e1, decide_eq_true e2]
        repeat' (first | with_reducible refine And.intro ?_ ?_ | intro _)
        all_goals try omega
        all_goals try exact .inr trivial
        all_goals try exact .inl trivial
        all_goals first
          | (rename_i d hd b0 kk b1 b2; have hd1 := hd.1; have htm := tm_range (k := 4) hd.1.1 (by omega); have hw97 : IntKind.i64.wrap (97 + d.1.tmod 4) = 97 + d.1.tmod 4 := w64 (by omega) (by omega); rw [hw97]; obtain ⟨u, hu⟩ : ∃ u : UInt8, IntKind.u8.wrap (97 + d.1.tmod 4) = (u.toNat : Int) := ⟨_, wu8 (by omega) (by omega)⟩; rw [hu]; have hfo : List.map enc X ++ [[AC.int .u8 (u.toNat : Int)]] = List.map enc (X ++ [u]) := by { rw [List.map_append]; rfl }; rw [hfo]; refine ⟨⟨(x - 1, X ++ [u], kk, d.2.1, d.2.2), ⟨by show 0 ≤ x - 1; omega, by show ((X ++ [u]).length : Int) + (x - 1) ≤ most; simp; omega⟩, by show (X ++ [u]).length ≤ kk; simp; omega, hd.2.1, hd.2.2⟩, Le_intro [2] ?_, by show (x - 1).toNat < x.toNat; omega⟩; simp only [WL, WNL, swA_new, swA_ne, nest_sw_ne, mapLL, List.mem_cons, Nat.reduceAdd, Nat.reduceLT, Nat.reduceLeDiff, Nat.reduceEqDiff, okU, List.nodup_cons, List.not_mem_nil, toT, toL, toO, keysO, renl, rent, cll, clt, eq_self, AV.eqv, AC.eqv, eqvl, eqvt, Sl.eqv, rowsLe, mapLL, rowsCl, List.map_append, List.length_map, List.length_append, List.length_set, List.map_replicate, rowG, List.getElem?_cons_zero, List.getElem?_cons_succ, List.getElem?_nil, List.append_nil, List.nil_append, List.cons_append, ghosts, St.gh, Option.some.injEq, implies_true, setT, AV.ren, AC.ren, AV.cl, AC.cl, List.replicate_succ, List.replicate_zero, List.nodup_nil, List.length_nil, List.length_cons, List.getD_cons_zero, List.getD_cons_succ, ↓reduceIte, List.length_append, List.length_cons, List.length_nil]; (try simp); done)
          | (rename_i d hd b1; have hd1 := hd.1; have htm := tm_range (k := 4) hd.1.1 (by omega); have hw97 : IntKind.i64.wrap (97 + d.1.tmod 4) = 97 + d.1.tmod 4 := w64 (by omega) (by omega); rw [hw97]; obtain ⟨u, hu⟩ : ∃ u : UInt8, IntKind.u8.wrap (97 + d.1.tmod 4) = (u.toNat : Int) := ⟨_, wu8 (by omega) (by omega)⟩; rw [hu]; have hfo : List.map enc X ++ [[AC.int .u8 (u.toNat : Int)]] = List.map enc (X ++ [u]) := by { rw [List.map_append]; rfl }; rw [hfo]; refine ⟨⟨(x - 1, X ++ [u], cap, d.2.1, d.2.2), ⟨by show 0 ≤ x - 1; omega, by show ((X ++ [u]).length : Int) + (x - 1) ≤ most; simp; omega⟩, by show (X ++ [u]).length ≤ cap; simp; omega, hd.2.1, hd.2.2⟩, Le_intro [0] ?_, by show (x - 1).toNat < x.toNat; omega⟩; simp only [WL, WNL, swA_new, swA_ne, nest_sw_ne, mapLL, List.mem_cons, Nat.reduceAdd, Nat.reduceLT, Nat.reduceLeDiff, Nat.reduceEqDiff, okU, List.nodup_cons, List.not_mem_nil, toT, toL, toO, keysO, renl, rent, cll, clt, eq_self, AV.eqv, AC.eqv, eqvl, eqvt, Sl.eqv, rowsLe, mapLL, rowsCl, List.map_append, List.length_map, List.length_append, List.length_set, List.map_replicate, rowG, List.getElem?_cons_zero, List.getElem?_cons_succ, List.getElem?_nil, List.append_nil, List.nil_append, List.cons_append, ghosts, St.gh, Option.some.injEq, implies_true, setT, AV.ren, AC.ren, AV.cl, AC.cl, List.replicate_succ, List.replicate_zero, List.nodup_nil, List.length_nil, List.length_cons, List.getD_cons_zero, List.getD_cons_succ, ↓reduceIte, List.length_append, List.length_cons, List.length_nil]; (try simp); done)
      · simp only [↓WP, ↓grdD, ↓grdT, ↓un_dead, ↓binVC, ↓buildVC, ↓sliceVC, WQ, WN, Int.reduceToNat, renl, cll, rent, clt, ↓reduceIte, Nat.reduceLeDiff, Nat.reduceEqDiff, Nat.reduceLT, reduceCtorEq, List.append_nil, Nat.reduceAdd, Nat.reduceSub, Nat.reduceBEq, forall_const, implies_true, cond_true, cond_false, AV.ren, AC.ren, AV.cl, AC.cl, eq_self, List.all_cons, List.all_nil, AV.eqv, AC.eqv, eqvl, eqvt, Sl.eqv, List.map_append, List.length_map, List.length_append, List.length_replicate, List.length_set, List.map_replicate, nilVC, el_46, zr_5, cv_3_5, cv_46_9, c_spec_l1Below, c_spec_l1Byte, hl, hr, hb, hal, hwx, decide_eq_false e1, decide_eq_false e2]
        repeat' (first | with_reducible refine And.intro ?_ ?_ | intro _)
        all_goals try omega
        all_goals try exact .inr trivial
        all_goals try exact .inl trivial
        all_goals first
          | (rename_i d hd b0 kk b1 b2; have hd1 := hd.1; obtain ⟨u, hu⟩ : ∃ u : UInt8, IntKind.u8.wrap (d.1) = (u.toNat : Int) := ⟨_, wu8 (by omega) (by omega)⟩; rw [hu]; have hfo : List.map enc X ++ [[AC.int .u8 (u.toNat : Int)]] = List.map enc (X ++ [u]) := by { rw [List.map_append]; rfl }; rw [hfo]; refine ⟨⟨(x - 1, X ++ [u], kk, d.2.1, d.2.2), ⟨by show 0 ≤ x - 1; omega, by show ((X ++ [u]).length : Int) + (x - 1) ≤ most; simp; omega⟩, by show (X ++ [u]).length ≤ kk; simp; omega, hd.2.1, hd.2.2⟩, Le_intro [2] ?_, by show (x - 1).toNat < x.toNat; omega⟩; simp only [WL, WNL, swA_new, swA_ne, nest_sw_ne, mapLL, List.mem_cons, Nat.reduceAdd, Nat.reduceLT, Nat.reduceLeDiff, Nat.reduceEqDiff, okU, List.nodup_cons, List.not_mem_nil, toT, toL, toO, keysO, renl, rent, cll, clt, eq_self, AV.eqv, AC.eqv, eqvl, eqvt, Sl.eqv, rowsLe, mapLL, rowsCl, List.map_append, List.length_map, List.length_append, List.length_set, List.map_replicate, rowG, List.getElem?_cons_zero, List.getElem?_cons_succ, List.getElem?_nil, List.append_nil, List.nil_append, List.cons_append, ghosts, St.gh, Option.some.injEq, implies_true, setT, AV.ren, AC.ren, AV.cl, AC.cl, List.replicate_succ, List.replicate_zero, List.nodup_nil, List.length_nil, List.length_cons, List.getD_cons_zero, List.getD_cons_succ, ↓reduceIte, List.length_append, List.length_cons, List.length_nil]; (try simp); done)
          | (rename_i d hd b1; have hd1 := hd.1; obtain ⟨u, hu⟩ : ∃ u : UInt8, IntKind.u8.wrap (d.1) = (u.toNat : Int) := ⟨_, wu8 (by omega) (by omega)⟩; rw [hu]; have hfo : List.map enc X ++ [[AC.int .u8 (u.toNat : Int)]] = List.map enc (X ++ [u]) := by { rw [List.map_append]; rfl }; rw [hfo]; refine ⟨⟨(x - 1, X ++ [u], cap, d.2.1, d.2.2), ⟨by show 0 ≤ x - 1; omega, by show ((X ++ [u]).length : Int) + (x - 1) ≤ most; simp; omega⟩, by show (X ++ [u]).length ≤ cap; simp; omega, hd.2.1, hd.2.2⟩, Le_intro [0] ?_, by show (x - 1).toNat < x.toNat; omega⟩; simp only [WL, WNL, swA_new, swA_ne, nest_sw_ne, mapLL, List.mem_cons, Nat.reduceAdd, Nat.reduceLT, Nat.reduceLeDiff, Nat.reduceEqDiff, okU, List.nodup_cons, List.not_mem_nil, toT, toL, toO, keysO, renl, rent, cll, clt, eq_self, AV.eqv, AC.eqv, eqvl, eqvt, Sl.eqv, rowsLe, mapLL, rowsCl, List.map_append, List.length_map, List.length_append, List.length_set, List.map_replicate, rowG, List.getElem?_cons_zero, List.getElem?_cons_succ, List.getElem?_nil, List.append_nil, List.nil_append, List.cons_append, ghosts, St.gh, Option.some.injEq, implies_true, setT, AV.ren, AC.ren, AV.cl, AC.cl, List.replicate_succ, List.replicate_zero, List.nodup_nil, List.length_nil, List.length_cons, List.getD_cons_zero, List.getD_cons_succ, ↓reduceIte, List.length_append, List.length_cons, List.length_nil]; (try simp); done)
  · obtain rfl : x = 0 := by omega
    have hl : decide ((0 : Int) > 0) = false := by decide
    rcases Nat.eq_zero_or_pos X.length with h0 | h0
    · obtain rfl : X = [] := List.eq_nil_of_length_eq_zero h0
      simp only [↓WP, ↓grdD, ↓grdT, ↓un_dead, ↓binVC, ↓buildVC, ↓sliceVC, WQ, WN, Int.reduceToNat, renl, cll, rent, clt, ↓reduceIte, Nat.reduceLeDiff, Nat.reduceEqDiff, Nat.reduceLT, reduceCtorEq, List.append_nil, Nat.reduceAdd, Nat.reduceSub, Nat.reduceBEq, forall_const, implies_true, cond_true, cond_false, AV.ren, AC.ren, AV.cl, AC.cl, eq_self, List.all_cons, List.all_nil, AV.eqv, AC.eqv, eqvl, eqvt, Sl.eqv, List.map_append, List.length_map, List.length_append, List.length_replicate, List.length_set, List.map_replicate, nilVC, el_46, zr_5, cv_3_5, cv_46_9, c_spec_l1Below, c_spec_l1Byte, hl, hr, hb, hal]
      refine end_ret ?_
      simp only [↓WP, ↓grdD, ↓grdT, ↓un_dead, ↓binVC, ↓buildVC, ↓sliceVC, WQ, WN, Int.reduceToNat, renl, cll, rent, clt, ↓reduceIte, Nat.reduceLeDiff, Nat.reduceEqDiff, Nat.reduceLT, reduceCtorEq, List.append_nil, Nat.reduceAdd, Nat.reduceSub, Nat.reduceBEq, forall_const, implies_true, cond_true, cond_false, AV.ren, AC.ren, AV.cl, AC.cl, eq_self, List.all_cons, List.all_nil, AV.eqv, AC.eqv, eqvl, eqvt, Sl.eqv, List.map_append, List.length_map, List.length_append, List.length_replicate, List.length_set, List.map_replicate, nilVC, el_46, zr_5, cv_3_5, cv_46_9, c_spec_l1Below, c_spec_l1Byte]
      refine ⟨(.empty, p2, z2), [], [], ?_⟩
      simp only [WL, WNL, swA_new, swA_ne, nest_sw_ne, mapLL, List.mem_cons, Nat.reduceAdd, Nat.reduceLT, Nat.reduceLeDiff, Nat.reduceEqDiff, okU, List.nodup_cons, List.not_mem_nil, toT, toL, toO, keysO, renl, rent, cll, clt, eq_self, AV.eqv, AC.eqv, eqvl, eqvt, Sl.eqv, rowsLe, mapLL, rowsCl, List.map_append, List.length_map, List.length_append, List.length_set, List.map_replicate, rowG, List.getElem?_cons_zero, List.getElem?_cons_succ, List.getElem?_nil, List.append_nil, List.nil_append, List.cons_append, ghosts, St.gh, Option.some.injEq, implies_true, setT, AV.ren, AC.ren, AV.cl, AC.cl, List.replicate_succ, List.replicate_zero, List.nodup_nil, List.length_nil, List.length_cons, List.getD_cons_zero, List.getD_cons_succ, ↓reduceIte, retP, hr]
      have hes : (ByteArray.empty.size : Int) ≤ most := by show (0 : Int) ≤ most; omega
      simp [okU, hr, hes, hq0, hqn]
      try omega
    · have hne : ¬ X.length = 0 := by omega
      simp only [↓WP, ↓grdD, ↓grdT, ↓un_dead, ↓binVC, ↓buildVC, ↓sliceVC, WQ, WN, Int.reduceToNat, renl, cll, rent, clt, ↓reduceIte, Nat.reduceLeDiff, Nat.reduceEqDiff, Nat.reduceLT, reduceCtorEq, List.append_nil, Nat.reduceAdd, Nat.reduceSub, Nat.reduceBEq, forall_const, implies_true, cond_true, cond_false, AV.ren, AC.ren, AV.cl, AC.cl, eq_self, List.all_cons, List.all_nil, AV.eqv, AC.eqv, eqvl, eqvt, Sl.eqv, List.map_append, List.length_map, List.length_append, List.length_replicate, List.length_set, List.map_replicate, nilVC, el_46, zr_5, cv_3_5, cv_46_9, c_spec_l1Below, c_spec_l1Byte, hl, hr, hb, hal, if_neg hne]
      refine ⟨X, ⟨rfl, fun j hj => row_bytes hj⟩, ?_⟩
      refine end_ret ?_
      simp only [↓WP, ↓grdD, ↓grdT, ↓un_dead, ↓binVC, ↓buildVC, ↓sliceVC, WQ, WN, Int.reduceToNat, renl, cll, rent, clt, ↓reduceIte, Nat.reduceLeDiff, Nat.reduceEqDiff, Nat.reduceLT, reduceCtorEq, List.append_nil, Nat.reduceAdd, Nat.reduceSub, Nat.reduceBEq, forall_const, implies_true, cond_true, cond_false, AV.ren, AC.ren, AV.cl, AC.cl, eq_self, List.all_cons, List.all_nil, AV.eqv, AC.eqv, eqvl, eqvt, Sl.eqv, List.map_append, List.length_map, List.length_append, List.length_replicate, List.length_set, List.map_replicate, nilVC, el_46, zr_5, cv_3_5, cv_46_9, c_spec_l1Below, c_spec_l1Byte]
      refine ⟨(⟨X.toArray⟩, p2, z2), [], [], ?_⟩
      simp only [WL, WNL, swA_new, swA_ne, nest_sw_ne, mapLL, List.mem_cons, Nat.reduceAdd, Nat.reduceLT, Nat.reduceLeDiff, Nat.reduceEqDiff, okU, List.nodup_cons, List.not_mem_nil, toT, toL, toO, keysO, renl, rent, cll, clt, eq_self, AV.eqv, AC.eqv, eqvl, eqvt, Sl.eqv, rowsLe, mapLL, rowsCl, List.map_append, List.length_map, List.length_append, List.length_set, List.map_replicate, rowG, List.getElem?_cons_zero, List.getElem?_cons_succ, List.getElem?_nil, List.append_nil, List.nil_append, List.cons_append, ghosts, St.gh, Option.some.injEq, implies_true, setT, AV.ren, AC.ren, AV.cl, AC.cl, List.replicate_succ, List.replicate_zero, List.nodup_nil, List.length_nil, List.length_cons, List.getD_cons_zero, List.getD_cons_succ, ↓reduceIte, retP, hr]
      have hes : ((⟨X.toArray⟩ : ByteArray).size : Int) ≤ most := by show (X.toArray.size : Int) ≤ most; simp; omega
      simp [okU, hr, hes, hq0, hqn]
      try omega
end Go.Eng.T
