/- cow: one act that is drawn. -/
import Derived.Test.YtjdppjomhkbljaaFn28
set_option linter.unusedVariables false
set_option linter.unusedSimpArgs false
set_option linter.unusedSectionVars false
namespace Go.Eng.T
open Go.Proofs
open Cel (enc dec)
set_option maxRecDepth 100000
set_option maxHeartbeats 8000000
def c_spec_l1New : Contract := ⟨68, fun args M => match args with
  | [.c (.sl a n c)] => .eff (RowOk UInt8 a n (M a.r)) Int (fun _ => True) (fun _ => .c (.ptr ⟨.loc 0, 0, 0, 0⟩)) (fun h => [.box 76 [.sl a.up n c, .int .i64 0, .int .i64 h]]) (fun _ => [])
  | _ => .bad⟩
theorem ok_spec_l1New : fnP Try.prog c_spec_l1New.f = true ∧ ∀ args M, (c_spec_l1New.sp args M).OK Try.prog c_spec_l1New.f args M := by
  refine ⟨fp_68, fun args M => ?_⟩
  unfold c_spec_l1New
  dsimp only
  split
  case h_2 => trivial
  rename_i a n ca
  intro ha
  obtain ⟨hs, X, hX, rfl, hat⟩ := ha.x
  refine goIn hf_68 rfl (nt := 32) rfl (rs := [.tmp 2]) rfl (C := []) trivial (q := fun _ => false) okQ_none mixed (O := fun _ => .nil) (by kernel_rfl) ?_
  simp only [↓WP, ↓grdD, ↓grdT, ↓un_dead, ↓binVC, ↓buildVC, ↓sliceVC, WQ, WN, Int.reduceToNat, renl, cll, rent, clt, ↓reduceIte, Nat.reduceLeDiff, Nat.reduceEqDiff, Nat.reduceLT, reduceCtorEq, List.append_nil, Nat.reduceAdd, Nat.reduceSub, Nat.reduceBEq, forall_const, implies_true, cond_true, cond_false, AV.ren, AC.ren, AV.cl, AC.cl, eq_self, List.all_cons, List.all_nil, AV.eqv, AC.eqv, eqvl, eqvt, Sl.eqv, List.map_append, List.length_map, List.length_append, List.length_replicate, List.length_set, List.map_replicate, nilVC, sd_45, el_45, sz_5, cv_5_3, zr_76, fs_76]
  refine loopI (J := {p : Nat × Int // p.1 ≤ X.length}) (fun p => ⟨slots 32 [(0, .c (.sl a.up X.length ca)), (3, I p.1.2), (4, I p.1.1)], M, [], []⟩) (fun p => X.length - p.1.1) ⟨(0, IntKind.i64.wrap (10101 + X.length)), by simp⟩ (Le_intro [] (by simp [WL, WNL, swA_new, swA_ne, nest_sw_ne, mapLL, List.mem_cons, Nat.reduceAdd, Nat.reduceLT, Nat.reduceLeDiff, Nat.reduceEqDiff, okU, List.nodup_cons, List.not_mem_nil, toT, toL, toO, keysO, renl, rent, cll, clt, eq_self, AV.eqv, AC.eqv, eqvl, eqvt, Sl.eqv, rowsLe, mapLL, rowsCl, List.map_append, List.length_map, List.length_append, List.length_set, List.map_replicate, rowG, List.getElem?_cons_zero, List.getElem?_cons_succ, List.getElem?_nil, List.append_nil, List.nil_append, List.cons_append, ghosts, St.gh, Option.some.injEq, implies_true, setT, AV.ren, AC.ren, AV.cl, AC.cl, List.replicate_succ, List.replicate_zero, List.nodup_nil, List.length_nil, List.length_cons, List.getD_cons_zero, List.getD_cons_succ, ↓reduceIte])) ?_
  rintro ⟨⟨i, h⟩, hi⟩
  dsimp only at hi
  have hw := wS (i := i) (by omega)
  rcases Nat.lt_or_ge i X.length with hlt | hge
  · obtain ⟨own, ty, cnt, cap, len, get, hM, hf, hic, hkn, hget⟩ := hat (by omega)
    simp only [↓WP, ↓grdD, ↓grdT, ↓un_dead, ↓binVC, ↓buildVC, ↓sliceVC, WQ, WN, Int.reduceToNat, renl, cll, rent, clt, ↓reduceIte, Nat.reduceLeDiff, Nat.reduceEqDiff, Nat.reduceLT, reduceCtorEq, List.append_nil, Nat.reduceAdd, Nat.reduceSub, Nat.reduceBEq, forall_const, implies_true, cond_true, cond_false, AV.ren, AC.ren, AV.cl, AC.cl, eq_self, List.all_cons, List.all_nil, AV.eqv, AC.eqv, eqvl, eqvt, Sl.eqv, List.map_append, List.length_map, List.length_append, List.length_replicate, List.length_set, List.map_replicate, nilVC, sd_45, el_45, sz_5, cv_5_3, zr_76, fs_76, dlt hlt, hw, hM, hf, hget i hlt]
    refine ⟨fun h1 => ?_, fun h1 => ?_⟩
    · repeat refine ⟨by omega, ?_⟩
      refine ⟨⟨(i + 1, ?h), hlt⟩, Le_intro [] ?g, by show X.length - (i + 1) < X.length - i; omega⟩
      case g =>
        simp [WL, WNL, swA_new, swA_ne, nest_sw_ne, mapLL, List.mem_cons, Nat.reduceAdd, Nat.reduceLT, Nat.reduceLeDiff, Nat.reduceEqDiff, okU, List.nodup_cons, List.not_mem_nil, toT, toL, toO, keysO, renl, rent, cll, clt, eq_self, AV.eqv, AC.eqv, eqvl, eqvt, Sl.eqv, rowsLe, mapLL, rowsCl, List.map_append, List.length_map, List.length_append, List.length_set, List.map_replicate, rowG, List.getElem?_cons_zero, List.getElem?_cons_succ, List.getElem?_nil, List.append_nil, List.nil_append, List.cons_append, ghosts, St.gh, Option.some.injEq, implies_true, setT, AV.ren, AC.ren, AV.cl, AC.cl, List.replicate_succ, List.replicate_zero, List.nodup_nil, List.length_nil, List.length_cons, List.getD_cons_zero, List.getD_cons_succ, ↓reduceIte]
        rfl
    · refine end_ret ?_
      simp only [↓WP, ↓grdD, ↓grdT, ↓un_dead, ↓binVC, ↓buildVC, ↓sliceVC, WQ, WN, Int.reduceToNat, renl, cll, rent, clt, ↓reduceIte, Nat.reduceLeDiff, Nat.reduceEqDiff, Nat.reduceLT, reduceCtorEq, List.append_nil, Nat.reduceAdd, Nat.reduceSub, Nat.reduceBEq, forall_const, implies_true, cond_true, cond_false, AV.ren, AC.ren, AV.cl, AC.cl, eq_self, List.all_cons, List.all_nil, AV.eqv, AC.eqv, eqvl, eqvt, Sl.eqv, List.map_append, List.length_map, List.length_append, List.length_replicate, List.length_set, List.map_replicate, nilVC, sd_45, el_45, sz_5, cv_5_3, zr_76, fs_76]
      refine ⟨h, [], [0], ?_⟩
      simp [WL, WNL, swA_new, swA_ne, nest_sw_ne, mapLL, List.mem_cons, Nat.reduceAdd, Nat.reduceLT, Nat.reduceLeDiff, Nat.reduceEqDiff, okU, List.nodup_cons, List.not_mem_nil, toT, toL, toO, keysO, renl, rent, cll, clt, eq_self, AV.eqv, AC.eqv, eqvl, eqvt, Sl.eqv, rowsLe, mapLL, rowsCl, List.map_append, List.length_map, List.length_append, List.length_set, List.map_replicate, rowG, List.getElem?_cons_zero, List.getElem?_cons_succ, List.getElem?_nil, List.append_nil, List.nil_append, List.cons_append, ghosts, St.gh, Option.some.injEq, implies_true, setT, AV.ren, AC.ren, AV.cl, AC.cl, List.replicate_succ, List.replicate_zero, List.nodup_nil, List.length_nil, List.length_cons, List.getD_cons_zero, List.getD_cons_succ, ↓reduceIte, retP]
  · obtain rfl : i = X.length := by omega
    simp only [↓WP, ↓grdD, ↓grdT, ↓un_dead, ↓binVC, ↓buildVC, ↓sliceVC, WQ, WN, Int.reduceToNat, renl, cll, rent, clt, ↓reduceIte, Nat.reduceLeDiff, Nat.reduceEqDiff, Nat.reduceLT, reduceCtorEq, List.append_nil, Nat.reduceAdd, Nat.reduceSub, Nat.reduceBEq, forall_const, implies_true, cond_true, cond_false, AV.ren, AC.ren, AV.cl, AC.cl, eq_self, List.all_cons, List.all_nil, AV.eqv, AC.eqv, eqvl, eqvt, Sl.eqv, List.map_append, List.length_map, List.length_append, List.length_replicate, List.length_set, List.map_replicate, nilVC, sd_45, el_45, sz_5, cv_5_3, zr_76, fs_76, dge hge, hw]
    refine end_ret ?_
    simp only [↓WP, ↓grdD, ↓grdT, ↓un_dead, ↓binVC, ↓buildVC, ↓sliceVC, WQ, WN, Int.reduceToNat, renl, cll, rent, clt, ↓reduceIte, Nat.reduceLeDiff, Nat.reduceEqDiff, Nat.reduceLT, reduceCtorEq, List.append_nil, Nat.reduceAdd, Nat.reduceSub, Nat.reduceBEq, forall_const, implies_true, cond_true, cond_false, AV.ren, AC.ren, AV.cl, AC.cl, eq_self, List.all_cons, List.all_nil, AV.eqv, AC.eqv, eqvl, eqvt, Sl.eqv, List.map_append, List.length_map, List.length_append, List.length_replicate, List.length_set, List.map_replicate, nilVC, sd_45, el_45, sz_5, cv_5_3, zr_76, fs_76]
    refine ⟨h, [], [0], ?_⟩
    simp [WL, WNL, swA_new, swA_ne, nest_sw_ne, mapLL, List.mem_cons, Nat.reduceAdd, Nat.reduceLT, Nat.reduceLeDiff, Nat.reduceEqDiff, okU, List.nodup_cons, List.not_mem_nil, toT, toL, toO, keysO, renl, rent, cll, clt, eq_self, AV.eqv, AC.eqv, eqvl, eqvt, Sl.eqv, rowsLe, mapLL, rowsCl, List.map_append, List.length_map, List.length_append, List.length_set, List.map_replicate, rowG, List.getElem?_cons_zero, List.getElem?_cons_succ, List.getElem?_nil, List.append_nil, List.nil_append, List.cons_append, ghosts, St.gh, Option.some.injEq, implies_true, setT, AV.ren, AC.ren, AV.cl, AC.cl, List.replicate_succ, List.replicate_zero, List.nodup_nil, List.length_nil, List.length_cons, List.getD_cons_zero, List.getD_cons_succ, ↓reduceIte, retP]
theorem q_spec_l1New : Quiet c_spec_l1New := by
  intro args M
  unfold c_spec_l1New
  dsimp only
  split <;> first | trivial | (intro _; rfl)
def c_spec_l1Size : Contract := ⟨72, fun args M => match args with
  | [.c (.sl _ n _), .c (.int .i64 m)] => .eff (n ≤ 4611686018427387904) Int (fun q => q ≤ m) (fun q => I q) (fun _ => []) (fun _ => [])
  | _ => .bad⟩
theorem ok_spec_l1Size : fnP Try.prog c_spec_l1Size.f = true ∧ ∀ args M, (c_spec_l1Size.sp args M).OK Try.prog c_spec_l1Size.f args M := by
  refine ⟨fp_72, fun args M => ?_⟩
  unfold c_spec_l1Size
  dsimp only
  split
  case h_2 => trivial
  rename_i a n ca m
  intro hn
  refine goIn hf_72 rfl (nt := 15) rfl (rs := [.tmp 4]) rfl (C := []) trivial (q := fun _ => false) okQ_none mixed (O := fun _ => .nil) (by kernel_rfl) ?_
  simp only [↓WP, ↓grdD, ↓grdT, ↓un_dead, ↓binVC, ↓buildVC, ↓sliceVC, WQ, WN, Int.reduceToNat, renl, cll, rent, clt, ↓reduceIte, Nat.reduceLeDiff, Nat.reduceEqDiff, Nat.reduceLT, reduceCtorEq, List.append_nil, Nat.reduceAdd, Nat.reduceSub, Nat.reduceBEq, forall_const, implies_true, cond_true, cond_false, AV.ren, AC.ren, AV.cl, AC.cl, eq_self, List.all_cons, List.all_nil, AV.eqv, AC.eqv, eqvl, eqvt, Sl.eqv, List.map_append, List.length_map, List.length_append, List.length_replicate, List.length_set, List.map_replicate, nilVC, sd_45]
  repeat' (first | with_reducible refine And.intro ?_ ?_ | intro _)
  all_goals try omega
  all_goals
    refine end_ret ?_
    simp only [↓WP, ↓grdD, ↓grdT, ↓un_dead, ↓binVC, ↓buildVC, ↓sliceVC, WQ, WN, Int.reduceToNat, renl, cll, rent, clt, ↓reduceIte, Nat.reduceLeDiff, Nat.reduceEqDiff, Nat.reduceLT, reduceCtorEq, List.append_nil, Nat.reduceAdd, Nat.reduceSub, Nat.reduceBEq, forall_const, implies_true, cond_true, cond_false, AV.ren, AC.ren, AV.cl, AC.cl, eq_self, List.all_cons, List.all_nil, AV.eqv, AC.eqv, eqvl, eqvt, Sl.eqv, List.map_append, List.length_map, List.length_append, List.length_replicate, List.length_set, List.map_replicate, nilVC, sd_45]
    apply Exists.intro
    refine ⟨[], [], ?q1, ⟨rfl, List.nodup_nil, trivial, ?k1, ?o1⟩, ⟨?e1, ?cl⟩, ?u1⟩
    case e1 => exact ⟨rfl, rfl⟩
    case cl => trivial
    case o1 => simp [WL, WNL, swA_new, swA_ne, nest_sw_ne, mapLL, List.mem_cons, Nat.reduceAdd, Nat.reduceLT, Nat.reduceLeDiff, Nat.reduceEqDiff, okU, List.nodup_cons, List.not_mem_nil, toT, toL, toO, keysO, renl, rent, cll, clt, eq_self, AV.eqv, AC.eqv, eqvl, eqvt, Sl.eqv, rowsLe, mapLL, rowsCl, List.map_append, List.length_map, List.length_append, List.length_set, List.map_replicate, rowG, List.getElem?_cons_zero, List.getElem?_cons_succ, List.getElem?_nil, List.append_nil, List.nil_append, List.cons_append, ghosts, St.gh, Option.some.injEq, implies_true, setT, AV.ren, AC.ren, AV.cl, AC.cl, List.replicate_succ, List.replicate_zero, List.nodup_nil, List.length_nil, List.length_cons, List.getD_cons_zero, List.getD_cons_succ, ↓reduceIte]
    case k1 => simp [WL, WNL, swA_new, swA_ne, nest_sw_ne, mapLL, List.mem_cons, Nat.reduceAdd, Nat.reduceLT, Nat.reduceLeDiff, Nat.reduceEqDiff, okU, List.nodup_cons, List.not_mem_nil, toT, toL, toO, keysO, renl, rent, cll, clt, eq_self, AV.eqv, AC.eqv, eqvl, eqvt, Sl.eqv, rowsLe, mapLL, rowsCl, List.map_append, List.length_map, List.length_append, List.length_set, List.map_replicate, rowG, List.getElem?_cons_zero, List.getElem?_cons_succ, List.getElem?_nil, List.append_nil, List.nil_append, List.cons_append, ghosts, St.gh, Option.some.injEq, implies_true, setT, AV.ren, AC.ren, AV.cl, AC.cl, List.replicate_succ, List.replicate_zero, List.nodup_nil, List.length_nil, List.length_cons, List.getD_cons_zero, List.getD_cons_succ, ↓reduceIte]
    case u1 => simp [okU]
    case q1 => first | omega | (simp only [decide_eq_false_iff_not] at *; omega)
def c_spec_l1Byte : Contract := ⟨77, fun args M => match args with
  | [.c (.ptr a)] => curK a (M a.r) fun r t b n c p _ => .eff (CurOk b n p (M b.r)) (Int × Int × Int) (fun q => (0 ≤ q.1 ∧ q.1 ≤ 255) ∧ 0 ≤ q.2.1 ∧ q.2.1 ≤ n) (fun q => I q.1) (fun _ => []) (fun q => [(r, .box t [.sl b.up n c, .int .i64 q.2.1, .int .i64 q.2.2])])
  | _ => .bad⟩
theorem ok_spec_l1Byte : fnP Try.prog c_spec_l1Byte.f = true ∧ ∀ args M, (c_spec_l1Byte.sp args M).OK Try.prog c_spec_l1Byte.f args M := by
  refine ⟨fp_77, fun args M => ?_⟩
  unfold c_spec_l1Byte
  dsimp only
  split
  case h_2 => trivial
  rename_i a
  refine curK_cases ?_
  rintro r t b n c p h rfl hr
  rintro ⟨hb, hp0, hpn⟩
  obtain ⟨hs, X, hX, rfl, hat⟩ := hb.x
  dsimp only at hr
  refine goIn hf_77 rfl (nt := 58) rfl (rs := [.tmp 2]) rfl (C := []) trivial (q := fun f => [].contains f) trivial mixed (O := ots [(2, otl [0, 1, 2, 3, 4, 5, 6, 7, 8, 9, 10, 11, 12] .nil), (3, otl [0, 1, 2, 3, 4, 5, 6, 7, 8, 9] .nil), (4, otl [0, 1, 2, 3, 4, 5, 6, 7, 8, 9, 10, 11, 12, 13, 14] .nil)]) (by kernel_rfl) ?_
  by_cases hp : p < X.length
  · obtain ⟨own, ty, cnt, cap, len, get, hM, hf, hic, hkn, hget⟩ := hat (by omega)
    have hne : ¬ r = b.r := by rintro rfl; rw [hr] at hM; cases hM
    simp only [↓WP, ↓grdD, ↓grdT, ↓un_dead, ↓binVC, ↓buildVC, ↓sliceVC, WQ, WN, Int.reduceToNat, renl, cll, rent, clt, ↓reduceIte, Nat.reduceLeDiff, Nat.reduceEqDiff, Nat.reduceLT, reduceCtorEq, List.append_nil, Nat.reduceAdd, Nat.reduceSub, Nat.reduceBEq, forall_const, implies_true, cond_true, cond_false, AV.ren, AC.ren, AV.cl, AC.cl, eq_self, List.all_cons, List.all_nil, AV.eqv, AC.eqv, eqvl, eqvt, Sl.eqv, List.map_append, List.length_map, List.length_append, List.length_replicate, List.length_set, List.map_replicate, nilVC, fl_76_2, sz_3, fl_76_1, fl_76_0, sz_45, sd_45, el_45, sz_5, cv_5_3, hr, hM, hf, if_neg hne, decide_eq_true hp, hget p.toNat (by omega), w64 (n := p + 1) (by omega) (by omega)]
    repeat refine ⟨by omega, ?_⟩
    refine end_ret ?_
    simp only [↓WP, ↓grdD, ↓grdT, ↓un_dead, ↓binVC, ↓buildVC, ↓sliceVC, WQ, WN, Int.reduceToNat, renl, cll, rent, clt, ↓reduceIte, Nat.reduceLeDiff, Nat.reduceEqDiff, Nat.reduceLT, reduceCtorEq, List.append_nil, Nat.reduceAdd, Nat.reduceSub, Nat.reduceBEq, forall_const, implies_true, cond_true, cond_false, AV.ren, AC.ren, AV.cl, AC.cl, eq_self, List.all_cons, List.all_nil, AV.eqv, AC.eqv, eqvl, eqvt, Sl.eqv, List.map_append, List.length_map, List.length_append, List.length_replicate, List.length_set, List.map_replicate, nilVC, fl_76_2, sz_3, fl_76_1, fl_76_0, sz_45, sd_45, el_45, sz_5, cv_5_3]
    apply Exists.intro (Prod.mk _ (Prod.mk _ _))
    refine ⟨[], [], ?c1, ⟨rfl, List.nodup_nil, trivial, ?k1, ?o1⟩, ⟨?e1, trivial⟩, ?u1⟩
    case e1 => exact ⟨rfl, rfl⟩
    case o1 =>
      simp only [WL, WNL, swA_new, swA_ne, nest_sw_ne, mapLL, List.mem_cons, Nat.reduceAdd, Nat.reduceLT, Nat.reduceLeDiff, Nat.reduceEqDiff, okU, List.nodup_cons, List.not_mem_nil, toT, toL, toO, keysO, renl, rent, cll, clt, eq_self, AV.eqv, AC.eqv, eqvl, eqvt, Sl.eqv, rowsLe, mapLL, rowsCl, List.map_append, List.length_map, List.length_append, List.length_set, List.map_replicate, rowG, List.getElem?_cons_zero, List.getElem?_cons_succ, List.getElem?_nil, List.append_nil, List.nil_append, List.cons_append, ghosts, St.gh, Option.some.injEq, implies_true, setT, AV.ren, AC.ren, AV.cl, AC.cl, List.replicate_succ, List.replicate_zero, List.nodup_nil, List.length_nil, List.length_cons, List.getD_cons_zero, List.getD_cons_succ, ↓reduceIte]
      exact ⟨rfl, rfl⟩
    case k1 => simp [WL, WNL, swA_new, swA_ne, nest_sw_ne, mapLL, List.mem_cons, Nat.reduceAdd, Nat.reduceLT, Nat.reduceLeDiff, Nat.reduceEqDiff, okU, List.nodup_cons, List.not_mem_nil, toT, toL, toO, keysO, renl, rent, cll, clt, eq_self, AV.eqv, AC.eqv, eqvl, eqvt, Sl.eqv, rowsLe, mapLL, rowsCl, List.map_append, List.length_map, List.length_append, List.length_set, List.map_replicate, rowG, List.getElem?_cons_zero, List.getElem?_cons_succ, List.getElem?_nil, List.append_nil, List.nil_append, List.cons_append, ghosts, St.gh, Option.some.injEq, implies_true, setT, AV.ren, AC.ren, AV.cl, AC.cl, List.replicate_succ, List.replicate_zero, List.nodup_nil, List.length_nil, List.length_cons, List.getD_cons_zero, List.getD_cons_succ, ↓reduceIte]
    case u1 => simp [okU, hr]
    case c1 => exact ⟨and_byte _, (by omega : 0 ≤ p + 1), (by omega : p + 1 ≤ X.length)⟩
  · simp only [↓WP, ↓grdD, ↓grdT, ↓un_dead, ↓binVC, ↓buildVC, ↓sliceVC, WQ, WN, Int.reduceToNat, renl, cll, rent, clt, ↓reduceIte, Nat.reduceLeDiff, Nat.reduceEqDiff, Nat.reduceLT, reduceCtorEq, List.append_nil, Nat.reduceAdd, Nat.reduceSub, Nat.reduceBEq, forall_const, implies_true, cond_true, cond_false, AV.ren, AC.ren, AV.cl, AC.cl, eq_self, List.all_cons, List.all_nil, AV.eqv, AC.eqv, eqvl, eqvt, Sl.eqv, List.map_append, List.length_map, List.length_append, List.length_replicate, List.length_set, List.map_replicate, nilVC, fl_76_2, sz_3, fl_76_1, fl_76_0, sz_45, sd_45, el_45, sz_5, cv_5_3, hr, decide_eq_false hp]
    repeat refine ⟨by omega, ?_⟩
    refine end_ret ?_
    simp only [↓WP, ↓grdD, ↓grdT, ↓un_dead, ↓binVC, ↓buildVC, ↓sliceVC, WQ, WN, Int.reduceToNat, renl, cll, rent, clt, ↓reduceIte, Nat.reduceLeDiff, Nat.reduceEqDiff, Nat.reduceLT, reduceCtorEq, List.append_nil, Nat.reduceAdd, Nat.reduceSub, Nat.reduceBEq, forall_const, implies_true, cond_true, cond_false, AV.ren, AC.ren, AV.cl, AC.cl, eq_self, List.all_cons, List.all_nil, AV.eqv, AC.eqv, eqvl, eqvt, Sl.eqv, List.map_append, List.length_map, List.length_append, List.length_replicate, List.length_set, List.map_replicate, nilVC, fl_76_2, sz_3, fl_76_1, fl_76_0, sz_45, sd_45, el_45, sz_5, cv_5_3]
    apply Exists.intro (Prod.mk _ (Prod.mk _ _))
    refine ⟨[], [], ?c2, ⟨rfl, List.nodup_nil, trivial, ?k2, ?o2⟩, ⟨?e2, trivial⟩, ?u2⟩
    case e2 => exact ⟨rfl, rfl⟩
    case o2 =>
      simp only [WL, WNL, swA_new, swA_ne, nest_sw_ne, mapLL, List.mem_cons, Nat.reduceAdd, Nat.reduceLT, Nat.reduceLeDiff, Nat.reduceEqDiff, okU, List.nodup_cons, List.not_mem_nil, toT, toL, toO, keysO, renl, rent, cll, clt, eq_self, AV.eqv, AC.eqv, eqvl, eqvt, Sl.eqv, rowsLe, mapLL, rowsCl, List.map_append, List.length_map, List.length_append, List.length_set, List.map_replicate, rowG, List.getElem?_cons_zero, List.getElem?_cons_succ, List.getElem?_nil, List.append_nil, List.nil_append, List.cons_append, ghosts, St.gh, Option.some.injEq, implies_true, setT, AV.ren, AC.ren, AV.cl, AC.cl, List.replicate_succ, List.replicate_zero, List.nodup_nil, List.length_nil, List.length_cons, List.getD_cons_zero, List.getD_cons_succ, ↓reduceIte]
      exact ⟨rfl, rfl⟩
    case k2 => simp [WL, WNL, swA_new, swA_ne, nest_sw_ne, mapLL, List.mem_cons, Nat.reduceAdd, Nat.reduceLT, Nat.reduceLeDiff, Nat.reduceEqDiff, okU, List.nodup_cons, List.not_mem_nil, toT, toL, toO, keysO, renl, rent, cll, clt, eq_self, AV.eqv, AC.eqv, eqvl, eqvt, Sl.eqv, rowsLe, mapLL, rowsCl, List.map_append, List.length_map, List.length_append, List.length_set, List.map_replicate, rowG, List.getElem?_cons_zero, List.getElem?_cons_succ, List.getElem?_nil, List.append_nil, List.nil_append, List.cons_append, ghosts, St.gh, Option.some.injEq, implies_true, setT, AV.ren, AC.ren, AV.cl, AC.cl, List.replicate_succ, List.replicate_zero, List.nodup_nil, List.length_nil, List.length_cons, List.getD_cons_zero, List.getD_cons_succ, ↓reduceIte]
    case u2 => simp [okU, hr]
    case c2 => exact ⟨and_byte _, hp0, hpn⟩
def c_spec_l1Below : Contract := ⟨69, fun args M => match args with
  | [.c (.ptr a), .c (.int .i64 k)] => curK a (M a.r) fun r t b n c p _ => .eff (CurOk b n p (M b.r)) (Int × Int × Int) (fun q => ((k ≤ 0 → q.1 = 0) ∧ (0 < k → 0 ≤ q.1 ∧ q.1 < k)) ∧ 0 ≤ q.2.1 ∧ q.2.1 ≤ n) (fun q => I q.1) (fun _ => []) (fun q => [(r, .box t [.sl b.up n c, .int .i64 q.2.1, .int .i64 q.2.2])])
  | _ => .bad⟩
theorem ok_spec_l1Below : fnP Try.prog c_spec_l1Below.f = true ∧ ∀ args M, (c_spec_l1Below.sp args M).OK Try.prog c_spec_l1Below.f args M := by
  refine ⟨fp_69, fun args M => ?_⟩
  unfold c_spec_l1Below
  dsimp only
  split
  case h_2 => trivial
  rename_i a k
  refine curK_cases ?_
  rintro r t b n c p h rfl hr
  rintro ⟨hb, hp0, hpn⟩
  dsimp only at hr
  have hal := cur_alias hb hr
  refine goIn hf_69 rfl (nt := 37) rfl (rs := [.tmp 4]) rfl (C := [c_spec_l1Byte]) ⟨(by first | exact .inl ok_spec_l1Byte | exact ok_spec_l1Byte), trivial⟩ (q := fun _ => false) okQ_none mixed (O := fun _ => .nil) (by kernel_rfl) ?_
  rcases Int.lt_or_le 0 k with h0 | h0
  · rcases Int.lt_or_le 256 k with h1 | h1
    · simp only [↓WP, ↓grdD, ↓grdT, ↓un_dead, ↓binVC, ↓buildVC, ↓sliceVC, WQ, WN, Int.reduceToNat, renl, cll, rent, clt, ↓reduceIte, Nat.reduceLeDiff, Nat.reduceEqDiff, Nat.reduceLT, reduceCtorEq, List.append_nil, Nat.reduceAdd, Nat.reduceSub, Nat.reduceBEq, forall_const, implies_true, cond_true, cond_false, AV.ren, AC.ren, AV.cl, AC.cl, eq_self, List.all_cons, List.all_nil, AV.eqv, AC.eqv, eqvl, eqvt, Sl.eqv, List.map_append, List.length_map, List.length_append, List.length_replicate, List.length_set, List.map_replicate, nilVC, c_spec_l1Byte, hr, hb, hal, decide_eq_false (Int.not_le.2 h0), decide_eq_false (Int.not_le.2 h1)]
      refine ⟨⟨hp0, hpn⟩, ?_⟩
      rintro ⟨x1, p1, k1⟩ ⟨e1, f1⟩
      refine ⟨f1, ?_⟩
      rintro ⟨x2, p2, k2⟩ ⟨e2, f2⟩
      refine ⟨f2, ?_⟩
      rintro ⟨x3, p3, k3⟩ ⟨e3, f3⟩
      refine ⟨f3, ?_⟩
      rintro ⟨x4, p4, k4⟩ ⟨e4, f4⟩
      dsimp only at e1 f1 e2 f2 e3 f3 e4 f4
      refine ⟨by omega, ?_⟩
      rw [w64 (n := x1 * 16777216) (by omega) (by omega), w64 (n := x2 * 65536) (by omega) (by omega), w64 (n := x3 * 256) (by omega) (by omega), w64 (n := x1 * 16777216 + x2 * 65536) (by omega) (by omega), w64 (n := x1 * 16777216 + x2 * 65536 + x3 * 256) (by omega) (by omega), w64 (n := x1 * 16777216 + x2 * 65536 + x3 * 256 + x4) (by omega) (by omega)]
      refine end_ret ?_
      simp only [↓WP, ↓grdD, ↓grdT, ↓un_dead, ↓binVC, ↓buildVC, ↓sliceVC, WQ, WN, Int.reduceToNat, renl, cll, rent, clt, ↓reduceIte, Nat.reduceLeDiff, Nat.reduceEqDiff, Nat.reduceLT, reduceCtorEq, List.append_nil, Nat.reduceAdd, Nat.reduceSub, Nat.reduceBEq, forall_const, implies_true, cond_true, cond_false, AV.ren, AC.ren, AV.cl, AC.cl, eq_self, List.all_cons, List.all_nil, AV.eqv, AC.eqv, eqvl, eqvt, Sl.eqv, List.map_append, List.length_map, List.length_append, List.length_replicate, List.length_set, List.map_replicate, nilVC, c_spec_l1Byte]
      apply Exists.intro (Prod.mk _ (Prod.mk _ _))
      refine ⟨[], [], ?c1, ⟨rfl, List.nodup_nil, trivial, ?k1, ?o1⟩, ⟨?e1, trivial⟩, ?u1⟩
      case e1 => exact ⟨rfl, rfl⟩
      case o1 =>
        simp only [WL, WNL, swA_new, swA_ne, nest_sw_ne, mapLL, List.mem_cons, Nat.reduceAdd, Nat.reduceLT, Nat.reduceLeDiff, Nat.reduceEqDiff, okU, List.nodup_cons, List.not_mem_nil, toT, toL, toO, keysO, renl, rent, cll, clt, eq_self, AV.eqv, AC.eqv, eqvl, eqvt, Sl.eqv, rowsLe, mapLL, rowsCl, List.map_append, List.length_map, List.length_append, List.length_set, List.map_replicate, rowG, List.getElem?_cons_zero, List.getElem?_cons_succ, List.getElem?_nil, List.append_nil, List.nil_append, List.cons_append, ghosts, St.gh, Option.some.injEq, implies_true, setT, AV.ren, AC.ren, AV.cl, AC.cl, List.replicate_succ, List.replicate_zero, List.nodup_nil, List.length_nil, List.length_cons, List.getD_cons_zero, List.getD_cons_succ, ↓reduceIte, hr]
        exact ⟨rfl, rfl⟩
      case k1 => simp [WL, WNL, swA_new, swA_ne, nest_sw_ne, mapLL, List.mem_cons, Nat.reduceAdd, Nat.reduceLT, Nat.reduceLeDiff, Nat.reduceEqDiff, okU, List.nodup_cons, List.not_mem_nil, toT, toL, toO, keysO, renl, rent, cll, clt, eq_self, AV.eqv, AC.eqv, eqvl, eqvt, Sl.eqv, rowsLe, mapLL, rowsCl, List.map_append, List.length_map, List.length_append, List.length_set, List.map_replicate, rowG, List.getElem?_cons_zero, List.getElem?_cons_succ, List.getElem?_nil, List.append_nil, List.nil_append, List.cons_append, ghosts, St.gh, Option.some.injEq, implies_true, setT, AV.ren, AC.ren, AV.cl, AC.cl, List.replicate_succ, List.replicate_zero, List.nodup_nil, List.length_nil, List.length_cons, List.getD_cons_zero, List.getD_cons_succ, ↓reduceIte]
      case u1 => simp [okU, hr]
      case c1 => exact ⟨⟨fun h => absurd h (by omega), fun _ => tmod_range (by omega) h0⟩, f4⟩
    · simp only [↓WP, ↓grdD, ↓grdT, ↓un_dead, ↓binVC, ↓buildVC, ↓sliceVC, WQ, WN, Int.reduceToNat, renl, cll, rent, clt, ↓reduceIte, Nat.reduceLeDiff, Nat.reduceEqDiff, Nat.reduceLT, reduceCtorEq, List.append_nil, Nat.reduceAdd, Nat.reduceSub, Nat.reduceBEq, forall_const, implies_true, cond_true, cond_false, AV.ren, AC.ren, AV.cl, AC.cl, eq_self, List.all_cons, List.all_nil, AV.eqv, AC.eqv, eqvl, eqvt, Sl.eqv, List.map_append, List.length_map, List.length_append, List.length_replicate, List.length_set, List.map_replicate, nilVC, c_spec_l1Byte, hr, hb, hal, decide_eq_false (Int.not_le.2 h0), decide_eq_true h1]
      refine ⟨⟨hp0, hpn⟩, ?_⟩
      rintro ⟨x1, p1, k1⟩ ⟨e1, f1⟩
      dsimp only at e1 f1
      refine ⟨by omega, ?_⟩
      refine end_ret ?_
      simp only [↓WP, ↓grdD, ↓grdT, ↓un_dead, ↓binVC, ↓buildVC, ↓sliceVC, WQ, WN, Int.reduceToNat, renl, cll, rent, clt, ↓reduceIte, Nat.reduceLeDiff, Nat.reduceEqDiff, Nat.reduceLT, reduceCtorEq, List.append_nil, Nat.reduceAdd, Nat.reduceSub, Nat.reduceBEq, forall_const, implies_true, cond_true, cond_false, AV.ren, AC.ren, AV.cl, AC.cl, eq_self, List.all_cons, List.all_nil, AV.eqv, AC.eqv, eqvl, eqvt, Sl.eqv, List.map_append, List.length_map, List.length_append, List.length_replicate, List.length_set, List.map_replicate, nilVC, c_spec_l1Byte]
      apply Exists.intro (Prod.mk _ (Prod.mk _ _))
      refine ⟨[], [], ?c2, ⟨rfl, List.nodup_nil, trivial, ?k2, ?o2⟩, ⟨?e2, trivial⟩, ?u2⟩
      case e2 => exact ⟨rfl, rfl⟩
      case o2 =>
        simp only [WL, WNL, swA_new, swA_ne, nest_sw_ne, mapLL, List.mem_cons, Nat.reduceAdd, Nat.reduceLT, Nat.reduceLeDiff, Nat.reduceEqDiff, okU, List.nodup_cons, List.not_mem_nil, toT, toL, toO, keysO, renl, rent, cll, clt, eq_self, AV.eqv, AC.eqv, eqvl, eqvt, Sl.eqv, rowsLe, mapLL, rowsCl, List.map_append, List.length_map, List.length_append, List.length_set, List.map_replicate, rowG, List.getElem?_cons_zero, List.getElem?_cons_succ, List.getElem?_nil, List.append_nil, List.nil_append, List.cons_append, ghosts, St.gh, Option.some.injEq, implies_true, setT, AV.ren, AC.ren, AV.cl, AC.cl, List.replicate_succ, List.replicate_zero, List.nodup_nil, List.length_nil, List.length_cons, List.getD_cons_zero, List.getD_cons_succ, ↓reduceIte, hr]
        exact ⟨rfl, rfl⟩
      case k2 => simp [WL, WNL, swA_new, swA_ne, nest_sw_ne, mapLL, List.mem_cons, Nat.reduceAdd, Nat.reduceLT, Nat.reduceLeDiff, Nat.reduceEqDiff, okU, List.nodup_cons, List.not_mem_nil, toT, toL, toO, keysO, renl, rent, cll, clt, eq_self, AV.eqv, AC.eqv, eqvl, eqvt, Sl.eqv, rowsLe, mapLL, rowsCl, List.map_append, List.length_map, List.length_append, List.length_set, List.map_replicate, rowG, List.getElem?_cons_zero, List.getElem?_cons_succ, List.getElem?_nil, List.append_nil, List.nil_append, List.cons_append, ghosts, St.gh, Option.some.injEq, implies_true, setT, AV.ren, AC.ren, AV.cl, AC.cl, List.replicate_succ, List.replicate_zero, List.nodup_nil, List.length_nil, List.length_cons, List.getD_cons_zero, List.getD_cons_succ, ↓reduceIte]
      case u2 => simp [okU, hr]
      case c2 => exact ⟨⟨fun h => absurd h (by omega), fun _ => tmod_range (by omega) h0⟩, f1⟩
  · simp only [↓WP, ↓grdD, ↓grdT, ↓un_dead, ↓binVC, ↓buildVC, ↓sliceVC, WQ, WN, Int.reduceToNat, renl, cll, rent, clt, ↓reduceIte, Nat.reduceLeDiff, Nat.reduceEqDiff, Nat.reduceLT, reduceCtorEq, List.append_nil, Nat.reduceAdd, Nat.reduceSub, Nat.reduceBEq, forall_const, implies_true, cond_true, cond_false, AV.ren, AC.ren, AV.cl, AC.cl, eq_self, List.all_cons, List.all_nil, AV.eqv, AC.eqv, eqvl, eqvt, Sl.eqv, List.map_append, List.length_map, List.length_append, List.length_replicate, List.length_set, List.map_replicate, nilVC, c_spec_l1Byte, hr, decide_eq_true h0]
    refine end_ret ?_
    simp only [↓WP, ↓grdD, ↓grdT, ↓un_dead, ↓binVC, ↓buildVC, ↓sliceVC, WQ, WN, Int.reduceToNat, renl, cll, rent, clt, ↓reduceIte, Nat.reduceLeDiff, Nat.reduceEqDiff, Nat.reduceLT, reduceCtorEq, List.append_nil, Nat.reduceAdd, Nat.reduceSub, Nat.reduceBEq, forall_const, implies_true, cond_true, cond_false, AV.ren, AC.ren, AV.cl, AC.cl, eq_self, List.all_cons, List.all_nil, AV.eqv, AC.eqv, eqvl, eqvt, Sl.eqv, List.map_append, List.length_map, List.length_append, List.length_replicate, List.length_set, List.map_replicate, nilVC, c_spec_l1Byte]
    apply Exists.intro (Prod.mk _ (Prod.mk _ _))
    refine ⟨[], [], ?c3, ⟨rfl, List.nodup_nil, trivial, ?k3, ?o3⟩, ⟨?e3, trivial⟩, ?u3⟩
    case e3 => exact ⟨rfl, rfl⟩
    case o3 =>
      simp only [WL, WNL, swA_new, swA_ne, nest_sw_ne, mapLL, List.mem_cons, Nat.reduceAdd, Nat.reduceLT, Nat.reduceLeDiff, Nat.reduceEqDiff, okU, List.nodup_cons, List.not_mem_nil, toT, toL, toO, keysO, renl, rent, cll, clt, eq_self, AV.eqv, AC.eqv, eqvl, eqvt, Sl.eqv, rowsLe, mapLL, rowsCl, List.map_append, List.length_map, List.length_append, List.length_set, List.map_replicate, rowG, List.getElem?_cons_zero, List.getElem?_cons_succ, List.getElem?_nil, List.append_nil, List.nil_append, List.cons_append, ghosts, St.gh, Option.some.injEq, implies_true, setT, AV.ren, AC.ren, AV.cl, AC.cl, List.replicate_succ, List.replicate_zero, List.nodup_nil, List.length_nil, List.length_cons, List.getD_cons_zero, List.getD_cons_succ, ↓reduceIte, hr]
      exact ⟨rfl, rfl⟩
    case k3 => simp [WL, WNL, swA_new, swA_ne, nest_sw_ne, mapLL, List.mem_cons, Nat.reduceAdd, Nat.reduceLT, Nat.reduceLeDiff, Nat.reduceEqDiff, okU, List.nodup_cons, List.not_mem_nil, toT, toL, toO, keysO, renl, rent, cll, clt, eq_self, AV.eqv, AC.eqv, eqvl, eqvt, Sl.eqv, rowsLe, mapLL, rowsCl, List.map_append, List.length_map, List.length_append, List.length_set, List.map_replicate, rowG, List.getElem?_cons_zero, List.getElem?_cons_succ, List.getElem?_nil, List.append_nil, List.nil_append, List.cons_append, ghosts, St.gh, Option.some.injEq, implies_true, setT, AV.ren, AC.ren, AV.cl, AC.cl, List.replicate_succ, List.replicate_zero, List.nodup_nil, List.length_nil, List.length_cons, List.getD_cons_zero, List.getD_cons_succ, ↓reduceIte]
    case u3 => simp [okU, hr]
    case c3 => exact ⟨⟨fun _ => rfl, fun h => absurd h (by omega)⟩, hp0, hpn⟩
def c_spec_l1Once : Contract := ⟨79, fun args M => match args with
  | [.c (.ptr a), .c (.int .i64 _)] => curK a (M a.r) fun r t b n c p _ => .eff (CurOk b n p (M b.r)) (Bool × Int × Int) (fun q => 0 ≤ q.2.1 ∧ q.2.1 ≤ n) (fun q => Eng.B q.1) (fun _ => []) (fun q => [(r, .box t [.sl b.up n c, .int .i64 q.2.1, .int .i64 q.2.2])])
  | _ => .bad⟩
theorem ok_spec_l1Once : fnP Try.prog c_spec_l1Once.f = true ∧ ∀ args M, (c_spec_l1Once.sp args M).OK Try.prog c_spec_l1Once.f args M := by
  refine ⟨fp_79, fun args M => ?_⟩
  unfold c_spec_l1Once
  dsimp only
  split
  case h_2 => trivial
  rename_i a k
  refine curK_cases ?_
  rintro r t b n c p h rfl hr
  rintro ⟨hb, hp0, hpn⟩
  dsimp only at hr
  have hal := cur_alias hb hr
  refine goIn hf_79 rfl (nt := 9) rfl (rs := [.tmp 4]) rfl (C := [c_spec_l1Below]) ⟨(by first | exact .inl ok_spec_l1Below | exact ok_spec_l1Below), trivial⟩ (q := fun _ => false) okQ_none mixed (O := fun _ => .nil) (by kernel_rfl) ?_
  simp only [↓WP, ↓grdD, ↓grdT, ↓un_dead, ↓binVC, ↓buildVC, ↓sliceVC, WQ, WN, Int.reduceToNat, renl, cll, rent, clt, ↓reduceIte, Nat.reduceLeDiff, Nat.reduceEqDiff, Nat.reduceLT, reduceCtorEq, List.append_nil, Nat.reduceAdd, Nat.reduceSub, Nat.reduceBEq, forall_const, implies_true, cond_true, cond_false, AV.ren, AC.ren, AV.cl, AC.cl, eq_self, List.all_cons, List.all_nil, AV.eqv, AC.eqv, eqvl, eqvt, Sl.eqv, List.map_append, List.length_map, List.length_append, List.length_replicate, List.length_set, List.map_replicate, nilVC, c_spec_l1Below, hr, hb, hal]
  refine ⟨⟨hp0, hpn⟩, ?_⟩
  rintro ⟨x1, p1, k1⟩ ⟨e1, f1⟩
  dsimp only at e1 f1
  refine end_ret ?_
  simp only [↓WP, ↓grdD, ↓grdT, ↓un_dead, ↓binVC, ↓buildVC, ↓sliceVC, WQ, WN, Int.reduceToNat, renl, cll, rent, clt, ↓reduceIte, Nat.reduceLeDiff, Nat.reduceEqDiff, Nat.reduceLT, reduceCtorEq, List.append_nil, Nat.reduceAdd, Nat.reduceSub, Nat.reduceBEq, forall_const, implies_true, cond_true, cond_false, AV.ren, AC.ren, AV.cl, AC.cl, eq_self, List.all_cons, List.all_nil, AV.eqv, AC.eqv, eqvl, eqvt, Sl.eqv, List.map_append, List.length_map, List.length_append, List.length_replicate, List.length_set, List.map_replicate, nilVC, c_spec_l1Below]
  apply Exists.intro (Prod.mk _ (Prod.mk _ _))
  refine ⟨[], [], ?c1, ⟨rfl, List.nodup_nil, trivial, ?k1, ?o1⟩, ⟨?e1, trivial⟩, ?u1⟩
  case e1 => exact rfl
  case o1 =>
    simp only [WL, WNL, swA_new, swA_ne, nest_sw_ne, mapLL, List.mem_cons, Nat.reduceAdd, Nat.reduceLT, Nat.reduceLeDiff, Nat.reduceEqDiff, okU, List.nodup_cons, List.not_mem_nil, toT, toL, toO, keysO, renl, rent, cll, clt, eq_self, AV.eqv, AC.eqv, eqvl, eqvt, Sl.eqv, rowsLe, mapLL, rowsCl, List.map_append, List.length_map, List.length_append, List.length_set, List.map_replicate, rowG, List.getElem?_cons_zero, List.getElem?_cons_succ, List.getElem?_nil, List.append_nil, List.nil_append, List.cons_append, ghosts, St.gh, Option.some.injEq, implies_true, setT, AV.ren, AC.ren, AV.cl, AC.cl, List.replicate_succ, List.replicate_zero, List.nodup_nil, List.length_nil, List.length_cons, List.getD_cons_zero, List.getD_cons_succ, ↓reduceIte, hr]
    exact ⟨rfl, rfl⟩
  case k1 => simp [WL, WNL, swA_new, swA_ne, nest_sw_ne, mapLL, List.mem_cons, Nat.reduceAdd, Nat.reduceLT, Nat.reduceLeDiff, Nat.reduceEqDiff, okU, List.nodup_cons, List.not_mem_nil, toT, toL, toO, keysO, renl, rent, cll, clt, eq_self, AV.eqv, AC.eqv, eqvl, eqvt, Sl.eqv, rowsLe, mapLL, rowsCl, List.map_append, List.length_map, List.length_append, List.length_set, List.map_replicate, rowG, List.getElem?_cons_zero, List.getElem?_cons_succ, List.getElem?_nil, List.append_nil, List.nil_append, List.cons_append, ghosts, St.gh, Option.some.injEq, implies_true, setT, AV.ren, AC.ren, AV.cl, AC.cl, List.replicate_succ, List.replicate_zero, List.nodup_nil, List.length_nil, List.length_cons, List.getD_cons_zero, List.getD_cons_succ, ↓reduceIte]
  case u1 => simp [okU, hr]
  case c1 => exact f1
def c_spec_l1PickInt : Contract := ⟨70, fun args M => match args with
  | [.c (.ptr a), .c (.sl l m _)] => curK a (M a.r) fun r t b n c p _ => .eff (CurOk b n p (M b.r) ∧ RowOk Int l m (M l.r) ∧ 0 < m) (Int × Int × Int) (fun q => q.1 ∈ row Int l m (M l.r) ∧ 0 ≤ q.2.1 ∧ q.2.1 ≤ n) (fun q => I q.1) (fun _ => []) (fun q => [(r, .box t [.sl b.up n c, .int .i64 q.2.1, .int .i64 q.2.2])])
  | _ => .bad⟩
theorem ok_spec_l1PickInt : fnP Try.prog c_spec_l1PickInt.f = true ∧ ∀ args M, (c_spec_l1PickInt.sp args M).OK Try.prog c_spec_l1PickInt.f args M := by
  refine ⟨fp_70, fun args M => ?_⟩
  unfold c_spec_l1PickInt
  dsimp only
  split
  case h_2 => trivial
  rename_i a l m c'
  refine curK_cases ?_
  rintro r t b n c p h rfl hr
  rintro ⟨⟨hb, hp0, hpn⟩, hl, h0⟩
  dsimp only at hr
  have hal := cur_alias hb hr
  obtain ⟨hs, X, hX, rfl, hat⟩ := hl.x
  rw [hX]
  obtain ⟨own, ty, cnt, cap, len, get, hM, hf, hic, hkn, hget⟩ := hat (by omega)
  have hne : ¬ r = l.r := by rintro rfl; rw [hr] at hM; cases hM
  refine goIn hf_70 rfl (nt := 12) rfl (rs := [.tmp 4]) rfl (C := [c_spec_l1Below]) ⟨(by first | exact .inl ok_spec_l1Below | exact ok_spec_l1Below), trivial⟩ (q := fun _ => false) okQ_none mixed (O := fun _ => .nil) (by kernel_rfl) ?_
  simp only [↓WP, ↓grdD, ↓grdT, ↓un_dead, ↓binVC, ↓buildVC, ↓sliceVC, WQ, WN, Int.reduceToNat, renl, cll, rent, clt, ↓reduceIte, Nat.reduceLeDiff, Nat.reduceEqDiff, Nat.reduceLT, reduceCtorEq, List.append_nil, Nat.reduceAdd, Nat.reduceSub, Nat.reduceBEq, forall_const, implies_true, cond_true, cond_false, AV.ren, AC.ren, AV.cl, AC.cl, eq_self, List.all_cons, List.all_nil, AV.eqv, AC.eqv, eqvl, eqvt, Sl.eqv, List.map_append, List.length_map, List.length_append, List.length_replicate, List.length_set, List.map_replicate, nilVC, sd_23, el_23, sz_3, c_spec_l1Below, hr, hb, hal, hM, if_neg hne]
  refine ⟨⟨hp0, hpn⟩, ?_⟩
  rintro ⟨x1, p1, k1⟩ ⟨⟨_, e1⟩, f1⟩
  dsimp only at e1 f1
  obtain ⟨e0, e1⟩ := e1 (by omega)
  simp only [↓WP, ↓grdD, ↓grdT, ↓un_dead, ↓binVC, ↓buildVC, ↓sliceVC, WQ, WN, Int.reduceToNat, renl, cll, rent, clt, ↓reduceIte, Nat.reduceLeDiff, Nat.reduceEqDiff, Nat.reduceLT, reduceCtorEq, List.append_nil, Nat.reduceAdd, Nat.reduceSub, Nat.reduceBEq, forall_const, implies_true, cond_true, cond_false, AV.ren, AC.ren, AV.cl, AC.cl, eq_self, List.all_cons, List.all_nil, AV.eqv, AC.eqv, eqvl, eqvt, Sl.eqv, List.map_append, List.length_map, List.length_append, List.length_replicate, List.length_set, List.map_replicate, nilVC, sd_23, el_23, sz_3, c_spec_l1Below, hf, hget x1.toNat (by omega)]
  repeat refine ⟨by omega, ?_⟩
  refine end_ret ?_
  simp only [↓WP, ↓grdD, ↓grdT, ↓un_dead, ↓binVC, ↓buildVC, ↓sliceVC, WQ, WN, Int.reduceToNat, renl, cll, rent, clt, ↓reduceIte, Nat.reduceLeDiff, Nat.reduceEqDiff, Nat.reduceLT, reduceCtorEq, List.append_nil, Nat.reduceAdd, Nat.reduceSub, Nat.reduceBEq, forall_const, implies_true, cond_true, cond_false, AV.ren, AC.ren, AV.cl, AC.cl, eq_self, List.all_cons, List.all_nil, AV.eqv, AC.eqv, eqvl, eqvt, Sl.eqv, List.map_append, List.length_map, List.length_append, List.length_replicate, List.length_set, List.map_replicate, nilVC, sd_23, el_23, sz_3, c_spec_l1Below]
  apply Exists.intro (Prod.mk _ (Prod.mk _ _))
  refine ⟨[], [], ?c1, ⟨rfl, List.nodup_nil, trivial, ?k1, ?o1⟩, ⟨?e1, trivial⟩, ?u1⟩
  case e1 => exact ⟨rfl, rfl⟩
  case o1 =>
    simp only [WL, WNL, swA_new, swA_ne, nest_sw_ne, mapLL, List.mem_cons, Nat.reduceAdd, Nat.reduceLT, Nat.reduceLeDiff, Nat.reduceEqDiff, okU, List.nodup_cons, List.not_mem_nil, toT, toL, toO, keysO, renl, rent, cll, clt, eq_self, AV.eqv, AC.eqv, eqvl, eqvt, Sl.eqv, rowsLe, mapLL, rowsCl, List.map_append, List.length_map, List.length_append, List.length_set, List.map_replicate, rowG, List.getElem?_cons_zero, List.getElem?_cons_succ, List.getElem?_nil, List.append_nil, List.nil_append, List.cons_append, ghosts, St.gh, Option.some.injEq, implies_true, setT, AV.ren, AC.ren, AV.cl, AC.cl, List.replicate_succ, List.replicate_zero, List.nodup_nil, List.length_nil, List.length_cons, List.getD_cons_zero, List.getD_cons_succ, ↓reduceIte, hr]
    exact ⟨rfl, rfl⟩
  case k1 => simp [WL, WNL, swA_new, swA_ne, nest_sw_ne, mapLL, List.mem_cons, Nat.reduceAdd, Nat.reduceLT, Nat.reduceLeDiff, Nat.reduceEqDiff, okU, List.nodup_cons, List.not_mem_nil, toT, toL, toO, keysO, renl, rent, cll, clt, eq_self, AV.eqv, AC.eqv, eqvl, eqvt, Sl.eqv, rowsLe, mapLL, rowsCl, List.map_append, List.length_map, List.length_append, List.length_set, List.map_replicate, rowG, List.getElem?_cons_zero, List.getElem?_cons_succ, List.getElem?_nil, List.append_nil, List.nil_append, List.cons_append, ghosts, St.gh, Option.some.injEq, implies_true, setT, AV.ren, AC.ren, AV.cl, AC.cl, List.replicate_succ, List.replicate_zero, List.nodup_nil, List.length_nil, List.length_cons, List.getD_cons_zero, List.getD_cons_succ, ↓reduceIte]
  case u1 => simp [okU, hr]
  case c1 => exact ⟨getD_mem (i := x1.toNat) (by omega), f1⟩
theorem q_spec_CowWrite : Quiet c_spec_CowWrite := by
  intro args M
  unfold c_spec_CowWrite
  dsimp only
  split <;> first | trivial | (intro _; rfl)
theorem q_spec_CowFork : Quiet c_spec_CowFork := by
  intro args M
  unfold c_spec_CowFork
  dsimp only
  split <;> first | trivial | (intro _; rfl)
theorem box_aliasOk {α : Type} [Inhabited α] [Cel α] {M : RId → Option Rg} {a : AA} {n : Nat} {r : RId} {t : TypeId} {cs : List AC} (h : RowOk α a n (M a.r)) (hr : M r = some (.box t cs)) (t' : TypeId) (cs' : List AC) :
    RowOk α a.up n (if r = a.r then some (.box t' cs') else Option.map Rg.up (M a.r)) := by
  by_cases e : r = a.r
  · rw [if_pos e]
    rw [← e, hr] at h
    exact ⟨h.1, h.2.imp id fun h => h.elim⟩
  · rw [if_neg e, RowOk_up]; exact h
theorem box_aliasRow {α : Type} [Inhabited α] [Cel α] {M : RId → Option Rg} {a : AA} {n : Nat} {r : RId} {t : TypeId} {cs : List AC} (h : RowOk α a n (M a.r)) (hr : M r = some (.box t cs)) (t' : TypeId) (cs' : List AC) :
    row α a.up n (if r = a.r then some (.box t' cs') else Option.map Rg.up (M a.r)) = row α a n (M a.r) := by
  by_cases e : r = a.r
  · rw [if_pos e]
    have h0 : n = 0 := by
      rw [← e, hr] at h
      exact h.2.resolve_right fun h => h.elim
    subst h0
    rfl
  · rw [if_neg e, row_up]
/-- a Cow of one's own: what it has, and the room -/
abbrev CowV := List (List Int) × List Int × List (List Int)
abbrev CowF := Nat × List (Nat × List Int) × Nat × Nat × List (Nat × List Int)
abbrev cowA (v : CowV) (p : CowF) : List AC := [.sl ⟨.loc 0, 0, 0, 0⟩ v.1.length p.1, .sl ⟨.loc 2, 0, 0, 0⟩ v.2.1.length p.2.2.1, .sl ⟨.loc 3, 0, 0, 0⟩ v.2.2.length p.2.2.2.1]
abbrev cowG (v : CowV) (p : CowF) : List Rg := [.rows true 23 1 [(p.1, nestC (.loc 1) p.2.1)], .rows true 3 1 (mems p.2.1), rowG true 3 p.2.2.1 v.2.1, .rows true 23 1 [(p.2.2.2.1, nestC (.loc 4) p.2.2.2.2)], .rows true 3 1 (mems p.2.2.2.2)]
def c_spec_l29Act : Contract := ⟨78, fun args M => match args with
  | [.c (.ptr a), .agg [.sl a1 n1 _, .sl a2 n2 c2, .sl a3 n3 _]] => curK a (M a.r) fun r t b n c p _ => .eff (CurOk b n p (M b.r) ∧ ((Row2Ok Int a1 n1 M ∧ RowOk Int a2 n2 (M a2.r) ∧ Row2Ok Int a3 n3 M) ∧ n2 ≤ c2) ∧ cowOk (row2 Int a1 n1 M) (row Int a2 n2 (M a2.r)) (row2 Int a3 n3 M)) (CowV × CowF × Int × Int) (fun q => (cowOk q.1.1 q.1.2.1 q.1.2.2 ∧ CowC q.1.1 q.1.2.1 q.1.2.2 q.2.1) ∧ 0 ≤ q.2.2.1 ∧ q.2.2.1 ≤ n) (fun q => .agg (cowA q.1 q.2.1)) (fun q => cowG q.1 q.2.1) (fun q => [(r, .box t [.sl b.up n c, .int .i64 q.2.2.1, .int .i64 q.2.2.2])])
  | _ => .bad⟩
theorem ok_spec_l29Act : fnP Try.prog c_spec_l29Act.f = true ∧ ∀ args M, (c_spec_l29Act.sp args M).OK Try.prog c_spec_l29Act.f args M := by
  refine ⟨fp_78, fun args M => ?_⟩
  unfold c_spec_l29Act
  dsimp only
  split
  case h_2 => trivial
  rename_i a a1 n1 c1 a2 n2 c2 a3 n3 c3
  refine curK_cases ?_
  rintro r t b n c p h rfl hr
  rintro ⟨⟨hb, hp0, hpn⟩, ⟨⟨h1, h2, h3⟩, hc2⟩, hok⟩
  dsimp only at hr
  have hal := cur_alias hb hr
  have hl2 := box_aliasOk h2 hr
  have hr2 := box_aliasRow h2 hr
  obtain ⟨s1, X, hX, rfl, t1⟩ := h1.x
  obtain ⟨s2, R, hR, rfl, t2⟩ := h2.x
  obtain ⟨s3, Z, hZ, rfl, t3⟩ := h3.x
  rw [hX, hR, hZ] at hok
  rw [hR] at hr2
  refine goIn hf_78 rfl (nt := 62) rfl (rs := [.cell 4 25]) rfl (C := [c_spec_l1Below, c_spec_CowGrow, c_spec_CowWrite, c_spec_CowFork, c_spec_CowFree]) ⟨(by first | exact .inl ok_spec_l1Below | exact ok_spec_l1Below), (by first | exact .inl ok_spec_CowGrow | exact ok_spec_CowGrow), (by first | exact .inl ok_spec_CowWrite | exact ok_spec_CowWrite), (by first | exact .inl ok_spec_CowFork | exact ok_spec_CowFork), (by first | exact .inl ok_spec_CowFree | exact ok_spec_CowFree), trivial⟩ (q := fun f => [32, 26].contains f) ⟨fun h => absurd h (by decide), fun h => absurd h (by decide), fun _ => q_spec_CowWrite, fun _ => q_spec_CowFork, fun h => absurd h (by decide), trivial⟩ mixed (O := ots [(10, otl [1, 2, 4] (.alt 0 (otl [] (.alt 3 (otl [] (.alt 5 (otl [] (.alt 6 (otl [7, 8, 9, 10, 11, 12] .nil) (otl [10, 6, 7, 8, 9, 11, 12] .nil))) (otl [10, 5, 6, 7, 8, 9, 11, 12] .nil))) (otl [10, 3, 5, 6, 7, 8, 9, 11, 12] .nil))) (otl [] (.alt 3 (otl [] (.alt 0 (otl [] (.alt 5 (otl [] (.alt 6 (otl [7, 8, 9, 10, 11, 12] .nil) (otl [10, 6, 7, 8, 9, 11, 12] .nil))) (otl [10, 5, 6, 7, 8, 9, 11, 12] .nil))) (otl [] (.alt 5 (otl [0] (.alt 6 (otl [7, 8, 9, 10, 11, 12] .nil) (otl [10, 6, 7, 8, 9, 11, 12] .nil))) (otl [10] (.alt 0 (otl [5, 6, 7, 8, 9, 11, 12] .nil) (otl [5, 0, 6, 7, 8, 9, 11, 12] .nil))))))) (otl [10] (.alt 0 (otl [3, 5, 6, 7, 8, 9, 11, 12] .nil) (otl [3] (.alt 0 (otl [5, 6, 7, 8, 9, 11, 12] .nil) (otl [5, 0, 6, 7, 8, 9, 11, 12] .nil))))))))), (14, otl [1, 2] (.alt 0 (otl [] (.alt 3 (otl [] (.alt 4 (otl [5, 6, 7, 8, 9, 10] .nil) (otl [8, 4, 5, 6, 7, 9, 10] .nil))) (otl [8, 3, 4, 5, 6, 7, 9, 10] .nil))) (otl [] (.alt 3 (otl [0] (.alt 4 (otl [5, 6, 7, 8, 9, 10] .nil) (otl [8, 4, 5, 6, 7, 9, 10] .nil))) (otl [8] (.alt 0 (otl [3, 4, 5, 6, 7, 9, 10] .nil) (otl [3, 0, 4, 5, 6, 7, 9, 10] .nil)))))))]) (by kernel_rfl) ?_
  simp (config := { maxSteps := 1000000 }) only [↓WP, ↓grdD, ↓grdT, ↓un_dead, ↓binVC, ↓buildVC, ↓sliceVC, WQ, WN, Int.reduceToNat, renl, cll, rent, clt, ↓reduceIte, Nat.reduceLeDiff, Nat.reduceEqDiff, Nat.reduceLT, reduceCtorEq, List.append_nil, Nat.reduceAdd, Nat.reduceSub, Nat.reduceBEq, forall_const, implies_true, cond_true, cond_false, AV.ren, AC.ren, AV.cl, AC.cl, eq_self, List.all_cons, List.all_nil, AV.eqv, AC.eqv, eqvl, eqvt, Sl.eqv, List.map_append, List.length_map, List.length_append, List.length_replicate, List.length_set, List.map_replicate, nilVC, zr_25, sz_25, c_spec_l1Below, c_spec_CowGrow, c_spec_CowWrite, c_spec_CowFork, c_spec_CowFree, hr, hb, hal, hl2, hr2, Row2Ok_box h1 hX hr, row2_box h1 hX hr, Row2Ok_box h3 hZ hr, row2_box h3 hZ hr]
  refine ⟨⟨hp0, hpn⟩, ?_⟩
  rintro ⟨s, p1, z1⟩ ⟨⟨_, hs⟩, f1⟩
  refine ⟨f1, ?_⟩
  rintro ⟨m, p2, z2⟩ ⟨⟨_, hm⟩, f2⟩
  dsimp only at hs f1 hm f2 ⊢
  repeat' (first | with_reducible refine And.intro ?_ ?_ | intro _)
  all_goals try omega
  all_goals try exact .inr trivial
  all_goals first
    | (rename_i p hp; refine end_ret ?_; simp only [↓WP, ↓grdD, ↓grdT, ↓un_dead, ↓binVC, ↓buildVC, ↓sliceVC, WQ, WN, Int.reduceToNat, renl, cll, rent, clt, ↓reduceIte, Nat.reduceLeDiff, Nat.reduceEqDiff, Nat.reduceLT, reduceCtorEq, List.append_nil, Nat.reduceAdd, Nat.reduceSub, Nat.reduceBEq, forall_const, implies_true, cond_true, cond_false, AV.ren, AC.ren, AV.cl, AC.cl, eq_self, List.all_cons, List.all_nil, AV.eqv, AC.eqv, eqvl, eqvt, Sl.eqv, List.map_append, List.length_map, List.length_append, List.length_replicate, List.length_set, List.map_replicate, nilVC, zr_25, sz_25, c_spec_l1Below, c_spec_CowGrow, c_spec_CowWrite, c_spec_CowFork, c_spec_CowFree]; refine ⟨((growO X R Z s).1, p, p2, z2), [], [2, 3, 4, 5, 6], ?_⟩; simp only [WL, WNL, swA_new, swA_ne, nest_sw_ne, mapLL, List.mem_cons, Nat.reduceAdd, Nat.reduceLT, Nat.reduceLeDiff, Nat.reduceEqDiff, okU, List.nodup_cons, List.not_mem_nil, toT, toL, toO, keysO, renl, rent, cll, clt, eq_self, AV.eqv, AC.eqv, eqvl, eqvt, Sl.eqv, rowsLe, mapLL, rowsCl, List.map_append, List.length_map, List.length_append, List.length_set, List.map_replicate, rowG, List.getElem?_cons_zero, List.getElem?_cons_succ, List.getElem?_nil, List.append_nil, List.nil_append, List.cons_append, ghosts, St.gh, Option.some.injEq, implies_true, setT, AV.ren, AC.ren, AV.cl, AC.cl, List.replicate_succ, List.replicate_zero, List.nodup_nil, List.length_nil, List.length_cons, List.getD_cons_zero, List.getD_cons_succ, ↓reduceIte, retP, hr]; (try simp [okU, hr]); (repeat' (with_reducible refine And.intro ?_ ?_)); (all_goals first | exact grow_ok hok s | exact hp | exact f2.1 | exact f2.2 | rfl | omega); done)
    | (rename_i p hp; refine end_ret ?_; simp only [↓WP, ↓grdD, ↓grdT, ↓un_dead, ↓binVC, ↓buildVC, ↓sliceVC, WQ, WN, Int.reduceToNat, renl, cll, rent, clt, ↓reduceIte, Nat.reduceLeDiff, Nat.reduceEqDiff, Nat.reduceLT, reduceCtorEq, List.append_nil, Nat.reduceAdd, Nat.reduceSub, Nat.reduceBEq, forall_const, implies_true, cond_true, cond_false, AV.ren, AC.ren, AV.cl, AC.cl, eq_self, List.all_cons, List.all_nil, AV.eqv, AC.eqv, eqvl, eqvt, Sl.eqv, List.map_append, List.length_map, List.length_append, List.length_replicate, List.length_set, List.map_replicate, nilVC, zr_25, sz_25, c_spec_l1Below, c_spec_CowGrow, c_spec_CowWrite, c_spec_CowFork, c_spec_CowFree]; refine ⟨((freeO X R Z s).1, p, p2, z2), [], [2, 3, 4, 5, 6], ?_⟩; simp only [WL, WNL, swA_new, swA_ne, nest_sw_ne, mapLL, List.mem_cons, Nat.reduceAdd, Nat.reduceLT, Nat.reduceLeDiff, Nat.reduceEqDiff, okU, List.nodup_cons, List.not_mem_nil, toT, toL, toO, keysO, renl, rent, cll, clt, eq_self, AV.eqv, AC.eqv, eqvl, eqvt, Sl.eqv, rowsLe, mapLL, rowsCl, List.map_append, List.length_map, List.length_append, List.length_set, List.map_replicate, rowG, List.getElem?_cons_zero, List.getElem?_cons_succ, List.getElem?_nil, List.append_nil, List.nil_append, List.cons_append, ghosts, St.gh, Option.some.injEq, implies_true, setT, AV.ren, AC.ren, AV.cl, AC.cl, List.replicate_succ, List.replicate_zero, List.nodup_nil, List.length_nil, List.length_cons, List.getD_cons_zero, List.getD_cons_succ, ↓reduceIte, retP, hr]; (try simp [okU, hr]); (repeat' (with_reducible refine And.intro ?_ ?_)); (all_goals first | exact free_ok hok s | exact hp | exact f2.1 | exact f2.2 | rfl | omega); done)
    | (rename_i ad had w hw p hp; refine end_ret ?_; simp only [↓WP, ↓grdD, ↓grdT, ↓un_dead, ↓binVC, ↓buildVC, ↓sliceVC, WQ, WN, Int.reduceToNat, renl, cll, rent, clt, ↓reduceIte, Nat.reduceLeDiff, Nat.reduceEqDiff, Nat.reduceLT, reduceCtorEq, List.append_nil, Nat.reduceAdd, Nat.reduceSub, Nat.reduceBEq, forall_const, implies_true, cond_true, cond_false, AV.ren, AC.ren, AV.cl, AC.cl, eq_self, List.all_cons, List.all_nil, AV.eqv, AC.eqv, eqvl, eqvt, Sl.eqv, List.map_append, List.length_map, List.length_append, List.length_replicate, List.length_set, List.map_replicate, nilVC, zr_25, sz_25, c_spec_l1Below, c_spec_CowGrow, c_spec_CowWrite, c_spec_CowFork, c_spec_CowFree]; refine ⟨((writeO X R Z s ad.1 w.1).1, p, w.2.1, w.2.2), [], [2, 3, 4, 5, 6], ?_⟩; simp only [WL, WNL, swA_new, swA_ne, nest_sw_ne, mapLL, List.mem_cons, Nat.reduceAdd, Nat.reduceLT, Nat.reduceLeDiff, Nat.reduceEqDiff, okU, List.nodup_cons, List.not_mem_nil, toT, toL, toO, keysO, renl, rent, cll, clt, eq_self, AV.eqv, AC.eqv, eqvl, eqvt, Sl.eqv, rowsLe, mapLL, rowsCl, List.map_append, List.length_map, List.length_append, List.length_set, List.map_replicate, rowG, List.getElem?_cons_zero, List.getElem?_cons_succ, List.getElem?_nil, List.append_nil, List.nil_append, List.cons_append, ghosts, St.gh, Option.some.injEq, implies_true, setT, AV.ren, AC.ren, AV.cl, AC.cl, List.replicate_succ, List.replicate_zero, List.nodup_nil, List.length_nil, List.length_cons, List.getD_cons_zero, List.getD_cons_succ, ↓reduceIte, retP, hr]; (try simp [okU, hr]); (repeat' (with_reducible refine And.intro ?_ ?_)); (all_goals first | exact write_ok hok s ad.1 w.1 | exact hp | exact hw.2.1 | exact hw.2.2 | rfl | omega); done)
    | (rename_i e he p hp; refine end_ret ?_; simp only [↓WP, ↓grdD, ↓grdT, ↓un_dead, ↓binVC, ↓buildVC, ↓sliceVC, WQ, WN, Int.reduceToNat, renl, cll, rent, clt, ↓reduceIte, Nat.reduceLeDiff, Nat.reduceEqDiff, Nat.reduceLT, reduceCtorEq, List.append_nil, Nat.reduceAdd, Nat.reduceSub, Nat.reduceBEq, forall_const, implies_true, cond_true, cond_false, AV.ren, AC.ren, AV.cl, AC.cl, eq_self, List.all_cons, List.all_nil, AV.eqv, AC.eqv, eqvl, eqvt, Sl.eqv, List.map_append, List.length_map, List.length_append, List.length_replicate, List.length_set, List.map_replicate, nilVC, zr_25, sz_25, c_spec_l1Below, c_spec_CowGrow, c_spec_CowWrite, c_spec_CowFork, c_spec_CowFree]; refine ⟨((forkO X R Z s e.1).1, p, e.2.1, e.2.2), [], [2, 3, 4, 5, 6], ?_⟩; simp only [WL, WNL, swA_new, swA_ne, nest_sw_ne, mapLL, List.mem_cons, Nat.reduceAdd, Nat.reduceLT, Nat.reduceLeDiff, Nat.reduceEqDiff, okU, List.nodup_cons, List.not_mem_nil, toT, toL, toO, keysO, renl, rent, cll, clt, eq_self, AV.eqv, AC.eqv, eqvl, eqvt, Sl.eqv, rowsLe, mapLL, rowsCl, List.map_append, List.length_map, List.length_append, List.length_set, List.map_replicate, rowG, List.getElem?_cons_zero, List.getElem?_cons_succ, List.getElem?_nil, List.append_nil, List.nil_append, List.cons_append, ghosts, St.gh, Option.some.injEq, implies_true, setT, AV.ren, AC.ren, AV.cl, AC.cl, List.replicate_succ, List.replicate_zero, List.nodup_nil, List.length_nil, List.length_cons, List.getD_cons_zero, List.getD_cons_succ, ↓reduceIte, retP, hr]; (try simp [okU, hr]); (repeat' (with_reducible refine And.intro ?_ ?_)); (all_goals first | exact fork_ok hok s e.1 | exact hp | exact he.2.1 | exact he.2.2 | rfl | omega); done)
    | (rename_i p hp; refine end_ret ?_; simp only [↓WP, ↓grdD, ↓grdT, ↓un_dead, ↓binVC, ↓buildVC, ↓sliceVC, WQ, WN, Int.reduceToNat, renl, cll, rent, clt, ↓reduceIte, Nat.reduceLeDiff, Nat.reduceEqDiff, Nat.reduceLT, reduceCtorEq, List.append_nil, Nat.reduceAdd, Nat.reduceSub, Nat.reduceBEq, forall_const, implies_true, cond_true, cond_false, AV.ren, AC.ren, AV.cl, AC.cl, eq_self, List.all_cons, List.all_nil, AV.eqv, AC.eqv, eqvl, eqvt, Sl.eqv, List.map_append, List.length_map, List.length_append, List.length_replicate, List.length_set, List.map_replicate, nilVC, zr_25, sz_25, c_spec_l1Below, c_spec_CowGrow, c_spec_CowWrite, c_spec_CowFork, c_spec_CowFree]; refine ⟨((growO X R Z s).1, p, p2, z2), [], [3, 4, 5, 6, 7], ?_⟩; simp only [WL, WNL, swA_new, swA_ne, nest_sw_ne, mapLL, List.mem_cons, Nat.reduceAdd, Nat.reduceLT, Nat.reduceLeDiff, Nat.reduceEqDiff, okU, List.nodup_cons, List.not_mem_nil, toT, toL, toO, keysO, renl, rent, cll, clt, eq_self, AV.eqv, AC.eqv, eqvl, eqvt, Sl.eqv, rowsLe, mapLL, rowsCl, List.map_append, List.length_map, List.length_append, List.length_set, List.map_replicate, rowG, List.getElem?_cons_zero, List.getElem?_cons_succ, List.getElem?_nil, List.append_nil, List.nil_append, List.cons_append, ghosts, St.gh, Option.some.injEq, implies_true, setT, AV.ren, AC.ren, AV.cl, AC.cl, List.replicate_succ, List.replicate_zero, List.nodup_nil, List.length_nil, List.length_cons, List.getD_cons_zero, List.getD_cons_succ, ↓reduceIte, retP, hr]; (try simp [okU, hr]); (repeat' (with_reducible refine And.intro ?_ ?_)); (all_goals first | exact grow_ok hok s | exact hp | exact f2.1 | exact f2.2 | rfl | omega); done)
    | (rename_i p hp; refine end_ret ?_; simp only [↓WP, ↓grdD, ↓grdT, ↓un_dead, ↓binVC, ↓buildVC, ↓sliceVC, WQ, WN, Int.reduceToNat, renl, cll, rent, clt, ↓reduceIte, Nat.reduceLeDiff, Nat.reduceEqDiff, Nat.reduceLT, reduceCtorEq, List.append_nil, Nat.reduceAdd, Nat.reduceSub, Nat.reduceBEq, forall_const, implies_true, cond_true, cond_false, AV.ren, AC.ren, AV.cl, AC.cl, eq_self, List.all_cons, List.all_nil, AV.eqv, AC.eqv, eqvl, eqvt, Sl.eqv, List.map_append, List.length_map, List.length_append, List.length_replicate, List.length_set, List.map_replicate, nilVC, zr_25, sz_25, c_spec_l1Below, c_spec_CowGrow, c_spec_CowWrite, c_spec_CowFork, c_spec_CowFree]; refine ⟨((freeO X R Z s).1, p, p2, z2), [], [3, 4, 5, 6, 7], ?_⟩; simp only [WL, WNL, swA_new, swA_ne, nest_sw_ne, mapLL, List.mem_cons, Nat.reduceAdd, Nat.reduceLT, Nat.reduceLeDiff, Nat.reduceEqDiff, okU, List.nodup_cons, List.not_mem_nil, toT, toL, toO, keysO, renl, rent, cll, clt, eq_self, AV.eqv, AC.eqv, eqvl, eqvt, Sl.eqv, rowsLe, mapLL, rowsCl, List.map_append, List.length_map, List.length_append, List.length_set, List.map_replicate, rowG, List.getElem?_cons_zero, List.getElem?_cons_succ, List.getElem?_nil, List.append_nil, List.nil_append, List.cons_append, ghosts, St.gh, Option.some.injEq, implies_true, setT, AV.ren, AC.ren, AV.cl, AC.cl, List.replicate_succ, List.replicate_zero, List.nodup_nil, List.length_nil, List.length_cons, List.getD_cons_zero, List.getD_cons_succ, ↓reduceIte, retP, hr]; (try simp [okU, hr]); (repeat' (with_reducible refine And.intro ?_ ?_)); (all_goals first | exact free_ok hok s | exact hp | exact f2.1 | exact f2.2 | rfl | omega); done)
    | (rename_i ad had w hw p hp; refine end_ret ?_; simp only [↓WP, ↓grdD, ↓grdT, ↓un_dead, ↓binVC, ↓buildVC, ↓sliceVC, WQ, WN, Int.reduceToNat, renl, cll, rent, clt, ↓reduceIte, Nat.reduceLeDiff, Nat.reduceEqDiff, Nat.reduceLT, reduceCtorEq, List.append_nil, Nat.reduceAdd, Nat.reduceSub, Nat.reduceBEq, forall_const, implies_true, cond_true, cond_false, AV.ren, AC.ren, AV.cl, AC.cl, eq_self, List.all_cons, List.all_nil, AV.eqv, AC.eqv, eqvl, eqvt, Sl.eqv, List.map_append, List.length_map, List.length_append, List.length_replicate, List.length_set, List.map_replicate, nilVC, zr_25, sz_25, c_spec_l1Below, c_spec_CowGrow, c_spec_CowWrite, c_spec_CowFork, c_spec_CowFree]; refine ⟨((writeO X R Z s ad.1 w.1).1, p, w.2.1, w.2.2), [], [3, 4, 5, 6, 7], ?_⟩; simp only [WL, WNL, swA_new, swA_ne, nest_sw_ne, mapLL, List.mem_cons, Nat.reduceAdd, Nat.reduceLT, Nat.reduceLeDiff, Nat.reduceEqDiff, okU, List.nodup_cons, List.not_mem_nil, toT, toL, toO, keysO, renl, rent, cll, clt, eq_self, AV.eqv, AC.eqv, eqvl, eqvt, Sl.eqv, rowsLe, mapLL, rowsCl, List.map_append, List.length_map, List.length_append, List.length_set, List.map_replicate, rowG, List.getElem?_cons_zero, List.getElem?_cons_succ, List.getElem?_nil, List.append_nil, List.nil_append, List.cons_append, ghosts, St.gh, Option.some.injEq, implies_true, setT, AV.ren, AC.ren, AV.cl, AC.cl, List.replicate_succ, List.replicate_zero, List.nodup_nil, List.length_nil, List.length_cons, List.getD_cons_zero, List.getD_cons_succ, ↓reduceIte, retP, hr]; (try simp [okU, hr]); (repeat' (with_reducible refine And.intro ?_ ?_)); (all_goals first | exact write_ok hok s ad.1 w.1 | exact hp | exact hw.2.1 | exact hw.2.2 | rfl | omega); done)
    | (rename_i e he p hp; refine end_ret ?_; simp only [↓WP, ↓grdD, ↓grdT, ↓un_dead, ↓binVC, ↓buildVC, ↓sliceVC, WQ, WN, Int.reduceToNat, renl, cll, rent, clt, ↓reduceIte, Nat.reduceLeDiff, Nat.reduceEqDiff, Nat.reduceLT, reduceCtorEq, List.append_nil, Nat.reduceAdd, Nat.reduceSub, Nat.reduceBEq, forall_const, implies_true, cond_true, cond_false, AV.ren, AC.ren, AV.cl, AC.cl, eq_self, List.all_cons, List.all_nil, AV.eqv, AC.eqv, eqvl, eqvt, Sl.eqv, List.map_append, List.length_map, List.length_append, List.length_replicate, List.length_set, List.map_replicate, nilVC, zr_25, sz_25, c_spec_l1Below, c_spec_CowGrow, c_spec_CowWrite, c_spec_CowFork, c_spec_CowFree]; refine ⟨((forkO X R Z s e.1).1, p, e.2.1, e.2.2), [], [3, 4, 5, 6, 7], ?_⟩; simp only [WL, WNL, swA_new, swA_ne, nest_sw_ne, mapLL, List.mem_cons, Nat.reduceAdd, Nat.reduceLT, Nat.reduceLeDiff, Nat.reduceEqDiff, okU, List.nodup_cons, List.not_mem_nil, toT, toL, toO, keysO, renl, rent, cll, clt, eq_self, AV.eqv, AC.eqv, eqvl, eqvt, Sl.eqv, rowsLe, mapLL, rowsCl, List.map_append, List.length_map, List.length_append, List.length_set, List.map_replicate, rowG, List.getElem?_cons_zero, List.getElem?_cons_succ, List.getElem?_nil, List.append_nil, List.nil_append, List.cons_append, ghosts, St.gh, Option.some.injEq, implies_true, setT, AV.ren, AC.ren, AV.cl, AC.cl, List.replicate_succ, List.replicate_zero, List.nodup_nil, List.length_nil, List.length_cons, List.getD_cons_zero, List.getD_cons_succ, ↓reduceIte, retP, hr]; (try simp [okU, hr]); (repeat' (with_reducible refine And.intro ?_ ?_)); (all_goals first | exact fork_ok hok s e.1 | exact hp | exact he.2.1 | exact he.2.2 | rfl | omega); done)
end Go.Eng.T
