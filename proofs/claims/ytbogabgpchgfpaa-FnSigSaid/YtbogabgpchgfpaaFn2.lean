/- sig: SigNew. -/
import Derived.Test.YtbogabgpchgfpaaFn1
set_option linter.unusedVariables false
set_option linter.unusedSimpArgs false
set_option linter.unusedSectionVars false
namespace Go.Eng.T
open Go.Proofs
open Cel (enc dec)
set_option maxRecDepth 100000
set_option maxHeartbeats 4000000
def c_spec_SigNew : Contract := ⟨12, fun args M => match args with
  | [] => .eff True Unit (fun _ => True) (fun _ => .agg [.sl ⟨.loc 0, 0, 0, 0⟩ 16 16, .sl ⟨.loc 1, 0, 0, 0⟩ 16 16, .sl ⟨.loc 2, 0, 0, 0⟩ 16 16, .sl ⟨.loc 3, 0, 0, 0⟩ 0 0, .int .i64 0]) (fun _ => [rowG true 4 16 (List.replicate 16 false), rowG true 4 16 (List.replicate 16 false), rowG true 3 16 (List.replicate 16 (0 : Int)), rowG true 3 0 ([] : List Int)]) (fun _ => [])
  | _ => .bad⟩
theorem ok_spec_SigNew : fnP Try.prog c_spec_SigNew.f = true ∧ ∀ args M, (c_spec_SigNew.sp args M).OK Try.prog c_spec_SigNew.f args M := by
  refine ⟨fp_12, fun args M => ?_⟩
  unfold c_spec_SigNew
  dsimp only
  split
  case h_2 => trivial
  intro _
  refine goIn hf_12 rfl (nt := 5) rfl (rs := [.cell 0 25]) rfl (C := []) trivial (q := fun f => [].contains f) trivial mixed (O := ots [(1, otl [] (.alt 0 (otl [] (.alt 1 (otl [2, 3, 4] .nil) (otl [2, 1, 3, 4] .nil))) (otl [] (.alt 1 (otl [] (.alt 0 (otl [2, 3, 4] .nil) (otl [2, 0, 3, 4] .nil))) (otl [2] (.alt 0 (otl [1, 3, 4] .nil) (otl [1, 0, 3, 4] .nil)))))))]) (by kernel_rfl) ?_
  simp only [↓WP, ↓grdD, ↓grdT, ↓un_dead, ↓binVC, ↓buildVC, ↓sliceVC, WQ, WN, Int.reduceToNat, renl, cll, rent, clt, ↓reduceIte, Nat.reduceLeDiff, Nat.reduceEqDiff, Nat.reduceLT, reduceCtorEq, List.append_nil, Nat.reduceAdd, Nat.reduceSub, Nat.reduceBEq, forall_const, implies_true, cond_true, cond_false, AV.ren, AC.ren, AV.cl, AC.cl, eq_self, List.all_cons, List.all_nil, AV.eqv, AC.eqv, eqvl, eqvt, Sl.eqv, List.map_append, List.length_map, List.length_append, List.length_replicate, List.length_set, List.map_replicate, nilVC, zr_25, el_22, zr_4, el_23, zr_3, fs_25, sz_25]
  repeat' (first | with_reducible refine And.intro ?_ ?_ | intro _)
  all_goals try omega
  all_goals try rfl
  all_goals
    refine end_ret ?_
    simp only [↓WP, ↓grdD, ↓grdT, ↓un_dead, ↓binVC, ↓buildVC, ↓sliceVC, WQ, WN, Int.reduceToNat, renl, cll, rent, clt, ↓reduceIte, Nat.reduceLeDiff, Nat.reduceEqDiff, Nat.reduceLT, reduceCtorEq, List.append_nil, Nat.reduceAdd, Nat.reduceSub, Nat.reduceBEq, forall_const, implies_true, cond_true, cond_false, AV.ren, AC.ren, AV.cl, AC.cl, eq_self, List.all_cons, List.all_nil, AV.eqv, AC.eqv, eqvl, eqvt, Sl.eqv, List.map_append, List.length_map, List.length_append, List.length_replicate, List.length_set, List.map_replicate, nilVC, zr_25, el_22, zr_4, el_23, zr_3, fs_25, sz_25]
    first
      | (refine ⟨(), [(3, 1)], [1, 2, 3, 4], ?_⟩; simp only [WL, WNL, swA_new, swA_ne, nest_sw_ne, mapLL, List.mem_cons, Nat.reduceAdd, Nat.reduceLT, Nat.reduceLeDiff, Nat.reduceEqDiff, okU, List.nodup_cons, List.not_mem_nil, toT, toL, toO, keysO, renl, rent, cll, clt, eq_self, AV.eqv, AC.eqv, eqvl, eqvt, Sl.eqv, rowsLe, mapLL, rowsCl, List.map_append, List.length_map, List.length_append, List.length_set, List.map_replicate, rowG, List.getElem?_cons_zero, List.getElem?_cons_succ, List.getElem?_nil, List.append_nil, List.nil_append, List.cons_append, ghosts, St.gh, Option.some.injEq, implies_true, setT, AV.ren, AC.ren, AV.cl, AC.cl, List.replicate_succ, List.replicate_zero, List.nodup_nil, List.length_nil, List.length_cons, List.getD_cons_zero, List.getD_cons_succ, ↓reduceIte, retP]; simp; done)
      | (refine ⟨(), [(3, 1)], [1, 3, 2, 4], ?_⟩; simp only [WL, WNL, swA_new, swA_ne, nest_sw_ne, mapLL, List.mem_cons, Nat.reduceAdd, Nat.reduceLT, Nat.reduceLeDiff, Nat.reduceEqDiff, okU, List.nodup_cons, List.not_mem_nil, toT, toL, toO, keysO, renl, rent, cll, clt, eq_self, AV.eqv, AC.eqv, eqvl, eqvt, Sl.eqv, rowsLe, mapLL, rowsCl, List.map_append, List.length_map, List.length_append, List.length_set, List.map_replicate, rowG, List.getElem?_cons_zero, List.getElem?_cons_succ, List.getElem?_nil, List.append_nil, List.nil_append, List.cons_append, ghosts, St.gh, Option.some.injEq, implies_true, setT, AV.ren, AC.ren, AV.cl, AC.cl, List.replicate_succ, List.replicate_zero, List.nodup_nil, List.length_nil, List.length_cons, List.getD_cons_zero, List.getD_cons_succ, ↓reduceIte, retP]; simp; done)
      | (refine ⟨(), [(3, 1)], [2, 1, 3, 4], ?_⟩; simp only [WL, WNL, swA_new, swA_ne, nest_sw_ne, mapLL, List.mem_cons, Nat.reduceAdd, Nat.reduceLT, Nat.reduceLeDiff, Nat.reduceEqDiff, okU, List.nodup_cons, List.not_mem_nil, toT, toL, toO, keysO, renl, rent, cll, clt, eq_self, AV.eqv, AC.eqv, eqvl, eqvt, Sl.eqv, rowsLe, mapLL, rowsCl, List.map_append, List.length_map, List.length_append, List.length_set, List.map_replicate, rowG, List.getElem?_cons_zero, List.getElem?_cons_succ, List.getElem?_nil, List.append_nil, List.nil_append, List.cons_append, ghosts, St.gh, Option.some.injEq, implies_true, setT, AV.ren, AC.ren, AV.cl, AC.cl, List.replicate_succ, List.replicate_zero, List.nodup_nil, List.length_nil, List.length_cons, List.getD_cons_zero, List.getD_cons_succ, ↓reduceIte, retP]; simp; done)
      | (refine ⟨(), [(3, 1)], [2, 3, 1, 4], ?_⟩; simp only [WL, WNL, swA_new, swA_ne, nest_sw_ne, mapLL, List.mem_cons, Nat.reduceAdd, Nat.reduceLT, Nat.reduceLeDiff, Nat.reduceEqDiff, okU, List.nodup_cons, List.not_mem_nil, toT, toL, toO, keysO, renl, rent, cll, clt, eq_self, AV.eqv, AC.eqv, eqvl, eqvt, Sl.eqv, rowsLe, mapLL, rowsCl, List.map_append, List.length_map, List.length_append, List.length_set, List.map_replicate, rowG, List.getElem?_cons_zero, List.getElem?_cons_succ, List.getElem?_nil, List.append_nil, List.nil_append, List.cons_append, ghosts, St.gh, Option.some.injEq, implies_true, setT, AV.ren, AC.ren, AV.cl, AC.cl, List.replicate_succ, List.replicate_zero, List.nodup_nil, List.length_nil, List.length_cons, List.getD_cons_zero, List.getD_cons_succ, ↓reduceIte, retP]; simp; done)
      | (refine ⟨(), [(3, 1)], [3, 1, 2, 4], ?_⟩; simp only [WL, WNL, swA_new, swA_ne, nest_sw_ne, mapLL, List.mem_cons, Nat.reduceAdd, Nat.reduceLT, Nat.reduceLeDiff, Nat.reduceEqDiff, okU, List.nodup_cons, List.not_mem_nil, toT, toL, toO, keysO, renl, rent, cll, clt, eq_self, AV.eqv, AC.eqv, eqvl, eqvt, Sl.eqv, rowsLe, mapLL, rowsCl, List.map_append, List.length_map, List.length_append, List.length_set, List.map_replicate, rowG, List.getElem?_cons_zero, List.getElem?_cons_succ, List.getElem?_nil, List.append_nil, List.nil_append, List.cons_append, ghosts, St.gh, Option.some.injEq, implies_true, setT, AV.ren, AC.ren, AV.cl, AC.cl, List.replicate_succ, List.replicate_zero, List.nodup_nil, List.length_nil, List.length_cons, List.getD_cons_zero, List.getD_cons_succ, ↓reduceIte, retP]; simp; done)
      | (refine ⟨(), [(3, 1)], [3, 2, 1, 4], ?_⟩; simp only [WL, WNL, swA_new, swA_ne, nest_sw_ne, mapLL, List.mem_cons, Nat.reduceAdd, Nat.reduceLT, Nat.reduceLeDiff, Nat.reduceEqDiff, okU, List.nodup_cons, List.not_mem_nil, toT, toL, toO, keysO, renl, rent, cll, clt, eq_self, AV.eqv, AC.eqv, eqvl, eqvt, Sl.eqv, rowsLe, mapLL, rowsCl, List.map_append, List.length_map, List.length_append, List.length_set, List.map_replicate, rowG, List.getElem?_cons_zero, List.getElem?_cons_succ, List.getElem?_nil, List.append_nil, List.nil_append, List.cons_append, ghosts, St.gh, Option.some.injEq, implies_true, setT, AV.ren, AC.ren, AV.cl, AC.cl, List.replicate_succ, List.replicate_zero, List.nodup_nil, List.length_nil, List.length_cons, List.getD_cons_zero, List.getD_cons_succ, ↓reduceIte, retP]; simp; done)
def c_impl_SigNew : Contract := ⟨13, fun args M => match args with
  | [] => .eff True Unit (fun _ => True) (fun _ => .agg [.sl ⟨.loc 0, 0, 0, 0⟩ 16 16, .sl ⟨.loc 1, 0, 0, 0⟩ 16 16, .sl ⟨.loc 2, 0, 0, 0⟩ 16 16, .sl ⟨.loc 3, 0, 0, 0⟩ 0 0, .int .i64 0]) (fun _ => [rowG true 4 16 (List.replicate 16 false), rowG true 4 16 (List.replicate 16 false), rowG true 3 16 (List.replicate 16 (0 : Int)), rowG true 3 0 ([] : List Int)]) (fun _ => [])
  | _ => .bad⟩
theorem ok_impl_SigNew : fnP Try.prog c_impl_SigNew.f = true ∧ ∀ args M, (c_impl_SigNew.sp args M).OK Try.prog c_impl_SigNew.f args M := by
  refine ⟨fp_13, fun args M => ?_⟩
  unfold c_impl_SigNew
  dsimp only
  split
  case h_2 => trivial
  intro _
  refine goIn hf_13 rfl (nt := 5) rfl (rs := [.cell 0 25]) rfl (C := []) trivial (q := fun f => [].contains f) trivial mixed (O := ots [(1, otl [] (.alt 0 (otl [] (.alt 1 (otl [2, 3, 4] .nil) (otl [2, 1, 3, 4] .nil))) (otl [] (.alt 1 (otl [] (.alt 0 (otl [2, 3, 4] .nil) (otl [2, 0, 3, 4] .nil))) (otl [2] (.alt 0 (otl [1, 3, 4] .nil) (otl [1, 0, 3, 4] .nil)))))))]) (by kernel_rfl) ?_
  simp only [↓WP, ↓grdD, ↓grdT, ↓un_dead, ↓binVC, ↓buildVC, ↓sliceVC, WQ, WN, Int.reduceToNat, renl, cll, rent, clt, ↓reduceIte, Nat.reduceLeDiff, Nat.reduceEqDiff, Nat.reduceLT, reduceCtorEq, List.append_nil, Nat.reduceAdd, Nat.reduceSub, Nat.reduceBEq, forall_const, implies_true, cond_true, cond_false, AV.ren, AC.ren, AV.cl, AC.cl, eq_self, List.all_cons, List.all_nil, AV.eqv, AC.eqv, eqvl, eqvt, Sl.eqv, List.map_append, List.length_map, List.length_append, List.length_replicate, List.length_set, List.map_replicate, nilVC, zr_25, el_22, zr_4, el_23, zr_3, fs_25, sz_25]
  repeat' (first | with_reducible refine And.intro ?_ ?_ | intro _)
  all_goals try omega
  all_goals try rfl
  all_goals
    refine end_ret ?_
    simp only [↓WP, ↓grdD, ↓grdT, ↓un_dead, ↓binVC, ↓buildVC, ↓sliceVC, WQ, WN, Int.reduceToNat, renl, cll, rent, clt, ↓reduceIte, Nat.reduceLeDiff, Nat.reduceEqDiff, Nat.reduceLT, reduceCtorEq, List.append_nil, Nat.reduceAdd, Nat.reduceSub, Nat.reduceBEq, forall_const, implies_true, cond_true, cond_false, AV.ren, AC.ren, AV.cl, AC.cl, eq_self, List.all_cons, List.all_nil, AV.eqv, AC.eqv, eqvl, eqvt, Sl.eqv, List.map_append, List.length_map, List.length_append, List.length_replicate, List.length_set, List.map_replicate, nilVC, zr_25, el_22, zr_4, el_23, zr_3, fs_25, sz_25]
    first
      | (refine ⟨(), [(3, 1)], [1, 2, 3, 4], ?_⟩; simp only [WL, WNL, swA_new, swA_ne, nest_sw_ne, mapLL, List.mem_cons, Nat.reduceAdd, Nat.reduceLT, Nat.reduceLeDiff, Nat.reduceEqDiff, okU, List.nodup_cons, List.not_mem_nil, toT, toL, toO, keysO, renl, rent, cll, clt, eq_self, AV.eqv, AC.eqv, eqvl, eqvt, Sl.eqv, rowsLe, mapLL, rowsCl, List.map_append, List.length_map, List.length_append, List.length_set, List.map_replicate, rowG, List.getElem?_cons_zero, List.getElem?_cons_succ, List.getElem?_nil, List.append_nil, List.nil_append, List.cons_append, ghosts, St.gh, Option.some.injEq, implies_true, setT, AV.ren, AC.ren, AV.cl, AC.cl, List.replicate_succ, List.replicate_zero, List.nodup_nil, List.length_nil, List.length_cons, List.getD_cons_zero, List.getD_cons_succ, ↓reduceIte, retP]; simp; done)
      | (refine ⟨(), [(3, 1)], [1, 3, 2, 4], ?_⟩; simp only [WL, WNL, swA_new, swA_ne, nest_sw_ne, mapLL, List.mem_cons, Nat.reduceAdd, Nat.reduceLT, Nat.reduceLeDiff, Nat.reduceEqDiff, okU, List.nodup_cons, List.not_mem_nil, toT, toL, toO, keysO, renl, rent, cll, clt, eq_self, AV.eqv, AC.eqv, eqvl, eqvt, Sl.eqv, rowsLe, mapLL, rowsCl, List.map_append, List.length_map, List.length_append, List.length_set, List.map_replicate, rowG, List.getElem?_cons_zero, List.getElem?_cons_succ, List.getElem?_nil, List.append_nil, List.nil_append, List.cons_append, ghosts, St.gh, Option.some.injEq, implies_true, setT, AV.ren, AC.ren, AV.cl, AC.cl, List.replicate_succ, List.replicate_zero, List.nodup_nil, List.length_nil, List.length_cons, List.getD_cons_zero, List.getD_cons_succ, ↓reduceIte, retP]; simp; done)
      | (refine ⟨(), [(3, 1)], [2, 1, 3, 4], ?_⟩; simp only [WL, WNL, swA_new, swA_ne, nest_sw_ne, mapLL, List.mem_cons, Nat.reduceAdd, Nat.reduceLT, Nat.reduceLeDiff, Nat.reduceEqDiff, okU, List.nodup_cons, List.not_mem_nil, toT, toL, toO, keysO, renl, rent, cll, clt, eq_self, AV.eqv, AC.eqv, eqvl, eqvt, Sl.eqv, rowsLe, mapLL, rowsCl, List.map_append, List.length_map, List.length_append, List.length_set, List.map_replicate, rowG, List.getElem?_cons_zero, List.getElem?_cons_succ, List.getElem?_nil, List.append_nil, List.nil_append, List.cons_append, ghosts, St.gh, Option.some.injEq, implies_true, setT, AV.ren, AC.ren, AV.cl, AC.cl, List.replicate_succ, List.replicate_zero, List.nodup_nil, List.length_nil, List.length_cons, List.getD_cons_zero, List.getD_cons_succ, ↓reduceIte, retP]; simp; done)
      | (refine ⟨(), [(3, 1)], [2, 3, 1, 4], ?_⟩; simp only [WL, WNL, swA_new, swA_ne, nest_sw_ne, mapLL, List.mem_cons, Nat.reduceAdd, Nat.reduceLT, Nat.reduceLeDiff, Nat.reduceEqDiff, okU, List.nodup_cons, List.not_mem_nil, toT, toL, toO, keysO, renl, rent, cll, clt, eq_self, AV.eqv, AC.eqv, eqvl, eqvt, Sl.eqv, rowsLe, mapLL, rowsCl, List.map_append, List.length_map, List.length_append, List.length_set, List.map_replicate, rowG, List.getElem?_cons_zero, List.getElem?_cons_succ, List.getElem?_nil, List.append_nil, List.nil_append, List.cons_append, ghosts, St.gh, Option.some.injEq, implies_true, setT, AV.ren, AC.ren, AV.cl, AC.cl, List.replicate_succ, List.replicate_zero, List.nodup_nil, List.length_nil, List.length_cons, List.getD_cons_zero, List.getD_cons_succ, ↓reduceIte, retP]; simp; done)
      | (refine ⟨(), [(3, 1)], [3, 1, 2, 4], ?_⟩; simp only [WL, WNL, swA_new, swA_ne, nest_sw_ne, mapLL, List.mem_cons, Nat.reduceAdd, Nat.reduceLT, Nat.reduceLeDiff, Nat.reduceEqDiff, okU, List.nodup_cons, List.not_mem_nil, toT, toL, toO, keysO, renl, rent, cll, clt, eq_self, AV.eqv, AC.eqv, eqvl, eqvt, Sl.eqv, rowsLe, mapLL, rowsCl, List.map_append, List.length_map, List.length_append, List.length_set, List.map_replicate, rowG, List.getElem?_cons_zero, List.getElem?_cons_succ, List.getElem?_nil, List.append_nil, List.nil_append, List.cons_append, ghosts, St.gh, Option.some.injEq, implies_true, setT, AV.ren, AC.ren, AV.cl, AC.cl, List.replicate_succ, List.replicate_zero, List.nodup_nil, List.length_nil, List.length_cons, List.getD_cons_zero, List.getD_cons_succ, ↓reduceIte, retP]; simp; done)
      | (refine ⟨(), [(3, 1)], [3, 2, 1, 4], ?_⟩; simp only [WL, WNL, swA_new, swA_ne, nest_sw_ne, mapLL, List.mem_cons, Nat.reduceAdd, Nat.reduceLT, Nat.reduceLeDiff, Nat.reduceEqDiff, okU, List.nodup_cons, List.not_mem_nil, toT, toL, toO, keysO, renl, rent, cll, clt, eq_self, AV.eqv, AC.eqv, eqvl, eqvt, Sl.eqv, rowsLe, mapLL, rowsCl, List.map_append, List.length_map, List.length_append, List.length_set, List.map_replicate, rowG, List.getElem?_cons_zero, List.getElem?_cons_succ, List.getElem?_nil, List.append_nil, List.nil_append, List.cons_append, ghosts, St.gh, Option.some.injEq, implies_true, setT, AV.ren, AC.ren, AV.cl, AC.cl, List.replicate_succ, List.replicate_zero, List.nodup_nil, List.length_nil, List.length_cons, List.getD_cons_zero, List.getD_cons_succ, ↓reduceIte, retP]; simp; done)
def c_laws_eqSig : Contract := ⟨14, fun args M => match args with
  | [.agg [.sl a1 n1 _, .sl a2 n2 _, .sl a3 n3 _, .sl a4 n4 _, .int .i64 u], .agg [.sl b1 m1 _, .sl b2 m2 _, .sl b3 m3 _, .sl b4 m4 _, .int .i64 v]] => .pure ((RowOk Bool a1 n1 (M a1.r) ∧ RowOk Bool a2 n2 (M a2.r) ∧ RowOk Int a3 n3 (M a3.r) ∧ RowOk Int a4 n4 (M a4.r)) ∧ RowOk Bool b1 m1 (M b1.r) ∧ RowOk Bool b2 m2 (M b2.r) ∧ RowOk Int b3 m3 (M b3.r) ∧ RowOk Int b4 m4 (M b4.r)) (Eng.B (decide (row Bool a1 n1 (M a1.r) = row Bool b1 m1 (M b1.r) ∧ row Bool a2 n2 (M a2.r) = row Bool b2 m2 (M b2.r) ∧ row Int a3 n3 (M a3.r) = row Int b3 m3 (M b3.r) ∧ row Int a4 n4 (M a4.r) = row Int b4 m4 (M b4.r) ∧ u = v)))
  | _ => .bad⟩
theorem ok_laws_eqSig : fnP Try.prog c_laws_eqSig.f = true ∧ ∀ args M, (c_laws_eqSig.sp args M).OK Try.prog c_laws_eqSig.f args M := by
  refine ⟨fp_14, fun args M => ?_⟩
  unfold c_laws_eqSig
  dsimp only
  split
  case h_2 => trivial
  rename_i a1 n1 _ a2 n2 _ a3 n3 _ a4 n4 _ u b1 m1 _ b2 m2 _ b3 m3 _ b4 m4 _ v
  rintro ⟨⟨h1, h2, h3, h4⟩, g1, g2, g3, g4⟩
  refine goIn hf_14 rfl (nt := 34) rfl (rs := [.tmp 4]) rfl (C := [c_laws_eqBoolS, c_laws_eqIntS]) ⟨(by first | exact .inl ok_laws_eqBoolS | exact ok_laws_eqBoolS), (by first | exact .inl ok_laws_eqIntS | exact ok_laws_eqIntS), trivial⟩ (q := fun _ => false) okQ_none mixed (O := fun _ => .nil) (by kernel_rfl) ?_
  simp only [↓WP, ↓grdD, ↓grdT, ↓un_dead, ↓binVC, ↓buildVC, ↓sliceVC, WQ, WN, Int.reduceToNat, renl, cll, rent, clt, ↓reduceIte, Nat.reduceLeDiff, Nat.reduceEqDiff, Nat.reduceLT, reduceCtorEq, List.append_nil, Nat.reduceAdd, Nat.reduceSub, Nat.reduceBEq, forall_const, implies_true, cond_true, cond_false, AV.ren, AC.ren, AV.cl, AC.cl, eq_self, List.all_cons, List.all_nil, AV.eqv, AC.eqv, eqvl, eqvt, Sl.eqv, List.map_append, List.length_map, List.length_append, List.length_replicate, List.length_set, List.map_replicate, nilVC, fl_25_0, sz_22, fl_25_1, fl_25_2, sz_23, fl_25_3, fl_25_4, sz_3, c_laws_eqBoolS, c_laws_eqIntS]
  simp only [WB, eq_self]
  simp [h1, h2, h3, h4, g1, g2, g3, g4]
  repeat' (first | with_reducible refine And.intro ?_ ?_ | intro _)
  all_goals simp_all
theorem q_laws_eqSig : Quiet c_laws_eqSig := by
  intro args M
  unfold c_laws_eqSig
  dsimp only
  split <;> first | trivial | (intro _; rfl)
def c_laws_heldSig : Contract := ⟨16, fun args M => match args with
  | [.agg [.sl a1 n1 _, .sl a2 n2 _, .sl a3 n3 _, .sl a4 n4 _, .int .i64 _], .c (.int .i64 k)] => .pure ((RowOk Bool a1 n1 (M a1.r) ∧ RowOk Bool a2 n2 (M a2.r) ∧ RowOk Int a3 n3 (M a3.r) ∧ RowOk Int a4 n4 (M a4.r)) ∧ 0 ≤ k ∧ k ≤ 2305843009213693952) (I (if row Bool a1 n1 (M a1.r) = markB k n1 ∧ row Bool a2 n2 (M a2.r) = markB (k + n1) n2 ∧ row Int a3 n3 (M a3.r) = mark1 (k + n1 + n2) n3 ∧ row Int a4 n4 (M a4.r) = mark1 (k + n1 + n2 + n3) n4 then k + n1 + n2 + n3 + n4 else -1))
  | _ => .bad⟩
theorem ok_laws_heldSig : fnP Try.prog c_laws_heldSig.f = true ∧ ∀ args M, (c_laws_heldSig.sp args M).OK Try.prog c_laws_heldSig.f args M := by
  refine ⟨fp_16, fun args M => ?_⟩
  unfold c_laws_heldSig
  dsimp only
  split
  case h_2 => trivial
  rename_i a1 n1 _ a2 n2 _ a3 n3 _ a4 n4 _ u k
  rintro ⟨⟨h1, h2, h3, h4⟩, hk, hk2⟩
  have s1 := h1.small
  have s2 := h2.small
  have s3 := h3.small
  have s4 := h4.small
  refine goIn hf_16 rfl (nt := 30) rfl (rs := [.tmp 4]) rfl (C := [c_laws_heldBoolS, c_laws_heldIntS]) ⟨(by first | exact .inl ok_laws_heldBoolS | exact ok_laws_heldBoolS), (by first | exact .inl ok_laws_heldIntS | exact ok_laws_heldIntS), trivial⟩ (q := fun _ => false) okQ_none mixed (O := fun _ => .nil) (by kernel_rfl) ?_
  by_cases e1 : row Bool a1 n1 (M a1.r) = markB k n1
  · by_cases e2 : row Bool a2 n2 (M a2.r) = markB (k + n1) n2
    · by_cases e3 : row Int a3 n3 (M a3.r) = mark1 (k + n1 + n2) n3
      · by_cases e4 : row Int a4 n4 (M a4.r) = mark1 (k + n1 + n2 + n3) n4
        · simp only [↓WP, ↓grdD, ↓grdT, ↓un_dead, ↓binVC, ↓buildVC, ↓sliceVC, WQ, WN, Int.reduceToNat, renl, cll, rent, clt, ↓reduceIte, Nat.reduceLeDiff, Nat.reduceEqDiff, Nat.reduceLT, reduceCtorEq, List.append_nil, Nat.reduceAdd, Nat.reduceSub, Nat.reduceBEq, forall_const, implies_true, cond_true, cond_false, AV.ren, AC.ren, AV.cl, AC.cl, eq_self, List.all_cons, List.all_nil, AV.eqv, AC.eqv, eqvl, eqvt, Sl.eqv, List.map_append, List.length_map, List.length_append, List.length_replicate, List.length_set, List.map_replicate, nilVC, fl_25_0, sz_22, fl_25_1, fl_25_2, sz_23, fl_25_3, c_laws_heldBoolS, c_laws_heldIntS, if_pos e1, if_pos e2, if_pos e3, if_pos e4]
          simp only [WB, eq_self]
          rw [if_pos ⟨e1, e2, e3, e4⟩]
          repeat' (first | with_reducible refine And.intro ?_ ?_ | intro _)
          all_goals first | assumption | omega
        · simp only [↓WP, ↓grdD, ↓grdT, ↓un_dead, ↓binVC, ↓buildVC, ↓sliceVC, WQ, WN, Int.reduceToNat, renl, cll, rent, clt, ↓reduceIte, Nat.reduceLeDiff, Nat.reduceEqDiff, Nat.reduceLT, reduceCtorEq, List.append_nil, Nat.reduceAdd, Nat.reduceSub, Nat.reduceBEq, forall_const, implies_true, cond_true, cond_false, AV.ren, AC.ren, AV.cl, AC.cl, eq_self, List.all_cons, List.all_nil, AV.eqv, AC.eqv, eqvl, eqvt, Sl.eqv, List.map_append, List.length_map, List.length_append, List.length_replicate, List.length_set, List.map_replicate, nilVC, fl_25_0, sz_22, fl_25_1, fl_25_2, sz_23, fl_25_3, c_laws_heldBoolS, c_laws_heldIntS, if_pos e1, if_pos e2, if_pos e3, if_neg e4]
          simp only [WB, eq_self]
          rw [if_neg (fun h => e4 h.2.2.2)]
          repeat' (first | with_reducible refine And.intro ?_ ?_ | intro _)
          all_goals first | assumption | omega
      · simp only [↓WP, ↓grdD, ↓grdT, ↓un_dead, ↓binVC, ↓buildVC, ↓sliceVC, WQ, WN, Int.reduceToNat, renl, cll, rent, clt, ↓reduceIte, Nat.reduceLeDiff, Nat.reduceEqDiff, Nat.reduceLT, reduceCtorEq, List.append_nil, Nat.reduceAdd, Nat.reduceSub, Nat.reduceBEq, forall_const, implies_true, cond_true, cond_false, AV.ren, AC.ren, AV.cl, AC.cl, eq_self, List.all_cons, List.all_nil, AV.eqv, AC.eqv, eqvl, eqvt, Sl.eqv, List.map_append, List.length_map, List.length_append, List.length_replicate, List.length_set, List.map_replicate, nilVC, fl_25_0, sz_22, fl_25_1, fl_25_2, sz_23, fl_25_3, c_laws_heldBoolS, c_laws_heldIntS, if_pos e1, if_pos e2, if_neg e3]
        simp only [WB, eq_self]
        rw [if_neg (fun h => e3 h.2.2.1)]
        repeat' (first | with_reducible refine And.intro ?_ ?_ | intro _)
        all_goals first | assumption | omega
    · simp only [↓WP, ↓grdD, ↓grdT, ↓un_dead, ↓binVC, ↓buildVC, ↓sliceVC, WQ, WN, Int.reduceToNat, renl, cll, rent, clt, ↓reduceIte, Nat.reduceLeDiff, Nat.reduceEqDiff, Nat.reduceLT, reduceCtorEq, List.append_nil, Nat.reduceAdd, Nat.reduceSub, Nat.reduceBEq, forall_const, implies_true, cond_true, cond_false, AV.ren, AC.ren, AV.cl, AC.cl, eq_self, List.all_cons, List.all_nil, AV.eqv, AC.eqv, eqvl, eqvt, Sl.eqv, List.map_append, List.length_map, List.length_append, List.length_replicate, List.length_set, List.map_replicate, nilVC, fl_25_0, sz_22, fl_25_1, fl_25_2, sz_23, fl_25_3, c_laws_heldBoolS, c_laws_heldIntS, if_pos e1, if_neg e2]
      simp only [WB, eq_self]
      rw [if_neg (fun h => e2 h.2.1)]
      repeat' (first | with_reducible refine And.intro ?_ ?_ | intro _)
      all_goals first | assumption | omega
  · simp only [↓WP, ↓grdD, ↓grdT, ↓un_dead, ↓binVC, ↓buildVC, ↓sliceVC, WQ, WN, Int.reduceToNat, renl, cll, rent, clt, ↓reduceIte, Nat.reduceLeDiff, Nat.reduceEqDiff, Nat.reduceLT, reduceCtorEq, List.append_nil, Nat.reduceAdd, Nat.reduceSub, Nat.reduceBEq, forall_const, implies_true, cond_true, cond_false, AV.ren, AC.ren, AV.cl, AC.cl, eq_self, List.all_cons, List.all_nil, AV.eqv, AC.eqv, eqvl, eqvt, Sl.eqv, List.map_append, List.length_map, List.length_append, List.length_replicate, List.length_set, List.map_replicate, nilVC, fl_25_0, sz_22, fl_25_1, fl_25_2, sz_23, fl_25_3, c_laws_heldBoolS, c_laws_heldIntS, if_neg e1]
    simp only [WB, eq_self]
    rw [if_neg (fun h => e1 h.1)]
    repeat' (first | with_reducible refine And.intro ?_ ?_ | intro _)
    all_goals first | assumption | omega
theorem q_laws_heldSig : Quiet c_laws_heldSig := by
  intro args M
  unfold c_laws_heldSig
  dsimp only
  split <;> first | trivial | (intro _; rfl)
def c_laws_markSig : Contract := ⟨15, fun args M => match args with
  | [.agg [.sl a1 n1 _, .sl a2 n2 _, .sl a3 n3 _, .sl a4 n4 _, .int .i64 _], .c (.int .i64 k)] => specR Bool a1 n1 (M a1.r) fun t1 c1 _ => specR Bool a2 n2 (M a2.r) fun t2 c2 _ => specR Int a3 n3 (M a3.r) fun t3 c3 _ => specR Int a4 n4 (M a4.r) fun t4 c4 _ => .eff ((a1.r ≠ a2.r ∧ a1.r ≠ a3.r ∧ a1.r ≠ a4.r ∧ a2.r ≠ a3.r ∧ a2.r ≠ a4.r ∧ a3.r ≠ a4.r) ∧ 0 ≤ k ∧ k ≤ 2305843009213693952) Unit (fun _ => True) (fun _ => I (k + n1 + n2 + n3 + n4)) (fun _ => []) (fun _ => [(a1.r, rowG true t1 c1 (markB k n1)), (a2.r, rowG true t2 c2 (markB (k + n1) n2)), (a3.r, rowG true t3 c3 (mark1 (k + n1 + n2) n3)), (a4.r, rowG true t4 c4 (mark1 (k + n1 + n2 + n3) n4))])
  | _ => .bad⟩
theorem ok_laws_markSig : fnP Try.prog c_laws_markSig.f = true ∧ ∀ args M, (c_laws_markSig.sp args M).OK Try.prog c_laws_markSig.f args M := by
  refine ⟨fp_15, fun args M => ?_⟩
  unfold c_laws_markSig
  dsimp only
  split
  case h_2 => trivial
  rename_i a1 n1 _ a2 n2 _ a3 n3 _ a4 n4 _ u k
  refine specR_cases fun t1 c1 X1 hM1 hX1 hl1 hs1 hi1 hk1 hf1 => ?_
  refine specR_cases fun t2 c2 X2 hM2 hX2 hl2 hs2 hi2 hk2 hf2 => ?_
  refine specR_cases fun t3 c3 X3 hM3 hX3 hl3 hs3 hi3 hk3 hf3 => ?_
  refine specR_cases fun t4 c4 X4 hM4 hX4 hl4 hs4 hi4 hk4 hf4 => ?_
  subst hl1 hl2 hl3 hl4
  rintro ⟨⟨d12, d13, d14, d23, d24, d34⟩, h1, h2⟩
  refine goIn hf_15 rfl (nt := 22) rfl (rs := [.tmp 4]) rfl (C := [c_laws_markBoolS, c_laws_markIntS]) ⟨(by first | exact .inl ok_laws_markBoolS | exact ok_laws_markBoolS), (by first | exact .inl ok_laws_markIntS | exact ok_laws_markIntS), trivial⟩ (q := fun _ => false) okQ_none mixed (O := fun _ => .nil) (by kernel_rfl) ?_
  simp only [↓WP, ↓grdD, ↓grdT, ↓un_dead, ↓binVC, ↓buildVC, ↓sliceVC, WQ, WN, Int.reduceToNat, renl, cll, rent, clt, ↓reduceIte, Nat.reduceLeDiff, Nat.reduceEqDiff, Nat.reduceLT, reduceCtorEq, List.append_nil, Nat.reduceAdd, Nat.reduceSub, Nat.reduceBEq, forall_const, implies_true, cond_true, cond_false, AV.ren, AC.ren, AV.cl, AC.cl, eq_self, List.all_cons, List.all_nil, AV.eqv, AC.eqv, eqvl, eqvt, Sl.eqv, List.map_append, List.length_map, List.length_append, List.length_replicate, List.length_set, List.map_replicate, nilVC, fl_25_0, sz_22, fl_25_1, fl_25_2, sz_23, fl_25_3, c_laws_markBoolS, c_laws_markIntS, hM1, hi1, hk1, hf1, hM2, hi2, hk2, hf2, hM3, hi3, hk3, hf3, hM4, hi4, hk4, hf4, if_neg d12, if_neg d13, if_neg d14, if_neg d23, if_neg d24, if_neg d34]
  refine ⟨by omega, by omega, by omega, by omega, end_ret ?_⟩
  simp only [↓WP, ↓grdD, ↓grdT, ↓un_dead, ↓binVC, ↓buildVC, ↓sliceVC, WQ, WN, Int.reduceToNat, renl, cll, rent, clt, ↓reduceIte, Nat.reduceLeDiff, Nat.reduceEqDiff, Nat.reduceLT, reduceCtorEq, List.append_nil, Nat.reduceAdd, Nat.reduceSub, Nat.reduceBEq, forall_const, implies_true, cond_true, cond_false, AV.ren, AC.ren, AV.cl, AC.cl, eq_self, List.all_cons, List.all_nil, AV.eqv, AC.eqv, eqvl, eqvt, Sl.eqv, List.map_append, List.length_map, List.length_append, List.length_replicate, List.length_set, List.map_replicate, nilVC, fl_25_0, sz_22, fl_25_1, fl_25_2, sz_23, fl_25_3, c_laws_markBoolS, c_laws_markIntS]
  refine ⟨(), [], [], ?_⟩
  simp only [WL, WNL, swA_new, swA_ne, nest_sw_ne, mapLL, List.mem_cons, Nat.reduceAdd, Nat.reduceLT, Nat.reduceLeDiff, Nat.reduceEqDiff, okU, List.nodup_cons, List.not_mem_nil, toT, toL, toO, keysO, renl, rent, cll, clt, eq_self, AV.eqv, AC.eqv, eqvl, eqvt, Sl.eqv, rowsLe, mapLL, rowsCl, List.map_append, List.length_map, List.length_append, List.length_set, List.map_replicate, rowG, List.getElem?_cons_zero, List.getElem?_cons_succ, List.getElem?_nil, List.append_nil, List.nil_append, List.cons_append, ghosts, St.gh, Option.some.injEq, implies_true, setT, AV.ren, AC.ren, AV.cl, AC.cl, List.replicate_succ, List.replicate_zero, List.nodup_nil, List.length_nil, List.length_cons, List.getD_cons_zero, List.getD_cons_succ, ↓reduceIte, retP, if_neg d12, if_neg d13, if_neg d14, if_neg d23, if_neg d24, if_neg d34]
  simp [okU, hM1, hM2, hM3, hM4, d12, d13, d14, d23, d24, d34]
def c_laws_FnExactSigNew : Contract := ⟨3, fun args M => match args with
  | [] => .pure True (Eng.B true)
  | _ => .bad⟩
theorem ok_laws_FnExactSigNew : fnP Try.prog c_laws_FnExactSigNew.f = true ∧ ∀ args M, (c_laws_FnExactSigNew.sp args M).OK Try.prog c_laws_FnExactSigNew.f args M := by
  refine ⟨fp_3, fun args M => ?_⟩
  unfold c_laws_FnExactSigNew
  dsimp only
  split
  case h_2 => trivial
  intro _
  refine goIn hf_3 rfl (nt := 36) rfl (rs := [.tmp 0]) rfl (C := [c_spec_SigNew, c_impl_SigNew, c_laws_eqSig, c_laws_markSig, c_laws_heldSig]) ⟨(by first | exact .inl ok_spec_SigNew | exact ok_spec_SigNew), (by first | exact .inl ok_impl_SigNew | exact ok_impl_SigNew), (by first | exact .inl ok_laws_eqSig | exact ok_laws_eqSig), (by first | exact .inl ok_laws_markSig | exact ok_laws_markSig), (by first | exact .inl ok_laws_heldSig | exact ok_laws_heldSig), trivial⟩ (q := fun _ => false) okQ_none mixed (O := fun _ => .nil) (by kernel_rfl) ?_
  simp only [↓WP, ↓grdD, ↓grdT, ↓un_dead, ↓binVC, ↓buildVC, ↓sliceVC, WQ, WN, Int.reduceToNat, renl, cll, rent, clt, ↓reduceIte, Nat.reduceLeDiff, Nat.reduceEqDiff, Nat.reduceLT, reduceCtorEq, List.append_nil, Nat.reduceAdd, Nat.reduceSub, Nat.reduceBEq, forall_const, implies_true, cond_true, cond_false, AV.ren, AC.ren, AV.cl, AC.cl, eq_self, List.all_cons, List.all_nil, AV.eqv, AC.eqv, eqvl, eqvt, Sl.eqv, List.map_append, List.length_map, List.length_append, List.length_replicate, List.length_set, List.map_replicate, nilVC, zr_25, sz_25, c_spec_SigNew, c_impl_SigNew, c_laws_eqSig, c_laws_markSig, c_laws_heldSig]
  have db : ∀ b, (dec [AC.bool b] : Bool) = b := fun _ => rfl
  have di : ∀ b, (dec [AC.int .i64 b] : Int) = b := fun _ => rfl
  simp [markB, mark1, allEnc, db, di, enc_bool, enc_int]
end Go.Eng.T
