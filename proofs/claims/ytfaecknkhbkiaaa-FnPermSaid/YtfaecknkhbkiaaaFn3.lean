/- CONTRACTS: Cred. -/
import Derived.Test.YtfaecknkhbkiaaaFn2
set_option linter.unusedVariables false
set_option linter.unusedSimpArgs false
set_option linter.unusedSectionVars false
namespace Go.Eng.T
open Go.Proofs
open Cel (enc dec)
set_option maxRecDepth 100000
set_option maxHeartbeats 4000000

/-- group i of a Cred is right -/
def gOk (X : List Int) (i : Nat) : Prop := (0 ≤ X.getD i default ∧ X.getD i default ≤ 999) ∧ (0 < i → X.getD (i - 1) default < X.getD i default)
instance (X : List Int) (i : Nat) : Decidable (gOk X i) := by unfold gOk; infer_instance
def credOk (u : Int) (X : List Int) : Prop := (0 ≤ u ∧ u ≤ 999) ∧ X.length ≤ 8 ∧ ∀ i, i < X.length → gOk X i
instance (u : Int) (X : List Int) : Decidable (credOk u X) := by unfold credOk; infer_instance
def permOk (u : Int) (X : List Int) (o g b : Int) : Prop := credOk u X ∧ modeOk o g b
instance (u : Int) (X : List Int) (o g b : Int) : Decidable (permOk u X o g b) := by unfold permOk; infer_instance

def c_laws_szCred : Contract := ⟨15, fun args M => match args with
  | [.agg [.int .i64 _, .sl _ n _], .c (.int .i64 left)] => .pure (0 ≤ left ∧ left ≤ 1048576 ∧ n ≤ 9223372036854775807) (I (if left < n then -1 else left - n))
  | _ => .bad⟩
theorem ok_laws_szCred : SpecOK Try.prog c_laws_szCred := by
  refine ⟨fp_15, fun args M => ?_⟩
  unfold c_laws_szCred
  dsimp only
  split
  case h_2 => trivial
  rename_i u a n c left
  rintro ⟨h1, h2, h3⟩
  refine goIn hf_15 rfl (nt := 12) rfl (rs := [.tmp 4]) rfl (C := [c_laws_szIntS]) ⟨ok_laws_szIntS, trivial⟩ (q := fun _ => false) okQ_none mixed (O := fun _ => .nil) (by kernel_rfl) ?_
  simp only [↓WP, ↓grdD, ↓grdT, ↓binVC, ↓buildVC, ↓sliceVC, WQ, WN, Int.reduceToNat, renl, cll, rent, clt, ↓reduceIte, Nat.reduceLeDiff, Nat.reduceEqDiff, Nat.reduceLT, reduceCtorEq, List.append_nil, Nat.reduceAdd, Nat.reduceSub, Nat.reduceBEq, forall_const, implies_true, cond_true, cond_false, AV.ren, AC.ren, AV.cl, AC.cl, eq_self, List.all_cons, List.all_nil, AV.eqv, AC.eqv, eqvl, eqvt, Sl.eqv, List.map_append, List.length_map, List.length_append, List.length_replicate, List.length_set, List.map_replicate, nilVC, fl_32_1, sz_30, c_laws_szIntS]
  by_cases h : left < n
  · simp [h]; omega
  · simp [h]; omega

def c_laws_toCred : Contract := ⟨17, fun args M => match args with
  | [.agg [.int .i64 u, .sl a n _]] => .eff (RowOk Int a n (M a.r)) Unit (fun _ => True) (fun _ => .agg [.int .i64 u, .sl ⟨.loc 0, 0, 0, 0⟩ n n]) (fun _ => [rowG true 3 n (row Int a n (M a.r))]) (fun _ => [])
  | _ => .bad⟩
theorem ok_laws_toCred : SpecOK Try.prog c_laws_toCred := by
  refine ⟨fp_17, fun args M => ?_⟩
  unfold c_laws_toCred
  dsimp only
  split
  case h_2 => trivial
  rename_i u a n c
  intro hrow
  refine goIn hf_17 rfl (nt := 12) rfl (rs := [.cell 2 35]) rfl (C := [c_laws_toIntS]) ⟨ok_laws_toIntS, trivial⟩ (q := fun _ => false) okQ_none mixed (O := fun _ => .nil) (by kernel_rfl) ?_
  simp only [↓WP, ↓grdD, ↓grdT, ↓binVC, ↓buildVC, ↓sliceVC, WQ, WN, Int.reduceToNat, renl, cll, rent, clt, ↓reduceIte, Nat.reduceLeDiff, Nat.reduceEqDiff, Nat.reduceLT, reduceCtorEq, List.append_nil, Nat.reduceAdd, Nat.reduceSub, Nat.reduceBEq, forall_const, implies_true, cond_true, cond_false, AV.ren, AC.ren, AV.cl, AC.cl, eq_self, List.all_cons, List.all_nil, AV.eqv, AC.eqv, eqvl, eqvt, Sl.eqv, List.map_append, List.length_map, List.length_append, List.length_replicate, List.length_set, List.map_replicate, nilVC, zr_35, fl_32_0, sz_3, fl_35_0, fl_32_1, sz_30, fl_35_1, sz_35, c_laws_toIntS]
  refine ⟨hrow, end_ret ?_⟩
  simp only [↓WP, ↓grdD, ↓grdT, ↓binVC, ↓buildVC, ↓sliceVC, WQ, WN, Int.reduceToNat, renl, cll, rent, clt, ↓reduceIte, Nat.reduceLeDiff, Nat.reduceEqDiff, Nat.reduceLT, reduceCtorEq, List.append_nil, Nat.reduceAdd, Nat.reduceSub, Nat.reduceBEq, forall_const, implies_true, cond_true, cond_false, AV.ren, AC.ren, AV.cl, AC.cl, eq_self, List.all_cons, List.all_nil, AV.eqv, AC.eqv, eqvl, eqvt, Sl.eqv, List.map_append, List.length_map, List.length_append, List.length_replicate, List.length_set, List.map_replicate, nilVC, zr_35, fl_32_0, sz_3, fl_35_0, fl_32_1, sz_30, fl_35_1, sz_35, c_laws_toIntS]
  refine ⟨(), [], [3], ?_⟩
  simp only [WL, WNL, swA_new, swA_ne, nest_sw_ne, mapLL, List.mem_cons, Nat.reduceAdd, Nat.reduceLT, Nat.reduceLeDiff, Nat.reduceEqDiff, okU, List.nodup_cons, List.not_mem_nil, toT, toL, toO, keysO, renl, rent, cll, clt, eq_self, AV.eqv, AC.eqv, eqvl, eqvt, Sl.eqv, rowsLe, mapLL, rowsCl, List.map_append, List.length_map, List.length_append, List.length_set, List.map_replicate, rowG, List.getElem?_cons_zero, List.getElem?_cons_succ, List.getElem?_nil, List.append_nil, List.nil_append, List.cons_append, ghosts, St.gh, Option.some.injEq, implies_true, setT, AV.ren, AC.ren, AV.cl, AC.cl, List.replicate_succ, List.replicate_zero, List.nodup_nil, List.length_nil, List.length_cons, List.getD_cons_zero, List.getD_cons_succ, ↓reduceIte, retP]
theorem q_laws_toCred : Quiet c_laws_toCred := by
  intro args M
  unfold c_laws_toCred
  dsimp only
  split <;> first | trivial | (intro _; rfl)

def c_laws_eqCred : Contract := ⟨19, fun args M => match args with
  | [.agg [.int .i64 u, .sl a n _], .agg [.int .i64 v, .sl b m _]] => .pure (RowOk Int a n (M a.r) ∧ RowOk Int b m (M b.r)) (Eng.B (decide (u = v ∧ row Int a n (M a.r) = row Int b m (M b.r))))
  | _ => .bad⟩
theorem ok_laws_eqCred : SpecOK Try.prog c_laws_eqCred := by
  refine ⟨fp_19, fun args M => ?_⟩
  unfold c_laws_eqCred
  dsimp only
  split
  case h_2 => trivial
  rename_i u a n ca v b m cb
  rintro ⟨ha, hb⟩
  refine goIn hf_19 rfl (nt := 16) rfl (rs := [.tmp 4]) rfl (C := [c_laws_eqIntS]) ⟨ok_laws_eqIntS, trivial⟩ (q := fun _ => false) okQ_none mixed (O := fun _ => .nil) (by kernel_rfl) ?_
  simp only [↓WP, ↓grdD, ↓grdT, ↓binVC, ↓buildVC, ↓sliceVC, WQ, WN, Int.reduceToNat, renl, cll, rent, clt, ↓reduceIte, Nat.reduceLeDiff, Nat.reduceEqDiff, Nat.reduceLT, reduceCtorEq, List.append_nil, Nat.reduceAdd, Nat.reduceSub, Nat.reduceBEq, forall_const, implies_true, cond_true, cond_false, AV.ren, AC.ren, AV.cl, AC.cl, eq_self, List.all_cons, List.all_nil, AV.eqv, AC.eqv, eqvl, eqvt, Sl.eqv, List.map_append, List.length_map, List.length_append, List.length_replicate, List.length_set, List.map_replicate, nilVC, fl_35_0, sz_3, fl_35_1, sz_30, c_laws_eqIntS]
  by_cases h1 : u = v <;> by_cases h2 : row Int a n (M a.r) = row Int b m (M b.r) <;> simp [h1, h2, ha, hb]
theorem q_laws_eqCred : Quiet c_laws_eqCred := by
  intro args M
  unfold c_laws_eqCred
  dsimp only
  split <;> first | trivial | (intro _; rfl)

def c_impl_credOk : Contract := ⟨38, fun args M => match args with
  | [.agg [.int .i64 u, .sl a n _]] => .pure (RowOk Int a n (M a.r)) (Eng.B (decide (credOk u (row Int a n (M a.r)))))
  | _ => .bad⟩
theorem ok_impl_credOk : SpecOK Try.prog c_impl_credOk := by
  refine ⟨fp_38, fun args M => ?_⟩
  unfold c_impl_credOk
  dsimp only
  split
  case h_2 => trivial
  rename_i u a n c
  intro hrow
  obtain ⟨hs, X, hX, rfl, hat⟩ := hrow.x
  rw [hX]
  refine goIn hf_38 rfl (nt := 40) rfl (rs := [.tmp 2]) rfl (C := [c_impl_isName]) ⟨ok_impl_isName, trivial⟩ (q := fun _ => false) okQ_none mixed (O := fun _ => .nil) (by kernel_rfl) ?_
  simp only [↓WP, ↓grdD, ↓grdT, ↓binVC, ↓buildVC, ↓sliceVC, WQ, WN, Int.reduceToNat, renl, cll, rent, clt, ↓reduceIte, Nat.reduceLeDiff, Nat.reduceEqDiff, Nat.reduceLT, reduceCtorEq, List.append_nil, Nat.reduceAdd, Nat.reduceSub, Nat.reduceBEq, forall_const, implies_true, cond_true, cond_false, AV.ren, AC.ren, AV.cl, AC.cl, eq_self, List.all_cons, List.all_nil, AV.eqv, AC.eqv, eqvl, eqvt, Sl.eqv, List.map_append, List.length_map, List.length_append, List.length_replicate, List.length_set, List.map_replicate, nilVC, fl_35_1, sz_30, sd_30, el_30, sz_3, fl_35_0, c_impl_isName]
  refine loopI (J := {i : Nat // i ≤ X.length ∧ ∀ j, j < i → gOk X j}) (fun i => ⟨slots 40 [(1, .c (.ptr ⟨.loc 0, 0, 0, 0⟩)), (6, .c (.sl a.up X.length c)), (7, I X.length), (8, I i.1)], M, [], [.box 35 [.int .i64 u, .sl a.up X.length c]]⟩) (fun i => X.length - i.1) ⟨0, by omega, all_zero⟩ (Le_intro [0] (by simp [WL, WNL, swA_new, swA_ne, nest_sw_ne, mapLL, List.mem_cons, Nat.reduceAdd, Nat.reduceLT, Nat.reduceLeDiff, Nat.reduceEqDiff, okU, List.nodup_cons, List.not_mem_nil, toT, toL, toO, keysO, renl, rent, cll, clt, eq_self, AV.eqv, AC.eqv, eqvl, eqvt, Sl.eqv, rowsLe, mapLL, rowsCl, List.map_append, List.length_map, List.length_append, List.length_set, List.map_replicate, rowG, List.getElem?_cons_zero, List.getElem?_cons_succ, List.getElem?_nil, List.append_nil, List.nil_append, List.cons_append, ghosts, St.gh, Option.some.injEq, implies_true, setT, AV.ren, AC.ren, AV.cl, AC.cl, List.replicate_succ, List.replicate_zero, List.nodup_nil, List.length_nil, List.length_cons, List.getD_cons_zero, List.getD_cons_succ, ↓reduceIte])) ?_
  rintro ⟨i, hi, he⟩
  have hw := wS (i := i) (by omega)
  rcases Nat.lt_or_ge i X.length with hlt | hge
  · obtain ⟨own, ty, cnt, cap, len, get, hM, hf, hic, hkn, hget⟩ := hat (by omega)
    have hw1 : IntKind.i64.wrap ((i : Int) - 1) = (i : Int) - 1 := w64 (by omega) (by omega)
    have hg1 : get a.i (a.k + ((i : Int) - 1).toNat) = enc (X.getD (i - 1) default) := by
      rw [show ((i : Int) - 1).toNat = i - 1 by omega]; exact hget _ (by omega)
    simp only [↓WP, ↓grdD, ↓grdT, ↓binVC, ↓buildVC, ↓sliceVC, WQ, WN, Int.reduceToNat, renl, cll, rent, clt, ↓reduceIte, Nat.reduceLeDiff, Nat.reduceEqDiff, Nat.reduceLT, reduceCtorEq, List.append_nil, Nat.reduceAdd, Nat.reduceSub, Nat.reduceBEq, forall_const, implies_true, cond_true, cond_false, AV.ren, AC.ren, AV.cl, AC.cl, eq_self, List.all_cons, List.all_nil, AV.eqv, AC.eqv, eqvl, eqvt, Sl.eqv, List.map_append, List.length_map, List.length_append, List.length_replicate, List.length_set, List.map_replicate, nilVC, fl_35_1, sz_30, sd_30, el_30, sz_3, fl_35_0, c_impl_isName, dlt hlt, hw, hM, hf, hget i hlt, hw1, hg1]
    simp only [WB, eq_self]
    repeat refine ⟨by omega, ?_⟩
    refine ⟨fun h hc => ?_, fun h => ?_⟩
    · have hg := hc.2.2 i hlt
      unfold gOk at hg
      omega
    · have hg : gOk X i := by
        unfold gOk
        omega
      exact ⟨⟨i + 1, hlt, all_step he hg⟩, Le_intro [0] (by simp [WL, WNL, swA_new, swA_ne, nest_sw_ne, mapLL, List.mem_cons, Nat.reduceAdd, Nat.reduceLT, Nat.reduceLeDiff, Nat.reduceEqDiff, okU, List.nodup_cons, List.not_mem_nil, toT, toL, toO, keysO, renl, rent, cll, clt, eq_self, AV.eqv, AC.eqv, eqvl, eqvt, Sl.eqv, rowsLe, mapLL, rowsCl, List.map_append, List.length_map, List.length_append, List.length_set, List.map_replicate, rowG, List.getElem?_cons_zero, List.getElem?_cons_succ, List.getElem?_nil, List.append_nil, List.nil_append, List.cons_append, ghosts, St.gh, Option.some.injEq, implies_true, setT, AV.ren, AC.ren, AV.cl, AC.cl, List.replicate_succ, List.replicate_zero, List.nodup_nil, List.length_nil, List.length_cons, List.getD_cons_zero, List.getD_cons_succ, ↓reduceIte]), by show X.length - (i + 1) < X.length - i; omega⟩
  · obtain rfl : i = X.length := by omega
    simp only [↓WP, ↓grdD, ↓grdT, ↓binVC, ↓buildVC, ↓sliceVC, WQ, WN, Int.reduceToNat, renl, cll, rent, clt, ↓reduceIte, Nat.reduceLeDiff, Nat.reduceEqDiff, Nat.reduceLT, reduceCtorEq, List.append_nil, Nat.reduceAdd, Nat.reduceSub, Nat.reduceBEq, forall_const, implies_true, cond_true, cond_false, AV.ren, AC.ren, AV.cl, AC.cl, eq_self, List.all_cons, List.all_nil, AV.eqv, AC.eqv, eqvl, eqvt, Sl.eqv, List.map_append, List.length_map, List.length_append, List.length_replicate, List.length_set, List.map_replicate, nilVC, fl_35_1, sz_30, sd_30, el_30, sz_3, fl_35_0, c_impl_isName, dge hge, hw]
    simp only [WB, eq_self]
    unfold credOk
    constructor
    · exact fun h => ⟨h.1, by omega, he⟩
    · exact fun h => ⟨h.1, by omega⟩

def c_impl_PermOk : Contract := ⟨18, fun args M => match args with
  | [.agg [.int .i64 u, .sl a n _], .agg [.int .i64 o, .int .i64 g, .int .i64 b]] => .pure (RowOk Int a n (M a.r)) (Eng.B (decide (permOk u (row Int a n (M a.r)) o g b)))
  | _ => .bad⟩
theorem ok_impl_PermOk : SpecOK Try.prog c_impl_PermOk := by
  refine ⟨fp_18, fun args M => ?_⟩
  unfold c_impl_PermOk
  dsimp only
  split
  case h_2 => trivial
  rename_i u a n c o g b
  intro hrow
  refine goIn hf_18 rfl (nt := 11) rfl (rs := [.tmp 4]) rfl (C := [c_impl_credOk, c_impl_modeOk]) ⟨ok_impl_credOk, ok_impl_modeOk, trivial⟩ (q := fun _ => false) okQ_none mixed (O := fun _ => .nil) (by kernel_rfl) ?_
  simp only [↓WP, ↓grdD, ↓grdT, ↓binVC, ↓buildVC, ↓sliceVC, WQ, WN, Int.reduceToNat, renl, cll, rent, clt, ↓reduceIte, Nat.reduceLeDiff, Nat.reduceEqDiff, Nat.reduceLT, reduceCtorEq, List.append_nil, Nat.reduceAdd, Nat.reduceSub, Nat.reduceBEq, forall_const, implies_true, cond_true, cond_false, AV.ren, AC.ren, AV.cl, AC.cl, eq_self, List.all_cons, List.all_nil, AV.eqv, AC.eqv, eqvl, eqvt, Sl.eqv, List.map_append, List.length_map, List.length_append, List.length_replicate, List.length_set, List.map_replicate, nilVC, sz_35, sz_27, c_impl_credOk, c_impl_modeOk]
  unfold permOk
  by_cases h1 : credOk u (row Int a n (M a.r)) <;> by_cases h2 : modeOk o g b <;> simp [h1, h2, hrow]
theorem q_impl_PermOk : Quiet c_impl_PermOk := by
  intro args M
  unfold c_impl_PermOk
  dsimp only
  split <;> first | trivial | (intro _; rfl)

def c_spec_PermOk : Contract := ⟨16, fun args M => match args with
  | [.agg [.int .i64 u, .sl a n _], .agg [.int .i64 o, .int .i64 g, .int .i64 b]] => .pure (RowOk Int a n (M a.r)) (Eng.B (decide (permOk u (row Int a n (M a.r)) o g b)))
  | _ => .bad⟩
theorem ok_spec_PermOk : SpecOK Try.prog c_spec_PermOk := by
  refine ⟨fp_16, fun args M => ?_⟩
  unfold c_spec_PermOk
  dsimp only
  split
  case h_2 => trivial
  rename_i u a n c o g b
  intro hrow
  obtain ⟨hs, X, hX, rfl, hat⟩ := hrow.x
  rw [hX]
  refine goIn hf_16 rfl (nt := 66) rfl (rs := [.tmp 4]) rfl (C := [c_spec_l1In]) ⟨ok_spec_l1In, trivial⟩ (q := fun f => [32].contains f) ⟨fun _ => q_spec_l1In, trivial⟩ mixed (O := ots [(6, otl [0, 1, 2, 3, 4, 5, 6, 7, 8, 9, 10, 11, 12, 13, 14, 15, 16, 17, 18, 19, 20, 21, 22, 23, 24] .nil)]) (by kernel_rfl) ?_
  simp only [↓WP, ↓grdD, ↓grdT, ↓binVC, ↓buildVC, ↓sliceVC, WQ, WN, Int.reduceToNat, renl, cll, rent, clt, ↓reduceIte, Nat.reduceLeDiff, Nat.reduceEqDiff, Nat.reduceLT, reduceCtorEq, List.append_nil, Nat.reduceAdd, Nat.reduceSub, Nat.reduceBEq, forall_const, implies_true, cond_true, cond_false, AV.ren, AC.ren, AV.cl, AC.cl, eq_self, List.all_cons, List.all_nil, AV.eqv, AC.eqv, eqvl, eqvt, Sl.eqv, List.map_append, List.length_map, List.length_append, List.length_replicate, List.length_set, List.map_replicate, nilVC, fl_35_0, sz_3, fl_35_1, sz_30, sd_30, fl_27_0, fl_27_1, fl_27_2, el_30, c_spec_l1In]
  simp only [WB, eq_self]
  refine ⟨fun h hc => ?_, fun h => ?_⟩
  · have := hc.1.1
    have := hc.1.2.1
    have := hc.2
    unfold modeOk at this
    omega
  · refine loopI (J := {i : Nat // i ≤ X.length ∧ ∀ j, j < i → gOk X j}) (fun i => ⟨slots 66 [(2, .c (.ptr ⟨.loc 0, 0, 0, 0⟩)), (3, .c (.ptr ⟨.loc 1, 0, 0, 0⟩)), (5, I i.1)], M, [], [.box 35 [.int .i64 u, .sl a.up X.length c], .box 27 [.int .i64 o, .int .i64 g, .int .i64 b]]⟩) (fun i => X.length - i.1) ⟨0, by omega, all_zero⟩ (Le_intro [0, 1] (by simp [WL, WNL, swA_new, swA_ne, nest_sw_ne, mapLL, List.mem_cons, Nat.reduceAdd, Nat.reduceLT, Nat.reduceLeDiff, Nat.reduceEqDiff, okU, List.nodup_cons, List.not_mem_nil, toT, toL, toO, keysO, renl, rent, cll, clt, eq_self, AV.eqv, AC.eqv, eqvl, eqvt, Sl.eqv, rowsLe, mapLL, rowsCl, List.map_append, List.length_map, List.length_append, List.length_set, List.map_replicate, rowG, List.getElem?_cons_zero, List.getElem?_cons_succ, List.getElem?_nil, List.append_nil, List.nil_append, List.cons_append, ghosts, St.gh, Option.some.injEq, implies_true, setT, AV.ren, AC.ren, AV.cl, AC.cl, List.replicate_succ, List.replicate_zero, List.nodup_nil, List.length_nil, List.length_cons, List.getD_cons_zero, List.getD_cons_succ, ↓reduceIte])) ?_
    rintro ⟨i, hi, he⟩
    have hw := wS (i := i) (by omega)
    rcases Nat.lt_or_ge i X.length with hlt | hge
    · obtain ⟨own, ty, cnt, cap, len, get, hM, hf, hic, hkn, hget⟩ := hat (by omega)
      have hw1 : IntKind.i64.wrap ((i : Int) - 1) = (i : Int) - 1 := w64 (by omega) (by omega)
      have hg1 : get a.i (a.k + ((i : Int) - 1).toNat) = enc (X.getD (i - 1) default) := by
        rw [show ((i : Int) - 1).toNat = i - 1 by omega]; exact hget _ (by omega)
      simp only [↓WP, ↓grdD, ↓grdT, ↓binVC, ↓buildVC, ↓sliceVC, WQ, WN, Int.reduceToNat, renl, cll, rent, clt, ↓reduceIte, Nat.reduceLeDiff, Nat.reduceEqDiff, Nat.reduceLT, reduceCtorEq, List.append_nil, Nat.reduceAdd, Nat.reduceSub, Nat.reduceBEq, forall_const, implies_true, cond_true, cond_false, AV.ren, AC.ren, AV.cl, AC.cl, eq_self, List.all_cons, List.all_nil, AV.eqv, AC.eqv, eqvl, eqvt, Sl.eqv, List.map_append, List.length_map, List.length_append, List.length_replicate, List.length_set, List.map_replicate, nilVC, fl_35_0, sz_3, fl_35_1, sz_30, sd_30, fl_27_0, fl_27_1, fl_27_2, el_30, c_spec_l1In, dlt hlt, hw, hM, hf, hget i hlt, hw1, hg1]
      simp only [WB, eq_self]
      repeat refine ⟨by omega, ?_⟩
      refine ⟨fun h1 hc => ?_, fun h1 => ?_⟩
      · have hg := hc.1.2.2 i hlt
        unfold gOk at hg
        omega
      · have hg : gOk X i := by
          unfold gOk
          omega
        exact ⟨⟨i + 1, hlt, all_step he hg⟩, Le_intro [0, 1] (by simp [WL, WNL, swA_new, swA_ne, nest_sw_ne, mapLL, List.mem_cons, Nat.reduceAdd, Nat.reduceLT, Nat.reduceLeDiff, Nat.reduceEqDiff, okU, List.nodup_cons, List.not_mem_nil, toT, toL, toO, keysO, renl, rent, cll, clt, eq_self, AV.eqv, AC.eqv, eqvl, eqvt, Sl.eqv, rowsLe, mapLL, rowsCl, List.map_append, List.length_map, List.length_append, List.length_set, List.map_replicate, rowG, List.getElem?_cons_zero, List.getElem?_cons_succ, List.getElem?_nil, List.append_nil, List.nil_append, List.cons_append, ghosts, St.gh, Option.some.injEq, implies_true, setT, AV.ren, AC.ren, AV.cl, AC.cl, List.replicate_succ, List.replicate_zero, List.nodup_nil, List.length_nil, List.length_cons, List.getD_cons_zero, List.getD_cons_succ, ↓reduceIte]), by show X.length - (i + 1) < X.length - i; omega⟩
    · obtain rfl : i = X.length := by omega
      simp only [↓WP, ↓grdD, ↓grdT, ↓binVC, ↓buildVC, ↓sliceVC, WQ, WN, Int.reduceToNat, renl, cll, rent, clt, ↓reduceIte, Nat.reduceLeDiff, Nat.reduceEqDiff, Nat.reduceLT, reduceCtorEq, List.append_nil, Nat.reduceAdd, Nat.reduceSub, Nat.reduceBEq, forall_const, implies_true, cond_true, cond_false, AV.ren, AC.ren, AV.cl, AC.cl, eq_self, List.all_cons, List.all_nil, AV.eqv, AC.eqv, eqvl, eqvt, Sl.eqv, List.map_append, List.length_map, List.length_append, List.length_replicate, List.length_set, List.map_replicate, nilVC, fl_35_0, sz_3, fl_35_1, sz_30, sd_30, fl_27_0, fl_27_1, fl_27_2, el_30, c_spec_l1In, dge hge, hw]
      simp only [WB, eq_self]
      unfold permOk credOk modeOk
      refine ⟨⟨by omega, by omega, he⟩, by omega⟩
theorem q_spec_PermOk : Quiet c_spec_PermOk := by
  intro args M
  unfold c_spec_PermOk
  dsimp only
  split <;> first | trivial | (intro _; rfl)
end Go.Eng.T
