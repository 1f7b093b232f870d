/- cow: CowUsed, CowRead; where an address is. -/
import Derived.Test.YtjdppjomhkbljaaFn8
set_option linter.unusedVariables false
set_option linter.unusedSimpArgs false
set_option linter.unusedSectionVars false
namespace Go.Eng
open Cel (enc dec)
theorem row_arrU {α : Type} [Cel α] {M : RId → Option Rg} {a : AA} {n : Nat} {X : List α} {own ty s cnt cap len get} (hM : M a.r = some (.arr own ty s cnt cap len get)) (hX : row α a n (M a.r) = X) : row α a.up n (some (.arr own ty s cnt cap len fun i k => (get i k).map AC.up)) = X := by
  rw [← hX, hM]
  exact row_up (α := α) (a := a) (n := n) (o := some (.arr own ty s cnt cap len get))
theorem RowOk_arrU {α : Type} [Cel α] {M : RId → Option Rg} {a : AA} {n : Nat} {own ty s cnt cap len get} (hM : M a.r = some (.arr own ty s cnt cap len get)) (h : RowOk α a n (M a.r)) : RowOk α a.up n (some (.arr own ty s cnt cap len fun i k => (get i k).map AC.up)) = True := by
  rw [hM] at h
  refine eq_true ?_
  have := RowOk_up (α := α) (a := a) (n := n) (o := some (.arr own ty s cnt cap len get))
  exact this.mpr h
def usedO (X : List (List Int)) (R : List Int) (Z : List (List Int)) : Int := if cowOk X R Z then ((R.countP fun r => decide (0 < r) : Nat) : Int) else 0
theorem count_step {R : List Int} {i : Nat} (h : i < R.length) : (R.take (i + 1)).countP (fun r => decide (0 < r)) = (R.take i).countP (fun r => decide (0 < r)) + if 0 < R.getD i default then 1 else 0 := by
  rw [take_step R i default h, List.countP_append]
  by_cases hr : 0 < R.getD i default
  · simp [hr]
  · simp [hr]
def inR (Z : List (List Int)) (s addr : Int) : Prop := (0 ≤ s ∧ s ≤ 3) ∧ 0 ≤ addr ∧ addr < 4 * ((Z.getD s.toNat default).length : Int)
instance (Z : List (List Int)) (s addr : Int) : Decidable (inR Z s addr) := by unfold inR; infer_instance
/-- the frame of an address -/
def frameOf (Z : List (List Int)) (s addr : Int) : Int := (Z.getD s.toNat default).getD (addr.toNat / 4) default
def atO (Z : List (List Int)) (s addr : Int) : Int × Int × Bool := if inR Z s addr then (frameOf Z s addr, ((addr.toNat % 4 : Nat) : Int), true) else (0, 0, false)
def readO (X : List (List Int)) (R : List Int) (Z : List (List Int)) (s addr : Int) : Int × Bool :=
  if cowOk X R Z ∧ inR Z s addr then ((X.getD (frameOf Z s addr).toNat default).getD (addr.toNat % 4) default, true) else (0, false)
theorem frame_ok {X : List (List Int)} {R : List Int} {Z : List (List Int)} {s addr : Int} (h : cowOk X R Z) (hi : inR Z s addr) : 0 ≤ frameOf Z s addr ∧ frameOf Z s addr ≤ 11 ∧ s.toNat < Z.length ∧ addr.toNat / 4 < (Z.getD s.toNat default).length ∧ (X.getD (frameOf Z s addr).toNat default).length = 4 := by
  obtain ⟨⟨l1, l2, l3⟩, k1, k2, k3⟩ := h
  obtain ⟨⟨a1, a2⟩, a3, a4⟩ := hi
  have hs : s.toNat < 4 := by omega
  obtain ⟨b1, b2⟩ := k1 _ hs
  have hm : addr.toNat / 4 < (Z.getD s.toNat default).length := by omega
  obtain ⟨f0, f1⟩ := b2 _ (getD_mem hm)
  have f0 : 0 ≤ frameOf Z s addr := f0
  have f1 : frameOf Z s addr ≤ 11 := f1
  exact ⟨f0, f1, by omega, hm, (k2 (frameOf Z s addr).toNat (by omega)).1⟩
end Go.Eng
namespace Go.Eng.T
open Go.Proofs
open Cel (enc dec)
set_option maxRecDepth 100000
set_option maxHeartbeats 4000000
def c_impl_isSpace : Contract := ⟨63, fun args M => match args with
  | [.c (.int .i64 s)] => .pure True (Eng.B (decide (0 ≤ s ∧ s ≤ 3)))
  | _ => .bad⟩
theorem ok_impl_isSpace : fnP Try.prog c_impl_isSpace.f = true ∧ ∀ args M, (c_impl_isSpace.sp args M).OK Try.prog c_impl_isSpace.f args M := by
  refine ⟨fp_63, fun args M => ?_⟩
  unfold c_impl_isSpace
  dsimp only
  split
  case h_2 => trivial
  rename_i s
  intro _
  refine goIn hf_63 rfl (nt := 5) rfl (rs := [.tmp 2]) rfl (C := [c_impl_in]) ⟨(by first | exact .inl ok_impl_in | exact ok_impl_in), trivial⟩ (q := fun _ => false) okQ_none mixed (O := fun _ => .nil) (by kernel_rfl) ?_
  simp only [↓WP, ↓grdD, ↓grdT, ↓un_dead, ↓binVC, ↓buildVC, ↓sliceVC, WQ, WN, Int.reduceToNat, renl, cll, rent, clt, ↓reduceIte, Nat.reduceLeDiff, Nat.reduceEqDiff, Nat.reduceLT, reduceCtorEq, List.append_nil, Nat.reduceAdd, Nat.reduceSub, Nat.reduceBEq, forall_const, implies_true, cond_true, cond_false, AV.ren, AC.ren, AV.cl, AC.cl, eq_self, List.all_cons, List.all_nil, AV.eqv, AC.eqv, eqvl, eqvt, Sl.eqv, List.map_append, List.length_map, List.length_append, List.length_replicate, List.length_set, List.map_replicate, nilVC, c_impl_in]
theorem q_impl_isSpace : Quiet c_impl_isSpace := by
  intro args M
  unfold c_impl_isSpace
  dsimp only
  split <;> first | trivial | (intro _; rfl)
def c_spec_l29Space : Contract := ⟨61, fun args M => match args with
  | [.c (.int .i64 s)] => .pure True (Eng.B (decide (0 ≤ s ∧ s ≤ 3)))
  | _ => .bad⟩
theorem ok_spec_l29Space : fnP Try.prog c_spec_l29Space.f = true ∧ ∀ args M, (c_spec_l29Space.sp args M).OK Try.prog c_spec_l29Space.f args M := by
  refine ⟨fp_61, fun args M => ?_⟩
  unfold c_spec_l29Space
  dsimp only
  split
  case h_2 => trivial
  rename_i s
  intro _
  refine goIn hf_61 rfl (nt := 9) rfl (rs := [.tmp 2]) rfl (C := []) trivial (q := fun _ => false) okQ_none mixed (O := fun _ => .nil) (by kernel_rfl) ?_
  simp only [↓WP, ↓grdD, ↓grdT, ↓un_dead, ↓binVC, ↓buildVC, ↓sliceVC, WQ, WN, Int.reduceToNat, renl, cll, rent, clt, ↓reduceIte, Nat.reduceLeDiff, Nat.reduceEqDiff, Nat.reduceLT, reduceCtorEq, List.append_nil, Nat.reduceAdd, Nat.reduceSub, Nat.reduceBEq, forall_const, implies_true, cond_true, cond_false, AV.ren, AC.ren, AV.cl, AC.cl, eq_self, List.all_cons, List.all_nil, AV.eqv, AC.eqv, eqvl, eqvt, Sl.eqv, List.map_append, List.length_map, List.length_append, List.length_replicate, List.length_set, List.map_replicate, nilVC, ]
  have e : decide (s < 4) = decide (s ≤ 3) := by rw [decide_eq_decide]; omega
  rw [e]
  by_cases h : 0 ≤ s <;> simp [h]
theorem q_spec_l29Space : Quiet c_spec_l29Space := by
  intro args M
  unfold c_spec_l29Space
  dsimp only
  split <;> first | trivial | (intro _; rfl)
def c_spec_l29Free : Contract := ⟨65, fun args M => match args with
  | [.agg [.sl a1 n1 _, .sl a2 n2 _, .sl a3 n3 _]] => .pure (RowOk Int a2 n2 (M a2.r)) (I (idx (fun x => decide (x = 0)) (row Int a2 n2 (M a2.r))))
  | _ => .bad⟩
theorem ok_spec_l29Free : fnP Try.prog c_spec_l29Free.f = true ∧ ∀ args M, (c_spec_l29Free.sp args M).OK Try.prog c_spec_l29Free.f args M := by
  refine ⟨fp_65, fun args M => ?_⟩
  unfold c_spec_l29Free
  dsimp only
  split
  case h_2 => trivial
  rename_i a1 n1 c1 a2 n2 c2 a3 n3 c3
  intro h2
  obtain ⟨s2, R, hR, rfl, t2⟩ := h2.x
  rw [hR]
  refine goIn hf_65 rfl (nt := 18) rfl (rs := [.tmp 2]) rfl (C := []) trivial (q := fun _ => false) okQ_none mixed (O := fun _ => .nil) (by kernel_rfl) ?_
  simp only [↓WP, ↓grdD, ↓grdT, ↓un_dead, ↓binVC, ↓buildVC, ↓sliceVC, WQ, WN, Int.reduceToNat, renl, cll, rent, clt, ↓reduceIte, Nat.reduceLeDiff, Nat.reduceEqDiff, Nat.reduceLT, reduceCtorEq, List.append_nil, Nat.reduceAdd, Nat.reduceSub, Nat.reduceBEq, forall_const, implies_true, cond_true, cond_false, AV.ren, AC.ren, AV.cl, AC.cl, eq_self, List.all_cons, List.all_nil, AV.eqv, AC.eqv, eqvl, eqvt, Sl.eqv, List.map_append, List.length_map, List.length_append, List.length_replicate, List.length_set, List.map_replicate, nilVC, fl_25_1, sz_23, sd_23, el_23, sz_3]
  refine loopI (J := {i : Nat // i ≤ R.length ∧ clear (fun x => decide (x = 0)) R i}) (fun i => ⟨slots 18 [(1, .c (.ptr ⟨.loc 0, 0, 0, 0⟩)), (3, I i.1)], M, [], [.box 25 [.sl a1.up n1 c1, .sl a2.up R.length c2, .sl a3.up n3 c3]]⟩) (fun i => R.length - i.1) ⟨0, by omega, clear_zero _ _⟩ (Le_intro [0] (by simp only [WL, WNL, swA_new, swA_ne, nest_sw_ne, mapLL, List.mem_cons, Nat.reduceAdd, Nat.reduceLT, Nat.reduceLeDiff, Nat.reduceEqDiff, okU, List.nodup_cons, List.not_mem_nil, toT, toL, toO, keysO, renl, rent, cll, clt, eq_self, AV.eqv, AC.eqv, eqvl, eqvt, Sl.eqv, rowsLe, mapLL, rowsCl, List.map_append, List.length_map, List.length_append, List.length_set, List.map_replicate, rowG, List.getElem?_cons_zero, List.getElem?_cons_succ, List.getElem?_nil, List.append_nil, List.nil_append, List.cons_append, ghosts, St.gh, Option.some.injEq, implies_true, setT, AV.ren, AC.ren, AV.cl, AC.cl, List.replicate_succ, List.replicate_zero, List.nodup_nil, List.length_nil, List.length_cons, List.getD_cons_zero, List.getD_cons_succ, ↓reduceIte]; try simp)) ?_
  rintro ⟨i, hi, he⟩
  have hw := wS (i := i) (by omega)
  rcases Nat.lt_or_ge i R.length with hlt | hge
  · obtain ⟨own, ty, cnt, cap, len, get, hM, hf, hic, hkn, hget⟩ := t2 (by omega)
    simp only [↓WP, ↓grdD, ↓grdT, ↓un_dead, ↓binVC, ↓buildVC, ↓sliceVC, WQ, WN, Int.reduceToNat, renl, cll, rent, clt, ↓reduceIte, Nat.reduceLeDiff, Nat.reduceEqDiff, Nat.reduceLT, reduceCtorEq, List.append_nil, Nat.reduceAdd, Nat.reduceSub, Nat.reduceBEq, forall_const, implies_true, cond_true, cond_false, AV.ren, AC.ren, AV.cl, AC.cl, eq_self, List.all_cons, List.all_nil, AV.eqv, AC.eqv, eqvl, eqvt, Sl.eqv, List.map_append, List.length_map, List.length_append, List.length_replicate, List.length_set, List.map_replicate, nilVC, fl_25_1, sz_23, sd_23, el_23, sz_3, dlt hlt, hw, hM, hf, hget i hlt]
    repeat refine ⟨by omega, ?_⟩
    refine ⟨fun h1 => ?_, fun h1 => ?_⟩
    · have := idx_hit he hlt h1
      simp [this]
    · exact ⟨⟨i + 1, hlt, clear_succ he h1⟩, Le_intro [0] (by simp only [WL, WNL, swA_new, swA_ne, nest_sw_ne, mapLL, List.mem_cons, Nat.reduceAdd, Nat.reduceLT, Nat.reduceLeDiff, Nat.reduceEqDiff, okU, List.nodup_cons, List.not_mem_nil, toT, toL, toO, keysO, renl, rent, cll, clt, eq_self, AV.eqv, AC.eqv, eqvl, eqvt, Sl.eqv, rowsLe, mapLL, rowsCl, List.map_append, List.length_map, List.length_append, List.length_set, List.map_replicate, rowG, List.getElem?_cons_zero, List.getElem?_cons_succ, List.getElem?_nil, List.append_nil, List.nil_append, List.cons_append, ghosts, St.gh, Option.some.injEq, implies_true, setT, AV.ren, AC.ren, AV.cl, AC.cl, List.replicate_succ, List.replicate_zero, List.nodup_nil, List.length_nil, List.length_cons, List.getD_cons_zero, List.getD_cons_succ, ↓reduceIte]; try simp), by show R.length - (i + 1) < R.length - i; omega⟩
  · obtain rfl : i = R.length := by omega
    simp only [↓WP, ↓grdD, ↓grdT, ↓un_dead, ↓binVC, ↓buildVC, ↓sliceVC, WQ, WN, Int.reduceToNat, renl, cll, rent, clt, ↓reduceIte, Nat.reduceLeDiff, Nat.reduceEqDiff, Nat.reduceLT, reduceCtorEq, List.append_nil, Nat.reduceAdd, Nat.reduceSub, Nat.reduceBEq, forall_const, implies_true, cond_true, cond_false, AV.ren, AC.ren, AV.cl, AC.cl, eq_self, List.all_cons, List.all_nil, AV.eqv, AC.eqv, eqvl, eqvt, Sl.eqv, List.map_append, List.length_map, List.length_append, List.length_replicate, List.length_set, List.map_replicate, nilVC, fl_25_1, sz_23, sd_23, el_23, sz_3, dge hge, hw]
    have := idx_miss he
    simp [this]
theorem q_spec_l29Free : Quiet c_spec_l29Free := by
  intro args M
  unfold c_spec_l29Free
  dsimp only
  split <;> first | trivial | (intro _; rfl)
def c_impl_CowUsed : Contract := ⟨23, fun args M => match args with
  | [.agg [.sl a1 n1 _, .sl a2 n2 _, .sl a3 n3 _]] => .pure (Row2Ok Int a1 n1 M ∧ RowOk Int a2 n2 (M a2.r) ∧ Row2Ok Int a3 n3 M) (I (usedO (row2 Int a1 n1 M) (row Int a2 n2 (M a2.r)) (row2 Int a3 n3 M)))
  | _ => .bad⟩
theorem ok_impl_CowUsed : fnP Try.prog c_impl_CowUsed.f = true ∧ ∀ args M, (c_impl_CowUsed.sp args M).OK Try.prog c_impl_CowUsed.f args M := by
  refine ⟨fp_23, fun args M => ?_⟩
  unfold c_impl_CowUsed
  dsimp only
  split
  case h_2 => trivial
  rename_i a1 n1 c1 a2 n2 c2 a3 n3 c3
  rintro ⟨h1, h2, h3⟩
  obtain ⟨s1, X, hX, rfl, t1⟩ := h1.x
  obtain ⟨s2, R, hR, rfl, t2⟩ := h2.x
  obtain ⟨s3, Z, hZ, rfl, t3⟩ := h3.x
  rw [hX, hR, hZ]
  refine goIn hf_23 rfl (nt := 22) rfl (rs := [.tmp 2]) rfl (C := [c_impl_CowOk]) ⟨(by first | exact .inl ok_impl_CowOk | exact ok_impl_CowOk), trivial⟩ (q := fun _ => false) okQ_none mixed (O := fun _ => .nil) (by kernel_rfl) ?_
  by_cases hok : cowOk X R Z
  · have hO : usedO X R Z = ((R.countP fun r => decide (0 < r) : Nat) : Int) := if_pos hok
    rw [hO]
    obtain ⟨l1, l2, l3⟩ := hok.1
    simp only [↓WP, ↓grdD, ↓grdT, ↓un_dead, ↓binVC, ↓buildVC, ↓sliceVC, WQ, WN, Int.reduceToNat, renl, cll, rent, clt, ↓reduceIte, Nat.reduceLeDiff, Nat.reduceEqDiff, Nat.reduceLT, reduceCtorEq, List.append_nil, Nat.reduceAdd, Nat.reduceSub, Nat.reduceBEq, forall_const, implies_true, cond_true, cond_false, AV.ren, AC.ren, AV.cl, AC.cl, eq_self, List.all_cons, List.all_nil, AV.eqv, AC.eqv, eqvl, eqvt, Sl.eqv, List.map_append, List.length_map, List.length_append, List.length_replicate, List.length_set, List.map_replicate, nilVC, sz_25, fl_25_1, sz_23, sd_23, el_23, sz_3, c_impl_CowOk, Row2Ok_upE h1, row2_upE h1, hX, Row2Ok_upE h3, row2_upE h3, hZ, hR, decide_eq_true hok]
    refine ⟨h2, ?_⟩
    refine loopI (J := {i : Nat // i ≤ R.length}) (fun i => ⟨slots 22 [(3, I (((R.take i.1).countP fun r => decide (0 < r) : Nat) : Int)), (10, .c (.sl a2.up R.length c2)), (11, I R.length), (12, I i.1)], M, [], []⟩) (fun i => R.length - i.1) ⟨0, by omega⟩ (Le_intro [] (by simp only [WL, WNL, swA_new, swA_ne, nest_sw_ne, mapLL, List.mem_cons, Nat.reduceAdd, Nat.reduceLT, Nat.reduceLeDiff, Nat.reduceEqDiff, okU, List.nodup_cons, List.not_mem_nil, toT, toL, toO, keysO, renl, rent, cll, clt, eq_self, AV.eqv, AC.eqv, eqvl, eqvt, Sl.eqv, rowsLe, mapLL, rowsCl, List.map_append, List.length_map, List.length_append, List.length_set, List.map_replicate, rowG, List.getElem?_cons_zero, List.getElem?_cons_succ, List.getElem?_nil, List.append_nil, List.nil_append, List.cons_append, ghosts, St.gh, Option.some.injEq, implies_true, setT, AV.ren, AC.ren, AV.cl, AC.cl, List.replicate_succ, List.replicate_zero, List.nodup_nil, List.length_nil, List.length_cons, List.getD_cons_zero, List.getD_cons_succ, ↓reduceIte]; try simp)) ?_
    rintro ⟨i, hi⟩
    have hw := wS (i := i) (by omega)
    rcases Nat.lt_or_ge i R.length with hlt | hge
    · obtain ⟨own, ty, cnt, cap, len, get, hM, hf, hic, hkn, hget⟩ := t2 (by omega)
      have hst := count_step hlt
      have ru : row Int a2.up R.length (some (Rg.arr own ty 1 cnt cap len fun i k => List.map AC.up (get i k))) = R := row_arrU hM hR
      have rk : RowOk Int a2.up R.length (some (Rg.arr own ty 1 cnt cap len fun i k => List.map AC.up (get i k))) = True := RowOk_arrU hM h2
      have hle := List.countP_le_length (p := fun r : Int => decide (0 < r)) (l := R.take i)
      rw [List.length_take] at hle
      have hw1 : IntKind.i64.wrap ((((R.take i).countP fun r => decide (0 < r) : Nat) : Int) + 1) = ((((R.take i).countP fun r => decide (0 < r)) + 1 : Nat) : Int) := by rw [w64 (by omega) (by omega)]; omega
      by_cases hr : 0 < R.getD i default
      · rw [if_pos hr] at hst
        simp only [↓WP, ↓grdD, ↓grdT, ↓un_dead, ↓binVC, ↓buildVC, ↓sliceVC, WQ, WN, Int.reduceToNat, renl, cll, rent, clt, ↓reduceIte, Nat.reduceLeDiff, Nat.reduceEqDiff, Nat.reduceLT, reduceCtorEq, List.append_nil, Nat.reduceAdd, Nat.reduceSub, Nat.reduceBEq, forall_const, implies_true, cond_true, cond_false, AV.ren, AC.ren, AV.cl, AC.cl, eq_self, List.all_cons, List.all_nil, AV.eqv, AC.eqv, eqvl, eqvt, Sl.eqv, List.map_append, List.length_map, List.length_append, List.length_replicate, List.length_set, List.map_replicate, nilVC, sz_25, fl_25_1, sz_23, sd_23, el_23, sz_3, c_impl_CowOk, dlt hlt, hw, hM, hf, hget i hlt, decide_eq_true hr, hw1]
        repeat refine ⟨by omega, ?_⟩
        exact ⟨⟨i + 1, hlt⟩, Le_intro [] (by simp only [WL, WNL, swA_new, swA_ne, nest_sw_ne, mapLL, List.mem_cons, Nat.reduceAdd, Nat.reduceLT, Nat.reduceLeDiff, Nat.reduceEqDiff, okU, List.nodup_cons, List.not_mem_nil, toT, toL, toO, keysO, renl, rent, cll, clt, eq_self, AV.eqv, AC.eqv, eqvl, eqvt, Sl.eqv, rowsLe, mapLL, rowsCl, List.map_append, List.length_map, List.length_append, List.length_set, List.map_replicate, rowG, List.getElem?_cons_zero, List.getElem?_cons_succ, List.getElem?_nil, List.append_nil, List.nil_append, List.cons_append, ghosts, St.gh, Option.some.injEq, implies_true, setT, AV.ren, AC.ren, AV.cl, AC.cl, List.replicate_succ, List.replicate_zero, List.nodup_nil, List.length_nil, List.length_cons, List.getD_cons_zero, List.getD_cons_succ, ↓reduceIte, hst]; try simp), by show R.length - (i + 1) < R.length - i; omega⟩
      · rw [if_neg hr] at hst
        simp only [↓WP, ↓grdD, ↓grdT, ↓un_dead, ↓binVC, ↓buildVC, ↓sliceVC, WQ, WN, Int.reduceToNat, renl, cll, rent, clt, ↓reduceIte, Nat.reduceLeDiff, Nat.reduceEqDiff, Nat.reduceLT, reduceCtorEq, List.append_nil, Nat.reduceAdd, Nat.reduceSub, Nat.reduceBEq, forall_const, implies_true, cond_true, cond_false, AV.ren, AC.ren, AV.cl, AC.cl, eq_self, List.all_cons, List.all_nil, AV.eqv, AC.eqv, eqvl, eqvt, Sl.eqv, List.map_append, List.length_map, List.length_append, List.length_replicate, List.length_set, List.map_replicate, nilVC, sz_25, fl_25_1, sz_23, sd_23, el_23, sz_3, c_impl_CowOk, dlt hlt, hw, hM, hf, hget i hlt, decide_eq_false hr, hw1]
        repeat refine ⟨by omega, ?_⟩
        exact ⟨⟨i + 1, hlt⟩, Le_intro [] (by simp only [WL, WNL, swA_new, swA_ne, nest_sw_ne, mapLL, List.mem_cons, Nat.reduceAdd, Nat.reduceLT, Nat.reduceLeDiff, Nat.reduceEqDiff, okU, List.nodup_cons, List.not_mem_nil, toT, toL, toO, keysO, renl, rent, cll, clt, eq_self, AV.eqv, AC.eqv, eqvl, eqvt, Sl.eqv, rowsLe, mapLL, rowsCl, List.map_append, List.length_map, List.length_append, List.length_set, List.map_replicate, rowG, List.getElem?_cons_zero, List.getElem?_cons_succ, List.getElem?_nil, List.append_nil, List.nil_append, List.cons_append, ghosts, St.gh, Option.some.injEq, implies_true, setT, AV.ren, AC.ren, AV.cl, AC.cl, List.replicate_succ, List.replicate_zero, List.nodup_nil, List.length_nil, List.length_cons, List.getD_cons_zero, List.getD_cons_succ, ↓reduceIte, hst, Nat.add_zero]; try simp), by show R.length - (i + 1) < R.length - i; omega⟩
    · obtain rfl : i = R.length := by omega
      simp only [↓WP, ↓grdD, ↓grdT, ↓un_dead, ↓binVC, ↓buildVC, ↓sliceVC, WQ, WN, Int.reduceToNat, renl, cll, rent, clt, ↓reduceIte, Nat.reduceLeDiff, Nat.reduceEqDiff, Nat.reduceLT, reduceCtorEq, List.append_nil, Nat.reduceAdd, Nat.reduceSub, Nat.reduceBEq, forall_const, implies_true, cond_true, cond_false, AV.ren, AC.ren, AV.cl, AC.cl, eq_self, List.all_cons, List.all_nil, AV.eqv, AC.eqv, eqvl, eqvt, Sl.eqv, List.map_append, List.length_map, List.length_append, List.length_replicate, List.length_set, List.map_replicate, nilVC, sz_25, fl_25_1, sz_23, sd_23, el_23, sz_3, c_impl_CowOk, dge hge, hw, List.take_length]
      try simp
  · have hO : usedO X R Z = 0 := if_neg hok
    rw [hO]
    simp only [↓WP, ↓grdD, ↓grdT, ↓un_dead, ↓binVC, ↓buildVC, ↓sliceVC, WQ, WN, Int.reduceToNat, renl, cll, rent, clt, ↓reduceIte, Nat.reduceLeDiff, Nat.reduceEqDiff, Nat.reduceLT, reduceCtorEq, List.append_nil, Nat.reduceAdd, Nat.reduceSub, Nat.reduceBEq, forall_const, implies_true, cond_true, cond_false, AV.ren, AC.ren, AV.cl, AC.cl, eq_self, List.all_cons, List.all_nil, AV.eqv, AC.eqv, eqvl, eqvt, Sl.eqv, List.map_append, List.length_map, List.length_append, List.length_replicate, List.length_set, List.map_replicate, nilVC, sz_25, fl_25_1, sz_23, sd_23, el_23, sz_3, c_impl_CowOk, Row2Ok_upE h1, row2_upE h1, hX, Row2Ok_upE h3, row2_upE h3, hZ, hR, decide_eq_false hok]
    simp [h2]
theorem q_impl_CowUsed : Quiet c_impl_CowUsed := by
  intro args M
  unfold c_impl_CowUsed
  dsimp only
  split <;> first | trivial | (intro _; rfl)
def c_spec_CowUsed : Contract := ⟨22, fun args M => match args with
  | [.agg [.sl a1 n1 _, .sl a2 n2 _, .sl a3 n3 _]] => .pure (Row2Ok Int a1 n1 M ∧ RowOk Int a2 n2 (M a2.r) ∧ Row2Ok Int a3 n3 M) (I (usedO (row2 Int a1 n1 M) (row Int a2 n2 (M a2.r)) (row2 Int a3 n3 M)))
  | _ => .bad⟩
theorem ok_spec_CowUsed : fnP Try.prog c_spec_CowUsed.f = true ∧ ∀ args M, (c_spec_CowUsed.sp args M).OK Try.prog c_spec_CowUsed.f args M := by
  refine ⟨fp_22, fun args M => ?_⟩
  unfold c_spec_CowUsed
  dsimp only
  split
  case h_2 => trivial
  rename_i a1 n1 c1 a2 n2 c2 a3 n3 c3
  rintro ⟨h1, h2, h3⟩
  obtain ⟨s1, X, hX, rfl, t1⟩ := h1.x
  obtain ⟨s2, R, hR, rfl, t2⟩ := h2.x
  obtain ⟨s3, Z, hZ, rfl, t3⟩ := h3.x
  rw [hX, hR, hZ]
  refine goIn hf_22 rfl (nt := 25) rfl (rs := [.tmp 2]) rfl (C := [c_spec_CowOk]) ⟨(by first | exact .inl ok_spec_CowOk | exact ok_spec_CowOk), trivial⟩ (q := fun _ => false) okQ_none mixed (O := fun _ => .nil) (by kernel_rfl) ?_
  by_cases hok : cowOk X R Z
  · have hO : usedO X R Z = ((R.countP fun r => decide (0 < r) : Nat) : Int) := if_pos hok
    rw [hO]
    obtain ⟨l1, l2, l3⟩ := hok.1
    simp only [↓WP, ↓grdD, ↓grdT, ↓un_dead, ↓binVC, ↓buildVC, ↓sliceVC, WQ, WN, Int.reduceToNat, renl, cll, rent, clt, ↓reduceIte, Nat.reduceLeDiff, Nat.reduceEqDiff, Nat.reduceLT, reduceCtorEq, List.append_nil, Nat.reduceAdd, Nat.reduceSub, Nat.reduceBEq, forall_const, implies_true, cond_true, cond_false, AV.ren, AC.ren, AV.cl, AC.cl, eq_self, List.all_cons, List.all_nil, AV.eqv, AC.eqv, eqvl, eqvt, Sl.eqv, List.map_append, List.length_map, List.length_append, List.length_replicate, List.length_set, List.map_replicate, nilVC, fl_25_1, sz_23, sd_23, sz_25, el_23, sz_3, c_spec_CowOk]
    refine loopI (J := {i : Nat // i ≤ R.length}) (fun i => ⟨slots 25 [(1, .c (.ptr ⟨.loc 0, 0, 0, 0⟩)), (3, I (((R.take i.1).countP fun r => decide (0 < r) : Nat) : Int)), (4, I i.1)], M, [], [.box 25 [.sl a1.up X.length c1, .sl a2.up R.length c2, .sl a3.up Z.length c3]]⟩) (fun i => R.length - i.1) ⟨0, by omega⟩ (Le_intro [0] (by simp only [WL, WNL, swA_new, swA_ne, nest_sw_ne, mapLL, List.mem_cons, Nat.reduceAdd, Nat.reduceLT, Nat.reduceLeDiff, Nat.reduceEqDiff, okU, List.nodup_cons, List.not_mem_nil, toT, toL, toO, keysO, renl, rent, cll, clt, eq_self, AV.eqv, AC.eqv, eqvl, eqvt, Sl.eqv, rowsLe, mapLL, rowsCl, List.map_append, List.length_map, List.length_append, List.length_set, List.map_replicate, rowG, List.getElem?_cons_zero, List.getElem?_cons_succ, List.getElem?_nil, List.append_nil, List.nil_append, List.cons_append, ghosts, St.gh, Option.some.injEq, implies_true, setT, AV.ren, AC.ren, AV.cl, AC.cl, List.replicate_succ, List.replicate_zero, List.nodup_nil, List.length_nil, List.length_cons, List.getD_cons_zero, List.getD_cons_succ, ↓reduceIte]; try simp)) ?_
    rintro ⟨i, hi⟩
    have hw := wS (i := i) (by omega)
    rcases Nat.lt_or_ge i R.length with hlt | hge
    · obtain ⟨own, ty, cnt, cap, len, get, hM, hf, hic, hkn, hget⟩ := t2 (by omega)
      have hst := count_step hlt
      have ru : row Int a2.up R.length (some (Rg.arr own ty 1 cnt cap len fun i k => List.map AC.up (get i k))) = R := row_arrU hM hR
      have rk : RowOk Int a2.up R.length (some (Rg.arr own ty 1 cnt cap len fun i k => List.map AC.up (get i k))) = True := RowOk_arrU hM h2
      have hle := List.countP_le_length (p := fun r : Int => decide (0 < r)) (l := R.take i)
      rw [List.length_take] at hle
      have hw1 : IntKind.i64.wrap ((((R.take i).countP fun r => decide (0 < r) : Nat) : Int) + 1) = ((((R.take i).countP fun r => decide (0 < r)) + 1 : Nat) : Int) := by rw [w64 (by omega) (by omega)]; omega
      by_cases hr : 0 < R.getD i default
      · rw [if_pos hr] at hst
        simp only [↓WP, ↓grdD, ↓grdT, ↓un_dead, ↓binVC, ↓buildVC, ↓sliceVC, WQ, WN, Int.reduceToNat, renl, cll, rent, clt, ↓reduceIte, Nat.reduceLeDiff, Nat.reduceEqDiff, Nat.reduceLT, reduceCtorEq, List.append_nil, Nat.reduceAdd, Nat.reduceSub, Nat.reduceBEq, forall_const, implies_true, cond_true, cond_false, AV.ren, AC.ren, AV.cl, AC.cl, eq_self, List.all_cons, List.all_nil, AV.eqv, AC.eqv, eqvl, eqvt, Sl.eqv, List.map_append, List.length_map, List.length_append, List.length_replicate, List.length_set, List.map_replicate, nilVC, fl_25_1, sz_23, sd_23, sz_25, el_23, sz_3, c_spec_CowOk, dlt hlt, hw, hM, hf, hget i hlt, decide_eq_true hr, hw1, Row2Ok_upE h1, row2_upE h1, hX, Row2Ok_upE h3, row2_upE h3, hZ, hR, decide_eq_true hok, ru, rk]
        repeat' (first | with_reducible refine And.intro ?_ ?_ | intro _)
        all_goals try first | assumption | omega
        exact ⟨⟨i + 1, hlt⟩, Le_intro [0] (by simp only [WL, WNL, swA_new, swA_ne, nest_sw_ne, mapLL, List.mem_cons, Nat.reduceAdd, Nat.reduceLT, Nat.reduceLeDiff, Nat.reduceEqDiff, okU, List.nodup_cons, List.not_mem_nil, toT, toL, toO, keysO, renl, rent, cll, clt, eq_self, AV.eqv, AC.eqv, eqvl, eqvt, Sl.eqv, rowsLe, mapLL, rowsCl, List.map_append, List.length_map, List.length_append, List.length_set, List.map_replicate, rowG, List.getElem?_cons_zero, List.getElem?_cons_succ, List.getElem?_nil, List.append_nil, List.nil_append, List.cons_append, ghosts, St.gh, Option.some.injEq, implies_true, setT, AV.ren, AC.ren, AV.cl, AC.cl, List.replicate_succ, List.replicate_zero, List.nodup_nil, List.length_nil, List.length_cons, List.getD_cons_zero, List.getD_cons_succ, ↓reduceIte, hst]; try simp), by show R.length - (i + 1) < R.length - i; omega⟩
      · rw [if_neg hr] at hst
        simp only [↓WP, ↓grdD, ↓grdT, ↓un_dead, ↓binVC, ↓buildVC, ↓sliceVC, WQ, WN, Int.reduceToNat, renl, cll, rent, clt, ↓reduceIte, Nat.reduceLeDiff, Nat.reduceEqDiff, Nat.reduceLT, reduceCtorEq, List.append_nil, Nat.reduceAdd, Nat.reduceSub, Nat.reduceBEq, forall_const, implies_true, cond_true, cond_false, AV.ren, AC.ren, AV.cl, AC.cl, eq_self, List.all_cons, List.all_nil, AV.eqv, AC.eqv, eqvl, eqvt, Sl.eqv, List.map_append, List.length_map, List.length_append, List.length_replicate, List.length_set, List.map_replicate, nilVC, fl_25_1, sz_23, sd_23, sz_25, el_23, sz_3, c_spec_CowOk, dlt hlt, hw, hM, hf, hget i hlt, decide_eq_false hr, hw1, Row2Ok_upE h1, row2_upE h1, hX, Row2Ok_upE h3, row2_upE h3, hZ, hR, decide_eq_true hok, ru, rk]
        repeat' (first | with_reducible refine And.intro ?_ ?_ | intro _)
        all_goals try first | assumption | omega
        exact ⟨⟨i + 1, hlt⟩, Le_intro [0] (by simp only [WL, WNL, swA_new, swA_ne, nest_sw_ne, mapLL, List.mem_cons, Nat.reduceAdd, Nat.reduceLT, Nat.reduceLeDiff, Nat.reduceEqDiff, okU, List.nodup_cons, List.not_mem_nil, toT, toL, toO, keysO, renl, rent, cll, clt, eq_self, AV.eqv, AC.eqv, eqvl, eqvt, Sl.eqv, rowsLe, mapLL, rowsCl, List.map_append, List.length_map, List.length_append, List.length_set, List.map_replicate, rowG, List.getElem?_cons_zero, List.getElem?_cons_succ, List.getElem?_nil, List.append_nil, List.nil_append, List.cons_append, ghosts, St.gh, Option.some.injEq, implies_true, setT, AV.ren, AC.ren, AV.cl, AC.cl, List.replicate_succ, List.replicate_zero, List.nodup_nil, List.length_nil, List.length_cons, List.getD_cons_zero, List.getD_cons_succ, ↓reduceIte, hst, Nat.add_zero]; try simp), by show R.length - (i + 1) < R.length - i; omega⟩
    · obtain rfl : i = R.length := by omega
      simp only [↓WP, ↓grdD, ↓grdT, ↓un_dead, ↓binVC, ↓buildVC, ↓sliceVC, WQ, WN, Int.reduceToNat, renl, cll, rent, clt, ↓reduceIte, Nat.reduceLeDiff, Nat.reduceEqDiff, Nat.reduceLT, reduceCtorEq, List.append_nil, Nat.reduceAdd, Nat.reduceSub, Nat.reduceBEq, forall_const, implies_true, cond_true, cond_false, AV.ren, AC.ren, AV.cl, AC.cl, eq_self, List.all_cons, List.all_nil, AV.eqv, AC.eqv, eqvl, eqvt, Sl.eqv, List.map_append, List.length_map, List.length_append, List.length_replicate, List.length_set, List.map_replicate, nilVC, fl_25_1, sz_23, sd_23, sz_25, el_23, sz_3, c_spec_CowOk, dge hge, hw, Row2Ok_upE h1, row2_upE h1, hX, Row2Ok_upE h3, row2_upE h3, hZ, hR, List.take_length]
      try simp
  · have hO : usedO X R Z = 0 := if_neg hok
    rw [hO]
    simp only [↓WP, ↓grdD, ↓grdT, ↓un_dead, ↓binVC, ↓buildVC, ↓sliceVC, WQ, WN, Int.reduceToNat, renl, cll, rent, clt, ↓reduceIte, Nat.reduceLeDiff, Nat.reduceEqDiff, Nat.reduceLT, reduceCtorEq, List.append_nil, Nat.reduceAdd, Nat.reduceSub, Nat.reduceBEq, forall_const, implies_true, cond_true, cond_false, AV.ren, AC.ren, AV.cl, AC.cl, eq_self, List.all_cons, List.all_nil, AV.eqv, AC.eqv, eqvl, eqvt, Sl.eqv, List.map_append, List.length_map, List.length_append, List.length_replicate, List.length_set, List.map_replicate, nilVC, fl_25_1, sz_23, sd_23, sz_25, el_23, sz_3, c_spec_CowOk]
    refine loopI (J := Unit) (fun i => ⟨slots 25 [(1, .c (.ptr ⟨.loc 0, 0, 0, 0⟩)), (3, I 0), (4, I 0)], M, [], [.box 25 [.sl a1.up X.length c1, .sl a2.up R.length c2, .sl a3.up Z.length c3]]⟩) (fun i => 0) () (Le_intro [0] (by simp only [WL, WNL, swA_new, swA_ne, nest_sw_ne, mapLL, List.mem_cons, Nat.reduceAdd, Nat.reduceLT, Nat.reduceLeDiff, Nat.reduceEqDiff, okU, List.nodup_cons, List.not_mem_nil, toT, toL, toO, keysO, renl, rent, cll, clt, eq_self, AV.eqv, AC.eqv, eqvl, eqvt, Sl.eqv, rowsLe, mapLL, rowsCl, List.map_append, List.length_map, List.length_append, List.length_set, List.map_replicate, rowG, List.getElem?_cons_zero, List.getElem?_cons_succ, List.getElem?_nil, List.append_nil, List.nil_append, List.cons_append, ghosts, St.gh, Option.some.injEq, implies_true, setT, AV.ren, AC.ren, AV.cl, AC.cl, List.replicate_succ, List.replicate_zero, List.nodup_nil, List.length_nil, List.length_cons, List.getD_cons_zero, List.getD_cons_succ, ↓reduceIte]; try simp)) ?_
    rintro ⟨⟩
    by_cases h0 : (0 : Int) < (R.length : Int)
    · simp only [↓WP, ↓grdD, ↓grdT, ↓un_dead, ↓binVC, ↓buildVC, ↓sliceVC, WQ, WN, Int.reduceToNat, renl, cll, rent, clt, ↓reduceIte, Nat.reduceLeDiff, Nat.reduceEqDiff, Nat.reduceLT, reduceCtorEq, List.append_nil, Nat.reduceAdd, Nat.reduceSub, Nat.reduceBEq, forall_const, implies_true, cond_true, cond_false, AV.ren, AC.ren, AV.cl, AC.cl, eq_self, List.all_cons, List.all_nil, AV.eqv, AC.eqv, eqvl, eqvt, Sl.eqv, List.map_append, List.length_map, List.length_append, List.length_replicate, List.length_set, List.map_replicate, nilVC, fl_25_1, sz_23, sd_23, sz_25, el_23, sz_3, c_spec_CowOk, decide_eq_true h0, Row2Ok_upE h1, row2_upE h1, hX, Row2Ok_upE h3, row2_upE h3, hZ, hR, decide_eq_false hok, h2]
      try simp
    · simp only [↓WP, ↓grdD, ↓grdT, ↓un_dead, ↓binVC, ↓buildVC, ↓sliceVC, WQ, WN, Int.reduceToNat, renl, cll, rent, clt, ↓reduceIte, Nat.reduceLeDiff, Nat.reduceEqDiff, Nat.reduceLT, reduceCtorEq, List.append_nil, Nat.reduceAdd, Nat.reduceSub, Nat.reduceBEq, forall_const, implies_true, cond_true, cond_false, AV.ren, AC.ren, AV.cl, AC.cl, eq_self, List.all_cons, List.all_nil, AV.eqv, AC.eqv, eqvl, eqvt, Sl.eqv, List.map_append, List.length_map, List.length_append, List.length_replicate, List.length_set, List.map_replicate, nilVC, fl_25_1, sz_23, sd_23, sz_25, el_23, sz_3, c_spec_CowOk, decide_eq_false h0, Row2Ok_upE h1, row2_upE h1, hX, Row2Ok_upE h3, row2_upE h3, hZ, hR, decide_eq_false hok, h2]
      try simp
theorem q_spec_CowUsed : Quiet c_spec_CowUsed := by
  intro args M
  unfold c_spec_CowUsed
  dsimp only
  split <;> first | trivial | (intro _; rfl)
end Go.Eng.T
