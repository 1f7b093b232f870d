/- line: LineOk. -/
import Derived.Test.YtffbhimjpibocaaFn3
set_option linter.unusedVariables false
set_option linter.unusedSimpArgs false
set_option linter.unusedSectionVars false
namespace Go.Eng
/-- a program's words that are wrong -/
def badC (x : List ByteArray) : Bool := !decide (1 ≤ x.length ∧ x.length ≤ 6) || x.any fun w => !decide (lw w)
theorem badC_iff (x : List ByteArray) : badC x = false ↔ (1 ≤ x.length ∧ x.length ≤ 6) ∧ ∀ w ∈ x, lw w := by
  unfold badC
  simp
end Go.Eng
namespace Go.Eng.T
open Go.Proofs
open Cel (enc dec)
set_option maxRecDepth 100000
set_option maxHeartbeats 4000000
def c_impl_LineOk_1_1 : Contract := ⟨21, fun args M => match args with
  | [.c (.str w)] => .pure (small w) (Eng.B (!decide (lw w)))
  | _ => .bad⟩
theorem ok_impl_LineOk_1_1 : fnP Try.prog c_impl_LineOk_1_1.f = true ∧ ∀ args M, (c_impl_LineOk_1_1.sp args M).OK Try.prog c_impl_LineOk_1_1.f args M := by
  refine ⟨fp_21, fun args M => ?_⟩
  unfold c_impl_LineOk_1_1
  dsimp only
  split
  case h_2 => trivial
  rename_i w
  intro hs
  refine goIn hf_21 rfl (nt := 6) rfl (rs := [.tmp 2]) rfl (C := [c_impl_lineWord]) ⟨(by first | exact .inl ok_impl_lineWord | exact ok_impl_lineWord), trivial⟩ (q := fun _ => false) okQ_none mixed (O := fun _ => .nil) (by kernel_rfl) ?_
  simp only [↓WP, ↓grdD, ↓grdT, ↓un_dead, ↓binVC, ↓buildVC, ↓sliceVC, WQ, WN, Int.reduceToNat, renl, cll, rent, clt, ↓reduceIte, Nat.reduceLeDiff, Nat.reduceEqDiff, Nat.reduceLT, reduceCtorEq, List.append_nil, Nat.reduceAdd, Nat.reduceSub, Nat.reduceBEq, forall_const, implies_true, cond_true, cond_false, AV.ren, AC.ren, AV.cl, AC.cl, eq_self, List.all_cons, List.all_nil, AV.eqv, AC.eqv, eqvl, eqvt, Sl.eqv, List.map_append, List.length_map, List.length_append, List.length_replicate, List.length_set, List.map_replicate, nilVC, c_impl_lineWord]
  first | exact hs | trivial
def c_slices_IndexFunc_string : Contract := ⟨29, fun args M => match args with
  | [.c (.sl a n _), .c (.clo f [])] => .pure (f = 21 ∧ RowOk ByteArray a n (M a.r) ∧ ∀ x ∈ row ByteArray a n (M a.r), small x) (I (idx (fun w => !decide (lw w)) (row ByteArray a n (M a.r))))
  | _ => .bad⟩
theorem ok_slices_IndexFunc_string : fnP Try.prog c_slices_IndexFunc_string.f = true ∧ ∀ args M, (c_slices_IndexFunc_string.sp args M).OK Try.prog c_slices_IndexFunc_string.f args M := by
  refine ⟨fp_29, fun args M => ?_⟩
  unfold c_slices_IndexFunc_string
  dsimp only
  split
  case h_2 => trivial
  rename_i a n ca f
  rintro ⟨rfl, ha, hsm⟩
  obtain ⟨hs, X, hX, rfl, hat⟩ := ha.x
  rw [hX] at hsm ⊢
  refine goIn hf_29 rfl (nt := 19) rfl (rs := [.tmp 4]) rfl (C := [c_impl_LineOk_1_1]) ⟨(by first | exact .inl ok_impl_LineOk_1_1 | exact ok_impl_LineOk_1_1), trivial⟩ (q := fun _ => false) okQ_none mixed (O := fun _ => .nil) (by kernel_rfl) ?_
  simp only [↓WP, ↓grdD, ↓grdT, ↓un_dead, ↓binVC, ↓buildVC, ↓sliceVC, WQ, WN, Int.reduceToNat, renl, cll, rent, clt, ↓reduceIte, Nat.reduceLeDiff, Nat.reduceEqDiff, Nat.reduceLT, reduceCtorEq, List.append_nil, Nat.reduceAdd, Nat.reduceSub, Nat.reduceBEq, forall_const, implies_true, cond_true, cond_false, AV.ren, AC.ren, AV.cl, AC.cl, eq_self, List.all_cons, List.all_nil, AV.eqv, AC.eqv, eqvl, eqvt, Sl.eqv, List.map_append, List.length_map, List.length_append, List.length_replicate, List.length_set, List.map_replicate, nilVC, sd_37, el_37, sz_9, c_impl_LineOk_1_1]
  refine loopI (J := {i : Nat // i ≤ X.length ∧ clear (fun w : ByteArray => !decide (lw w)) X i}) (fun i => ⟨slots 19 [(0, .c (.sl a.up X.length ca)), (1, .c (.clo 21 [])), (7, I X.length), (8, I i.1)], M, [], []⟩) (fun i => X.length - i.1) ⟨0, by omega, clear_zero _ _⟩ (Le_intro [] (by simp [WL, WNL, swA_new, swA_ne, nest_sw_ne, mapLL, List.mem_cons, Nat.reduceAdd, Nat.reduceLT, Nat.reduceLeDiff, Nat.reduceEqDiff, okU, List.nodup_cons, List.not_mem_nil, toT, toL, toO, keysO, renl, rent, cll, clt, eq_self, AV.eqv, AC.eqv, eqvl, eqvt, Sl.eqv, rowsLe, mapLL, rowsCl, List.map_append, List.length_map, List.length_append, List.length_set, List.map_replicate, rowG, List.getElem?_cons_zero, List.getElem?_cons_succ, List.getElem?_nil, List.append_nil, List.nil_append, List.cons_append, ghosts, St.gh, Option.some.injEq, implies_true, setT, AV.ren, AC.ren, AV.cl, AC.cl, List.replicate_succ, List.replicate_zero, List.nodup_nil, List.length_nil, List.length_cons, List.getD_cons_zero, List.getD_cons_succ, ↓reduceIte])) ?_
  rintro ⟨i, hi, he⟩
  have hw := wS (i := i) (by omega)
  rcases Nat.lt_or_ge i X.length with hlt | hge
  · obtain ⟨own, ty, cnt, cap, len, get, hM, hf, hic, hkn, hget⟩ := hat (by omega)
    have hsx : (X.getD i default).size ≤ 9223372036854775807 := hsm _ (by rw [getD_of_lt hlt]; exact List.getElem_mem _)
    simp only [↓WP, ↓grdD, ↓grdT, ↓un_dead, ↓binVC, ↓buildVC, ↓sliceVC, WQ, WN, Int.reduceToNat, renl, cll, rent, clt, ↓reduceIte, Nat.reduceLeDiff, Nat.reduceEqDiff, Nat.reduceLT, reduceCtorEq, List.append_nil, Nat.reduceAdd, Nat.reduceSub, Nat.reduceBEq, forall_const, implies_true, cond_true, cond_false, AV.ren, AC.ren, AV.cl, AC.cl, eq_self, List.all_cons, List.all_nil, AV.eqv, AC.eqv, eqvl, eqvt, Sl.eqv, List.map_append, List.length_map, List.length_append, List.length_replicate, List.length_set, List.map_replicate, nilVC, sd_37, el_37, sz_9, c_impl_LineOk_1_1, dlt hlt, hw, hM, hf, hget i hlt]
    repeat refine ⟨by omega, ?_⟩
    refine ⟨fun h1 => ?_, fun h1 => ?_⟩
    · have := idx_hit (p := fun w : ByteArray => !decide (lw w)) he hlt h1
      rw [this]
    · exact ⟨⟨i + 1, hlt, clear_succ he h1⟩, Le_intro [] (by simp [WL, WNL, swA_new, swA_ne, nest_sw_ne, mapLL, List.mem_cons, Nat.reduceAdd, Nat.reduceLT, Nat.reduceLeDiff, Nat.reduceEqDiff, okU, List.nodup_cons, List.not_mem_nil, toT, toL, toO, keysO, renl, rent, cll, clt, eq_self, AV.eqv, AC.eqv, eqvl, eqvt, Sl.eqv, rowsLe, mapLL, rowsCl, List.map_append, List.length_map, List.length_append, List.length_set, List.map_replicate, rowG, List.getElem?_cons_zero, List.getElem?_cons_succ, List.getElem?_nil, List.append_nil, List.nil_append, List.cons_append, ghosts, St.gh, Option.some.injEq, implies_true, setT, AV.ren, AC.ren, AV.cl, AC.cl, List.replicate_succ, List.replicate_zero, List.nodup_nil, List.length_nil, List.length_cons, List.getD_cons_zero, List.getD_cons_succ, ↓reduceIte]), by show X.length - (i + 1) < X.length - i; omega⟩
  · obtain rfl : i = X.length := by omega
    simp only [↓WP, ↓grdD, ↓grdT, ↓un_dead, ↓binVC, ↓buildVC, ↓sliceVC, WQ, WN, Int.reduceToNat, renl, cll, rent, clt, ↓reduceIte, Nat.reduceLeDiff, Nat.reduceEqDiff, Nat.reduceLT, reduceCtorEq, List.append_nil, Nat.reduceAdd, Nat.reduceSub, Nat.reduceBEq, forall_const, implies_true, cond_true, cond_false, AV.ren, AC.ren, AV.cl, AC.cl, eq_self, List.all_cons, List.all_nil, AV.eqv, AC.eqv, eqvl, eqvt, Sl.eqv, List.map_append, List.length_map, List.length_append, List.length_replicate, List.length_set, List.map_replicate, nilVC, sd_37, el_37, sz_9, c_impl_LineOk_1_1, dge hge, hw]
    have := idx_miss he
    rw [this]
def c_slices_ContainsFunc_string : Contract := ⟨20, fun args M => match args with
  | [.c (.sl a n _), .c (.clo f [])] => .pure (f = 21 ∧ RowOk ByteArray a n (M a.r) ∧ ∀ x ∈ row ByteArray a n (M a.r), small x) (Eng.B ((row ByteArray a n (M a.r)).any fun w => !decide (lw w)))
  | _ => .bad⟩
theorem ok_slices_ContainsFunc_string : fnP Try.prog c_slices_ContainsFunc_string.f = true ∧ ∀ args M, (c_slices_ContainsFunc_string.sp args M).OK Try.prog c_slices_ContainsFunc_string.f args M := by
  refine ⟨fp_20, fun args M => ?_⟩
  unfold c_slices_ContainsFunc_string
  dsimp only
  split
  case h_2 => trivial
  rename_i a n ca f
  rintro ⟨rfl, ha, hsm⟩
  refine goIn hf_20 rfl (nt := 9) rfl (rs := [.tmp 4]) rfl (C := [c_slices_IndexFunc_string]) ⟨(by first | exact .inl ok_slices_IndexFunc_string | exact ok_slices_IndexFunc_string), trivial⟩ (q := fun _ => false) okQ_none mixed (O := fun _ => .nil) (by kernel_rfl) ?_
  simp only [↓WP, ↓grdD, ↓grdT, ↓un_dead, ↓binVC, ↓buildVC, ↓sliceVC, WQ, WN, Int.reduceToNat, renl, cll, rent, clt, ↓reduceIte, Nat.reduceLeDiff, Nat.reduceEqDiff, Nat.reduceLT, reduceCtorEq, List.append_nil, Nat.reduceAdd, Nat.reduceSub, Nat.reduceBEq, forall_const, implies_true, cond_true, cond_false, AV.ren, AC.ren, AV.cl, AC.cl, eq_self, List.all_cons, List.all_nil, AV.eqv, AC.eqv, eqvl, eqvt, Sl.eqv, List.map_append, List.length_map, List.length_append, List.length_replicate, List.length_set, List.map_replicate, nilVC, c_slices_IndexFunc_string, ← idx_any]
  exact ⟨ha, hsm⟩
def c_impl_LineOk_1 : Contract := ⟨19, fun args M => match args with
  | [.agg [.sl a n _]] => .pure (RowOk ByteArray a n (M a.r) ∧ ∀ x ∈ row ByteArray a n (M a.r), small x) (Eng.B (badC (row ByteArray a n (M a.r))))
  | _ => .bad⟩
theorem ok_impl_LineOk_1 : fnP Try.prog c_impl_LineOk_1.f = true ∧ ∀ args M, (c_impl_LineOk_1.sp args M).OK Try.prog c_impl_LineOk_1.f args M := by
  refine ⟨fp_19, fun args M => ?_⟩
  unfold c_impl_LineOk_1
  dsimp only
  split
  case h_2 => trivial
  rename_i a n c
  rintro ⟨ha, hsm⟩
  obtain ⟨hs, X, hX, rfl, hat⟩ := ha.x
  rw [hX] at hsm ⊢
  refine goIn hf_19 rfl (nt := 13) rfl (rs := [.tmp 2]) rfl (C := [c_impl_in, c_slices_ContainsFunc_string]) ⟨(by first | exact .inl ok_impl_in | exact ok_impl_in), (by first | exact .inl ok_slices_ContainsFunc_string | exact ok_slices_ContainsFunc_string), trivial⟩ (q := fun _ => false) okQ_none mixed (O := fun _ => .nil) (by kernel_rfl) ?_
  have hwr : True := trivial
  by_cases hl : 1 ≤ X.length ∧ X.length ≤ 6
  · have hl1 : decide ((1 : Int) ≤ X.length ∧ (X.length : Int) ≤ 6) = true := decide_eq_true (by omega)
    simp only [↓WP, ↓grdD, ↓grdT, ↓un_dead, ↓binVC, ↓buildVC, ↓sliceVC, WQ, WN, Int.reduceToNat, renl, cll, rent, clt, ↓reduceIte, Nat.reduceLeDiff, Nat.reduceEqDiff, Nat.reduceLT, reduceCtorEq, List.append_nil, Nat.reduceAdd, Nat.reduceSub, Nat.reduceBEq, forall_const, implies_true, cond_true, cond_false, AV.ren, AC.ren, AV.cl, AC.cl, eq_self, List.all_cons, List.all_nil, AV.eqv, AC.eqv, eqvl, eqvt, Sl.eqv, List.map_append, List.length_map, List.length_append, List.length_replicate, List.length_set, List.map_replicate, nilVC, fl_39_0, sz_37, sd_37, c_impl_in, c_slices_ContainsFunc_string, hX, hl1]
    refine ⟨⟨ha, hsm⟩, ?_⟩
    unfold badC
    rw [decide_eq_true hl]
    rfl
  · have hl1 : decide ((1 : Int) ≤ X.length ∧ (X.length : Int) ≤ 6) = false := decide_eq_false (by omega)
    have hb : badC X = true := by unfold badC; rw [decide_eq_false hl]; rfl
    rw [hb]
    simp only [↓WP, ↓grdD, ↓grdT, ↓un_dead, ↓binVC, ↓buildVC, ↓sliceVC, WQ, WN, Int.reduceToNat, renl, cll, rent, clt, ↓reduceIte, Nat.reduceLeDiff, Nat.reduceEqDiff, Nat.reduceLT, reduceCtorEq, List.append_nil, Nat.reduceAdd, Nat.reduceSub, Nat.reduceBEq, forall_const, implies_true, cond_true, cond_false, AV.ren, AC.ren, AV.cl, AC.cl, eq_self, List.all_cons, List.all_nil, AV.eqv, AC.eqv, eqvl, eqvt, Sl.eqv, List.map_append, List.length_map, List.length_append, List.length_replicate, List.length_set, List.map_replicate, nilVC, fl_39_0, sz_37, sd_37, c_impl_in, c_slices_ContainsFunc_string, hX, hl1]
def c_slices_IndexFunc_Cmd : Contract := ⟨28, fun args M => match args with
  | [.c (.sl a n _), .c (.clo f [])] => .pure (f = 19 ∧ Row2Ok ByteArray a n M ∧ ∀ x ∈ row2 ByteArray a n M, ∀ w ∈ x, small w) (I (idx badC (row2 ByteArray a n M)))
  | _ => .bad⟩
theorem ok_slices_IndexFunc_Cmd : fnP Try.prog c_slices_IndexFunc_Cmd.f = true ∧ ∀ args M, (c_slices_IndexFunc_Cmd.sp args M).OK Try.prog c_slices_IndexFunc_Cmd.f args M := by
  refine ⟨fp_28, fun args M => ?_⟩
  unfold c_slices_IndexFunc_Cmd
  dsimp only
  split
  case h_2 => trivial
  rename_i a n ca f
  rintro ⟨rfl, ha, hsm⟩
  obtain ⟨hs, X, hX, rfl, hat⟩ := ha.x
  rw [hX] at hsm ⊢
  refine goIn hf_28 rfl (nt := 19) rfl (rs := [.tmp 4]) rfl (C := [c_impl_LineOk_1]) ⟨(by first | exact .inl ok_impl_LineOk_1 | exact ok_impl_LineOk_1), trivial⟩ (q := fun _ => false) okQ_none mixed (O := fun _ => .nil) (by kernel_rfl) ?_
  simp only [↓WP, ↓grdD, ↓grdT, ↓un_dead, ↓binVC, ↓buildVC, ↓sliceVC, WQ, WN, Int.reduceToNat, renl, cll, rent, clt, ↓reduceIte, Nat.reduceLeDiff, Nat.reduceEqDiff, Nat.reduceLT, reduceCtorEq, List.append_nil, Nat.reduceAdd, Nat.reduceSub, Nat.reduceBEq, forall_const, implies_true, cond_true, cond_false, AV.ren, AC.ren, AV.cl, AC.cl, eq_self, List.all_cons, List.all_nil, AV.eqv, AC.eqv, eqvl, eqvt, Sl.eqv, List.map_append, List.length_map, List.length_append, List.length_replicate, List.length_set, List.map_replicate, nilVC, sd_27, el_27, sz_39, c_impl_LineOk_1]
  refine loopI (J := {i : Nat // i ≤ X.length ∧ clear badC X i}) (fun i => ⟨slots 19 [(0, .c (.sl a.up X.length ca)), (1, .c (.clo 19 [])), (7, I X.length), (8, I i.1)], M, [], []⟩) (fun i => X.length - i.1) ⟨0, by omega, clear_zero _ _⟩ (Le_intro [] (by simp [WL, WNL, swA_new, swA_ne, nest_sw_ne, mapLL, List.mem_cons, Nat.reduceAdd, Nat.reduceLT, Nat.reduceLeDiff, Nat.reduceEqDiff, okU, List.nodup_cons, List.not_mem_nil, toT, toL, toO, keysO, renl, rent, cll, clt, eq_self, AV.eqv, AC.eqv, eqvl, eqvt, Sl.eqv, rowsLe, mapLL, rowsCl, List.map_append, List.length_map, List.length_append, List.length_set, List.map_replicate, rowG, List.getElem?_cons_zero, List.getElem?_cons_succ, List.getElem?_nil, List.append_nil, List.nil_append, List.cons_append, ghosts, St.gh, Option.some.injEq, implies_true, setT, AV.ren, AC.ren, AV.cl, AC.cl, List.replicate_succ, List.replicate_zero, List.nodup_nil, List.length_nil, List.length_cons, List.getD_cons_zero, List.getD_cons_succ, ↓reduceIte])) ?_
  rintro ⟨i, hi, he⟩
  have hw := wS (i := i) (by omega)
  rcases Nat.lt_or_ge i X.length with hlt | hge
  · obtain ⟨own, ty, cnt, cap, len, get, b, cc, hM, hf, hic, hkn, hget⟩ := hat (by omega)
    obtain ⟨g1, g2, g3, g4⟩ := hget i hlt
    have hsx : ∀ w ∈ X.getD i default, small w := hsm _ (by rw [getD_of_lt hlt]; exact List.getElem_mem _)
    simp only [↓WP, ↓grdD, ↓grdT, ↓un_dead, ↓binVC, ↓buildVC, ↓sliceVC, WQ, WN, Int.reduceToNat, renl, cll, rent, clt, ↓reduceIte, Nat.reduceLeDiff, Nat.reduceEqDiff, Nat.reduceLT, reduceCtorEq, List.append_nil, Nat.reduceAdd, Nat.reduceSub, Nat.reduceBEq, forall_const, implies_true, cond_true, cond_false, AV.ren, AC.ren, AV.cl, AC.cl, eq_self, List.all_cons, List.all_nil, AV.eqv, AC.eqv, eqvl, eqvt, Sl.eqv, List.map_append, List.length_map, List.length_append, List.length_replicate, List.length_set, List.map_replicate, nilVC, sd_27, el_27, sz_39, c_impl_LineOk_1, dlt hlt, hw, hM, hf, g1, g3, g4]
    repeat refine ⟨by omega, ?_⟩
    refine ⟨fun h1 => ?_, fun h1 => ?_⟩
    · have := idx_hit (p := badC) he hlt h1
      rw [this]
    · exact ⟨⟨i + 1, hlt, clear_succ he h1⟩, Le_intro [] (by simp [WL, WNL, swA_new, swA_ne, nest_sw_ne, mapLL, List.mem_cons, Nat.reduceAdd, Nat.reduceLT, Nat.reduceLeDiff, Nat.reduceEqDiff, okU, List.nodup_cons, List.not_mem_nil, toT, toL, toO, keysO, renl, rent, cll, clt, eq_self, AV.eqv, AC.eqv, eqvl, eqvt, Sl.eqv, rowsLe, mapLL, rowsCl, List.map_append, List.length_map, List.length_append, List.length_set, List.map_replicate, rowG, List.getElem?_cons_zero, List.getElem?_cons_succ, List.getElem?_nil, List.append_nil, List.nil_append, List.cons_append, ghosts, St.gh, Option.some.injEq, implies_true, setT, AV.ren, AC.ren, AV.cl, AC.cl, List.replicate_succ, List.replicate_zero, List.nodup_nil, List.length_nil, List.length_cons, List.getD_cons_zero, List.getD_cons_succ, ↓reduceIte]), by show X.length - (i + 1) < X.length - i; omega⟩
  · obtain rfl : i = X.length := by omega
    simp only [↓WP, ↓grdD, ↓grdT, ↓un_dead, ↓binVC, ↓buildVC, ↓sliceVC, WQ, WN, Int.reduceToNat, renl, cll, rent, clt, ↓reduceIte, Nat.reduceLeDiff, Nat.reduceEqDiff, Nat.reduceLT, reduceCtorEq, List.append_nil, Nat.reduceAdd, Nat.reduceSub, Nat.reduceBEq, forall_const, implies_true, cond_true, cond_false, AV.ren, AC.ren, AV.cl, AC.cl, eq_self, List.all_cons, List.all_nil, AV.eqv, AC.eqv, eqvl, eqvt, Sl.eqv, List.map_append, List.length_map, List.length_append, List.length_replicate, List.length_set, List.map_replicate, nilVC, sd_27, el_27, sz_39, c_impl_LineOk_1, dge hge, hw]
    have := idx_miss he
    rw [this]
def c_slices_ContainsFunc_Cmd : Contract := ⟨18, fun args M => match args with
  | [.c (.sl a n _), .c (.clo f [])] => .pure (f = 19 ∧ Row2Ok ByteArray a n M ∧ ∀ x ∈ row2 ByteArray a n M, ∀ w ∈ x, small w) (Eng.B ((row2 ByteArray a n M).any badC))
  | _ => .bad⟩
theorem ok_slices_ContainsFunc_Cmd : fnP Try.prog c_slices_ContainsFunc_Cmd.f = true ∧ ∀ args M, (c_slices_ContainsFunc_Cmd.sp args M).OK Try.prog c_slices_ContainsFunc_Cmd.f args M := by
  refine ⟨fp_18, fun args M => ?_⟩
  unfold c_slices_ContainsFunc_Cmd
  dsimp only
  split
  case h_2 => trivial
  rename_i a n ca f
  rintro ⟨rfl, ha, hsm⟩
  refine goIn hf_18 rfl (nt := 9) rfl (rs := [.tmp 4]) rfl (C := [c_slices_IndexFunc_Cmd]) ⟨(by first | exact .inl ok_slices_IndexFunc_Cmd | exact ok_slices_IndexFunc_Cmd), trivial⟩ (q := fun _ => false) okQ_none mixed (O := fun _ => .nil) (by kernel_rfl) ?_
  simp only [↓WP, ↓grdD, ↓grdT, ↓un_dead, ↓binVC, ↓buildVC, ↓sliceVC, WQ, WN, Int.reduceToNat, renl, cll, rent, clt, ↓reduceIte, Nat.reduceLeDiff, Nat.reduceEqDiff, Nat.reduceLT, reduceCtorEq, List.append_nil, Nat.reduceAdd, Nat.reduceSub, Nat.reduceBEq, forall_const, implies_true, cond_true, cond_false, AV.ren, AC.ren, AV.cl, AC.cl, eq_self, List.all_cons, List.all_nil, AV.eqv, AC.eqv, eqvl, eqvt, Sl.eqv, List.map_append, List.length_map, List.length_append, List.length_replicate, List.length_set, List.map_replicate, nilVC, c_slices_IndexFunc_Cmd, ← idx_any, Row2Ok_upE ha, row2_upE ha]
  exact hsm
end Go.Eng.T
