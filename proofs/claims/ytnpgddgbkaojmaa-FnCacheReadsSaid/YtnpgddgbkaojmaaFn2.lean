/- cache: marks of texts. -/
import Derived.Test.YtnpgddgbkaojmaaFn1
set_option linter.unusedVariables false
set_option linter.unusedSimpArgs false
set_option linter.unusedSectionVars false
namespace Go.Eng.T
open Go.Proofs
open Cel (enc dec)
set_option maxRecDepth 100000
set_option maxHeartbeats 4000000
def c_laws_markText : Contract := ⟨62, fun args M => match args with
  | [.c (.int .i64 k)] => .pure (k ≤ 5000000000000000000) (.c (.str (markT k)))
  | _ => .bad⟩
theorem ok_laws_markText : fnP Try.prog c_laws_markText.f = true ∧ ∀ args M, (c_laws_markText.sp args M).OK Try.prog c_laws_markText.f args M := by
  refine ⟨fp_62, fun args M => ?_⟩
  unfold c_laws_markText
  dsimp only
  split
  case h_2 => trivial
  rename_i k
  intro hk
  refine goIn hf_62 rfl (nt := 20) rfl (rs := [.tmp 2]) rfl (C := []) trivial (q := fun _ => false) okQ_none mixed (O := fun _ => .nil) (by kernel_rfl) ?_
  by_cases h0 : k ≤ 0
  · have hm : markT k = bytes [109, 48] := if_pos h0
    simp only [↓WP, ↓grdD, ↓grdT, ↓un_dead, ↓binVC, ↓buildVC, ↓sliceVC, WQ, WN, Int.reduceToNat, renl, cll, rent, clt, ↓reduceIte, Nat.reduceLeDiff, Nat.reduceEqDiff, Nat.reduceLT, reduceCtorEq, List.append_nil, Nat.reduceAdd, Nat.reduceSub, Nat.reduceBEq, forall_const, implies_true, cond_true, cond_false, AV.ren, AC.ren, AV.cl, AC.cl, eq_self, List.all_cons, List.all_nil, AV.eqv, AC.eqv, eqvl, eqvt, Sl.eqv, List.map_append, List.length_map, List.length_append, List.length_replicate, List.length_set, List.map_replicate, nilVC, cv_3_5, el_46, zr_5, cv_46_9, decide_eq_true h0]
    rw [hm]
    rfl
  · obtain ⟨K, rfl⟩ : ∃ K : Nat, k = K := ⟨k.toNat, by omega⟩
    have hm : markT (K : Int) = bytes (109 :: digs K) := by rw [markT, if_neg h0, Int.toNat_natCast]
    have hdl := digs_len 19 K (by omega)
    rw [hm]
    simp only [↓WP, ↓grdD, ↓grdT, ↓un_dead, ↓binVC, ↓buildVC, ↓sliceVC, WQ, WN, Int.reduceToNat, renl, cll, rent, clt, ↓reduceIte, Nat.reduceLeDiff, Nat.reduceEqDiff, Nat.reduceLT, reduceCtorEq, List.append_nil, Nat.reduceAdd, Nat.reduceSub, Nat.reduceBEq, forall_const, implies_true, cond_true, cond_false, AV.ren, AC.ren, AV.cl, AC.cl, eq_self, List.all_cons, List.all_nil, AV.eqv, AC.eqv, eqvl, eqvt, Sl.eqv, List.map_append, List.length_map, List.length_append, List.length_replicate, List.length_set, List.map_replicate, nilVC, cv_3_5, el_46, zr_5, cv_46_9, decide_eq_false h0]
    refine loopI (J := {p : Nat × List UInt8 // p.1 ≤ K ∧ digs K = digs p.1 ++ p.2}) (fun p => ⟨slots 20 [(0, I p.1.1), (3, .c (.str (bytes p.1.2)))], M, [], []⟩) (fun p => p.1.1) ⟨(K, []), Nat.le_refl _, by simp⟩ (Le_intro [] (by simp [WL, WNL, swA_new, swA_ne, nest_sw_ne, mapLL, List.mem_cons, Nat.reduceAdd, Nat.reduceLT, Nat.reduceLeDiff, Nat.reduceEqDiff, okU, List.nodup_cons, List.not_mem_nil, toT, toL, toO, keysO, renl, rent, cll, clt, eq_self, AV.eqv, AC.eqv, eqvl, eqvt, Sl.eqv, rowsLe, mapLL, rowsCl, List.map_append, List.length_map, List.length_append, List.length_set, List.map_replicate, rowG, List.getElem?_cons_zero, List.getElem?_cons_succ, List.getElem?_nil, List.append_nil, List.nil_append, List.cons_append, ghosts, St.gh, Option.some.injEq, implies_true, setT, AV.ren, AC.ren, AV.cl, AC.cl, List.replicate_succ, List.replicate_zero, List.nodup_nil, List.length_nil, List.length_cons, List.getD_cons_zero, List.getD_cons_succ, ↓reduceIte, bytes_nil]; rfl)) ?_
    rintro ⟨⟨i, l⟩, hi, he⟩
    dsimp only at hi he
    have hll : l.length ≤ 19 := by have := congrArg List.length he; rw [List.length_append] at this; omega
    have hq : (i : Int).tdiv 10 = ((i / 10 : Nat) : Int) := rfl
    have hr : (i : Int).tmod 10 = ((i % 10 : Nat) : Int) := tmod_nat i 10
    rcases Nat.eq_zero_or_pos i with h1 | h1
    · have hgt : decide ((0 : Int) < (i : Int)) = false := by simp only [decide_eq_false_iff_not]; omega
      simp only [↓WP, ↓grdD, ↓grdT, ↓un_dead, ↓binVC, ↓buildVC, ↓sliceVC, WQ, WN, Int.reduceToNat, renl, cll, rent, clt, ↓reduceIte, Nat.reduceLeDiff, Nat.reduceEqDiff, Nat.reduceLT, reduceCtorEq, List.append_nil, Nat.reduceAdd, Nat.reduceSub, Nat.reduceBEq, forall_const, implies_true, cond_true, cond_false, AV.ren, AC.ren, AV.cl, AC.cl, eq_self, List.all_cons, List.all_nil, AV.eqv, AC.eqv, eqvl, eqvt, Sl.eqv, List.map_append, List.length_map, List.length_append, List.length_replicate, List.length_set, List.map_replicate, nilVC, cv_3_5, el_46, zr_5, cv_46_9, hgt]
      have he2 : digs K = l := by rw [he, h1, digs_zero, List.nil_append]
      refine ⟨by rw [bytes_size]; show 1 + l.length ≤ _; omega, ?_⟩
      rw [he2]
      exact bytes_append [109] l
    · have hgt : decide ((0 : Int) < (i : Int)) = true := by simp only [decide_eq_true_iff]; omega
      have hmod : i % 10 < 10 := Nat.mod_lt _ (by omega)
      have hu : IntKind.u8.wrap (IntKind.i64.wrap (48 + ((i % 10 : Nat) : Int))) = ((UInt8.ofNat (48 + i % 10)).toNat : Int) := by
        rw [w64 (by omega) (by omega), UInt8.toNat_ofNat']
        unfold IntKind.wrap
        simp [IntKind.bits, IntKind.signed]
      have hwd : IntKind.i64.wrap ((i / 10 : Nat) : Int) = ((i / 10 : Nat) : Int) := w64 (by omega) (by omega)
      simp only [↓WP, ↓grdD, ↓grdT, ↓un_dead, ↓binVC, ↓buildVC, ↓sliceVC, WQ, WN, Int.reduceToNat, renl, cll, rent, clt, ↓reduceIte, Nat.reduceLeDiff, Nat.reduceEqDiff, Nat.reduceLT, reduceCtorEq, List.append_nil, Nat.reduceAdd, Nat.reduceSub, Nat.reduceBEq, forall_const, implies_true, cond_true, cond_false, AV.ren, AC.ren, AV.cl, AC.cl, eq_self, List.all_cons, List.all_nil, AV.eqv, AC.eqv, eqvl, eqvt, Sl.eqv, List.map_append, List.length_map, List.length_append, List.length_replicate, List.length_set, List.map_replicate, nilVC, cv_3_5, el_46, zr_5, cv_46_9, hgt, hq, hr, hu, hwd]
      refine ⟨by decide, by omega, [UInt8.ofNat (48 + i % 10)], ⟨rfl, fun j hj => ?_⟩, ?_, by decide, ?_⟩
      · obtain rfl : j = 0 := by omega
        rfl
      · rw [bytes_size]; show 1 + l.length ≤ _; omega
      · refine ⟨⟨(i / 10, UInt8.ofNat (48 + i % 10) :: l), by dsimp only; omega, ?_⟩, Le_intro [] ?_, by show i / 10 < i; omega⟩
        · rw [he, digs_pos h1, List.append_assoc]; rfl
        · simp only [WL, WNL, swA_new, swA_ne, nest_sw_ne, mapLL, List.mem_cons, Nat.reduceAdd, Nat.reduceLT, Nat.reduceLeDiff, Nat.reduceEqDiff, okU, List.nodup_cons, List.not_mem_nil, toT, toL, toO, keysO, renl, rent, cll, clt, eq_self, AV.eqv, AC.eqv, eqvl, eqvt, Sl.eqv, rowsLe, mapLL, rowsCl, List.map_append, List.length_map, List.length_append, List.length_set, List.map_replicate, rowG, List.getElem?_cons_zero, List.getElem?_cons_succ, List.getElem?_nil, List.append_nil, List.nil_append, List.cons_append, ghosts, St.gh, Option.some.injEq, implies_true, setT, AV.ren, AC.ren, AV.cl, AC.cl, List.replicate_succ, List.replicate_zero, List.nodup_nil, List.length_nil, List.length_cons, List.getD_cons_zero, List.getD_cons_succ, ↓reduceIte]
          exact bytes_append [UInt8.ofNat (48 + i % 10)] l
theorem q_laws_markText : Quiet c_laws_markText := by
  intro args M
  unfold c_laws_markText
  dsimp only
  split <;> first | trivial | (intro _; rfl)
def c_laws_markStringS : Contract := ⟨36, fun args M => match args with
  | [.c (.sl a n _), .c (.int .i64 k)] => specR ByteArray a n (M a.r) fun ty c _ => .eff (0 ≤ k ∧ k ≤ 4611686018427387904) Unit (fun _ => True) (fun _ => I (k + n)) (fun _ => []) (fun _ => [(a.r, rowG true ty c (markS k n))])
  | _ => .bad⟩
theorem ok_laws_markStringS : fnP Try.prog c_laws_markStringS.f = true ∧ ∀ args M, (c_laws_markStringS.sp args M).OK Try.prog c_laws_markStringS.f args M := by
  refine ⟨fp_36, fun args M => ?_⟩
  unfold c_laws_markStringS
  dsimp only
  split
  case h_2 => trivial
  rename_i a n ca k
  refine specR_cases fun ty c X hM hX hlen hs hi0 hk0 hf0 => ?_
  rintro ⟨h1, h2⟩
  subst hlen
  refine goIn hf_36 rfl (nt := 20) rfl (rs := [.tmp 4]) rfl (C := [c_laws_markText]) ⟨(by first | exact .inl ok_laws_markText | exact ok_laws_markText), trivial⟩ (q := fun _ => false) okQ_none mixed (O := fun _ => .nil) (by kernel_rfl) ?_
  simp only [↓WP, ↓grdD, ↓grdT, ↓un_dead, ↓binVC, ↓buildVC, ↓sliceVC, WQ, WN, Int.reduceToNat, renl, cll, rent, clt, ↓reduceIte, Nat.reduceLeDiff, Nat.reduceEqDiff, Nat.reduceLT, reduceCtorEq, List.append_nil, Nat.reduceAdd, Nat.reduceSub, Nat.reduceBEq, forall_const, implies_true, cond_true, cond_false, AV.ren, AC.ren, AV.cl, AC.cl, eq_self, List.all_cons, List.all_nil, AV.eqv, AC.eqv, eqvl, eqvt, Sl.eqv, List.map_append, List.length_map, List.length_append, List.length_replicate, List.length_set, List.map_replicate, nilVC, sd_22, el_22, sz_9, c_laws_markText]
  refine loopI (J := {i : Nat // i ≤ X.length}) (fun i => ⟨slots 20 [(0, .c (.sl a.up X.length ca)), (1, I (k + (i.1 : Int))), (5, I i.1)], M, [(a.r, rowG true ty c (over (markS k X.length) X i.1))], []⟩) (fun i => X.length - i.1) ⟨0, by omega⟩ (Le_intro [] (by simp only [WL, WNL, swA_new, swA_ne, nest_sw_ne, mapLL, List.mem_cons, Nat.reduceAdd, Nat.reduceLT, Nat.reduceLeDiff, Nat.reduceEqDiff, okU, List.nodup_cons, List.not_mem_nil, toT, toL, toO, keysO, renl, rent, cll, clt, eq_self, AV.eqv, AC.eqv, eqvl, eqvt, Sl.eqv, rowsLe, mapLL, rowsCl, List.map_append, List.length_map, List.length_append, List.length_set, List.map_replicate, rowG, List.getElem?_cons_zero, List.getElem?_cons_succ, List.getElem?_nil, List.append_nil, List.nil_append, List.cons_append, ghosts, St.gh, Option.some.injEq, implies_true, setT, AV.ren, AC.ren, AV.cl, AC.cl, List.replicate_succ, List.replicate_zero, List.nodup_nil, List.length_nil, List.length_cons, List.getD_cons_zero, List.getD_cons_succ, ↓reduceIte, hM, over_zero]; simp)) ?_
  rintro ⟨i, hi⟩
  have hw := wS (i := i) (by omega)
  have hol : (over (markS k X.length) X i).length = X.length := over_length _ _ _ (markS_length _ _)
  rcases Nat.lt_or_ge i X.length with hlt | hge
  · have w1 : IntKind.i64.wrap (k + (i : Int) + 1) = k + ((i + 1 : Nat) : Int) := by rw [w64 (by omega) (by omega)]; omega
    simp only [↓WP, ↓grdD, ↓grdT, ↓un_dead, ↓binVC, ↓buildVC, ↓sliceVC, WQ, WN, Int.reduceToNat, renl, cll, rent, clt, ↓reduceIte, Nat.reduceLeDiff, Nat.reduceEqDiff, Nat.reduceLT, reduceCtorEq, List.append_nil, Nat.reduceAdd, Nat.reduceSub, Nat.reduceBEq, forall_const, implies_true, cond_true, cond_false, AV.ren, AC.ren, AV.cl, AC.cl, eq_self, List.all_cons, List.all_nil, AV.eqv, AC.eqv, eqvl, eqvt, Sl.eqv, List.map_append, List.length_map, List.length_append, List.length_replicate, List.length_set, List.map_replicate, nilVC, sd_22, el_22, sz_9, c_laws_markText, dlt hlt, hw, hM, hol, hi0, hk0, hf0, w1]
    repeat refine ⟨by omega, ?_⟩
    refine ⟨⟨i + 1, hlt⟩, Le_intro [] ?_, by show X.length - (i + 1) < X.length - i; omega⟩
    have hst := over_set (markS k X.length) X i default (markS_length _ _) hlt
    rw [markS_get k hlt] at hst
    simp only [WL, WNL, swA_new, swA_ne, nest_sw_ne, mapLL, List.mem_cons, Nat.reduceAdd, Nat.reduceLT, Nat.reduceLeDiff, Nat.reduceEqDiff, okU, List.nodup_cons, List.not_mem_nil, toT, toL, toO, keysO, renl, rent, cll, clt, eq_self, AV.eqv, AC.eqv, eqvl, eqvt, Sl.eqv, rowsLe, mapLL, rowsCl, List.map_append, List.length_map, List.length_append, List.length_set, List.map_replicate, rowG, List.getElem?_cons_zero, List.getElem?_cons_succ, List.getElem?_nil, List.append_nil, List.nil_append, List.cons_append, ghosts, St.gh, Option.some.injEq, implies_true, setT, AV.ren, AC.ren, AV.cl, AC.cl, List.replicate_succ, List.replicate_zero, List.nodup_nil, List.length_nil, List.length_cons, List.getD_cons_zero, List.getD_cons_succ, ↓reduceIte, ← hst, List.map_set]
    try simp
  · obtain rfl : i = X.length := by omega
    simp only [↓WP, ↓grdD, ↓grdT, ↓un_dead, ↓binVC, ↓buildVC, ↓sliceVC, WQ, WN, Int.reduceToNat, renl, cll, rent, clt, ↓reduceIte, Nat.reduceLeDiff, Nat.reduceEqDiff, Nat.reduceLT, reduceCtorEq, List.append_nil, Nat.reduceAdd, Nat.reduceSub, Nat.reduceBEq, forall_const, implies_true, cond_true, cond_false, AV.ren, AC.ren, AV.cl, AC.cl, eq_self, List.all_cons, List.all_nil, AV.eqv, AC.eqv, eqvl, eqvt, Sl.eqv, List.map_append, List.length_map, List.length_append, List.length_replicate, List.length_set, List.map_replicate, nilVC, sd_22, el_22, sz_9, c_laws_markText, dge hge, hw]
    refine end_ret ?_
    simp only [↓WP, ↓grdD, ↓grdT, ↓un_dead, ↓binVC, ↓buildVC, ↓sliceVC, WQ, WN, Int.reduceToNat, renl, cll, rent, clt, ↓reduceIte, Nat.reduceLeDiff, Nat.reduceEqDiff, Nat.reduceLT, reduceCtorEq, List.append_nil, Nat.reduceAdd, Nat.reduceSub, Nat.reduceBEq, forall_const, implies_true, cond_true, cond_false, AV.ren, AC.ren, AV.cl, AC.cl, eq_self, List.all_cons, List.all_nil, AV.eqv, AC.eqv, eqvl, eqvt, Sl.eqv, List.map_append, List.length_map, List.length_append, List.length_replicate, List.length_set, List.map_replicate, nilVC, sd_22, el_22, sz_9, c_laws_markText]
    refine ⟨(), [], [], ?_⟩
    simp only [WL, WNL, swA_new, swA_ne, nest_sw_ne, mapLL, List.mem_cons, Nat.reduceAdd, Nat.reduceLT, Nat.reduceLeDiff, Nat.reduceEqDiff, okU, List.nodup_cons, List.not_mem_nil, toT, toL, toO, keysO, renl, rent, cll, clt, eq_self, AV.eqv, AC.eqv, eqvl, eqvt, Sl.eqv, rowsLe, mapLL, rowsCl, List.map_append, List.length_map, List.length_append, List.length_set, List.map_replicate, rowG, List.getElem?_cons_zero, List.getElem?_cons_succ, List.getElem?_nil, List.append_nil, List.nil_append, List.cons_append, ghosts, St.gh, Option.some.injEq, implies_true, setT, AV.ren, AC.ren, AV.cl, AC.cl, List.replicate_succ, List.replicate_zero, List.nodup_nil, List.length_nil, List.length_cons, List.getD_cons_zero, List.getD_cons_succ, ↓reduceIte, retP, hM, over_all (markS k X.length) X (markS_length _ _)]
    simp [okU, hM]
def c_laws_heldStringS : Contract := ⟨38, fun args M => match args with
  | [.c (.sl a n _), .c (.int .i64 k)] => .pure (RowOk ByteArray a n (M a.r) ∧ 0 ≤ k ∧ k ≤ 4611686018427387904) (I (if row ByteArray a n (M a.r) = markS k n then k + n else -1))
  | _ => .bad⟩
theorem ok_laws_heldStringS : fnP Try.prog c_laws_heldStringS.f = true ∧ ∀ args M, (c_laws_heldStringS.sp args M).OK Try.prog c_laws_heldStringS.f args M := by
  refine ⟨fp_38, fun args M => ?_⟩
  unfold c_laws_heldStringS
  dsimp only
  split
  case h_2 => trivial
  rename_i a n ca k
  rintro ⟨hrow, h1, h2⟩
  obtain ⟨hs, X, hX, rfl, hat⟩ := hrow.x
  rw [hX]
  refine goIn hf_38 rfl (nt := 22) rfl (rs := [.tmp 4]) rfl (C := [c_laws_markText]) ⟨(by first | exact .inl ok_laws_markText | exact ok_laws_markText), trivial⟩ (q := fun f => [62].contains f) ⟨fun _ => q_laws_markText, trivial⟩ mixed (O := ots [(4, otl [0, 1, 2, 3, 4, 5, 6] .nil)]) (by kernel_rfl) ?_
  simp only [↓WP, ↓grdD, ↓grdT, ↓un_dead, ↓binVC, ↓buildVC, ↓sliceVC, WQ, WN, Int.reduceToNat, renl, cll, rent, clt, ↓reduceIte, Nat.reduceLeDiff, Nat.reduceEqDiff, Nat.reduceLT, reduceCtorEq, List.append_nil, Nat.reduceAdd, Nat.reduceSub, Nat.reduceBEq, forall_const, implies_true, cond_true, cond_false, AV.ren, AC.ren, AV.cl, AC.cl, eq_self, List.all_cons, List.all_nil, AV.eqv, AC.eqv, eqvl, eqvt, Sl.eqv, List.map_append, List.length_map, List.length_append, List.length_replicate, List.length_set, List.map_replicate, nilVC, sd_22, el_22, sz_9, c_laws_markText]
  refine loopI (J := {i : Nat // i ≤ X.length ∧ X.take i = (markS k X.length).take i}) (fun i => ⟨slots 22 [(0, .c (.sl a.up X.length ca)), (1, I (k + (i.1 : Int))), (5, I i.1)], M, [], []⟩) (fun i => X.length - i.1) ⟨0, by omega, rfl⟩ (Le_intro [] (by simp [WL, WNL, swA_new, swA_ne, nest_sw_ne, mapLL, List.mem_cons, Nat.reduceAdd, Nat.reduceLT, Nat.reduceLeDiff, Nat.reduceEqDiff, okU, List.nodup_cons, List.not_mem_nil, toT, toL, toO, keysO, renl, rent, cll, clt, eq_self, AV.eqv, AC.eqv, eqvl, eqvt, Sl.eqv, rowsLe, mapLL, rowsCl, List.map_append, List.length_map, List.length_append, List.length_set, List.map_replicate, rowG, List.getElem?_cons_zero, List.getElem?_cons_succ, List.getElem?_nil, List.append_nil, List.nil_append, List.cons_append, ghosts, St.gh, Option.some.injEq, implies_true, setT, AV.ren, AC.ren, AV.cl, AC.cl, List.replicate_succ, List.replicate_zero, List.nodup_nil, List.length_nil, List.length_cons, List.getD_cons_zero, List.getD_cons_succ, ↓reduceIte])) ?_
  rintro ⟨i, hi, he⟩
  have hw := wS (i := i) (by omega)
  rcases Nat.lt_or_ge i X.length with hlt | hge
  · obtain ⟨own, ty, cnt, cap, len, get, hM, hf, hic, hkn, hget⟩ := hat (by omega)
    have w1 : IntKind.i64.wrap (k + (i : Int) + 1) = k + ((i + 1 : Nat) : Int) := by rw [w64 (by omega) (by omega)]; omega
    have hm := markS_get k hlt
    simp only [↓WP, ↓grdD, ↓grdT, ↓un_dead, ↓binVC, ↓buildVC, ↓sliceVC, WQ, WN, Int.reduceToNat, renl, cll, rent, clt, ↓reduceIte, Nat.reduceLeDiff, Nat.reduceEqDiff, Nat.reduceLT, reduceCtorEq, List.append_nil, Nat.reduceAdd, Nat.reduceSub, Nat.reduceBEq, forall_const, implies_true, cond_true, cond_false, AV.ren, AC.ren, AV.cl, AC.cl, eq_self, List.all_cons, List.all_nil, AV.eqv, AC.eqv, eqvl, eqvt, Sl.eqv, List.map_append, List.length_map, List.length_append, List.length_replicate, List.length_set, List.map_replicate, nilVC, sd_22, el_22, sz_9, c_laws_markText, dlt hlt, hw, hM, hf, hget i hlt, w1]
    simp only [WB, eq_self]
    repeat refine ⟨by omega, ?_⟩
    refine ⟨fun h => ?_, fun h => ?_⟩
    · rw [if_neg fun e => h (by rw [← hm, ← e])]
    · exact ⟨⟨i + 1, hlt, eq_step he hlt (by rw [markS_length]; exact hlt) (by rw [hm]; simpa using h)⟩, Le_intro [] (by simp [WL, WNL, swA_new, swA_ne, nest_sw_ne, mapLL, List.mem_cons, Nat.reduceAdd, Nat.reduceLT, Nat.reduceLeDiff, Nat.reduceEqDiff, okU, List.nodup_cons, List.not_mem_nil, toT, toL, toO, keysO, renl, rent, cll, clt, eq_self, AV.eqv, AC.eqv, eqvl, eqvt, Sl.eqv, rowsLe, mapLL, rowsCl, List.map_append, List.length_map, List.length_append, List.length_set, List.map_replicate, rowG, List.getElem?_cons_zero, List.getElem?_cons_succ, List.getElem?_nil, List.append_nil, List.nil_append, List.cons_append, ghosts, St.gh, Option.some.injEq, implies_true, setT, AV.ren, AC.ren, AV.cl, AC.cl, List.replicate_succ, List.replicate_zero, List.nodup_nil, List.length_nil, List.length_cons, List.getD_cons_zero, List.getD_cons_succ, ↓reduceIte]), by show X.length - (i + 1) < X.length - i; omega⟩
  · obtain rfl : i = X.length := by omega
    simp only [↓WP, ↓grdD, ↓grdT, ↓un_dead, ↓binVC, ↓buildVC, ↓sliceVC, WQ, WN, Int.reduceToNat, renl, cll, rent, clt, ↓reduceIte, Nat.reduceLeDiff, Nat.reduceEqDiff, Nat.reduceLT, reduceCtorEq, List.append_nil, Nat.reduceAdd, Nat.reduceSub, Nat.reduceBEq, forall_const, implies_true, cond_true, cond_false, AV.ren, AC.ren, AV.cl, AC.cl, eq_self, List.all_cons, List.all_nil, AV.eqv, AC.eqv, eqvl, eqvt, Sl.eqv, List.map_append, List.length_map, List.length_append, List.length_replicate, List.length_set, List.map_replicate, nilVC, sd_22, el_22, sz_9, c_laws_markText, dge hge, hw]
    rw [if_pos (eq_of_take (by rw [markS_length]) he)]
theorem q_laws_heldStringS : Quiet c_laws_heldStringS := by
  intro args M
  unfold c_laws_heldStringS
  dsimp only
  split <;> first | trivial | (intro _; rfl)
def c_laws_markRowS : Contract := ⟨37, fun args M => match args with
  | [.c (.sl a n _), .c (.int .i64 k)] => specR TR a n (M a.r) fun ty c _ => .eff (0 ≤ k ∧ k ≤ 4611686018427387904) Unit (fun _ => True) (fun _ => I (k + 3 * n)) (fun _ => []) (fun _ => [(a.r, rowG true ty c (markR k n))])
  | _ => .bad⟩
theorem ok_laws_markRowS : fnP Try.prog c_laws_markRowS.f = true ∧ ∀ args M, (c_laws_markRowS.sp args M).OK Try.prog c_laws_markRowS.f args M := by
  refine ⟨fp_37, fun args M => ?_⟩
  unfold c_laws_markRowS
  dsimp only
  split
  case h_2 => trivial
  rename_i a n ca k
  refine specR_cases fun ty c X hM hX hlen hs hi0 hk0 hf0 => ?_
  rintro ⟨h1, h2⟩
  subst hlen
  refine goIn hf_37 rfl (nt := 37) rfl (rs := [.tmp 4]) rfl (C := [c_laws_markText]) ⟨(by first | exact .inl ok_laws_markText | exact ok_laws_markText), trivial⟩ (q := fun _ => false) okQ_none mixed (O := fun _ => .nil) (by kernel_rfl) ?_
  simp only [↓WP, ↓grdD, ↓grdT, ↓un_dead, ↓binVC, ↓buildVC, ↓sliceVC, WQ, WN, Int.reduceToNat, renl, cll, rent, clt, ↓reduceIte, Nat.reduceLeDiff, Nat.reduceEqDiff, Nat.reduceLT, reduceCtorEq, List.append_nil, Nat.reduceAdd, Nat.reduceSub, Nat.reduceBEq, forall_const, implies_true, cond_true, cond_false, AV.ren, AC.ren, AV.cl, AC.cl, eq_self, List.all_cons, List.all_nil, AV.eqv, AC.eqv, eqvl, eqvt, Sl.eqv, List.map_append, List.length_map, List.length_append, List.length_replicate, List.length_set, List.map_replicate, nilVC, sd_23, el_23, fl_60_0, sz_3, fl_60_1, sz_9, fl_60_2, sz_4, c_laws_markText]
  refine loopI (J := {i : Nat // i ≤ X.length}) (fun i => ⟨slots 37 [(0, .c (.sl a.up X.length ca)), (1, I (k + 3 * (i.1 : Int))), (5, I i.1)], M, [(a.r, rowG true ty c (over (markR k X.length) X i.1))], []⟩) (fun i => X.length - i.1) ⟨0, by omega⟩ (Le_intro [] (by simp only [WL, WNL, swA_new, swA_ne, nest_sw_ne, mapLL, List.mem_cons, Nat.reduceAdd, Nat.reduceLT, Nat.reduceLeDiff, Nat.reduceEqDiff, okU, List.nodup_cons, List.not_mem_nil, toT, toL, toO, keysO, renl, rent, cll, clt, eq_self, AV.eqv, AC.eqv, eqvl, eqvt, Sl.eqv, rowsLe, mapLL, rowsCl, List.map_append, List.length_map, List.length_append, List.length_set, List.map_replicate, rowG, List.getElem?_cons_zero, List.getElem?_cons_succ, List.getElem?_nil, List.append_nil, List.nil_append, List.cons_append, ghosts, St.gh, Option.some.injEq, implies_true, setT, AV.ren, AC.ren, AV.cl, AC.cl, List.replicate_succ, List.replicate_zero, List.nodup_nil, List.length_nil, List.length_cons, List.getD_cons_zero, List.getD_cons_succ, ↓reduceIte, hM, over_zero]; simp)) ?_
  rintro ⟨i, hi⟩
  have hw := wS (i := i) (by omega)
  have hol : (over (markR k X.length) X i).length = X.length := over_length _ _ _ (markR_length _ _)
  rcases Nat.lt_or_ge i X.length with hlt | hge
  · have w1 : IntKind.i64.wrap (k + 3 * (i : Int) + 1) = k + 3 * (i : Int) + 1 := w64 (by omega) (by omega)
    have w2 : IntKind.i64.wrap (k + 3 * (i : Int) + 1 + 1) = k + 3 * (i : Int) + 2 := by rw [w64 (by omega) (by omega)]; omega
    have w3 : IntKind.i64.wrap (k + 3 * (i : Int) + 2 + 1) = k + 3 * ((i + 1 : Nat) : Int) := by rw [w64 (by omega) (by omega)]; omega
    have hgd : (List.map enc (over (markR k X.length) X i)).getD i [] = enc (X.getD i default) := by rw [getD_enc _ _ (by omega), over_get _ _ _ _ (markR_length _ _) hlt]
    have hset : ∀ x, ((List.map enc (over (markR k X.length) X i)).set i x).getD i [] = x := fun x => getD_set_self (by simp [hol, hlt])
    simp only [↓WP, ↓grdD, ↓grdT, ↓un_dead, ↓binVC, ↓buildVC, ↓sliceVC, WQ, WN, Int.reduceToNat, renl, cll, rent, clt, ↓reduceIte, Nat.reduceLeDiff, Nat.reduceEqDiff, Nat.reduceLT, reduceCtorEq, List.append_nil, Nat.reduceAdd, Nat.reduceSub, Nat.reduceBEq, forall_const, implies_true, cond_true, cond_false, AV.ren, AC.ren, AV.cl, AC.cl, eq_self, List.all_cons, List.all_nil, AV.eqv, AC.eqv, eqvl, eqvt, Sl.eqv, List.map_append, List.length_map, List.length_append, List.length_replicate, List.length_set, List.map_replicate, nilVC, sd_23, el_23, fl_60_0, sz_3, fl_60_1, sz_9, fl_60_2, sz_4, c_laws_markText, dlt hlt, hw, hM, hol, hi0, hk0, hf0, hgd, hset, List.set_set, w1, w2, w3]
    repeat refine ⟨by omega, ?_⟩
    refine ⟨⟨i + 1, hlt⟩, Le_intro [] ?_, by show X.length - (i + 1) < X.length - i; omega⟩
    have hst := over_set (markR k X.length) X i default (markR_length _ _) hlt
    rw [markR_get k hlt] at hst
    simp only [WL, WNL, swA_new, swA_ne, nest_sw_ne, mapLL, List.mem_cons, Nat.reduceAdd, Nat.reduceLT, Nat.reduceLeDiff, Nat.reduceEqDiff, okU, List.nodup_cons, List.not_mem_nil, toT, toL, toO, keysO, renl, rent, cll, clt, eq_self, AV.eqv, AC.eqv, eqvl, eqvt, Sl.eqv, rowsLe, mapLL, rowsCl, List.map_append, List.length_map, List.length_append, List.length_set, List.map_replicate, rowG, List.getElem?_cons_zero, List.getElem?_cons_succ, List.getElem?_nil, List.append_nil, List.nil_append, List.cons_append, ghosts, St.gh, Option.some.injEq, implies_true, setT, AV.ren, AC.ren, AV.cl, AC.cl, List.replicate_succ, List.replicate_zero, List.nodup_nil, List.length_nil, List.length_cons, List.getD_cons_zero, List.getD_cons_succ, ↓reduceIte, ← hst, List.map_set]
    try simp
  · obtain rfl : i = X.length := by omega
    simp only [↓WP, ↓grdD, ↓grdT, ↓un_dead, ↓binVC, ↓buildVC, ↓sliceVC, WQ, WN, Int.reduceToNat, renl, cll, rent, clt, ↓reduceIte, Nat.reduceLeDiff, Nat.reduceEqDiff, Nat.reduceLT, reduceCtorEq, List.append_nil, Nat.reduceAdd, Nat.reduceSub, Nat.reduceBEq, forall_const, implies_true, cond_true, cond_false, AV.ren, AC.ren, AV.cl, AC.cl, eq_self, List.all_cons, List.all_nil, AV.eqv, AC.eqv, eqvl, eqvt, Sl.eqv, List.map_append, List.length_map, List.length_append, List.length_replicate, List.length_set, List.map_replicate, nilVC, sd_23, el_23, fl_60_0, sz_3, fl_60_1, sz_9, fl_60_2, sz_4, c_laws_markText, dge hge, hw]
    refine end_ret ?_
    simp only [↓WP, ↓grdD, ↓grdT, ↓un_dead, ↓binVC, ↓buildVC, ↓sliceVC, WQ, WN, Int.reduceToNat, renl, cll, rent, clt, ↓reduceIte, Nat.reduceLeDiff, Nat.reduceEqDiff, Nat.reduceLT, reduceCtorEq, List.append_nil, Nat.reduceAdd, Nat.reduceSub, Nat.reduceBEq, forall_const, implies_true, cond_true, cond_false, AV.ren, AC.ren, AV.cl, AC.cl, eq_self, List.all_cons, List.all_nil, AV.eqv, AC.eqv, eqvl, eqvt, Sl.eqv, List.map_append, List.length_map, List.length_append, List.length_replicate, List.length_set, List.map_replicate, nilVC, sd_23, el_23, fl_60_0, sz_3, fl_60_1, sz_9, fl_60_2, sz_4, c_laws_markText]
    refine ⟨(), [], [], ?_⟩
    simp only [WL, WNL, swA_new, swA_ne, nest_sw_ne, mapLL, List.mem_cons, Nat.reduceAdd, Nat.reduceLT, Nat.reduceLeDiff, Nat.reduceEqDiff, okU, List.nodup_cons, List.not_mem_nil, toT, toL, toO, keysO, renl, rent, cll, clt, eq_self, AV.eqv, AC.eqv, eqvl, eqvt, Sl.eqv, rowsLe, mapLL, rowsCl, List.map_append, List.length_map, List.length_append, List.length_set, List.map_replicate, rowG, List.getElem?_cons_zero, List.getElem?_cons_succ, List.getElem?_nil, List.append_nil, List.nil_append, List.cons_append, ghosts, St.gh, Option.some.injEq, implies_true, setT, AV.ren, AC.ren, AV.cl, AC.cl, List.replicate_succ, List.replicate_zero, List.nodup_nil, List.length_nil, List.length_cons, List.getD_cons_zero, List.getD_cons_succ, ↓reduceIte, retP, hM, over_all (markR k X.length) X (markR_length _ _)]
    simp [okU, hM]
def c_laws_heldRowS : Contract := ⟨39, fun args M => match args with
  | [.c (.sl a n _), .c (.int .i64 k)] => .pure (RowOk TR a n (M a.r) ∧ 0 ≤ k ∧ k ≤ 4611686018427387904) (I (if row TR a n (M a.r) = markR k n then k + 3 * n else -1))
  | _ => .bad⟩
theorem ok_laws_heldRowS : fnP Try.prog c_laws_heldRowS.f = true ∧ ∀ args M, (c_laws_heldRowS.sp args M).OK Try.prog c_laws_heldRowS.f args M := by
  refine ⟨fp_39, fun args M => ?_⟩
  unfold c_laws_heldRowS
  dsimp only
  split
  case h_2 => trivial
  rename_i a n ca k
  rintro ⟨hrow, h1, h2⟩
  obtain ⟨hs, X, hX, rfl, hat⟩ := hrow.x
  rw [hX]
  refine goIn hf_39 rfl (nt := 43) rfl (rs := [.tmp 4]) rfl (C := [c_laws_markText]) ⟨(by first | exact .inl ok_laws_markText | exact ok_laws_markText), trivial⟩ (q := fun f => [62].contains f) ⟨fun _ => q_laws_markText, trivial⟩ mixed (O := ots [(7, otl [0, 1, 2, 3, 4, 5, 6, 7] .nil)]) (by kernel_rfl) ?_
  simp only [↓WP, ↓grdD, ↓grdT, ↓un_dead, ↓binVC, ↓buildVC, ↓sliceVC, WQ, WN, Int.reduceToNat, renl, cll, rent, clt, ↓reduceIte, Nat.reduceLeDiff, Nat.reduceEqDiff, Nat.reduceLT, reduceCtorEq, List.append_nil, Nat.reduceAdd, Nat.reduceSub, Nat.reduceBEq, forall_const, implies_true, cond_true, cond_false, AV.ren, AC.ren, AV.cl, AC.cl, eq_self, List.all_cons, List.all_nil, AV.eqv, AC.eqv, eqvl, eqvt, Sl.eqv, List.map_append, List.length_map, List.length_append, List.length_replicate, List.length_set, List.map_replicate, nilVC, sd_23, el_23, fl_60_0, sz_3, fl_60_1, sz_9, fl_60_2, sz_4, bt_4, c_laws_markText]
  refine loopI (J := {i : Nat // i ≤ X.length ∧ X.take i = (markR k X.length).take i}) (fun i => ⟨slots 43 [(0, .c (.sl a.up X.length ca)), (1, I (k + 3 * (i.1 : Int))), (5, I i.1)], M, [], []⟩) (fun i => X.length - i.1) ⟨0, by omega, rfl⟩ (Le_intro [] (by simp [WL, WNL, swA_new, swA_ne, nest_sw_ne, mapLL, List.mem_cons, Nat.reduceAdd, Nat.reduceLT, Nat.reduceLeDiff, Nat.reduceEqDiff, okU, List.nodup_cons, List.not_mem_nil, toT, toL, toO, keysO, renl, rent, cll, clt, eq_self, AV.eqv, AC.eqv, eqvl, eqvt, Sl.eqv, rowsLe, mapLL, rowsCl, List.map_append, List.length_map, List.length_append, List.length_set, List.map_replicate, rowG, List.getElem?_cons_zero, List.getElem?_cons_succ, List.getElem?_nil, List.append_nil, List.nil_append, List.cons_append, ghosts, St.gh, Option.some.injEq, implies_true, setT, AV.ren, AC.ren, AV.cl, AC.cl, List.replicate_succ, List.replicate_zero, List.nodup_nil, List.length_nil, List.length_cons, List.getD_cons_zero, List.getD_cons_succ, ↓reduceIte])) ?_
  rintro ⟨i, hi, he⟩
  have hw := wS (i := i) (by omega)
  rcases Nat.lt_or_ge i X.length with hlt | hge
  · obtain ⟨own, ty, cnt, cap, len, get, hM, hf, hic, hkn, hget⟩ := hat (by omega)
    have w1 : IntKind.i64.wrap (k + 3 * (i : Int) + 1) = k + 3 * (i : Int) + 1 := w64 (by omega) (by omega)
    have w2 : IntKind.i64.wrap (k + 3 * (i : Int) + 1 + 1) = k + 3 * (i : Int) + 2 := by rw [w64 (by omega) (by omega)]; omega
    have w3 : IntKind.i64.wrap (k + 3 * (i : Int) + 2 + 1) = k + 3 * ((i + 1 : Nat) : Int) := by rw [w64 (by omega) (by omega)]; omega
    have hm := markR_get k hlt
    have hne : X.getD i default ≠ (k + 3 * (i : Int), markT (k + 3 * (i : Int) + 1), decide ((k + 3 * (i : Int) + 2).tmod 3 = 0)) → ¬ X = markR k X.length := fun h e => by
      rw [← hm, ← e] at h; exact h rfl
    simp only [↓WP, ↓grdD, ↓grdT, ↓un_dead, ↓binVC, ↓buildVC, ↓sliceVC, WQ, WN, Int.reduceToNat, renl, cll, rent, clt, ↓reduceIte, Nat.reduceLeDiff, Nat.reduceEqDiff, Nat.reduceLT, reduceCtorEq, List.append_nil, Nat.reduceAdd, Nat.reduceSub, Nat.reduceBEq, forall_const, implies_true, cond_true, cond_false, AV.ren, AC.ren, AV.cl, AC.cl, eq_self, List.all_cons, List.all_nil, AV.eqv, AC.eqv, eqvl, eqvt, Sl.eqv, List.map_append, List.length_map, List.length_append, List.length_replicate, List.length_set, List.map_replicate, nilVC, sd_23, el_23, fl_60_0, sz_3, fl_60_1, sz_9, fl_60_2, sz_4, bt_4, c_laws_markText, dlt hlt, hw, hM, hf, hget i hlt, w1, w2, w3]
    simp only [WB, eq_self]
    repeat refine ⟨by omega, ?_⟩
    refine ⟨fun h => ?_, fun h => ?_⟩
    · rw [if_neg (hne fun e => h (by rw [e]))]
    repeat refine ⟨by omega, ?_⟩
    refine ⟨fun h' => ?_, fun h' => ?_⟩
    · rw [if_neg (hne fun e => h' (by rw [e]))]
    repeat refine ⟨by omega, ?_⟩
    refine ⟨fun h'' => ?_, fun h'' => ?_⟩
    · rw [if_neg (hne fun e => by rw [e] at h''; simp at h'')]
    exact ⟨⟨i + 1, hlt, eq_step he hlt (by rw [markR_length]; exact hlt) (by rw [hm]; exact Prod.ext_iff.2 ⟨by simpa using h, Prod.ext_iff.2 ⟨by simpa using h', by simpa using h''⟩⟩)⟩, Le_intro [] (by simp [WL, WNL, swA_new, swA_ne, nest_sw_ne, mapLL, List.mem_cons, Nat.reduceAdd, Nat.reduceLT, Nat.reduceLeDiff, Nat.reduceEqDiff, okU, List.nodup_cons, List.not_mem_nil, toT, toL, toO, keysO, renl, rent, cll, clt, eq_self, AV.eqv, AC.eqv, eqvl, eqvt, Sl.eqv, rowsLe, mapLL, rowsCl, List.map_append, List.length_map, List.length_append, List.length_set, List.map_replicate, rowG, List.getElem?_cons_zero, List.getElem?_cons_succ, List.getElem?_nil, List.append_nil, List.nil_append, List.cons_append, ghosts, St.gh, Option.some.injEq, implies_true, setT, AV.ren, AC.ren, AV.cl, AC.cl, List.replicate_succ, List.replicate_zero, List.nodup_nil, List.length_nil, List.length_cons, List.getD_cons_zero, List.getD_cons_succ, ↓reduceIte]), by show X.length - (i + 1) < X.length - i; omega⟩
  · obtain rfl : i = X.length := by omega
    simp only [↓WP, ↓grdD, ↓grdT, ↓un_dead, ↓binVC, ↓buildVC, ↓sliceVC, WQ, WN, Int.reduceToNat, renl, cll, rent, clt, ↓reduceIte, Nat.reduceLeDiff, Nat.reduceEqDiff, Nat.reduceLT, reduceCtorEq, List.append_nil, Nat.reduceAdd, Nat.reduceSub, Nat.reduceBEq, forall_const, implies_true, cond_true, cond_false, AV.ren, AC.ren, AV.cl, AC.cl, eq_self, List.all_cons, List.all_nil, AV.eqv, AC.eqv, eqvl, eqvt, Sl.eqv, List.map_append, List.length_map, List.length_append, List.length_replicate, List.length_set, List.map_replicate, nilVC, sd_23, el_23, fl_60_0, sz_3, fl_60_1, sz_9, fl_60_2, sz_4, bt_4, c_laws_markText, dge hge, hw]
    rw [if_pos (eq_of_take (by rw [markR_length]) he)]
theorem q_laws_heldRowS : Quiet c_laws_heldRowS := by
  intro args M
  unfold c_laws_heldRowS
  dsimp only
  split <;> first | trivial | (intro _; rfl)
end Go.Eng.T
