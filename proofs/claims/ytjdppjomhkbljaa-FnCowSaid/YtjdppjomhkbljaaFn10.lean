/- cow: CowRead; the laws of CowOk, CowUsed, CowRead. -/
import Derived.Test.YtjdppjomhkbljaaFn9
set_option linter.unusedVariables false
set_option linter.unusedSimpArgs false
set_option linter.unusedSectionVars false
namespace Go.Eng
open Cel (enc dec)
theorem own1_ok {a : AA} {M : RId → Option Rg} {X : List (List Int)} (h : Row2Ok Int a X.length M) (hX : row2 Int a X.length M = X) : famOk (own1 X) := by
  obtain ⟨s1, Y, hY, hl, t1⟩ := h.x
  rw [hX] at hY
  subst hY
  refine ⟨by rw [own1_length]; exact s1, fun p hp => ?_⟩
  obtain ⟨l, hl2, rfl⟩ := List.mem_map.1 hp
  obtain ⟨k, hk, rfl⟩ := List.getElem_of_mem hl2
  obtain ⟨own, ty, cnt, cap, len, get, b, c, hM, hf, hic, hkn, hget⟩ := t1 (by omega)
  obtain ⟨_, _, g3, _⟩ := hget k hk
  have := g3.1
  rw [getD_of_lt hk] at this
  exact ⟨this, Nat.le_refl _⟩
/-- what is known of a Cow that came in -/
def CowArg (a1 : AA) (n1 : Nat) (a2 : AA) (n2 : Nat) (a3 : AA) (n3 : Nat) (M : RId → Option Rg) : Prop :=
  (n1 ≤ 9223372036854775807 ∧ n2 ≤ 9223372036854775807 ∧ n3 ≤ 9223372036854775807) ∧ (n1 ≤ 1048576 → Row2W a1 n1 (M a1.r)) ∧ (n3 ≤ 1048576 → Row2W a3 n3 (M a3.r)) ∧
  (n1 ≤ 1048576 → (∀ x ∈ lens2 a1 n1 (M a1.r), x ≤ 1048576) → Row2Ok Int a1 n1 M) ∧ (n2 ≤ 1048576 → RowOk Int a2 n2 (M a2.r)) ∧ (n3 ≤ 1048576 → (∀ x ∈ lens2 a3 n3 (M a3.r), x ≤ 1048576) → Row2Ok Int a3 n3 M)
theorem CowArg.sz {a1 n1 a2 n2 a3 n3 M} (h : CowArg a1 n1 a2 n2 a3 n3 M) : (0 : Int) ≤ 1048576 ∧ (1048576 : Int) ≤ 1048576 ∧ (n1 ≤ 9223372036854775807 ∧ n2 ≤ 9223372036854775807 ∧ n3 ≤ 9223372036854775807) ∧ (n1 ≤ 1048576 → Row2W a1 n1 (M a1.r)) ∧ (n3 ≤ 1048576 → Row2W a3 n3 (M a3.r)) :=
  ⟨by omega, by omega, h.1, h.2.1, h.2.2.1⟩
theorem CowArg.rows {a1 n1 a2 n2 a3 n3 M} (h : CowArg a1 n1 a2 n2 a3 n3 M) (hs : ¬ szC (lens2 a1 n1 (M a1.r)) n1 n2 (lens2 a3 n3 (M a3.r)) n3 1048576 < 0) : Row2Ok Int a1 n1 M ∧ RowOk Int a2 n2 (M a2.r) ∧ Row2Ok Int a3 n3 M := by
  obtain ⟨h0, h1, h3, g1, g2, g3⟩ := h
  obtain ⟨k1, k2, k3, k4, k5⟩ := szC_ok (by omega) hs
  exact ⟨g1 (by omega) fun x hx => by have := k2 x hx; omega, g2 (by omega), g3 (by omega) fun x hx => by have := k5 x hx; omega⟩
theorem Row2Ok_arg2 {regs : List Rg} {m : Nat} {ty ty2 : TypeId} {len s : Nat} {G : List (Nat × List (List AC))} (hs : s = Cel.sz Int) (hl : G.length = len) (hG : ∀ p ∈ G, p.2.length ≤ p.1 ∧ p.1 ≤ 9223372036854775807 ∧ ∀ acs ∈ p.2, HasK (CelK.ks Int) acs)
    (h0 : regs[m]? = some (.rows false ty 1 [(len, nestC (.loc (m + 1)) G)])) (h1 : regs[m + 1]? = some (.rows false ty2 s (G.map fun p => (p.2.length, p.2)))) (hn : len ≤ 1048576) (hx : ∀ x ∈ lens2 ⟨.loc m, 0, 0, 0⟩ len (locM regs (.loc m)), x ≤ 1048576) : Row2Ok Int ⟨.loc m, 0, 0, 0⟩ len (locM regs) :=
  Row2Ok_arg hs hl hG h0 h1 (by omega) fun x hx' => by
    have h2 : locM regs (.loc m) = some (.rows false ty 1 [(len, nestC (.loc (m + 1)) G)]) := h0
    have := hx x (by rw [h2, lens_arg hl]; exact hx')
    omega
theorem Row2W_arg2 {regs : List Rg} {m : Nat} {ty : TypeId} {ks : List Kd} {len : Nat} {G : List (Nat × List (List AC))} (hl : G.length = len) (hG : ∀ p ∈ G, p.2.length ≤ p.1 ∧ p.1 ≤ 9223372036854775807 ∧ ∀ acs ∈ p.2, HasK ks acs)
    (h0 : regs[m]? = some (.rows false ty 1 [(len, nestC (.loc (m + 1)) G)])) : Row2W ⟨.loc m, 0, 0, 0⟩ len (locM regs (.loc m)) := by
  have h2 : locM regs (.loc m) = some (.rows false ty 1 [(len, nestC (.loc (m + 1)) G)]) := h0
  rw [h2]
  exact outer_arg hl fun p hp => ⟨(hG p hp).1, (hG p hp).2.1, trivial⟩
end Go.Eng
namespace Go.Eng.T
open Go.Proofs
open Cel (enc dec)
set_option maxRecDepth 100000
set_option maxHeartbeats 8000000
def c_impl_cowAt : Contract := ⟨59, fun args M => match args with
  | [.agg [.sl a1 n1 _, .sl a2 n2 _, .sl a3 n3 _], .c (.int .i64 s), .c (.int .i64 ad)] => .pure (Row2Ok Int a3 n3 M ∧ n3 = 4 ∧ ∀ k, k < 4 → ((row2 Int a3 n3 M).getD k default).length ≤ 4) (Eng.B (decide (inR (row2 Int a3 n3 M) s ad)))
  | _ => .bad⟩
theorem ok_impl_cowAt : fnP Try.prog c_impl_cowAt.f = true ∧ ∀ args M, (c_impl_cowAt.sp args M).OK Try.prog c_impl_cowAt.f args M := by
  refine ⟨fp_59, fun args M => ?_⟩
  unfold c_impl_cowAt
  dsimp only
  split
  case h_2 => trivial
  rename_i a1 n1 c1 a2 n2 c2 a3 n3 c3 s ad
  rintro ⟨h3, h4, h5⟩
  obtain ⟨s3, Z, hZ, rfl, t3⟩ := h3.x
  rw [hZ] at h5 ⊢
  refine goIn hf_59 rfl (nt := 21) rfl (rs := [.tmp 6]) rfl (C := [c_impl_isSpace, c_impl_in]) ⟨(by first | exact .inl ok_impl_isSpace | exact ok_impl_isSpace), (by first | exact .inl ok_impl_in | exact ok_impl_in), trivial⟩ (q := fun _ => false) okQ_none mixed (O := fun _ => .nil) (by kernel_rfl) ?_
  by_cases hs : 0 ≤ s ∧ s ≤ 3
  · obtain ⟨own, ty, cnt, cap, len, get, b, c, hM, hf, hic, hkn, hget⟩ := t3 (by omega)
    obtain ⟨g1, g2, g3, g4⟩ := hget s.toNat (by omega)
    have hle := h5 s.toNat (by omega)
    have w1 : IntKind.i64.wrap (((Z.getD s.toNat default).length : Int) * 4) = 4 * ((Z.getD s.toNat default).length : Int) := by rw [w64 (by omega) (by omega)]; omega
    have w2 : IntKind.i64.wrap (4 * ((Z.getD s.toNat default).length : Int) - 1) = 4 * ((Z.getD s.toNat default).length : Int) - 1 := w64 (by omega) (by omega)
    have he : decide (0 ≤ ad ∧ ad ≤ 4 * ((Z.getD s.toNat default).length : Int) - 1) = decide (inR Z s ad) := by
      rw [decide_eq_decide]; unfold inR; omega
    simp only [↓WP, ↓grdD, ↓grdT, ↓un_dead, ↓binVC, ↓buildVC, ↓sliceVC, WQ, WN, Int.reduceToNat, renl, cll, rent, clt, ↓reduceIte, Nat.reduceLeDiff, Nat.reduceEqDiff, Nat.reduceLT, reduceCtorEq, List.append_nil, Nat.reduceAdd, Nat.reduceSub, Nat.reduceBEq, forall_const, implies_true, cond_true, cond_false, AV.ren, AC.ren, AV.cl, AC.cl, eq_self, List.all_cons, List.all_nil, AV.eqv, AC.eqv, eqvl, eqvt, Sl.eqv, List.map_append, List.length_map, List.length_append, List.length_replicate, List.length_set, List.map_replicate, nilVC, fl_25_2, sz_22, el_22, sz_23, sd_23, c_impl_isSpace, c_impl_in, decide_eq_true hs, hM, hf, g1, w1, w2, he]
    repeat' (first | with_reducible refine And.intro ?_ ?_ | intro _)
    all_goals first | assumption | omega | trivial | (simp; done)
  · have hno : ¬ inR Z s ad := fun h => hs h.1
    obtain ⟨own, ty, cnt, cap, len, get, b, c, hM, hf, hic, hkn, hget⟩ := t3 (by omega)
    obtain ⟨x, hx⟩ : ∃ x, (List.map AC.up (get a3.i (a3.k + s.toNat))).getD 0 dfl = x := ⟨_, rfl⟩
    simp only [↓WP, ↓grdD, ↓grdT, ↓un_dead, ↓binVC, ↓buildVC, ↓sliceVC, WQ, WN, Int.reduceToNat, renl, cll, rent, clt, ↓reduceIte, Nat.reduceLeDiff, Nat.reduceEqDiff, Nat.reduceLT, reduceCtorEq, List.append_nil, Nat.reduceAdd, Nat.reduceSub, Nat.reduceBEq, forall_const, implies_true, cond_true, cond_false, AV.ren, AC.ren, AV.cl, AC.cl, eq_self, List.all_cons, List.all_nil, AV.eqv, AC.eqv, eqvl, eqvt, Sl.eqv, List.map_append, List.length_map, List.length_append, List.length_replicate, List.length_set, List.map_replicate, nilVC, fl_25_2, sz_22, el_22, sz_23, sd_23, c_impl_isSpace, c_impl_in, decide_eq_false hs, hM, hf, hx, decide_eq_false hno]
    cases x <;> simp only [↓WP, ↓grdD, ↓grdT, ↓un_dead, ↓binVC, ↓buildVC, ↓sliceVC, WQ, WN, Int.reduceToNat, renl, cll, rent, clt, ↓reduceIte, Nat.reduceLeDiff, Nat.reduceEqDiff, Nat.reduceLT, reduceCtorEq, List.append_nil, Nat.reduceAdd, Nat.reduceSub, Nat.reduceBEq, forall_const, implies_true, cond_true, cond_false, AV.ren, AC.ren, AV.cl, AC.cl, eq_self, List.all_cons, List.all_nil, AV.eqv, AC.eqv, eqvl, eqvt, Sl.eqv, List.map_append, List.length_map, List.length_append, List.length_replicate, List.length_set, List.map_replicate, nilVC, fl_25_2, sz_22, el_22, sz_23, sd_23, c_impl_isSpace, c_impl_in]
    all_goals (try simp)
theorem q_impl_cowAt : Quiet c_impl_cowAt := by
  intro args M
  unfold c_impl_cowAt
  dsimp only
  split <;> first | trivial | (intro _; rfl)
def c_spec_l29At : Contract := ⟨58, fun args M => match args with
  | [.agg [.sl a1 n1 _, .sl a2 n2 _, .sl a3 n3 _], .c (.int .i64 s), .c (.int .i64 ad)] => .pure (Row2Ok Int a3 n3 M ∧ n3 = 4 ∧ ∀ k, k < 4 → ((row2 Int a3 n3 M).getD k default).length ≤ 4) (.tup [(false, [.int .i64 (atO (row2 Int a3 n3 M) s ad).1]), (false, [.int .i64 (atO (row2 Int a3 n3 M) s ad).2.1]), (false, [.bool (atO (row2 Int a3 n3 M) s ad).2.2])])
  | _ => .bad⟩
theorem ok_spec_l29At : fnP Try.prog c_spec_l29At.f = true ∧ ∀ args M, (c_spec_l29At.sp args M).OK Try.prog c_spec_l29At.f args M := by
  refine ⟨fp_58, fun args M => ?_⟩
  unfold c_spec_l29At
  dsimp only
  split
  case h_2 => trivial
  rename_i a1 n1 c1 a2 n2 c2 a3 n3 c3 s ad
  rintro ⟨h3, h4, h5⟩
  obtain ⟨s3, Z, hZ, rfl, t3⟩ := h3.x
  rw [hZ] at h5 ⊢
  refine goIn hf_58 rfl (nt := 38) rfl (rs := [.tmp 6, .tmp 7, .tmp 8]) rfl (C := [c_spec_l29Space]) ⟨(by first | exact .inl ok_spec_l29Space | exact ok_spec_l29Space), trivial⟩ (q := fun _ => false) okQ_none mixed (O := fun _ => .nil) (by kernel_rfl) ?_
  obtain ⟨own, ty, cnt, cap, len, get, b, c, hM, hf, hic, hkn, hget⟩ := t3 (by omega)
  by_cases hs : 0 ≤ s ∧ s ≤ 3
  · obtain ⟨g1, g2, g3, g4⟩ := hget s.toNat (by omega)
    have hle := h5 s.toNat (by omega)
    obtain ⟨gs, Y, hY, hYl, hbt⟩ := g3.x
    rw [g4] at hY
    rw [hY] at g1 gs hbt hle
    have w1 : IntKind.i64.wrap ((Y.length : Int) * 4) = 4 * (Y.length : Int) := by rw [w64 (by omega) (by omega)]; omega
    by_cases hi : inR Z s ad
    · have hO : atO Z s ad = (frameOf Z s ad, ((ad.toNat % 4 : Nat) : Int), true) := if_pos hi
      have hi2 := hi.2
      rw [hY] at hi2
      obtain ⟨m, rfl⟩ : ∃ m : Nat, ad = m := ⟨ad.toNat, by omega⟩
      have d1 : (m : Int).tdiv 4 = ((m / 4 : Nat) : Int) := tdiv_nat m 4
      have d2 : (m : Int).tmod 4 = ((m % 4 : Nat) : Int) := tmod_nat m 4
      have w2 : IntKind.i64.wrap ((m / 4 : Nat) : Int) = ((m / 4 : Nat) : Int) := w64 (by omega) (by omega)
      have he1 : (decide ((m : Int) < 0) || decide (4 * (Y.length : Int) ≤ (m : Int))) = false := by simp only [WB, eq_self]; omega
      obtain ⟨own', ty', cnt', cap', len', get', hM', hf', hic', hkn', hget'⟩ := hbt (by omega)
      have hfr : frameOf Z s (m : Int) = Y.getD (m / 4) default := by unfold frameOf; rw [hY]; simp
      rw [hO]
      simp only [↓WP, ↓grdD, ↓grdT, ↓un_dead, ↓binVC, ↓buildVC, ↓sliceVC, WQ, WN, Int.reduceToNat, renl, cll, rent, clt, ↓reduceIte, Nat.reduceLeDiff, Nat.reduceEqDiff, Nat.reduceLT, reduceCtorEq, List.append_nil, Nat.reduceAdd, Nat.reduceSub, Nat.reduceBEq, forall_const, implies_true, cond_true, cond_false, AV.ren, AC.ren, AV.cl, AC.cl, eq_self, List.all_cons, List.all_nil, AV.eqv, AC.eqv, eqvl, eqvt, Sl.eqv, List.map_append, List.length_map, List.length_append, List.length_replicate, List.length_set, List.map_replicate, nilVC, fl_25_2, sz_22, el_22, sz_23, sd_23, el_23, sz_3, c_spec_l29Space, decide_eq_true hs, hM, hf, g1, w1, w2, d1, d2, he1, hM', hf', hget' (m / 4) (by omega), hfr]
      repeat' (first | with_reducible refine And.intro ?_ ?_ | intro _)
      all_goals first | assumption | omega | trivial | (simp; done)
    · have hO : atO Z s ad = (0, 0, false) := if_neg hi
      have he1 : (decide (ad < 0) || decide (4 * (Y.length : Int) ≤ ad)) = true := by
        simp only [WB, eq_self]
        unfold inR at hi
        rw [hY] at hi
        omega
      rw [hO]
      simp only [↓WP, ↓grdD, ↓grdT, ↓un_dead, ↓binVC, ↓buildVC, ↓sliceVC, WQ, WN, Int.reduceToNat, renl, cll, rent, clt, ↓reduceIte, Nat.reduceLeDiff, Nat.reduceEqDiff, Nat.reduceLT, reduceCtorEq, List.append_nil, Nat.reduceAdd, Nat.reduceSub, Nat.reduceBEq, forall_const, implies_true, cond_true, cond_false, AV.ren, AC.ren, AV.cl, AC.cl, eq_self, List.all_cons, List.all_nil, AV.eqv, AC.eqv, eqvl, eqvt, Sl.eqv, List.map_append, List.length_map, List.length_append, List.length_replicate, List.length_set, List.map_replicate, nilVC, fl_25_2, sz_22, el_22, sz_23, sd_23, el_23, sz_3, c_spec_l29Space, decide_eq_true hs, hM, hf, g1, w1, he1]
      repeat' (first | with_reducible refine And.intro ?_ ?_ | intro _)
      all_goals first | assumption | omega | trivial | (simp; done)
  · have hno : ¬ inR Z s ad := fun h => hs h.1
    have hO : atO Z s ad = (0, 0, false) := if_neg hno
    obtain ⟨x, hx⟩ : ∃ x, (List.map AC.up (get a3.i (a3.k + s.toNat))).getD 0 dfl = x := ⟨_, rfl⟩
    rw [hO]
    simp only [↓WP, ↓grdD, ↓grdT, ↓un_dead, ↓binVC, ↓buildVC, ↓sliceVC, WQ, WN, Int.reduceToNat, renl, cll, rent, clt, ↓reduceIte, Nat.reduceLeDiff, Nat.reduceEqDiff, Nat.reduceLT, reduceCtorEq, List.append_nil, Nat.reduceAdd, Nat.reduceSub, Nat.reduceBEq, forall_const, implies_true, cond_true, cond_false, AV.ren, AC.ren, AV.cl, AC.cl, eq_self, List.all_cons, List.all_nil, AV.eqv, AC.eqv, eqvl, eqvt, Sl.eqv, List.map_append, List.length_map, List.length_append, List.length_replicate, List.length_set, List.map_replicate, nilVC, fl_25_2, sz_22, el_22, sz_23, sd_23, el_23, sz_3, c_spec_l29Space, decide_eq_false hs, hM, hf, hx]
    cases x <;> simp only [↓WP, ↓grdD, ↓grdT, ↓un_dead, ↓binVC, ↓buildVC, ↓sliceVC, WQ, WN, Int.reduceToNat, renl, cll, rent, clt, ↓reduceIte, Nat.reduceLeDiff, Nat.reduceEqDiff, Nat.reduceLT, reduceCtorEq, List.append_nil, Nat.reduceAdd, Nat.reduceSub, Nat.reduceBEq, forall_const, implies_true, cond_true, cond_false, AV.ren, AC.ren, AV.cl, AC.cl, eq_self, List.all_cons, List.all_nil, AV.eqv, AC.eqv, eqvl, eqvt, Sl.eqv, List.map_append, List.length_map, List.length_append, List.length_replicate, List.length_set, List.map_replicate, nilVC, fl_25_2, sz_22, el_22, sz_23, sd_23, el_23, sz_3, c_spec_l29Space]
    all_goals (try simp)
theorem q_spec_l29At : Quiet c_spec_l29At := by
  intro args M
  unfold c_spec_l29At
  dsimp only
  split <;> first | trivial | (intro _; rfl)
def c_impl_CowRead : Contract := ⟨25, fun args M => match args with
  | [.agg [.sl a1 n1 _, .sl a2 n2 _, .sl a3 n3 _], .c (.int .i64 s), .c (.int .i64 ad)] => .pure (Row2Ok Int a1 n1 M ∧ RowOk Int a2 n2 (M a2.r) ∧ Row2Ok Int a3 n3 M) (.tup [(false, [.int .i64 (readO (row2 Int a1 n1 M) (row Int a2 n2 (M a2.r)) (row2 Int a3 n3 M) s ad).1]), (false, [.bool (readO (row2 Int a1 n1 M) (row Int a2 n2 (M a2.r)) (row2 Int a3 n3 M) s ad).2])])
  | _ => .bad⟩
theorem ok_impl_CowRead : fnP Try.prog c_impl_CowRead.f = true ∧ ∀ args M, (c_impl_CowRead.sp args M).OK Try.prog c_impl_CowRead.f args M := by
  refine ⟨fp_25, fun args M => ?_⟩
  unfold c_impl_CowRead
  dsimp only
  split
  case h_2 => trivial
  rename_i a1 n1 c1 a2 n2 c2 a3 n3 c3 s ad
  rintro ⟨h1, h2, h3⟩
  obtain ⟨s1, X, hX, rfl, t1⟩ := h1.x
  obtain ⟨s2, R, hR, rfl, t2⟩ := h2.x
  obtain ⟨s3, Z, hZ, rfl, t3⟩ := h3.x
  rw [hX, hR, hZ]
  refine goIn hf_25 rfl (nt := 35) rfl (rs := [.tmp 6, .tmp 7]) rfl (C := [c_impl_CowOk, c_impl_cowAt]) ⟨(by first | exact .inl ok_impl_CowOk | exact ok_impl_CowOk), (by first | exact .inl ok_impl_cowAt | exact ok_impl_cowAt), trivial⟩ (q := fun f => [].contains f) ⟨fun h => absurd h (by decide), fun h => absurd h (by decide), trivial⟩ mixed (O := ots [(3, otl [0, 1, 2, 3, 4, 5, 6, 7, 8, 9, 10, 11, 12, 13, 14, 15, 16, 17, 18] .nil)]) (by kernel_rfl) ?_
  by_cases hok : cowOk X R Z
  · have hok' := hok
    obtain ⟨⟨l1, l2, l3⟩, k1, k2, k3⟩ := hok'
    have hl4 : ∀ k, k < 4 → (Z.getD k default).length ≤ 4 := fun k hk => (k1 k hk).1
    by_cases hi : inR Z s ad
    · have hO : readO X R Z s ad = ((X.getD (frameOf Z s ad).toNat default).getD (ad.toNat % 4) default, true) := if_pos ⟨hok, hi⟩
      obtain ⟨f0, f1, f2, f3, f4⟩ := frame_ok hok hi
      have hi2 := hi.2
      have hi1 := hi.1
      obtain ⟨p, rfl⟩ : ∃ p : Nat, s = p := ⟨s.toNat, by omega⟩
      obtain ⟨m, rfl⟩ : ∃ m : Nat, ad = m := ⟨ad.toNat, by omega⟩
      obtain ⟨fr, hfr⟩ : ∃ fr : Nat, frameOf Z (p : Int) (m : Int) = fr := ⟨(frameOf Z p m).toNat, by omega⟩
      rw [hfr] at f0 f1 f4 hO
      have hfr2 : (Z.getD p default).getD (m / 4) default = fr := hfr
      simp only [Int.toNat_natCast] at f2 f3 f4 hO hi2
      obtain ⟨own, ty, cnt, cap, len, get, b, c, hM, hf, hic, hkn, hget⟩ := t3 (by omega)
      obtain ⟨own1, ty1, cnt1, cap1, len1, get1, b1, c1', hM1, hf1, hic1, hkn1, hget1⟩ := t1 (by omega)
      obtain ⟨g1, g2, g3, g4⟩ := hget p f2
      obtain ⟨e1, e2, e3, e4⟩ := hget1 fr (by omega)
      obtain ⟨gs, Y, hY, hYl, hbt⟩ := g3.x
      rw [g4] at hY
      obtain ⟨es, V, hV, hVl, ebt⟩ := e3.x
      rw [e4] at hV
      rw [hY] at g1 gs hbt f3 hfr2
      rw [hV] at e1 es ebt f4 hO
      have d1 : (m : Int).tdiv 4 = ((m / 4 : Nat) : Int) := tdiv_nat m 4
      have d2 : (m : Int).tmod 4 = ((m % 4 : Nat) : Int) := tmod_nat m 4
      have w2 : IntKind.i64.wrap ((m / 4 : Nat) : Int) = ((m / 4 : Nat) : Int) := w64 (by omega) (by omega)
      obtain ⟨own', ty', cnt', cap', len', get', hM', hf', hic', hkn', hget'⟩ := hbt (by omega)
      obtain ⟨own2, ty2, cnt2, cap2, len2, get2, hM2, hf2, hic2, hkn2, hget2⟩ := ebt (by omega)
      rw [hO]
      simp only [↓WP, ↓grdD, ↓grdT, ↓un_dead, ↓binVC, ↓buildVC, ↓sliceVC, WQ, WN, Int.reduceToNat, renl, cll, rent, clt, ↓reduceIte, Nat.reduceLeDiff, Nat.reduceEqDiff, Nat.reduceLT, reduceCtorEq, List.append_nil, Nat.reduceAdd, Nat.reduceSub, Nat.reduceBEq, forall_const, implies_true, cond_true, cond_false, AV.ren, AC.ren, AV.cl, AC.cl, eq_self, List.all_cons, List.all_nil, AV.eqv, AC.eqv, eqvl, eqvt, Sl.eqv, List.map_append, List.length_map, List.length_append, List.length_replicate, List.length_set, List.map_replicate, nilVC, sz_25, fl_25_0, sz_22, fl_25_2, el_22, sz_23, el_23, sz_3, c_impl_CowOk, c_impl_cowAt, Row2Ok_upE h1, row2_upE h1, hX, Row2Ok_upE h3, row2_upE h3, hZ, hR, decide_eq_true hok, decide_eq_true hi, hM, hf, g1, w2, d1, d2, hM', hf', hget' (m / 4) f3, hfr2, hM1, hf1, e1, hM2, hf2, hget2 (m % 4) (by omega)]
      repeat' (first | with_reducible refine And.intro ?_ ?_ | intro _)
      all_goals first | assumption | exact hl4 _ (by assumption) | omega | trivial | (simp; done)
    · have hO : readO X R Z s ad = (0, false) := if_neg fun h => hi h.2
      rw [hO]
      simp only [↓WP, ↓grdD, ↓grdT, ↓un_dead, ↓binVC, ↓buildVC, ↓sliceVC, WQ, WN, Int.reduceToNat, renl, cll, rent, clt, ↓reduceIte, Nat.reduceLeDiff, Nat.reduceEqDiff, Nat.reduceLT, reduceCtorEq, List.append_nil, Nat.reduceAdd, Nat.reduceSub, Nat.reduceBEq, forall_const, implies_true, cond_true, cond_false, AV.ren, AC.ren, AV.cl, AC.cl, eq_self, List.all_cons, List.all_nil, AV.eqv, AC.eqv, eqvl, eqvt, Sl.eqv, List.map_append, List.length_map, List.length_append, List.length_replicate, List.length_set, List.map_replicate, nilVC, sz_25, fl_25_0, sz_22, fl_25_2, el_22, sz_23, el_23, sz_3, c_impl_CowOk, c_impl_cowAt, Row2Ok_upE h1, row2_upE h1, hX, Row2Ok_upE h3, row2_upE h3, hZ, hR, decide_eq_true hok, decide_eq_false hi]
      repeat' (first | with_reducible refine And.intro ?_ ?_ | intro _)
      all_goals first | assumption | exact hl4 _ (by assumption) | omega | trivial | (simp; done)
  · have hO : readO X R Z s ad = (0, false) := if_neg fun h => hok h.1
    rw [hO]
    simp only [↓WP, ↓grdD, ↓grdT, ↓un_dead, ↓binVC, ↓buildVC, ↓sliceVC, WQ, WN, Int.reduceToNat, renl, cll, rent, clt, ↓reduceIte, Nat.reduceLeDiff, Nat.reduceEqDiff, Nat.reduceLT, reduceCtorEq, List.append_nil, Nat.reduceAdd, Nat.reduceSub, Nat.reduceBEq, forall_const, implies_true, cond_true, cond_false, AV.ren, AC.ren, AV.cl, AC.cl, eq_self, List.all_cons, List.all_nil, AV.eqv, AC.eqv, eqvl, eqvt, Sl.eqv, List.map_append, List.length_map, List.length_append, List.length_replicate, List.length_set, List.map_replicate, nilVC, sz_25, fl_25_0, sz_22, fl_25_2, el_22, sz_23, el_23, sz_3, c_impl_CowOk, c_impl_cowAt, Row2Ok_upE h1, row2_upE h1, hX, Row2Ok_upE h3, row2_upE h3, hZ, hR, decide_eq_false hok]
    repeat' (first | with_reducible refine And.intro ?_ ?_ | intro _)
    all_goals first | assumption | omega | trivial | (simp; done)
theorem q_impl_CowRead : Quiet c_impl_CowRead := by
  intro args M
  unfold c_impl_CowRead
  dsimp only
  split <;> first | trivial | (intro _; rfl)
def c_spec_CowRead : Contract := ⟨24, fun args M => match args with
  | [.agg [.sl a1 n1 _, .sl a2 n2 _, .sl a3 n3 _], .c (.int .i64 s), .c (.int .i64 ad)] => .pure (Row2Ok Int a1 n1 M ∧ RowOk Int a2 n2 (M a2.r) ∧ Row2Ok Int a3 n3 M) (.tup [(false, [.int .i64 (readO (row2 Int a1 n1 M) (row Int a2 n2 (M a2.r)) (row2 Int a3 n3 M) s ad).1]), (false, [.bool (readO (row2 Int a1 n1 M) (row Int a2 n2 (M a2.r)) (row2 Int a3 n3 M) s ad).2])])
  | _ => .bad⟩
theorem ok_spec_CowRead : fnP Try.prog c_spec_CowRead.f = true ∧ ∀ args M, (c_spec_CowRead.sp args M).OK Try.prog c_spec_CowRead.f args M := by
  refine ⟨fp_24, fun args M => ?_⟩
  unfold c_spec_CowRead
  dsimp only
  split
  case h_2 => trivial
  rename_i a1 n1 c1 a2 n2 c2 a3 n3 c3 s ad
  rintro ⟨h1, h2, h3⟩
  obtain ⟨s1, X, hX, rfl, t1⟩ := h1.x
  obtain ⟨s2, R, hR, rfl, t2⟩ := h2.x
  obtain ⟨s3, Z, hZ, rfl, t3⟩ := h3.x
  rw [hX, hR, hZ]
  refine goIn hf_24 rfl (nt := 32) rfl (rs := [.tmp 6, .tmp 7]) rfl (C := [c_spec_CowOk, c_spec_l29At]) ⟨(by first | exact .inl ok_spec_CowOk | exact ok_spec_CowOk), (by first | exact .inl ok_spec_l29At | exact ok_spec_l29At), trivial⟩ (q := fun _ => false) okQ_none mixed (O := fun _ => .nil) (by kernel_rfl) ?_
  by_cases hok : cowOk X R Z
  · have hok' := hok
    obtain ⟨⟨l1, l2, l3⟩, k1, k2, k3⟩ := hok'
    have hl4 : ∀ k, k < 4 → (Z.getD k default).length ≤ 4 := fun k hk => (k1 k hk).1
    by_cases hi : inR Z s ad
    · have hO : readO X R Z s ad = ((X.getD (frameOf Z s ad).toNat default).getD (ad.toNat % 4) default, true) := if_pos ⟨hok, hi⟩
      have hA : atO Z s ad = (frameOf Z s ad, ((ad.toNat % 4 : Nat) : Int), true) := if_pos hi
      obtain ⟨f0, f1, f2, f3, f4⟩ := frame_ok hok hi
      obtain ⟨fr, hfr⟩ : ∃ fr : Nat, frameOf Z s ad = fr := ⟨(frameOf Z s ad).toNat, by omega⟩
      rw [hfr] at f0 f1 f4 hO hA
      simp only [Int.toNat_natCast] at f4 hO
      obtain ⟨own1, ty1, cnt1, cap1, len1, get1, b1, c1', hM1, hf1, hic1, hkn1, hget1⟩ := t1 (by omega)
      obtain ⟨e1, e2, e3, e4⟩ := hget1 fr (by omega)
      obtain ⟨es, V, hV, hVl, ebt⟩ := e3.x
      rw [e4] at hV
      rw [hV] at e1 es ebt f4 hO
      obtain ⟨own2, ty2, cnt2, cap2, len2, get2, hM2, hf2, hic2, hkn2, hget2⟩ := ebt (by omega)
      rw [hO]
      simp only [↓WP, ↓grdD, ↓grdT, ↓un_dead, ↓binVC, ↓buildVC, ↓sliceVC, WQ, WN, Int.reduceToNat, renl, cll, rent, clt, ↓reduceIte, Nat.reduceLeDiff, Nat.reduceEqDiff, Nat.reduceLT, reduceCtorEq, List.append_nil, Nat.reduceAdd, Nat.reduceSub, Nat.reduceBEq, forall_const, implies_true, cond_true, cond_false, AV.ren, AC.ren, AV.cl, AC.cl, eq_self, List.all_cons, List.all_nil, AV.eqv, AC.eqv, eqvl, eqvt, Sl.eqv, List.map_append, List.length_map, List.length_append, List.length_replicate, List.length_set, List.map_replicate, nilVC, sz_25, fl_25_0, sz_22, el_22, sz_23, el_23, sz_3, c_spec_CowOk, c_spec_l29At, Row2Ok_upE h1, row2_upE h1, hX, Row2Ok_upE h3, row2_upE h3, hZ, hR, decide_eq_true hok, hA, hM1, hf1, e1, hM2, hf2, hget2 (ad.toNat % 4) (by omega)]
      repeat' (first | with_reducible refine And.intro ?_ ?_ | intro _)
      all_goals first | assumption | exact hl4 _ (by assumption) | omega | trivial | (simp; done)
    · have hO : readO X R Z s ad = (0, false) := if_neg fun h => hi h.2
      have hA : atO Z s ad = (0, 0, false) := if_neg hi
      rw [hO]
      simp only [↓WP, ↓grdD, ↓grdT, ↓un_dead, ↓binVC, ↓buildVC, ↓sliceVC, WQ, WN, Int.reduceToNat, renl, cll, rent, clt, ↓reduceIte, Nat.reduceLeDiff, Nat.reduceEqDiff, Nat.reduceLT, reduceCtorEq, List.append_nil, Nat.reduceAdd, Nat.reduceSub, Nat.reduceBEq, forall_const, implies_true, cond_true, cond_false, AV.ren, AC.ren, AV.cl, AC.cl, eq_self, List.all_cons, List.all_nil, AV.eqv, AC.eqv, eqvl, eqvt, Sl.eqv, List.map_append, List.length_map, List.length_append, List.length_replicate, List.length_set, List.map_replicate, nilVC, sz_25, fl_25_0, sz_22, el_22, sz_23, el_23, sz_3, c_spec_CowOk, c_spec_l29At, Row2Ok_upE h1, row2_upE h1, hX, Row2Ok_upE h3, row2_upE h3, hZ, hR, decide_eq_true hok, hA]
      repeat' (first | with_reducible refine And.intro ?_ ?_ | intro _)
      all_goals first | assumption | exact hl4 _ (by assumption) | omega | trivial | (simp; done)
  · have hO : readO X R Z s ad = (0, false) := if_neg fun h => hok h.1
    rw [hO]
    simp only [↓WP, ↓grdD, ↓grdT, ↓un_dead, ↓binVC, ↓buildVC, ↓sliceVC, WQ, WN, Int.reduceToNat, renl, cll, rent, clt, ↓reduceIte, Nat.reduceLeDiff, Nat.reduceEqDiff, Nat.reduceLT, reduceCtorEq, List.append_nil, Nat.reduceAdd, Nat.reduceSub, Nat.reduceBEq, forall_const, implies_true, cond_true, cond_false, AV.ren, AC.ren, AV.cl, AC.cl, eq_self, List.all_cons, List.all_nil, AV.eqv, AC.eqv, eqvl, eqvt, Sl.eqv, List.map_append, List.length_map, List.length_append, List.length_replicate, List.length_set, List.map_replicate, nilVC, sz_25, fl_25_0, sz_22, el_22, sz_23, el_23, sz_3, c_spec_CowOk, c_spec_l29At, Row2Ok_upE h1, row2_upE h1, hX, Row2Ok_upE h3, row2_upE h3, hZ, hR, decide_eq_false hok]
    repeat' (first | with_reducible refine And.intro ?_ ?_ | intro _)
    all_goals first | assumption | omega | trivial | (simp; done)
theorem q_spec_CowRead : Quiet c_spec_CowRead := by
  intro args M
  unfold c_spec_CowRead
  dsimp only
  split <;> first | trivial | (intro _; rfl)
def c_laws_FnExactCowOk : Contract := ⟨4, fun args M => match args with
  | [.agg [.sl a1 n1 _, .sl a2 n2 _, .sl a3 n3 _]] => .pure (CowArg a1 n1 a2 n2 a3 n3 M) (Eng.B true)
  | _ => .bad⟩
theorem ok_laws_FnExactCowOk : fnP Try.prog c_laws_FnExactCowOk.f = true ∧ ∀ args M, (c_laws_FnExactCowOk.sp args M).OK Try.prog c_laws_FnExactCowOk.f args M := by
  refine ⟨fp_4, fun args M => ?_⟩
  unfold c_laws_FnExactCowOk
  dsimp only
  split
  case h_2 => trivial
  rename_i a1 n1 c1 a2 n2 c2 a3 n3 c3
  intro harg
  refine goIn hf_4 rfl (nt := 27) rfl (rs := [.tmp 2]) rfl (C := [c_laws_szCow, c_laws_toCow, c_spec_CowOk, c_impl_CowOk, c_laws_eqCow]) ⟨(by first | exact .inl ok_laws_szCow | exact ok_laws_szCow), (by first | exact .inl ok_laws_toCow | exact ok_laws_toCow), (by first | exact .inl ok_spec_CowOk | exact ok_spec_CowOk), (by first | exact .inl ok_impl_CowOk | exact ok_impl_CowOk), (by first | exact .inl ok_laws_eqCow | exact ok_laws_eqCow), trivial⟩ (q := fun f => [20, 15].contains f) ⟨fun h => absurd h (by decide), fun _ => q_laws_toCow, fun h => absurd h (by decide), fun h => absurd h (by decide), fun _ => q_laws_eqCow, trivial⟩ mixed (O := ots [(10, otl [0, 1, 2, 3, 4] .nil)]) (by kernel_rfl) ?_
  have hsz := harg.sz
  by_cases hs : szC (lens2 a1 n1 (M a1.r)) n1 n2 (lens2 a3 n3 (M a3.r)) n3 1048576 < 0
  · simp only [↓WP, ↓grdD, ↓grdT, ↓un_dead, ↓binVC, ↓buildVC, ↓sliceVC, WQ, WN, Int.reduceToNat, renl, cll, rent, clt, ↓reduceIte, Nat.reduceLeDiff, Nat.reduceEqDiff, Nat.reduceLT, reduceCtorEq, List.append_nil, Nat.reduceAdd, Nat.reduceSub, Nat.reduceBEq, forall_const, implies_true, cond_true, cond_false, AV.ren, AC.ren, AV.cl, AC.cl, eq_self, List.all_cons, List.all_nil, AV.eqv, AC.eqv, eqvl, eqvt, Sl.eqv, List.map_append, List.length_map, List.length_append, List.length_replicate, List.length_set, List.map_replicate, nilVC, sz_30, zr_25, sz_25, bt_4, c_laws_szCow, c_laws_toCow, c_spec_CowOk, c_impl_CowOk, c_laws_eqCow, decide_eq_true hs]
    first | exact hsz | exact ⟨hsz, by simp⟩
  · obtain ⟨h1, h2, h3⟩ := harg.rows hs
    obtain ⟨s1, X, hX, rfl, t1⟩ := h1.x
    obtain ⟨s2, R, hR, rfl, t2⟩ := h2.x
    obtain ⟨s3, Z, hZ, rfl, t3⟩ := h3.x
    have hFX := own1_ok h1 hX
    have hFZ := own1_ok h3 hZ
    have hlX := (own1_length X).symm
    have hlZ := (own1_length Z).symm
    simp only [↓WP, ↓grdD, ↓grdT, ↓un_dead, ↓binVC, ↓buildVC, ↓sliceVC, WQ, WN, Int.reduceToNat, renl, cll, rent, clt, ↓reduceIte, Nat.reduceLeDiff, Nat.reduceEqDiff, Nat.reduceLT, reduceCtorEq, List.append_nil, Nat.reduceAdd, Nat.reduceSub, Nat.reduceBEq, forall_const, implies_true, cond_true, cond_false, AV.ren, AC.ren, AV.cl, AC.cl, eq_self, List.all_cons, List.all_nil, AV.eqv, AC.eqv, eqvl, eqvt, Sl.eqv, List.map_append, List.length_map, List.length_append, List.length_replicate, List.length_set, List.map_replicate, nilVC, sz_30, zr_25, sz_25, bt_4, c_laws_szCow, c_laws_toCow, c_spec_CowOk, c_impl_CowOk, c_laws_eqCow, decide_eq_false hs, Row2Ok_upE h1, row2_upE h1, hX, Row2Ok_upE h3, row2_upE h3, hZ, hR, own1_length, own1_snd, Row2Ok_fam 1 2 (own1 X) hFX, row2_fam 1 2 (own1 X) hFX, Row2Ok_fam 4 5 (own1 Z) hFZ, row2_fam 4 5 (own1 Z) hFZ, Row2Ok_fam 6 7 (own1 X) hFX, row2_fam 6 7 (own1 X) hFX, Row2Ok_fam 9 10 (own1 Z) hFZ, row2_fam 9 10 (own1 Z) hFZ, Row2Ok_fam 11 12 (own1 X) hFX, row2_fam 11 12 (own1 X) hFX, Row2Ok_fam 14 15 (own1 Z) hFZ, row2_fam 14 15 (own1 Z) hFZ, Row2Ok_fam 12 13 (own1 X) hFX, row2_fam 12 13 (own1 X) hFX, Row2Ok_fam 15 16 (own1 Z) hFZ, row2_fam 15 16 (own1 Z) hFZ]
    refine ⟨hsz, ?_⟩
    simp [h2, s2]
def c_laws_FnExactCowUsed : Contract := ⟨5, fun args M => match args with
  | [.agg [.sl a1 n1 _, .sl a2 n2 _, .sl a3 n3 _]] => .pure (CowArg a1 n1 a2 n2 a3 n3 M) (Eng.B true)
  | _ => .bad⟩
theorem ok_laws_FnExactCowUsed : fnP Try.prog c_laws_FnExactCowUsed.f = true ∧ ∀ args M, (c_laws_FnExactCowUsed.sp args M).OK Try.prog c_laws_FnExactCowUsed.f args M := by
  refine ⟨fp_5, fun args M => ?_⟩
  unfold c_laws_FnExactCowUsed
  dsimp only
  split
  case h_2 => trivial
  rename_i a1 n1 c1 a2 n2 c2 a3 n3 c3
  intro harg
  refine goIn hf_5 rfl (nt := 27) rfl (rs := [.tmp 2]) rfl (C := [c_laws_szCow, c_laws_toCow, c_spec_CowUsed, c_impl_CowUsed, c_laws_eqCow]) ⟨(by first | exact .inl ok_laws_szCow | exact ok_laws_szCow), (by first | exact .inl ok_laws_toCow | exact ok_laws_toCow), (by first | exact .inl ok_spec_CowUsed | exact ok_spec_CowUsed), (by first | exact .inl ok_impl_CowUsed | exact ok_impl_CowUsed), (by first | exact .inl ok_laws_eqCow | exact ok_laws_eqCow), trivial⟩ (q := fun f => [20, 15].contains f) ⟨fun h => absurd h (by decide), fun _ => q_laws_toCow, fun h => absurd h (by decide), fun h => absurd h (by decide), fun _ => q_laws_eqCow, trivial⟩ mixed (O := ots [(10, otl [0, 1, 2, 3, 4] .nil)]) (by kernel_rfl) ?_
  have hsz := harg.sz
  by_cases hs : szC (lens2 a1 n1 (M a1.r)) n1 n2 (lens2 a3 n3 (M a3.r)) n3 1048576 < 0
  · simp only [↓WP, ↓grdD, ↓grdT, ↓un_dead, ↓binVC, ↓buildVC, ↓sliceVC, WQ, WN, Int.reduceToNat, renl, cll, rent, clt, ↓reduceIte, Nat.reduceLeDiff, Nat.reduceEqDiff, Nat.reduceLT, reduceCtorEq, List.append_nil, Nat.reduceAdd, Nat.reduceSub, Nat.reduceBEq, forall_const, implies_true, cond_true, cond_false, AV.ren, AC.ren, AV.cl, AC.cl, eq_self, List.all_cons, List.all_nil, AV.eqv, AC.eqv, eqvl, eqvt, Sl.eqv, List.map_append, List.length_map, List.length_append, List.length_replicate, List.length_set, List.map_replicate, nilVC, sz_30, zr_25, sz_25, c_laws_szCow, c_laws_toCow, c_spec_CowUsed, c_impl_CowUsed, c_laws_eqCow, decide_eq_true hs]
    first | exact hsz | exact ⟨hsz, by simp⟩
  · obtain ⟨h1, h2, h3⟩ := harg.rows hs
    obtain ⟨s1, X, hX, rfl, t1⟩ := h1.x
    obtain ⟨s2, R, hR, rfl, t2⟩ := h2.x
    obtain ⟨s3, Z, hZ, rfl, t3⟩ := h3.x
    have hFX := own1_ok h1 hX
    have hFZ := own1_ok h3 hZ
    have hlX := (own1_length X).symm
    have hlZ := (own1_length Z).symm
    simp only [↓WP, ↓grdD, ↓grdT, ↓un_dead, ↓binVC, ↓buildVC, ↓sliceVC, WQ, WN, Int.reduceToNat, renl, cll, rent, clt, ↓reduceIte, Nat.reduceLeDiff, Nat.reduceEqDiff, Nat.reduceLT, reduceCtorEq, List.append_nil, Nat.reduceAdd, Nat.reduceSub, Nat.reduceBEq, forall_const, implies_true, cond_true, cond_false, AV.ren, AC.ren, AV.cl, AC.cl, eq_self, List.all_cons, List.all_nil, AV.eqv, AC.eqv, eqvl, eqvt, Sl.eqv, List.map_append, List.length_map, List.length_append, List.length_replicate, List.length_set, List.map_replicate, nilVC, sz_30, zr_25, sz_25, c_laws_szCow, c_laws_toCow, c_spec_CowUsed, c_impl_CowUsed, c_laws_eqCow, decide_eq_false hs, Row2Ok_upE h1, row2_upE h1, hX, Row2Ok_upE h3, row2_upE h3, hZ, hR, own1_length, own1_snd, Row2Ok_fam 1 2 (own1 X) hFX, row2_fam 1 2 (own1 X) hFX, Row2Ok_fam 4 5 (own1 Z) hFZ, row2_fam 4 5 (own1 Z) hFZ, Row2Ok_fam 6 7 (own1 X) hFX, row2_fam 6 7 (own1 X) hFX, Row2Ok_fam 9 10 (own1 Z) hFZ, row2_fam 9 10 (own1 Z) hFZ, Row2Ok_fam 11 12 (own1 X) hFX, row2_fam 11 12 (own1 X) hFX, Row2Ok_fam 14 15 (own1 Z) hFZ, row2_fam 14 15 (own1 Z) hFZ, Row2Ok_fam 12 13 (own1 X) hFX, row2_fam 12 13 (own1 X) hFX, Row2Ok_fam 15 16 (own1 Z) hFZ, row2_fam 15 16 (own1 Z) hFZ]
    refine ⟨hsz, ?_⟩
    simp [h2, s2]
def c_laws_FnExactCowRead : Contract := ⟨6, fun args M => match args with
  | [.agg [.sl a1 n1 _, .sl a2 n2 _, .sl a3 n3 _], .c (.int .i64 s), .c (.int .i64 ad)] => .pure (CowArg a1 n1 a2 n2 a3 n3 M) (Eng.B true)
  | _ => .bad⟩
theorem ok_laws_FnExactCowRead : fnP Try.prog c_laws_FnExactCowRead.f = true ∧ ∀ args M, (c_laws_FnExactCowRead.sp args M).OK Try.prog c_laws_FnExactCowRead.f args M := by
  refine ⟨fp_6, fun args M => ?_⟩
  unfold c_laws_FnExactCowRead
  dsimp only
  split
  case h_2 => trivial
  rename_i a1 n1 c1 a2 n2 c2 a3 n3 c3 s ad
  intro harg
  refine goIn hf_6 rfl (nt := 48) rfl (rs := [.tmp 6]) rfl (C := [c_laws_szCow, c_laws_toCow, c_spec_CowRead, c_impl_CowRead, c_laws_eqCow]) ⟨(by first | exact .inl ok_laws_szCow | exact ok_laws_szCow), (by first | exact .inl ok_laws_toCow | exact ok_laws_toCow), (by first | exact .inl ok_spec_CowRead | exact ok_spec_CowRead), (by first | exact .inl ok_impl_CowRead | exact ok_impl_CowRead), (by first | exact .inl ok_laws_eqCow | exact ok_laws_eqCow), trivial⟩ (q := fun f => [20, 15].contains f) ⟨fun h => absurd h (by decide), fun _ => q_laws_toCow, fun h => absurd h (by decide), fun h => absurd h (by decide), fun _ => q_laws_eqCow, trivial⟩ mixed (O := ots [(10, otl [0, 1, 2, 3, 4] .nil)]) (by kernel_rfl) ?_
  have hsz := harg.sz
  by_cases hs : szC (lens2 a1 n1 (M a1.r)) n1 n2 (lens2 a3 n3 (M a3.r)) n3 1048576 < 0
  · simp only [↓WP, ↓grdD, ↓grdT, ↓un_dead, ↓binVC, ↓buildVC, ↓sliceVC, WQ, WN, Int.reduceToNat, renl, cll, rent, clt, ↓reduceIte, Nat.reduceLeDiff, Nat.reduceEqDiff, Nat.reduceLT, reduceCtorEq, List.append_nil, Nat.reduceAdd, Nat.reduceSub, Nat.reduceBEq, forall_const, implies_true, cond_true, cond_false, AV.ren, AC.ren, AV.cl, AC.cl, eq_self, List.all_cons, List.all_nil, AV.eqv, AC.eqv, eqvl, eqvt, Sl.eqv, List.map_append, List.length_map, List.length_append, List.length_replicate, List.length_set, List.map_replicate, nilVC, sz_30, zr_25, sz_25, bt_4, c_laws_szCow, c_laws_toCow, c_spec_CowRead, c_impl_CowRead, c_laws_eqCow, decide_eq_true hs]
    first | exact hsz | exact ⟨hsz, by simp⟩
  · obtain ⟨h1, h2, h3⟩ := harg.rows hs
    obtain ⟨s1, X, hX, rfl, t1⟩ := h1.x
    obtain ⟨s2, R, hR, rfl, t2⟩ := h2.x
    obtain ⟨s3, Z, hZ, rfl, t3⟩ := h3.x
    have hFX := own1_ok h1 hX
    have hFZ := own1_ok h3 hZ
    have hlX := (own1_length X).symm
    have hlZ := (own1_length Z).symm
    simp only [↓WP, ↓grdD, ↓grdT, ↓un_dead, ↓binVC, ↓buildVC, ↓sliceVC, WQ, WN, Int.reduceToNat, renl, cll, rent, clt, ↓reduceIte, Nat.reduceLeDiff, Nat.reduceEqDiff, Nat.reduceLT, reduceCtorEq, List.append_nil, Nat.reduceAdd, Nat.reduceSub, Nat.reduceBEq, forall_const, implies_true, cond_true, cond_false, AV.ren, AC.ren, AV.cl, AC.cl, eq_self, List.all_cons, List.all_nil, AV.eqv, AC.eqv, eqvl, eqvt, Sl.eqv, List.map_append, List.length_map, List.length_append, List.length_replicate, List.length_set, List.map_replicate, nilVC, sz_30, zr_25, sz_25, bt_4, c_laws_szCow, c_laws_toCow, c_spec_CowRead, c_impl_CowRead, c_laws_eqCow, decide_eq_false hs, Row2Ok_upE h1, row2_upE h1, hX, Row2Ok_upE h3, row2_upE h3, hZ, hR, own1_length, own1_snd, Row2Ok_fam 1 2 (own1 X) hFX, row2_fam 1 2 (own1 X) hFX, Row2Ok_fam 4 5 (own1 Z) hFZ, row2_fam 4 5 (own1 Z) hFZ, Row2Ok_fam 6 7 (own1 X) hFX, row2_fam 6 7 (own1 X) hFX, Row2Ok_fam 9 10 (own1 Z) hFZ, row2_fam 9 10 (own1 Z) hFZ, Row2Ok_fam 11 12 (own1 X) hFX, row2_fam 11 12 (own1 X) hFX, Row2Ok_fam 14 15 (own1 Z) hFZ, row2_fam 14 15 (own1 Z) hFZ, Row2Ok_fam 12 13 (own1 X) hFX, row2_fam 12 13 (own1 X) hFX, Row2Ok_fam 15 16 (own1 Z) hFZ, row2_fam 15 16 (own1 Z) hFZ]
    refine ⟨hsz, ?_⟩
    simp [h2, s2]
end Go.Eng.T
