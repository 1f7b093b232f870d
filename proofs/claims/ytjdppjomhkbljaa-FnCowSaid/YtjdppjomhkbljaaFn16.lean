/- cow: CowFork. -/
import Derived.Test.YtjdppjomhkbljaaFn15
set_option linter.unusedVariables false
set_option linter.unusedSimpArgs false
set_option linter.unusedSectionVars false
namespace Go.Eng
open Cel (enc dec)
theorem len_dead {P : Program} {S : St} {t : TypeId} {x : AC} {K : Bool → AV → St → Prop} (ht : slD P t = true) (h : ∀ n : Nat, K false (I n) S) : biVC P S false .len [t] [.c x] K := by
  cases x with
  | sl a n c => exact ⟨ht, h n⟩
  | str s => exact ⟨fun h => (by cases h), h _⟩
  | _ => exact ⟨rfl, h 0⟩
section
variable {α : Type} [Cel α]
def setAt (o : Option Rg) (q : RId) (F : List (Nat × List α)) (b : Nat) (q2 : RId) (l k : Nat) : Prop := ∃ own t c, o = some (.rows own t 1 [(c, (nestC q F).set b [.sl ⟨q2, 0, 0, 0⟩ l k])])
def rowIs (o : Option Rg) (k : Nat) (Y : List α) : Prop := ∃ own t, o = some (.rows own t (Cel.sz α) [(k, Y.map enc)])
omit [Cel α] in
theorem setAt_rows {own t c} {q : RId} {F : List (Nat × List α)} {b : Nat} {q2 : RId} {l k : Nat} : setAt (some (.rows own t 1 [(c, (nestC q F).set b [.sl ⟨q2, 0, 0, 0⟩ l k])])) q F b q2 l k = True := eq_true ⟨own, t, c, rfl⟩
theorem rowIs_rows {own t s k} {Y : List α} (h : s = Cel.sz α) : rowIs (some (.rows own t s [(k, Y.map enc)])) k Y = True := eq_true ⟨own, t, by rw [h]⟩
theorem Rows2_set {M : RId → Option Rg} {i q q2 : RId} {F : List (Nat × List α)} {b k : Nat} {Y : List α} (h1 : setAt (M i) q F b q2 Y.length k) (h2 : famAt (M q) F) (h3 : Y.length = 0 ∨ rowIs (M q2) k Y) (hF : famOk F) (hY : Y.length ≤ 4294967296) (hYk : Y.length ≤ k) :
    Rows2 α ⟨i, 0, 0, 0⟩ F.length M ((F.map (·.2)).set b Y) := by
  obtain ⟨own, t, c, h1⟩ := h1
  obtain ⟨own', t', h2⟩ := h2
  refine ⟨hF.1, by simp, fun h0 => ?_⟩
  refine ⟨_, _, _, _, _, _, fun j => if j = b then ⟨q2, 0, 0, 0⟩ else ⟨q, j, 0, 0⟩, fun j => if j = b then k else (F.getD j default).1, h1, rfl, Nat.zero_lt_one, ?_, fun j hj => ?_⟩
  · show 0 + F.length ≤ ((nestC q F).set b _).length
    rw [List.length_set, nest_len]; omega
  · by_cases e : j = b
    · subst e
      have hX : ((F.map (·.2)).set j Y).getD j default = Y := getD_set_self (by simpa using hj)
      simp only [if_true, hX]
      refine ⟨?_, hYk, ?_, ?_⟩
      · show ((nestC q F).set j [AC.sl ⟨q2, 0, 0, 0⟩ Y.length k]).getD (0 + j) [] = _
        rw [Nat.zero_add, getD_set_self (by rw [nest_len]; exact hj)]
      · rcases h3 with h3 | ⟨o3, t3, h3⟩
        · exact ⟨hY, .inl h3⟩
        · show RowOk α _ _ (M q2)
          rw [h3, RowOk_rows]
          refine ⟨hY, .inr ⟨rfl, rfl, Nat.zero_lt_one, by simp, ?_⟩⟩
          simp only [List.getD_cons_zero, Nat.zero_add]
          rw [win_whole (by simp), allEnc_enc]; trivial
      · rcases h3 with h3 | ⟨o3, t3, h3⟩
        · rw [h3, row_zero, List.eq_nil_of_length_eq_zero h3]
        · show row α _ _ (M q2) = _
          rw [h3, row_rows]
          simp only [List.getD_cons_zero, Nat.zero_add]
          rw [win_whole (by simp), map_dec_enc]
    · have hX : ((F.map (·.2)).set b Y).getD j default = (F.getD j default).2 := by
        rw [getD_set_ne (Ne.symm e)]
        exact getD_map (f := fun p : Nat × List α => p.2) hj
      simp only [if_neg e, hX]
      obtain ⟨f1, f2⟩ := hF.2 _ (getD_mem hj)
      have hm : (mems F).getD j (0, []) = ((F.getD j default).1, (F.getD j default).2.map enc) := by
        rw [mems_getD, getD_lt F j (0, []) default hj]
      refine ⟨?_, f2, ?_, ?_⟩
      · show ((nestC q F).set b [AC.sl ⟨q2, 0, 0, 0⟩ Y.length k]).getD (0 + j) [] = _
        rw [Nat.zero_add, getD_set_ne (Ne.symm e), nest_get q hj]
      · show RowOk α _ _ (M q)
        rw [h2, RowOk_rows, hm]
        refine ⟨f1, .inr ⟨rfl, rfl, by rw [mems_len]; exact hj, by simp, ?_⟩⟩
        simp only [Nat.zero_add]
        rw [win_whole (by simp), allEnc_enc]; trivial
      · show row α _ _ (M q) = _
        rw [h2, row_rows, hm]
        simp only [Nat.zero_add]
        rw [win_whole (by simp), map_dec_enc]
theorem row2_set (i q : Nat) (q2 : RId) (F : List (Nat × List α)) (hF : famOk F) (b k : Nat) (Y : List α) (hY : Y.length ≤ 4294967296) (hYk : Y.length ≤ k) {T : List Sl} {M : RId → Option Rg} {ov : List (RId × Rg)} {L : List Rg} {n : Nat}
    (h1 : setAt L[i]? (.loc q) F b q2 Y.length k) (h2 : famAt L[q]? F) (h3 : Y.length = 0 ∨ rowIs (St.look ⟨T, M, ov, L⟩ q2) k Y) (hn : n = F.length) :
    row2 α ⟨.loc i, 0, 0, 0⟩ n (St.look ⟨T, M, ov, L⟩) = (F.map (·.2)).set b Y := by subst hn; exact (Rows2_set (M := St.look ⟨T, M, ov, L⟩) (i := .loc i) h1 h2 h3 hF hY hYk).eq
theorem Row2Ok_set (i q : Nat) (q2 : RId) (F : List (Nat × List α)) (hF : famOk F) (b k : Nat) (Y : List α) (hY : Y.length ≤ 4294967296) (hYk : Y.length ≤ k) {T : List Sl} {M : RId → Option Rg} {ov : List (RId × Rg)} {L : List Rg} {n : Nat}
    (h1 : setAt L[i]? (.loc q) F b q2 Y.length k) (h2 : famAt L[q]? F) (h3 : Y.length = 0 ∨ rowIs (St.look ⟨T, M, ov, L⟩ q2) k Y) (hn : n = F.length) :
    Row2Ok α ⟨.loc i, 0, 0, 0⟩ n (St.look ⟨T, M, ov, L⟩) = True := by subst hn; exact eq_true (Rows2_set (M := St.look ⟨T, M, ov, L⟩) (i := .loc i) h1 h2 h3 hF hY hYk).ok
end
def forkO (X : List (List Int)) (R : List Int) (Z : List (List Int)) (a b : Int) : CO × Bool :=
  if cowOk X R Z then (if (0 ≤ a ∧ a ≤ 3) ∧ (0 ≤ b ∧ b ≤ 3) ∧ (Z.getD a.toNat default).length ≠ 0 ∧ (Z.getD b.toNat default).length = 0 then ((X, refs (Z.set b.toNat (Z.getD a.toNat default)).flatten, Z.set b.toNat (Z.getD a.toNat default)), true) else ((X, R, Z), false)) else (([], [], []), false)
theorem set_flat {Z : List (List Int)} {b : Nat} {Y : List Int} (hb : b < Z.length) : (Z.set b Y).flatten = (Z.take b).flatten ++ Y ++ (Z.drop (b + 1)).flatten := by
  rw [List.set_eq_take_append_cons_drop, if_pos hb, List.flatten_append, List.flatten_cons, List.append_assoc]
theorem get_flat {Z : List (List Int)} {b : Nat} (hb : b < Z.length) : Z.flatten = (Z.take b).flatten ++ Z.getD b default ++ (Z.drop (b + 1)).flatten := by
  have h := set_flat (Y := Z.getD b default) hb
  rwa [set_getD_self] at h
theorem refs_cong {L K : List Int} (h : ∀ i : Nat, L.count (i : Int) = K.count (i : Int)) : refs L = refs K := by
  unfold refs
  exact List.map_congr_left fun i _ => by rw [h]
theorem refs_fork {Z : List (List Int)} {b : Nat} {Y : List Int} (hb : b < Z.length) (h0 : (Z.getD b default).length = 0) : refs (Z.flatten ++ Y) = refs (Z.set b Y).flatten := by
  refine refs_cong fun i => ?_
  rw [set_flat hb, get_flat hb, List.eq_nil_of_length_eq_zero h0]
  simp only [List.count_append, List.count_nil]
  omega
/-- rows that are put into a right Cow -/
theorem set_sp {Z : List (List Int)} {b : Nat} {Y : List Int} (h : ∀ k, k < Z.length → spOk (Z.getD k default)) (hY : spOk Y) : (∀ s ∈ Z.set b Y, ∀ f ∈ s, 0 ≤ f ∧ f ≤ 11) ∧ tot (Z.set b Y) ≤ 4 * Z.length := by
  have := sp_all (Z := Z.set b Y) fun k hk => by
    have hk2 : k < Z.length := by simpa using hk
    by_cases e : b = k
    · subst e; rw [getD_set_self hk2]; exact hY
    · rw [getD_set_ne e]; exact h k hk2
  rw [List.length_set] at this
  exact this
end Go.Eng
namespace Go.Eng.T
open Go.Proofs
open Cel (enc dec)
set_option maxRecDepth 100000
set_option maxHeartbeats 4000000
def c_impl_CowFork : Contract := ⟨27, fun args M => match args with
  | [.agg [.sl a1 n1 _, .sl a2 n2 c2, .sl a3 n3 _], .c (.int .i64 a), .c (.int .i64 b)] => .eff ((Row2Ok Int a1 n1 M ∧ RowOk Int a2 n2 (M a2.r) ∧ Row2Ok Int a3 n3 M) ∧ n2 ≤ c2) (Nat × List (Nat × List Int) × Nat × Nat × List (Nat × List Int)) (fun p => CowC (forkO (row2 Int a1 n1 M) (row Int a2 n2 (M a2.r)) (row2 Int a3 n3 M) a b).1.1 (forkO (row2 Int a1 n1 M) (row Int a2 n2 (M a2.r)) (row2 Int a3 n3 M) a b).1.2.1 (forkO (row2 Int a1 n1 M) (row Int a2 n2 (M a2.r)) (row2 Int a3 n3 M) a b).1.2.2 p) (fun p => .tup [(true, [.sl ⟨.loc 0, 0, 0, 0⟩ (forkO (row2 Int a1 n1 M) (row Int a2 n2 (M a2.r)) (row2 Int a3 n3 M) a b).1.1.length p.1, .sl ⟨.loc 2, 0, 0, 0⟩ (forkO (row2 Int a1 n1 M) (row Int a2 n2 (M a2.r)) (row2 Int a3 n3 M) a b).1.2.1.length p.2.2.1, .sl ⟨.loc 3, 0, 0, 0⟩ (forkO (row2 Int a1 n1 M) (row Int a2 n2 (M a2.r)) (row2 Int a3 n3 M) a b).1.2.2.length p.2.2.2.1]), (false, [.bool (forkO (row2 Int a1 n1 M) (row Int a2 n2 (M a2.r)) (row2 Int a3 n3 M) a b).2])]) (fun p => [.rows true 23 1 [(p.1, nestC (.loc 1) p.2.1)], .rows true 3 1 (mems p.2.1), rowG true 3 p.2.2.1 (forkO (row2 Int a1 n1 M) (row Int a2 n2 (M a2.r)) (row2 Int a3 n3 M) a b).1.2.1, .rows true 23 1 [(p.2.2.2.1, nestC (.loc 4) p.2.2.2.2)], .rows true 3 1 (mems p.2.2.2.2)]) (fun _ => [])
  | _ => .bad⟩
theorem ok_impl_CowFork : fnP Try.prog c_impl_CowFork.f = true ∧ ∀ args M, (c_impl_CowFork.sp args M).OK Try.prog c_impl_CowFork.f args M := by
  refine ⟨fp_27, fun args M => ?_⟩
  unfold c_impl_CowFork
  dsimp only
  split
  case h_2 => trivial
  rename_i a1 n1 c1 a2 n2 c2 a3 n3 c3 a b
  rintro ⟨⟨h1, h2, h3⟩, hc2⟩
  obtain ⟨s1, X, hX, rfl, t1⟩ := h1.x
  obtain ⟨s2, R, hR, rfl, t2⟩ := h2.x
  obtain ⟨s3, Z, hZ, rfl, t3⟩ := h3.x
  rw [hX, hR, hZ]
  refine goInX hf_27 rfl (nt := 57) rfl (rs := [.cell 6 25, .tmp 7]) rfl (C := [c_impl_CowOk, c_impl_cloneCow, c_impl_isSpace, c_slices_Clone_int, c_impl_cowRefs]) ⟨(by first | exact .inl ok_impl_CowOk | exact ok_impl_CowOk), (by first | exact .inl ok_impl_cloneCow | exact ok_impl_cloneCow), (by first | exact .inl ok_impl_isSpace | exact ok_impl_isSpace), (by first | exact .inl ok_slices_Clone_int | exact ok_slices_Clone_int), (by first | exact .inl ok_impl_cowRefs | exact ok_impl_cowRefs), trivial⟩ (q := fun f => [64].contains f) ⟨fun h => absurd h (by decide), fun h => absurd h (by decide), fun h => absurd h (by decide), fun _ => q_slices_Clone_int, fun h => absurd h (by decide), trivial⟩ mixed (O := ots [(6, otl [0, 1, 2, 3, 4, 5, 6, 7, 8, 9, 10] .nil)]) (by kernel_rfl) ?_
  by_cases hok : cowOk X R Z
  · have hok' := hok
    obtain ⟨⟨l1, l2, l3⟩, k1, k2, k3⟩ := hok'
    obtain ⟨own3, ty3, cnt3, cap3, len3, get3, b3, cc3, hM3, hf3, hic3, hkn3, hget3⟩ := t3 (by omega)
    by_cases ha : 0 ≤ a ∧ a ≤ 3
    · obtain ⟨g1, g2, g3, g4⟩ := hget3 a.toNat (by omega)
      by_cases hb : 0 ≤ b ∧ b ≤ 3
      · obtain ⟨g1', g2', g3', g4'⟩ := hget3 b.toNat (by omega)
        obtain ⟨Y, hY⟩ : ∃ Y, Z.getD a.toNat default = Y := ⟨_, rfl⟩
        by_cases hmay : (Z.getD a.toNat default).length ≠ 0 ∧ (Z.getD b.toNat default).length = 0
        · have hO : forkO X R Z a b = ((X, refs (Z.set b.toNat (Z.getD a.toNat default)).flatten, Z.set b.toNat (Z.getD a.toNat default)), true) := by rw [forkO, if_pos hok, if_pos ⟨ha, hb, hmay⟩]
          rw [hO]
          obtain ⟨q1, q2⟩ := set_sp (Z := Z) (b := b.toNat) (Y := Z.getD a.toNat default) (fun k hk => k1 k (by omega)) (k1 a.toNat (by omega))
          rw [hY] at g1 g2 g3 g4 hmay q1 q2 ⊢
          have hcd : (decide ((Y.length : Int) = 0) || decide ((0 : Int) < ((Z.getD b.toNat default).length : Int))) = false := by simp only [WB, eq_self]; omega
          simp only [↓WP, ↓grdD, ↓grdT, ↓un_dead, ↓binVC, ↓buildVC, ↓sliceVC, WQ, WN, Int.reduceToNat, renl, cll, rent, clt, ↓reduceIte, Nat.reduceLeDiff, Nat.reduceEqDiff, Nat.reduceLT, reduceCtorEq, List.append_nil, Nat.reduceAdd, Nat.reduceSub, Nat.reduceBEq, forall_const, implies_true, cond_true, cond_false, AV.ren, AC.ren, AV.cl, AC.cl, eq_self, List.all_cons, List.all_nil, AV.eqv, AC.eqv, eqvl, eqvt, Sl.eqv, List.map_append, List.length_map, List.length_append, List.length_replicate, List.length_set, List.map_replicate, nilVC, zr_25, sz_25, fs_25, fl_25_2, sz_22, el_22, sz_23, sd_23, fl_25_1, c_impl_CowOk, c_impl_cloneCow, c_impl_isSpace, c_slices_Clone_int, c_impl_cowRefs, Row2Ok_upE h1, row2_upE h1, hX, Row2Ok_upE h3, row2_upE h3, hZ, hR, decide_eq_true hok, decide_eq_true ha, decide_eq_true hb, hM3, hf3, g1, g1', g3, g4, hcd]
          refine ⟨h2, ⟨h2, hc2⟩, fun p hp => ?_⟩
          obtain ⟨pF, F, pR, pZ, G⟩ := p
          obtain ⟨⟨u1, hF, hFo⟩, u2, u3, u4, u5, u6, hG, hGo⟩ := hp
          dsimp only at u1 hF hFo u2 u3 u4 u5 u6 hG hGo
          have hGl : G.length = Z.length := by rw [← hG]; simp
          have hFl : F.length = X.length := by rw [← hF]; simp
          have hbl : b.toNat < Z.length := by omega
          have hal : a.toNat < Z.length := by omega
          obtain ⟨gc, w1, w2, w3, w4, w5⟩ := fam_at hG hGo hbl
          have hq3 : tot (Z.set b.toNat Y) ≤ 4294967296 := by omega
          have hsp := k1 a.toNat (by omega)
          rw [hY] at hsp
          have hYs : Y.length ≤ 4294967296 := by have := hsp.1; omega
          refine ⟨by omega, by omega, fun _ => by omega, fun _ => by omega, by omega, by omega, g2, fun k hk => ⟨by omega, by omega, ?_⟩⟩
          simp only [↓WP, ↓grdD, ↓grdT, ↓un_dead, ↓binVC, ↓buildVC, ↓sliceVC, WQ, WN, Int.reduceToNat, renl, cll, rent, clt, ↓reduceIte, Nat.reduceLeDiff, Nat.reduceEqDiff, Nat.reduceLT, reduceCtorEq, List.append_nil, Nat.reduceAdd, Nat.reduceSub, Nat.reduceBEq, forall_const, implies_true, cond_true, cond_false, AV.ren, AC.ren, AV.cl, AC.cl, eq_self, List.all_cons, List.all_nil, AV.eqv, AC.eqv, eqvl, eqvt, Sl.eqv, List.map_append, List.length_map, List.length_append, List.length_replicate, List.length_set, List.map_replicate, nilVC, zr_25, sz_25, fs_25, fl_25_2, sz_22, el_22, sz_23, sd_23, fl_25_1, c_impl_CowOk, c_impl_cloneCow, c_impl_isSpace, c_slices_Clone_int, c_impl_cowRefs, Row2Ok_set 5 6 (.loc 8) G hGo b.toNat k Y hYs hk, row2_set 5 6 (.loc 8) G hGo b.toNat k Y hYs hk, setAt_rows, rowIs_rows, hG, hGl, hq3, or_true]
          refine ⟨q1, ?_⟩
          refine endX_ret ?_
          simp only [↓WP, ↓grdD, ↓grdT, ↓un_dead, ↓binVC, ↓buildVC, ↓sliceVC, WQ, WN, Int.reduceToNat, renl, cll, rent, clt, ↓reduceIte, Nat.reduceLeDiff, Nat.reduceEqDiff, Nat.reduceLT, reduceCtorEq, List.append_nil, Nat.reduceAdd, Nat.reduceSub, Nat.reduceBEq, forall_const, implies_true, cond_true, cond_false, AV.ren, AC.ren, AV.cl, AC.cl, eq_self, List.all_cons, List.all_nil, AV.eqv, AC.eqv, eqvl, eqvt, Sl.eqv, List.map_append, List.length_map, List.length_append, List.length_replicate, List.length_set, List.map_replicate, nilVC, zr_25, sz_25, fs_25, fl_25_2, sz_22, el_22, sz_23, sd_23, fl_25_1, c_impl_CowOk, c_impl_cloneCow, c_impl_isSpace, c_slices_Clone_int, c_impl_cowRefs]
          refine ⟨_, _, LeV_swap (j := 6) (j2 := 8) (i0 := b.toNat) true 3 1 (mems G) (by decide) rfl rfl (by rw [mems_len]; exact w4), (pF, F, 12, pZ, G.set b.toNat (k, Y)), [], [2, 3, 9, 5, 6], ?_⟩
          simp only [WL, WNL, swA_new, swA_ne, nest_sw_ne, mapLL, List.mem_cons, Nat.reduceAdd, Nat.reduceLT, Nat.reduceLeDiff, Nat.reduceEqDiff, okU, List.nodup_cons, List.not_mem_nil, toT, toL, toO, keysO, renl, rent, cll, clt, eq_self, AV.eqv, AC.eqv, eqvl, eqvt, Sl.eqv, rowsLe, mapLL, rowsCl, List.map_append, List.length_map, List.length_append, List.length_set, List.map_replicate, rowG, List.getElem?_cons_zero, List.getElem?_cons_succ, List.getElem?_nil, List.append_nil, List.nil_append, List.cons_append, ghosts, St.gh, Option.some.injEq, implies_true, setT, AV.ren, AC.ren, AV.cl, AC.cl, List.replicate_succ, List.replicate_zero, List.nodup_nil, List.length_nil, List.length_cons, List.getD_cons_zero, List.getD_cons_succ, ↓reduceIte, retP, nest_sw_set (j := 6) (j2 := 8) (X := Y) (by decide) rfl, nest_sw_ne (j := 6) (j2 := 8) (q := 3) (by decide) (by decide)]
          simp [CowC, u1, hF, hFo, u2, u3, u4, u5, u6, hG, hGo, refs_length, snd_set hG, famOk_set hGo hYs hk, rowsLe_self]
        · have hO : forkO X R Z a b = ((X, R, Z), false) := by rw [forkO, if_pos hok, if_neg fun h => hmay h.2.2]
          rw [hO]
          rw [hY] at g1 g2 g3 g4 hmay
          have hcd : (decide ((Y.length : Int) = 0) || decide ((0 : Int) < ((Z.getD b.toNat default).length : Int))) = true := by simp only [WB, eq_self]; omega
          simp only [↓WP, ↓grdD, ↓grdT, ↓un_dead, ↓binVC, ↓buildVC, ↓sliceVC, WQ, WN, Int.reduceToNat, renl, cll, rent, clt, ↓reduceIte, Nat.reduceLeDiff, Nat.reduceEqDiff, Nat.reduceLT, reduceCtorEq, List.append_nil, Nat.reduceAdd, Nat.reduceSub, Nat.reduceBEq, forall_const, implies_true, cond_true, cond_false, AV.ren, AC.ren, AV.cl, AC.cl, eq_self, List.all_cons, List.all_nil, AV.eqv, AC.eqv, eqvl, eqvt, Sl.eqv, List.map_append, List.length_map, List.length_append, List.length_replicate, List.length_set, List.map_replicate, nilVC, zr_25, sz_25, fs_25, fl_25_2, sz_22, el_22, sz_23, sd_23, fl_25_1, c_impl_CowOk, c_impl_cloneCow, c_impl_isSpace, c_slices_Clone_int, c_impl_cowRefs, Row2Ok_upE h1, row2_upE h1, hX, Row2Ok_upE h3, row2_upE h3, hZ, hR, decide_eq_true hok, decide_eq_true ha, decide_eq_true hb, hM3, hf3, g1, g1', g3, g4, hcd]
          refine ⟨h2, ⟨h2, hc2⟩, fun p hp => ?_⟩
          obtain ⟨pF, F, pR, pZ, G⟩ := p
          obtain ⟨⟨u1, hF, hFo⟩, u2, u3, u4, u5, u6, hG, hGo⟩ := hp
          dsimp only at u1 hF hFo u2 u3 u4 u5 u6 hG hGo
          have hGl : G.length = Z.length := by rw [← hG]; simp
          have hFl : F.length = X.length := by rw [← hF]; simp
          repeat' (first | with_reducible refine And.intro ?_ ?_ | intro _)
          all_goals try omega
          refine endX_ret ?_
          simp only [↓WP, ↓grdD, ↓grdT, ↓un_dead, ↓binVC, ↓buildVC, ↓sliceVC, WQ, WN, Int.reduceToNat, renl, cll, rent, clt, ↓reduceIte, Nat.reduceLeDiff, Nat.reduceEqDiff, Nat.reduceLT, reduceCtorEq, List.append_nil, Nat.reduceAdd, Nat.reduceSub, Nat.reduceBEq, forall_const, implies_true, cond_true, cond_false, AV.ren, AC.ren, AV.cl, AC.cl, eq_self, List.all_cons, List.all_nil, AV.eqv, AC.eqv, eqvl, eqvt, Sl.eqv, List.map_append, List.length_map, List.length_append, List.length_replicate, List.length_set, List.map_replicate, nilVC, zr_25, sz_25, fs_25, fl_25_2, sz_22, el_22, sz_23, sd_23, fl_25_1, c_impl_CowOk, c_impl_cloneCow, c_impl_isSpace, c_slices_Clone_int, c_impl_cowRefs]
          refine ⟨_, _, LeV.refl _ _, (pF, F, pR, pZ, G), [], [2, 3, 4, 5, 6], ?_⟩
          simp only [WL, WNL, swA_new, swA_ne, nest_sw_ne, mapLL, List.mem_cons, Nat.reduceAdd, Nat.reduceLT, Nat.reduceLeDiff, Nat.reduceEqDiff, okU, List.nodup_cons, List.not_mem_nil, toT, toL, toO, keysO, renl, rent, cll, clt, eq_self, AV.eqv, AC.eqv, eqvl, eqvt, Sl.eqv, rowsLe, mapLL, rowsCl, List.map_append, List.length_map, List.length_append, List.length_set, List.map_replicate, rowG, List.getElem?_cons_zero, List.getElem?_cons_succ, List.getElem?_nil, List.append_nil, List.nil_append, List.cons_append, ghosts, St.gh, Option.some.injEq, implies_true, setT, AV.ren, AC.ren, AV.cl, AC.cl, List.replicate_succ, List.replicate_zero, List.nodup_nil, List.length_nil, List.length_cons, List.getD_cons_zero, List.getD_cons_succ, ↓reduceIte, retP]
          simp [CowC, u1, hF, hFo, u2, u3, u4, u5, u6, hG, hGo, rowsLe_self]
      · have hO : forkO X R Z a b = ((X, R, Z), false) := by rw [forkO, if_pos hok, if_neg fun h => hb h.2.1]
        obtain ⟨y, hy⟩ : ∃ y, (List.map AC.up (get3 a3.i (a3.k + b.toNat))).getD 0 dfl = y := ⟨_, rfl⟩
        rw [hO]
        simp only [↓WP, ↓grdD, ↓grdT, ↓un_dead, ↓binVC, ↓buildVC, ↓sliceVC, WQ, WN, Int.reduceToNat, renl, cll, rent, clt, ↓reduceIte, Nat.reduceLeDiff, Nat.reduceEqDiff, Nat.reduceLT, reduceCtorEq, List.append_nil, Nat.reduceAdd, Nat.reduceSub, Nat.reduceBEq, forall_const, implies_true, cond_true, cond_false, AV.ren, AC.ren, AV.cl, AC.cl, eq_self, List.all_cons, List.all_nil, AV.eqv, AC.eqv, eqvl, eqvt, Sl.eqv, List.map_append, List.length_map, List.length_append, List.length_replicate, List.length_set, List.map_replicate, nilVC, zr_25, sz_25, fs_25, fl_25_2, sz_22, el_22, sz_23, sd_23, fl_25_1, c_impl_CowOk, c_impl_cloneCow, c_impl_isSpace, c_slices_Clone_int, c_impl_cowRefs, Row2Ok_upE h1, row2_upE h1, hX, Row2Ok_upE h3, row2_upE h3, hZ, hR, decide_eq_true hok, decide_eq_true ha, decide_eq_false hb, hM3, hf3, g1, hy]
        refine ⟨h2, ⟨h2, hc2⟩, fun p hp => ?_⟩
        obtain ⟨pF, F, pR, pZ, G⟩ := p
        obtain ⟨⟨u1, hF, hFo⟩, u2, u3, u4, u5, u6, hG, hGo⟩ := hp
        dsimp only at u1 hF hFo u2 u3 u4 u5 u6 hG hGo
        have hGl : G.length = Z.length := by rw [← hG]; simp
        have hFl : F.length = X.length := by rw [← hF]; simp
        refine len_dead sd_23 fun n => ?_
        simp only [↓WP, ↓grdD, ↓grdT, ↓un_dead, ↓binVC, ↓buildVC, ↓sliceVC, WQ, WN, Int.reduceToNat, renl, cll, rent, clt, ↓reduceIte, Nat.reduceLeDiff, Nat.reduceEqDiff, Nat.reduceLT, reduceCtorEq, List.append_nil, Nat.reduceAdd, Nat.reduceSub, Nat.reduceBEq, forall_const, implies_true, cond_true, cond_false, AV.ren, AC.ren, AV.cl, AC.cl, eq_self, List.all_cons, List.all_nil, AV.eqv, AC.eqv, eqvl, eqvt, Sl.eqv, List.map_append, List.length_map, List.length_append, List.length_replicate, List.length_set, List.map_replicate, nilVC, zr_25, sz_25, fs_25, fl_25_2, sz_22, el_22, sz_23, sd_23, fl_25_1, c_impl_CowOk, c_impl_cloneCow, c_impl_isSpace, c_slices_Clone_int, c_impl_cowRefs]
        refine endX_ret ?_
        simp only [↓WP, ↓grdD, ↓grdT, ↓un_dead, ↓binVC, ↓buildVC, ↓sliceVC, WQ, WN, Int.reduceToNat, renl, cll, rent, clt, ↓reduceIte, Nat.reduceLeDiff, Nat.reduceEqDiff, Nat.reduceLT, reduceCtorEq, List.append_nil, Nat.reduceAdd, Nat.reduceSub, Nat.reduceBEq, forall_const, implies_true, cond_true, cond_false, AV.ren, AC.ren, AV.cl, AC.cl, eq_self, List.all_cons, List.all_nil, AV.eqv, AC.eqv, eqvl, eqvt, Sl.eqv, List.map_append, List.length_map, List.length_append, List.length_replicate, List.length_set, List.map_replicate, nilVC, zr_25, sz_25, fs_25, fl_25_2, sz_22, el_22, sz_23, sd_23, fl_25_1, c_impl_CowOk, c_impl_cloneCow, c_impl_isSpace, c_slices_Clone_int, c_impl_cowRefs]
        refine ⟨_, _, LeV.refl _ _, (pF, F, pR, pZ, G), [], [2, 3, 4, 5, 6], ?_⟩
        simp only [WL, WNL, swA_new, swA_ne, nest_sw_ne, mapLL, List.mem_cons, Nat.reduceAdd, Nat.reduceLT, Nat.reduceLeDiff, Nat.reduceEqDiff, okU, List.nodup_cons, List.not_mem_nil, toT, toL, toO, keysO, renl, rent, cll, clt, eq_self, AV.eqv, AC.eqv, eqvl, eqvt, Sl.eqv, rowsLe, mapLL, rowsCl, List.map_append, List.length_map, List.length_append, List.length_set, List.map_replicate, rowG, List.getElem?_cons_zero, List.getElem?_cons_succ, List.getElem?_nil, List.append_nil, List.nil_append, List.cons_append, ghosts, St.gh, Option.some.injEq, implies_true, setT, AV.ren, AC.ren, AV.cl, AC.cl, List.replicate_succ, List.replicate_zero, List.nodup_nil, List.length_nil, List.length_cons, List.getD_cons_zero, List.getD_cons_succ, ↓reduceIte, retP]
        simp [CowC, u1, hF, hFo, u2, u3, u4, u5, u6, hG, hGo, rowsLe_self]
    · have hO : forkO X R Z a b = ((X, R, Z), false) := by rw [forkO, if_pos hok, if_neg fun h => ha h.1]
      obtain ⟨x, hx⟩ : ∃ x, (List.map AC.up (get3 a3.i (a3.k + a.toNat))).getD 0 dfl = x := ⟨_, rfl⟩
      obtain ⟨y, hy⟩ : ∃ y, (List.map AC.up (get3 a3.i (a3.k + b.toNat))).getD 0 dfl = y := ⟨_, rfl⟩
      rw [hO]
      simp only [↓WP, ↓grdD, ↓grdT, ↓un_dead, ↓binVC, ↓buildVC, ↓sliceVC, WQ, WN, Int.reduceToNat, renl, cll, rent, clt, ↓reduceIte, Nat.reduceLeDiff, Nat.reduceEqDiff, Nat.reduceLT, reduceCtorEq, List.append_nil, Nat.reduceAdd, Nat.reduceSub, Nat.reduceBEq, forall_const, implies_true, cond_true, cond_false, AV.ren, AC.ren, AV.cl, AC.cl, eq_self, List.all_cons, List.all_nil, AV.eqv, AC.eqv, eqvl, eqvt, Sl.eqv, List.map_append, List.length_map, List.length_append, List.length_replicate, List.length_set, List.map_replicate, nilVC, zr_25, sz_25, fs_25, fl_25_2, sz_22, el_22, sz_23, sd_23, fl_25_1, c_impl_CowOk, c_impl_cloneCow, c_impl_isSpace, c_slices_Clone_int, c_impl_cowRefs, Row2Ok_upE h1, row2_upE h1, hX, Row2Ok_upE h3, row2_upE h3, hZ, hR, decide_eq_true hok, decide_eq_false ha, hM3, hf3, hx]
      refine ⟨h2, ⟨h2, hc2⟩, fun p hp => ?_⟩
      obtain ⟨pF, F, pR, pZ, G⟩ := p
      obtain ⟨⟨u1, hF, hFo⟩, u2, u3, u4, u5, u6, hG, hGo⟩ := hp
      dsimp only at u1 hF hFo u2 u3 u4 u5 u6 hG hGo
      have hGl : G.length = Z.length := by rw [← hG]; simp
      have hFl : F.length = X.length := by rw [← hF]; simp
      refine len_dead sd_23 fun n => ?_
      simp only [↓WP, ↓grdD, ↓grdT, ↓un_dead, ↓binVC, ↓buildVC, ↓sliceVC, WQ, WN, Int.reduceToNat, renl, cll, rent, clt, ↓reduceIte, Nat.reduceLeDiff, Nat.reduceEqDiff, Nat.reduceLT, reduceCtorEq, List.append_nil, Nat.reduceAdd, Nat.reduceSub, Nat.reduceBEq, forall_const, implies_true, cond_true, cond_false, AV.ren, AC.ren, AV.cl, AC.cl, eq_self, List.all_cons, List.all_nil, AV.eqv, AC.eqv, eqvl, eqvt, Sl.eqv, List.map_append, List.length_map, List.length_append, List.length_replicate, List.length_set, List.map_replicate, nilVC, zr_25, sz_25, fs_25, fl_25_2, sz_22, el_22, sz_23, sd_23, fl_25_1, c_impl_CowOk, c_impl_cloneCow, c_impl_isSpace, c_slices_Clone_int, c_impl_cowRefs, hM3, hf3, hy]
      refine len_dead sd_23 fun m => ?_
      simp only [↓WP, ↓grdD, ↓grdT, ↓un_dead, ↓binVC, ↓buildVC, ↓sliceVC, WQ, WN, Int.reduceToNat, renl, cll, rent, clt, ↓reduceIte, Nat.reduceLeDiff, Nat.reduceEqDiff, Nat.reduceLT, reduceCtorEq, List.append_nil, Nat.reduceAdd, Nat.reduceSub, Nat.reduceBEq, forall_const, implies_true, cond_true, cond_false, AV.ren, AC.ren, AV.cl, AC.cl, eq_self, List.all_cons, List.all_nil, AV.eqv, AC.eqv, eqvl, eqvt, Sl.eqv, List.map_append, List.length_map, List.length_append, List.length_replicate, List.length_set, List.map_replicate, nilVC, zr_25, sz_25, fs_25, fl_25_2, sz_22, el_22, sz_23, sd_23, fl_25_1, c_impl_CowOk, c_impl_cloneCow, c_impl_isSpace, c_slices_Clone_int, c_impl_cowRefs]
      refine endX_ret ?_
      simp only [↓WP, ↓grdD, ↓grdT, ↓un_dead, ↓binVC, ↓buildVC, ↓sliceVC, WQ, WN, Int.reduceToNat, renl, cll, rent, clt, ↓reduceIte, Nat.reduceLeDiff, Nat.reduceEqDiff, Nat.reduceLT, reduceCtorEq, List.append_nil, Nat.reduceAdd, Nat.reduceSub, Nat.reduceBEq, forall_const, implies_true, cond_true, cond_false, AV.ren, AC.ren, AV.cl, AC.cl, eq_self, List.all_cons, List.all_nil, AV.eqv, AC.eqv, eqvl, eqvt, Sl.eqv, List.map_append, List.length_map, List.length_append, List.length_replicate, List.length_set, List.map_replicate, nilVC, zr_25, sz_25, fs_25, fl_25_2, sz_22, el_22, sz_23, sd_23, fl_25_1, c_impl_CowOk, c_impl_cloneCow, c_impl_isSpace, c_slices_Clone_int, c_impl_cowRefs]
      refine ⟨_, _, LeV.refl _ _, (pF, F, pR, pZ, G), [], [2, 3, 4, 5, 6], ?_⟩
      simp only [WL, WNL, swA_new, swA_ne, nest_sw_ne, mapLL, List.mem_cons, Nat.reduceAdd, Nat.reduceLT, Nat.reduceLeDiff, Nat.reduceEqDiff, okU, List.nodup_cons, List.not_mem_nil, toT, toL, toO, keysO, renl, rent, cll, clt, eq_self, AV.eqv, AC.eqv, eqvl, eqvt, Sl.eqv, rowsLe, mapLL, rowsCl, List.map_append, List.length_map, List.length_append, List.length_set, List.map_replicate, rowG, List.getElem?_cons_zero, List.getElem?_cons_succ, List.getElem?_nil, List.append_nil, List.nil_append, List.cons_append, ghosts, St.gh, Option.some.injEq, implies_true, setT, AV.ren, AC.ren, AV.cl, AC.cl, List.replicate_succ, List.replicate_zero, List.nodup_nil, List.length_nil, List.length_cons, List.getD_cons_zero, List.getD_cons_succ, ↓reduceIte, retP]
      simp [CowC, u1, hF, hFo, u2, u3, u4, u5, u6, hG, hGo, rowsLe_self]
  · have hO : forkO X R Z a b = (([], [], []), false) := if_neg hok
    rw [hO]
    simp only [↓WP, ↓grdD, ↓grdT, ↓un_dead, ↓binVC, ↓buildVC, ↓sliceVC, WQ, WN, Int.reduceToNat, renl, cll, rent, clt, ↓reduceIte, Nat.reduceLeDiff, Nat.reduceEqDiff, Nat.reduceLT, reduceCtorEq, List.append_nil, Nat.reduceAdd, Nat.reduceSub, Nat.reduceBEq, forall_const, implies_true, cond_true, cond_false, AV.ren, AC.ren, AV.cl, AC.cl, eq_self, List.all_cons, List.all_nil, AV.eqv, AC.eqv, eqvl, eqvt, Sl.eqv, List.map_append, List.length_map, List.length_append, List.length_replicate, List.length_set, List.map_replicate, nilVC, zr_25, sz_25, fs_25, fl_25_2, sz_22, el_22, sz_23, sd_23, fl_25_1, c_impl_CowOk, c_impl_cloneCow, c_impl_isSpace, c_slices_Clone_int, c_impl_cowRefs, Row2Ok_upE h1, row2_upE h1, hX, Row2Ok_upE h3, row2_upE h3, hZ, hR, decide_eq_false hok]
    refine ⟨h2, endX_ret ?_⟩
    simp only [↓WP, ↓grdD, ↓grdT, ↓un_dead, ↓binVC, ↓buildVC, ↓sliceVC, WQ, WN, Int.reduceToNat, renl, cll, rent, clt, ↓reduceIte, Nat.reduceLeDiff, Nat.reduceEqDiff, Nat.reduceLT, reduceCtorEq, List.append_nil, Nat.reduceAdd, Nat.reduceSub, Nat.reduceBEq, forall_const, implies_true, cond_true, cond_false, AV.ren, AC.ren, AV.cl, AC.cl, eq_self, List.all_cons, List.all_nil, AV.eqv, AC.eqv, eqvl, eqvt, Sl.eqv, List.map_append, List.length_map, List.length_append, List.length_replicate, List.length_set, List.map_replicate, nilVC, zr_25, sz_25, fs_25, fl_25_2, sz_22, el_22, sz_23, sd_23, fl_25_1, c_impl_CowOk, c_impl_cloneCow, c_impl_isSpace, c_slices_Clone_int, c_impl_cowRefs]
    refine ⟨_, _, LeV.refl _ _, (0, [], 0, 0, []), [(23, 1), (3, 1), (3, 1), (23, 1), (3, 1)], [2, 3, 4, 5, 6], ?_⟩
    simp only [WL, WNL, swA_new, swA_ne, nest_sw_ne, mapLL, List.mem_cons, Nat.reduceAdd, Nat.reduceLT, Nat.reduceLeDiff, Nat.reduceEqDiff, okU, List.nodup_cons, List.not_mem_nil, toT, toL, toO, keysO, renl, rent, cll, clt, eq_self, AV.eqv, AC.eqv, eqvl, eqvt, Sl.eqv, rowsLe, mapLL, rowsCl, List.map_append, List.length_map, List.length_append, List.length_set, List.map_replicate, rowG, List.getElem?_cons_zero, List.getElem?_cons_succ, List.getElem?_nil, List.append_nil, List.nil_append, List.cons_append, ghosts, St.gh, Option.some.injEq, implies_true, setT, AV.ren, AC.ren, AV.cl, AC.cl, List.replicate_succ, List.replicate_zero, List.nodup_nil, List.length_nil, List.length_cons, List.getD_cons_zero, List.getD_cons_succ, ↓reduceIte, retP, nest_nil, mems_nil]
    simp [CowC, famOk]
end Go.Eng.T
