/- line: the law on LineOk. -/
import Derived.Test.YtffbhimjpibocaaFn5
set_option linter.unusedVariables false
set_option linter.unusedSimpArgs false
set_option linter.unusedSectionVars false
namespace Go.Eng
def LineArg (a : AA) (n : Nat) (s1 s2 : ByteArray) (M : RId → Option Rg) : Prop := (n ≤ 9223372036854775807 ∧ small s1 ∧ small s2) ∧ Row2S a n M ∧ (n ≤ 1048576 → (∀ x ∈ lens2 a n (M a.r), x ≤ 1048576) → Row2Ok ByteArray a n M ∧ ∀ x ∈ row2 ByteArray a n M, ∀ w ∈ x, small w)
theorem own1_ok {a : AA} {M : RId → Option Rg} {X : List (List ByteArray)} (h : Row2Ok ByteArray a X.length M) (hX : row2 ByteArray a X.length M = X) : famOk (own1 X) := by
  obtain ⟨s1, Y, hY, hl, t1⟩ := h.x
  rw [hX] at hY
  subst hY
  refine ⟨by rw [own1_length]; exact s1, fun p hp => ?_⟩
  obtain ⟨l, hl2, rfl⟩ := List.mem_map.1 hp
  obtain ⟨k, hk, rfl⟩ := List.getElem_of_mem hl2
  obtain ⟨own, ty, cnt, cap, len, get, b, c, hM, hf, hic, hkn, hget⟩ := t1 (by omega)
  obtain ⟨_, _, g3, _⟩ := hget k hk
  have := g3.1
  rw [getD_of_lt hk] at this
  exact ⟨this, Nat.le_refl _⟩
open Cel (enc dec) in
theorem small_dec {acs : List AC} (h : HasK [.str] acs) : small (dec acs : ByteArray) := by
  obtain ⟨c, rfl, s, rfl, hs⟩ := HasK1 h
  exact hs
open Cel (enc dec) in
theorem Row2S_arg {regs : List Rg} {m : Nat} {ty ty2 : TypeId} {len s : Nat} {G : List (Nat × List (List AC))} (hs : s = 1) (hl : G.length = len) (hG : ∀ p ∈ G, p.2.length ≤ p.1 ∧ p.1 ≤ 9223372036854775807 ∧ ∀ acs ∈ p.2, HasK [.str] acs)
    (h0 : regs[m]? = some (.rows false ty 1 [(len, nestC (.loc (m + 1)) G)])) (h1 : regs[m + 1]? = some (.rows false ty2 s (G.map fun p => (p.2.length, p.2)))) : Row2S ⟨.loc m, 0, 0, 0⟩ len (locM regs) := by
  intro hn
  have h2 : locM regs (.loc m) = some (.rows false ty 1 [(len, nestC (.loc (m + 1)) G)]) := h0
  subst hl hs
  refine ⟨G.map fun p => p.2.length, by rw [h2, lens_arg rfl], by simp, fun _ => ⟨_, _, _, _, _, _, fun k => ⟨.loc (m + 1), k, 0, 0⟩, fun k => (G.getD k default).1, h0, rfl, Nat.zero_lt_one, (by show 0 + G.length ≤ (nestC _ G).length; rw [nest_len]; omega), fun k hk => ?_⟩⟩
  have hX : (G.map fun p => p.2.length).getD k 0 = (G.getD k default).2.length := by
    rw [List.getD_eq_getElem?_getD, List.getElem?_map, List.getElem?_eq_getElem hk, getD_of_lt hk]; rfl
  obtain ⟨g1, g2, g3⟩ := hG _ (getD_mem hk)
  have hmk : (G.map fun p : Nat × List (List AC) => (p.2.length, p.2)).getD k (0, []) = ((G.getD k default).2.length, (G.getD k default).2) := by
    rw [List.getD_eq_getElem?_getD, List.getElem?_map, List.getElem?_eq_getElem hk, getD_of_lt hk]; rfl
  have hrow : row ByteArray ⟨.loc (m + 1), k, 0, 0⟩ (G.getD k default).2.length regs[m + 1]? = (G.getD k default).2.map dec := by
    rw [h1, row_rows, hmk]
    simp only [Nat.zero_add]
    rw [win_whole rfl]
  refine ⟨?_, by rw [hX]; omega, ?_⟩
  · show (nestC _ G).getD (0 + k) [] = _
    rw [Nat.zero_add, nest_get _ hk, hX]
  · show RowS _ _ regs[m + 1]?
    rw [hX]
    intro hb
    refine ⟨?_, ?_⟩
    · rw [h1, RowOk_rows, hmk]
      refine ⟨by omega, .inr ⟨rfl, rfl, by simpa using hk, by simp, ?_⟩⟩
      simp only [Nat.zero_add]
      rw [win_whole rfl]
      exact fun cs hcs => CelK.back cs (g3 cs hcs)
    · rw [hrow]
      intro x hx
      obtain ⟨acs, ha, rfl⟩ := List.mem_map.1 hx
      exact small_dec (g3 acs ha)
open Cel (enc dec) in
theorem Row2Ok_argS {regs : List Rg} {m : Nat} {ty ty2 : TypeId} {len s : Nat} {G : List (Nat × List (List AC))} (hs : s = 1) (hl : G.length = len) (hG : ∀ p ∈ G, p.2.length ≤ p.1 ∧ p.1 ≤ 9223372036854775807 ∧ ∀ acs ∈ p.2, HasK [.str] acs)
    (h0 : regs[m]? = some (.rows false ty 1 [(len, nestC (.loc (m + 1)) G)])) (h1 : regs[m + 1]? = some (.rows false ty2 s (G.map fun p => (p.2.length, p.2)))) (hn : len ≤ 1048576) (hx : ∀ x ∈ lens2 ⟨.loc m, 0, 0, 0⟩ len (locM regs (.loc m)), x ≤ 1048576) :
    Row2Ok ByteArray ⟨.loc m, 0, 0, 0⟩ len (locM regs) ∧ ∀ x ∈ row2 ByteArray ⟨.loc m, 0, 0, 0⟩ len (locM regs), ∀ w ∈ x, small w := by
  have h2 : locM regs (.loc m) = some (.rows false ty 1 [(len, nestC (.loc (m + 1)) G)]) := h0
  have hok : Row2Ok ByteArray ⟨.loc m, 0, 0, 0⟩ len (locM regs) := Row2Ok_arg hs hl hG h0 h1 (by omega) fun x hx' => by
    have := hx x (by rw [h2, lens_arg hl]; exact hx')
    omega
  refine ⟨hok, fun x hxm w hw => ?_⟩
  obtain ⟨hs2, X, hX, hXl, hat⟩ := hok.x
  rw [hX] at hxm
  obtain ⟨k, hk, rfl⟩ := List.getElem_of_mem hxm
  have hkl : k < len := by omega
  obtain ⟨Ls, e1, e2, e3⟩ := Row2S_arg hs hl hG h0 h1 hn
  obtain ⟨own, ty', cnt, cap, len', get, b, c, hM, hf, hic, hkn, hget⟩ := hat (by omega)
  obtain ⟨own2, ty2', cnt2, cap2, len2, get2, b2, c2, hM2, hf2, hic2, hkn2, hget2⟩ := e3 (by omega)
  obtain ⟨g1, _, _, g4⟩ := hget k hkl
  obtain ⟨q1, q2, q3⟩ := hget2 k hkl
  rw [hM] at hM2
  injection hM2 with hM2
  injection hM2 with _ _ _ _ _ _ hg
  rw [← hg, g1] at q1
  injection q1 with q1 _
  injection q1 with q1 q1' _
  have hlk : (X.getD k default).length ≤ 1048576 := by
    rw [q1']
    have hkL : k < Ls.length := by omega
    refine hx _ (by rw [e1, List.getD_eq_getElem?_getD, List.getElem?_eq_getElem hkL]; exact List.getElem_mem _)
  rw [← q1, ← q1'] at q3
  have := (q3 hlk).2
  rw [g4, getD_of_lt hk] at this
  exact this w hw
end Go.Eng
namespace Go.Eng.T
open Go.Proofs
open Cel (enc dec)
set_option maxRecDepth 100000
set_option maxHeartbeats 8000000
def c_laws_FnExactLineOk : Contract := ⟨3, fun args M => match args with
  | [.agg [.sl a n _, .str s1, .str s2, .bool b1, .bool b2]] => .pure (LineArg a n s1 s2 M) (Eng.B true)
  | _ => .bad⟩
theorem ok_laws_FnExactLineOk : fnP Try.prog c_laws_FnExactLineOk.f = true ∧ ∀ args M, (c_laws_FnExactLineOk.sp args M).OK Try.prog c_laws_FnExactLineOk.f args M := by
  refine ⟨fp_3, fun args M => ?_⟩
  unfold c_laws_FnExactLineOk
  dsimp only
  split
  case h_2 => trivial
  rename_i a n c s1 s2 b1 b2
  rintro ⟨⟨hn, k1, k2⟩, hS, hR⟩
  refine goIn hf_3 rfl (nt := 27) rfl (rs := [.tmp 2]) rfl (C := [c_laws_szPipeline, c_laws_toPipeline, c_spec_LineOk, c_impl_LineOk, c_laws_eqPipeline]) ⟨(by first | exact .inl ok_laws_szPipeline | exact ok_laws_szPipeline), (by first | exact .inl ok_laws_toPipeline | exact ok_laws_toPipeline), (by first | exact .inl ok_spec_LineOk | exact ok_spec_LineOk), (by first | exact .inl ok_impl_LineOk | exact ok_impl_LineOk), (by first | exact .inl ok_laws_eqPipeline | exact ok_laws_eqPipeline), trivial⟩ (q := fun f => [7, 9].contains f) ⟨fun h => absurd h (by decide), fun _ => q_laws_toPipeline, fun h => absurd h (by decide), fun h => absurd h (by decide), fun _ => q_laws_eqPipeline, trivial⟩ mixed (O := ots [(10, otl [0, 1, 2, 3, 4] .nil)]) (by kernel_rfl) ?_
  have hSu : ∀ T L, Row2S a.up n (St.look ⟨T, M, [], L⟩) = True := fun T L => eq_true (Row2S_up hS)
  have hlu : lens2 a.up n (Option.map Rg.up (M a.r)) = lens2 a n (M a.r) := lens2_up
  by_cases hbig : n ≤ 1048576 ∧ ∀ x ∈ lens2 a n (M a.r), x ≤ 1048576
  · obtain ⟨h1, hsm⟩ := hR hbig.1 hbig.2
    obtain ⟨hs, X, hX, rfl, hat⟩ := h1.x
    have hFX := own1_ok h1 hX
    rw [hX] at hsm
    simp only [↓WP, ↓grdD, ↓grdT, ↓un_dead, ↓binVC, ↓buildVC, ↓sliceVC, WQ, WN, Int.reduceToNat, renl, cll, rent, clt, ↓reduceIte, Nat.reduceLeDiff, Nat.reduceEqDiff, Nat.reduceLT, reduceCtorEq, List.append_nil, Nat.reduceAdd, Nat.reduceSub, Nat.reduceBEq, forall_const, implies_true, cond_true, cond_false, AV.ren, AC.ren, AV.cl, AC.cl, eq_self, List.all_cons, List.all_nil, AV.eqv, AC.eqv, eqvl, eqvt, Sl.eqv, List.map_append, List.length_map, List.length_append, List.length_replicate, List.length_set, List.map_replicate, nilVC, sz_24, zr_29, sz_29, bt_4, c_laws_szPipeline, c_laws_toPipeline, c_spec_LineOk, c_impl_LineOk, c_laws_eqPipeline, hSu, hlu, Row2Ok_upE h1, row2_upE h1, hX, own1_length, own1_snd, row2_fam 1 2 (own1 X) hFX, Row2Ok_fam 1 2 (own1 X) hFX, row2_fam 2 3 (own1 X) hFX, Row2Ok_fam 2 3 (own1 X) hFX, row2_fam 3 4 (own1 X) hFX, Row2Ok_fam 3 4 (own1 X) hFX, row2_fam 4 5 (own1 X) hFX, Row2Ok_fam 4 5 (own1 X) hFX, row2_fam 5 6 (own1 X) hFX, Row2Ok_fam 5 6 (own1 X) hFX, row2_fam 6 7 (own1 X) hFX, Row2Ok_fam 6 7 (own1 X) hFX, row2_fam 7 8 (own1 X) hFX, Row2Ok_fam 7 8 (own1 X) hFX, decide_true]
    refine ⟨⟨by omega, by omega, hn, k1, k2⟩, fun q hq hge => ⟨⟨hsm, k1, k2⟩, ⟨hsm, k1, k2⟩, fun h => ?_⟩⟩
    cases hb : decide (lineOk X s1 s2 b1) <;> rw [hb] at h <;> cases h
  · simp only [↓WP, ↓grdD, ↓grdT, ↓un_dead, ↓binVC, ↓buildVC, ↓sliceVC, WQ, WN, Int.reduceToNat, renl, cll, rent, clt, ↓reduceIte, Nat.reduceLeDiff, Nat.reduceEqDiff, Nat.reduceLT, reduceCtorEq, List.append_nil, Nat.reduceAdd, Nat.reduceSub, Nat.reduceBEq, forall_const, implies_true, cond_true, cond_false, AV.ren, AC.ren, AV.cl, AC.cl, eq_self, List.all_cons, List.all_nil, AV.eqv, AC.eqv, eqvl, eqvt, Sl.eqv, List.map_append, List.length_map, List.length_append, List.length_replicate, List.length_set, List.map_replicate, nilVC, sz_24, zr_29, sz_29, bt_4, c_laws_szPipeline, c_laws_toPipeline, c_spec_LineOk, c_impl_LineOk, c_laws_eqPipeline, hSu, hlu]
    refine ⟨⟨by omega, by omega, hn, k1, k2⟩, fun q hq hge => ?_⟩
    have hge : ¬ q < 0 := of_decide_eq_false hge
    obtain ⟨q1, q2⟩ := hq
    obtain ⟨a1, a2⟩ := q2 (by omega)
    exact absurd ⟨by omega, fun x hx => by have := a2 x hx; omega⟩ hbig
end Go.Eng.T
