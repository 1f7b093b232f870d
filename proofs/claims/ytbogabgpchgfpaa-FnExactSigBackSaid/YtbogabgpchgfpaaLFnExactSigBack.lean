/- THE LAW FnExactSigBack: whatever the input, it returns true. -/
import Derived.Test.YtbogabgpchgfpaaFn11
import Derived.Test.YtbogabgpchgfpaaEngD
import Derived.Test.YtbogabgpchgfpaaRows
set_option linter.unusedVariables false
set_option linter.unusedSimpArgs false
set_option linter.unusedSectionVars false
namespace Go.Proofs.Ytbogabgpchgfpaa.fnExactSigBack
open Go.ChangeShapes Go.WideShapes Go.ChangeAt Go.RowKit Go.Eng Go.Eng.T

theorem own : ownKnob Try.prog.godebug = none := by kernel_rfl
theorem laid : laidOutB Try.prog = true := by kernel_rfl

set_option maxRecDepth 100000 in
set_option maxHeartbeats 4000000 in
theorem contract (H : Type) (enc : TypeId × Value → H) (W : World) (args : Array Value) (ds gs : List (DataW H)) (before : List MemPlace)
    (hval : ∀ (j : Nat) t v, Try.f6.params[j]? = some t → args[j]? = some v → Value.okWide Try.prog W .any 0 t v)
    (hW : DataW.Whole enc Try.prog Try.f6.params.toList Rows.fnExactSigBackSpec.vars false W args.toList ds gs before) :
    Calls Try.prog 6 args W fun e W' => ∃ v, e = .returned v ∧ Rows.fnExactSigBackSpec.post enc Try.prog Try.f6 false true false false W args v W' := by
  have hW' := hW
  obtain ⟨p, q, hA, hV, rfl, hfz, hnd⟩ := hW
  obtain ⟨rfl, rfl⟩ := trodVars_none hV
  simp only [List.append_nil] at hW'
  obtain ⟨cs, acs, regs, ads, ho, hmem⟩ := args_open (P := Try.prog) (ts := Try.f6.params.toList) (sh := [.str [.sl 4 [.bool], .sl 4 [.bool], .sl 3 [.int], .sl 3 [.int], .k .int]]) (by kernel_rfl) hA fun j t v h1 h2 => hval j t v (by simpa using h1) (by simpa using h2)
  simp only [allShs, ArgS.shs, List.cons_append, List.nil_append, List.append_nil, Opn, Kd.Is] at ho
  obtain ⟨o0, n0, c0, L0, b0, f0, cs0, acs0, rg0, ad0, rfl, rfl, rfl, rfl, lc0, cm0, hl0, hK0, _, _, _, o1, n1, c1, L1, b1, f1, cs1, acs1, rg1, ad1, rfl, rfl, rfl, rfl, lc1, cm1, hl1, hK1, _, _, _, o2, n2, c2, L2, b2, f2, cs2, acs2, rg2, ad2, rfl, rfl, rfl, rfl, lc2, cm2, hl2, hK2, _, _, _, o3, n3, c3, L3, b3, f3, cs3, acs3, rg3, ad3, rfl, rfl, rfl, rfl, lc3, cm3, hl3, hK3, _, _, _, v4, cs4, _, acs4, rfl, rfl, ⟨x4, rfl, lo4, hi4⟩, _, rfl, rfl, rfl, rfl⟩ := ho
  simp only [gather, List.getD_cons_zero, List.drop_succ_cons, List.drop_zero, List.take_succ_cons, List.take_zero, List.drop_nil, List.take_nil, List.length_cons, List.length_nil, Nat.zero_add, Nat.reduceAdd] at hmem
  have hw := law_calls (k := 6) (args := [.agg [.sl ⟨.loc 0, 0, 0, 0⟩ n0 c0, .sl ⟨.loc 1, 0, 0, 0⟩ n1 c1, .sl ⟨.loc 2, 0, 0, 0⟩ n2 c2, .sl ⟨.loc 3, 0, 0, 0⟩ n3 c3, .int .i64 x4]]) (M := locM [.rows false 4 1 [(n0, L0)], .rows false 4 1 [(n1, L1)], .rows false 3 1 [(n2, L2)], .rows false 3 1 [(n3, L3)]]) (ok_laws_FnExactSigBack.2 [.agg [.sl ⟨.loc 0, 0, 0, 0⟩ n0 c0, .sl ⟨.loc 1, 0, 0, 0⟩ n1 c1, .sl ⟨.loc 2, 0, 0, 0⟩ n2 c2, .sl ⟨.loc 3, 0, 0, 0⟩ n3 c3, .int .i64 x4]] (locM [.rows false 4 1 [(n0, L0)], .rows false 4 1 [(n1, L1)], .rows false 3 1 [(n2, L2)], .rows false 3 1 [(n3, L3)]]) ⟨⟨by omega, by omega, by omega, by omega⟩, fun h => RowOk_arg rfl hl0 hK0 (by omega), fun h => RowOk_arg rfl hl1 hK1 (by omega), fun h => RowOk_arg rfl hl2 hK2 (by omega), fun h => RowOk_arg rfl hl3 hK3 (by omega)⟩) rfl hmem
  rw [show args.toList.toArray = args from by simp] at hw
  refine hw.mono fun e W' ⟨he, hb⟩ => ?_
  subst he
  have hlt : ∀ x ∈ p, x.block < W.heap.size := fun x hx => by simpa using hW'.lt x hx
  have hlen : ds.length = 1 := trod_len hA
  have hds : (Rows.fnExactSigBackSpec.fn H (ds ++ [])).args = ds ∧ (Rows.fnExactSigBackSpec.fn H (ds ++ [])).results = [.lit (.bool true)] ∧ (Rows.fnExactSigBackSpec.fn H (ds ++ [])).vars = [] := by
    match ds, hlen with
    | [_], _ => exact ⟨rfl, rfl, rfl⟩
  refine ⟨_, rfl, post_of_below (pa := p) (pv := []) hW' (fun b sp hd => ?_) (fun sp hsp => ?_) (fun _ _ => by rw [hds.2.2]; rfl) (by simp) hb (ok_one (by kernel_rfl) rfl (okWide_bool_mk (t := 4) (by kernel_rfl) _))⟩
  · rw [hds.2.1]
    exact trodAll_cons_mk (shut_bool (t := 4) (by kernel_rfl) _) trodAll_mk0
  · rw [hds.1]
    exact args_again laid (by decide +kernel) hA hb hlt hsp

set_option maxRecDepth 100000 in
theorem lifted (os : Os) (started : os.Started) (H : Type) (enc : TypeId × Value → H) :
    ReturnsInHanded {} Try.checked os 6 .any (Rows.fnExactSigBackSpec.pre6 enc Try.prog Try.f6 Rows.fnExactSigBackRow.domain false) (Rows.fnExactSigBackSpec.post enc Try.prog Try.f6 false true false false) := by
  refine returnsInHanded_of_change (C := Try.checked) own started (by kernel_rfl) Try.func6
    (ChangeSpec.witness6 (enc := enc) (C := Try.checked) false ⟨#[], #[(.agg #[.slice none 0 0, .slice none 0 0, .slice none 0 0, .slice none 0 0, .int .i64 0])], []⟩ 8 (by kernel_rfl) (by kernel_rfl) (by kernel_rfl) (by kernel_rfl)) ?_
  intro W base args ds gs before hval hW hcnd _
  exact contract H enc W args ds gs before hval hW

theorem over : Rows.fnExactSigBackRow.holds Try.pinned (OpenSpec.ofChange Rows.fnExactSigBackSpec) :=
  OpenClaim.holds_of_wide 6 Try.f6 rfl rfl rfl rfl rfl rfl rfl ⟨rfl, rfl, rfl, rfl, rfl⟩ rfl rfl rfl rfl rfl (by kernel_rfl) Try.func6 (by kernel_rfl)
    (of_decide_eq_true (by kernel_rfl)) (by unfold Func.isWrapper; first | (rw [if_pos (by decide +kernel)]; kernel_rfl) | (rw [if_neg (by decide +kernel)]; exact ⟨rfl, rfl⟩))
    (fun os started H enc _ => lifted os started H enc)

theorem proved : Rows.FnExactSigBackSaid :=
  over
end Go.Proofs.Ytbogabgpchgfpaa.fnExactSigBack
