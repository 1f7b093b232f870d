/- THE LAW FnExactShowLine: whatever the input, it returns true. -/
import Derived.Test.YtffbhimjpibocaaFn14
import Derived.Test.YtffbhimjpibocaaEngD
import Derived.Test.YtffbhimjpibocaaRows
set_option linter.unusedVariables false
set_option linter.unusedSimpArgs false
set_option linter.unusedSectionVars false
namespace Go.Proofs.Ytffbhimjpibocaa.fnExactShowLine
open Go.ChangeShapes Go.WideShapes Go.ChangeAt Go.RowKit Go.Eng Go.Eng.T

theorem own : ownKnob Try.prog.godebug = none := by kernel_rfl
theorem laid : laidOutB Try.prog = true := by kernel_rfl

set_option maxRecDepth 100000 in
set_option maxHeartbeats 4000000 in
theorem contract (H : Type) (enc : TypeId × Value → H) (W : World) (args : Array Value) (ds gs : List (DataW H)) (before : List MemPlace)
    (hval : ∀ (j : Nat) t v, Try.f4.params[j]? = some t → args[j]? = some v → Value.okWide Try.prog W .any 0 t v)
    (hW : DataW.Whole enc Try.prog Try.f4.params.toList Rows.fnExactShowLineSpec.vars false W args.toList ds gs before) :
    Calls Try.prog 4 args W fun e W' => ∃ v, e = .returned v ∧ Rows.fnExactShowLineSpec.post enc Try.prog Try.f4 false true false false W args v W' := by
  have hW' := hW
  obtain ⟨p, q, hA, hV, rfl, hfz, hnd⟩ := hW
  obtain ⟨rfl, rfl⟩ := trodVars_none hV
  simp only [List.append_nil] at hW'
  obtain ⟨cs, acs, regs, ads, ho, hmem⟩ := args_open (P := Try.prog) (ts := Try.f4.params.toList) (sh := [.str [.ss 48 9 [.str], .k .str, .k .str, .k .bool, .k .bool]]) (by kernel_rfl) hA fun j t v h1 h2 => hval j t v (by simpa using h1) (by simpa using h2)
  simp only [allShs, ArgS.shs, List.cons_append, List.nil_append, List.append_nil, Opn, Kd.Is] at ho
  obtain ⟨o0, n0, c0, G0, b0, f0, bI0, oI0, cs0, acs0, rg0, ad0, rfl, rfl, rfl, rfl, lc0, cm0, hl0, hK0, _, _, _, v1, cs1, _, acs1, rfl, rfl, ⟨x1, rfl, sz1⟩, _, v2, cs2, _, acs2, rfl, rfl, ⟨x2, rfl, sz2⟩, _, v3, cs3, _, acs3, rfl, rfl, ⟨x3, rfl⟩, _, v4, cs4, _, acs4, rfl, rfl, ⟨x4, rfl⟩, _, rfl, rfl, rfl, rfl⟩ := ho
  simp only [gather, List.getD_cons_zero, List.drop_succ_cons, List.drop_zero, List.take_succ_cons, List.take_zero, List.drop_nil, List.take_nil, List.length_cons, List.length_nil, Nat.zero_add, Nat.reduceAdd] at hmem
  have hw := law_calls (k := 4) (args := [.agg [.sl ⟨.loc 0, 0, 0, 0⟩ n0 c0, .str x1, .str x2, .bool x3, .bool x4]]) (M := locM [.rows false 48 1 [(n0, nestC (.loc 1) G0)], .rows false 9 1 (G0.map fun p => (p.2.length, p.2))]) (ok_laws_FnExactShowLine.2 [.agg [.sl ⟨.loc 0, 0, 0, 0⟩ n0 c0, .str x1, .str x2, .bool x3, .bool x4]] (locM [.rows false 48 1 [(n0, nestC (.loc 1) G0)], .rows false 9 1 (G0.map fun p => (p.2.length, p.2))]) ⟨⟨by omega, sz1, sz2⟩, Row2S_arg (m := 0) rfl hl0 hK0 rfl rfl, fun h hx => Row2Ok_argS (m := 0) rfl hl0 hK0 rfl rfl h hx⟩) rfl hmem
  rw [show args.toList.toArray = args from by simp] at hw
  refine hw.mono fun e W' ⟨he, hb⟩ => ?_
  subst he
  have hlt : ∀ x ∈ p, x.block < W.heap.size := fun x hx => by simpa using hW'.lt x hx
  have hlen : ds.length = 1 := trod_len hA
  have hds : (Rows.fnExactShowLineSpec.fn H (ds ++ [])).args = ds ∧ (Rows.fnExactShowLineSpec.fn H (ds ++ [])).results = [.lit (.bool true)] ∧ (Rows.fnExactShowLineSpec.fn H (ds ++ [])).vars = [] := by
    match ds, hlen with
    | [_], _ => exact ⟨rfl, rfl, rfl⟩
  refine ⟨_, rfl, post_of_below (pa := p) (pv := []) hW' (fun b sp hd => ?_) (fun sp hsp => ?_) (fun _ _ => by rw [hds.2.2]; rfl) (by simp) hb (ok_one (by kernel_rfl) rfl (okWide_bool_mk (t := 4) (by kernel_rfl) _))⟩
  · rw [hds.2.1]
    exact trodAll_cons_mk (shut_bool (t := 4) (by kernel_rfl) _) trodAll_mk0
  · rw [hds.1]
    exact args_again laid (by decide +kernel) hA hb hlt hsp

set_option maxRecDepth 100000 in
theorem lifted (os : Os) (started : os.Started) (H : Type) (enc : TypeId × Value → H) :
    ReturnsInHanded {} Try.checked os 4 .any (Rows.fnExactShowLineSpec.pre6 enc Try.prog Try.f4 Rows.fnExactShowLineRow.domain false) (Rows.fnExactShowLineSpec.post enc Try.prog Try.f4 false true false false) := by
  refine returnsInHanded_of_change (C := Try.checked) own started (by kernel_rfl) Try.func4
    (ChangeSpec.witness6 (enc := enc) (C := Try.checked) false ⟨#[], #[(.agg #[.slice none 0 0, .string ⟨#[]⟩, .string ⟨#[]⟩, .bool false, .bool false])], []⟩ 8 (by kernel_rfl) (by kernel_rfl) (by kernel_rfl) (by kernel_rfl)) ?_
  intro W base args ds gs before hval hW hcnd _
  exact contract H enc W args ds gs before hval hW

theorem over : Rows.fnExactShowLineRow.holds Try.pinned (OpenSpec.ofChange Rows.fnExactShowLineSpec) :=
  OpenClaim.holds_of_wide 4 Try.f4 rfl rfl rfl rfl rfl rfl rfl ⟨rfl, rfl, rfl, rfl, rfl⟩ rfl rfl rfl rfl rfl (by kernel_rfl) Try.func4 (by kernel_rfl)
    (of_decide_eq_true (by kernel_rfl)) (by unfold Func.isWrapper; first | (rw [if_pos (by decide +kernel)]; kernel_rfl) | (rw [if_neg (by decide +kernel)]; exact ⟨rfl, rfl⟩))
    (fun os started H enc _ => lifted os started H enc)

theorem proved : Rows.FnExactShowLineSaid :=
  over
end Go.Proofs.Ytffbhimjpibocaa.fnExactShowLine
