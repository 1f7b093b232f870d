/- THE LAW FnExactWheelAdd: whatever the input, it returns true. -/
import Derived.Test.YtmeedopbpdfeaaaFn14
import Derived.Test.YtmeedopbpdfeaaaEngD
import Derived.Test.YtmeedopbpdfeaaaRows
set_option linter.unusedVariables false
set_option linter.unusedSimpArgs false
set_option linter.unusedSectionVars false
namespace Go.Proofs.Ytmeedopbpdfeaaa.fnExactWheelAdd
open Go.ChangeShapes Go.WideShapes Go.ChangeAt Go.RowKit Go.Eng Go.Eng.T

theorem own : ownKnob Try.prog.godebug = none := by kernel_rfl
theorem laid : laidOutB Try.prog = true := by kernel_rfl

set_option maxRecDepth 100000 in
set_option maxHeartbeats 4000000 in
theorem contract (H : Type) (enc : TypeId × Value → H) (W : World) (args : Array Value) (ds gs : List (DataW H)) (before : List MemPlace)
    (hval : ∀ (j : Nat) t v, Try.f6.params[j]? = some t → args[j]? = some v → Value.okWide Try.prog W .any 0 t v)
    (hW : DataW.Whole enc Try.prog Try.f6.params.toList Rows.fnExactWheelAddSpec.vars false W args.toList ds gs before) :
    Calls Try.prog 6 args W fun e W' => ∃ v, e = .returned v ∧ Rows.fnExactWheelAddSpec.post enc Try.prog Try.f6 false true false false W args v W' := by
  have hW' := hW
  obtain ⟨p, q, hA, hV, rfl, hfz, hnd⟩ := hW
  obtain ⟨rfl, rfl⟩ := trodVars_none hV
  simp only [List.append_nil] at hW'
  obtain ⟨cs, acs, regs, ads, ho, hmem⟩ := args_open (P := Try.prog) (ts := Try.f6.params.toList) (sh := [.str [.k .int, .k .int, .sl 69 [.int, .int, .int]], .one (.k .int), .one (.k .int)]) (by kernel_rfl) hA fun j t v h1 h2 => hval j t v (by simpa using h1) (by simpa using h2)
  simp only [allShs, ArgS.shs, List.cons_append, List.nil_append, List.append_nil, Opn, Kd.Is] at ho
  obtain ⟨v0, cs0, _, acs0, rfl, rfl, ⟨x0, rfl, lo0, hi0⟩, _, v1, cs1, _, acs1, rfl, rfl, ⟨x1, rfl, lo1, hi1⟩, _, o2, n2, c2, L2, b2, f2, cs2, acs2, rg2, ad2, rfl, rfl, rfl, rfl, lc2, cm2, hl2, hK2, _, _, _, v3, cs3, _, acs3, rfl, rfl, ⟨x3, rfl, lo3, hi3⟩, _, v4, cs4, _, acs4, rfl, rfl, ⟨x4, rfl, lo4, hi4⟩, _, rfl, rfl, rfl, rfl⟩ := ho
  simp only [gather, List.getD_cons_zero, List.drop_succ_cons, List.drop_zero, List.take_succ_cons, List.take_zero, List.drop_nil, List.take_nil, List.length_cons, List.length_nil, Nat.zero_add, Nat.reduceAdd] at hmem
  have hw := law_calls (k := 6) (args := [.agg [.int .i64 x0, .int .i64 x1, .sl ⟨.loc 0, 0, 0, 0⟩ n2 c2], .c (.int .i64 x3), .c (.int .i64 x4)]) (M := locM [.rows false 69 3 [(n2, L2)]]) (ok_laws_FnExactWheelAdd.2 [.agg [.int .i64 x0, .int .i64 x1, .sl ⟨.loc 0, 0, 0, 0⟩ n2 c2], .c (.int .i64 x3), .c (.int .i64 x4)] (locM [.rows false 69 3 [(n2, L2)]]) ⟨⟨by omega, lc2⟩, fun h => RowOk_arg rfl hl2 hK2 h⟩) rfl hmem
  rw [show args.toList.toArray = args from by simp] at hw
  refine hw.mono fun e W' ⟨he, hb⟩ => ?_
  subst he
  have hlt : ∀ x ∈ p, x.block < W.heap.size := fun x hx => by simpa using hW'.lt x hx
  have hlen : ds.length = 3 := trod_len hA
  have hds : (Rows.fnExactWheelAddSpec.fn H (ds ++ [])).args = ds ∧ (Rows.fnExactWheelAddSpec.fn H (ds ++ [])).results = [.lit (.bool true)] ∧ (Rows.fnExactWheelAddSpec.fn H (ds ++ [])).vars = [] := by
    match ds, hlen with
    | [_, _, _], _ => exact ⟨rfl, rfl, rfl⟩
  refine ⟨_, rfl, post_of_below (pa := p) (pv := []) hW' (fun b sp hd => ?_) (fun sp hsp => ?_) (fun _ _ => by rw [hds.2.2]; rfl) (by simp) hb (ok_one (by kernel_rfl) rfl (okWide_bool_mk (t := 4) (by kernel_rfl) _))⟩
  · rw [hds.2.1]
    exact trodAll_cons_mk (shut_bool (t := 4) (by kernel_rfl) _) trodAll_mk0
  · rw [hds.1]
    exact args_again laid (by decide +kernel) hA hb hlt hsp

set_option maxRecDepth 100000 in
theorem lifted (os : Os) (started : os.Started) (H : Type) (enc : TypeId × Value → H) :
    ReturnsInHanded {} Try.checked os 6 .any (Rows.fnExactWheelAddSpec.pre6 enc Try.prog Try.f6 Rows.fnExactWheelAddRow.domain false) (Rows.fnExactWheelAddSpec.post enc Try.prog Try.f6 false true false false) := by
  refine returnsInHanded_of_change (C := Try.checked) own started (by kernel_rfl) Try.func6
    (ChangeSpec.witness6 (enc := enc) (C := Try.checked) false ⟨#[], #[(.agg #[.int .i64 0, .int .i64 0, .slice none 0 0]), .int .i64 0, .int .i64 0], []⟩ 8 (by kernel_rfl) (by kernel_rfl) (by kernel_rfl) (by kernel_rfl)) ?_
  intro W base args ds gs before hval hW hcnd _
  exact contract H enc W args ds gs before hval hW

theorem over : Rows.fnExactWheelAddRow.holds Try.pinned (OpenSpec.ofChange Rows.fnExactWheelAddSpec) :=
  OpenClaim.holds_of_wide 6 Try.f6 rfl rfl rfl rfl rfl rfl rfl ⟨rfl, rfl, rfl, rfl, rfl⟩ rfl rfl rfl rfl rfl (by kernel_rfl) Try.func6 (by kernel_rfl)
    (of_decide_eq_true (by kernel_rfl)) (by unfold Func.isWrapper; first | (rw [if_pos (by decide +kernel)]; kernel_rfl) | (rw [if_neg (by decide +kernel)]; exact ⟨rfl, rfl⟩))
    (fun os started H enc _ => lifted os started H enc)

theorem proved : Rows.FnExactWheelAddSaid :=
  over
end Go.Proofs.Ytmeedopbpdfeaaa.fnExactWheelAdd
