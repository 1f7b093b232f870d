/- THE LAW FnCow: whatever the input, it returns true. -/
import Derived.Test.YtjdppjomhkbljaaFn40
import Derived.Test.YtjdppjomhkbljaaEngD
import Derived.Test.YtjdppjomhkbljaaRows
set_option linter.unusedVariables false
set_option linter.unusedSimpArgs false
set_option linter.unusedSectionVars false
namespace Go.Proofs.Ytjdppjomhkbljaa.fnCow
open Go.ChangeShapes Go.WideShapes Go.ChangeAt Go.RowKit Go.Eng Go.Eng.T

theorem own : ownKnob Try.prog.godebug = none := by kernel_rfl
theorem laid : laidOutB Try.prog = true := by kernel_rfl

set_option maxRecDepth 100000 in
set_option maxHeartbeats 4000000 in
theorem contract (H : Type) (enc : TypeId × Value → H) (W : World) (args : Array Value) (ds gs : List (DataW H)) (before : List MemPlace)
    (hval : ∀ (j : Nat) t v, Try.f11.params[j]? = some t → args[j]? = some v → Value.okWide Try.prog W .any 0 t v)
    (hW : DataW.Whole enc Try.prog Try.f11.params.toList Rows.fnCowSpec.vars false W args.toList ds gs before) :
    Calls Try.prog 11 args W fun e W' => ∃ v, e = .returned v ∧ Rows.fnCowSpec.post enc Try.prog Try.f11 false true false false W args v W' := by
  have hW' := hW
  obtain ⟨p, q, hA, hV, rfl, hfz, hnd⟩ := hW
  obtain ⟨rfl, rfl⟩ := trodVars_none hV
  simp only [List.append_nil] at hW'
  obtain ⟨cs, acs, regs, ads, ho, hmem⟩ := args_open (P := Try.prog) (ts := Try.f11.params.toList) (sh := [.one (.sl 5 [.u8])]) (by kernel_rfl) hA fun j t v h1 h2 => hval j t v (by simpa using h1) (by simpa using h2)
  simp only [allShs, ArgS.shs, List.cons_append, List.nil_append, List.append_nil, Opn, Kd.Is] at ho
  obtain ⟨o0, n0, c0, L0, b0, f0, cs0, acs0, rg0, ad0, rfl, rfl, rfl, rfl, lc0, cm0, hl0, hK0, _, _, _, rfl, rfl, rfl, rfl⟩ := ho
  simp only [gather, List.getD_cons_zero, List.drop_succ_cons, List.drop_zero, List.take_succ_cons, List.take_zero, List.drop_nil, List.take_nil, List.length_cons, List.length_nil, Nat.zero_add, Nat.reduceAdd] at hmem
  have hw := law_calls (k := 11) (args := [.c (.sl ⟨.loc 0, 0, 0, 0⟩ n0 c0)]) (M := locM [.rows false 5 1 [(n0, L0)]]) (ok_laws_FnCow.2 [.c (.sl ⟨.loc 0, 0, 0, 0⟩ n0 c0)] (locM [.rows false 5 1 [(n0, L0)]]) ⟨by omega, fun h => RowOk_arg rfl hl0 hK0 h⟩) rfl hmem
  rw [show args.toList.toArray = args from by simp] at hw
  refine hw.mono fun e W' ⟨he, hb⟩ => ?_
  subst he
  have hlt : ∀ x ∈ p, x.block < W.heap.size := fun x hx => by simpa using hW'.lt x hx
  have hlen : ds.length = 1 := trod_len hA
  have hds : (Rows.fnCowSpec.fn H (ds ++ [])).args = ds ∧ (Rows.fnCowSpec.fn H (ds ++ [])).results = [.lit (.bool true)] ∧ (Rows.fnCowSpec.fn H (ds ++ [])).vars = [] := by
    match ds, hlen with
    | [_], _ => exact ⟨rfl, rfl, rfl⟩
  refine ⟨_, rfl, post_of_below (pa := p) (pv := []) hW' (fun b sp hd => ?_) (fun sp hsp => ?_) (fun _ _ => by rw [hds.2.2]; rfl) (by simp) hb (ok_one (by kernel_rfl) rfl (okWide_bool_mk (t := 4) (by kernel_rfl) _))⟩
  · rw [hds.2.1]
    exact trodAll_cons_mk (shut_bool (t := 4) (by kernel_rfl) _) trodAll_mk0
  · rw [hds.1]
    exact args_again laid (by decide +kernel) hA hb hlt hsp

set_option maxRecDepth 100000 in
theorem lifted (os : Os) (started : os.Started) (H : Type) (enc : TypeId × Value → H) :
    ReturnsInHanded {} Try.checked os 11 .any (Rows.fnCowSpec.pre6 enc Try.prog Try.f11 Rows.fnCowRow.domain false) (Rows.fnCowSpec.post enc Try.prog Try.f11 false true false false) := by
  refine returnsInHanded_of_change (C := Try.checked) own started (by kernel_rfl) Try.func11
    (ChangeSpec.witness6 (enc := enc) (C := Try.checked) false ⟨#[], #[.slice none 0 0], []⟩ 8 (by kernel_rfl) (by kernel_rfl) (by kernel_rfl) (by kernel_rfl)) ?_
  intro W base args ds gs before hval hW hcnd _
  exact contract H enc W args ds gs before hval hW

theorem over : Rows.fnCowRow.holds Try.pinned (OpenSpec.ofChange Rows.fnCowSpec) :=
  OpenClaim.holds_of_wide 11 Try.f11 rfl rfl rfl rfl rfl rfl rfl ⟨rfl, rfl, rfl, rfl, rfl⟩ rfl rfl rfl rfl rfl (by kernel_rfl) Try.func11 (by kernel_rfl)
    (of_decide_eq_true (by kernel_rfl)) (by unfold Func.isWrapper; first | (rw [if_pos (by decide +kernel)]; kernel_rfl) | (rw [if_neg (by decide +kernel)]; exact ⟨rfl, rfl⟩))
    (fun os started H enc _ => lifted os started H enc)

theorem proved : Rows.FnCowSaid :=
  over
end Go.Proofs.Ytjdppjomhkbljaa.fnCow
