/-
  No cell of these rows narrows 'for every input' (looked for: loops, veiled, ifaces, maps, wideKeys, modest, calm, conditions, laid).
  DERIVED. THE GIVEN ROWS OF THIS SEAT. 7 by the template 'for every input the law returns true; each argument reads behind the call as it read before'; 0 by the template 'total and deterministic' (their statements: YtfaecknkhbkiaaaTotals.lean).
  GIVEN WITH THE SEED: the statements are not yours to turn. If you find one false, say at which input.
  Laid BY PROGRAM, IN A SANDBOX (cutbox-rows.mjs): the forced cells as the released guide's own fill.sh prints them over the translation 268201fc4ce9ebc0… (all of the seat's roots in one cut). By AI agents, Wed Nov 11 2026. No macro, syntax, notation, axiom, sorry.
-/
import Derived.Test.YtfaecknkhbkiaaaChecked
import GoSem.Claim
import GoSem.ClaimJoined
import GoSem.ClaimMapViews
import Derived.JoinedTies
import Derived.KernelRfl
namespace Go.Proofs.Ytfaecknkhbkiaaa
/- THE CELL 'sum', in the pinned program and in every row, IS THE sha256 OF THE DUMP (.gsa) THAT YtfaecknkhbkiaaaProg.lean LOADS. Nothing in Lean hashes anything: it is a label: what it is worth is what the hold of that sum in a sandbox is worth. -/
noncomputable def Try.pinned : Pinned := { name := "ytfaecknkhbkiaaa", sum := "268201fc4ce9ebc0be140d32c415e9442a58f1db12b29c70f991ea4c985a1495", checked := Try.checked }
namespace Rows
def none {H : Type} : Left H := { results := [], args := [] }

/-- 'laws.FnExactMasked': WHATEVER THE INPUT: true; the input reads as it did. -/
def fnExactMaskedSpec : ChangeSpec := { name := "fnExactMasked", fn := fun _ => fun
  | [d1, d2] => { results := [.lit (.bool true)], args := [d1, d2] }
  | _ => none }
def fnExactMaskedRow : OpenClaim := { program := "ytfaecknkhbkiaaa", sum := "268201fc4ce9ebc0be140d32c415e9442a58f1db12b29c70f991ea4c985a1495", func := "loop.example/g00781/laws.FnExactMasked", spec := "fnExactMasked", apart := false }
def FnExactMaskedSaid : Prop := fnExactMaskedRow.holds Try.pinned (OpenSpec.ofChange fnExactMaskedSpec)

/-- ITS FALSE NEIGHBOUR: 'it returns false'. Refute it at one input. -/
def fnExactMaskedWrong : ChangeSpec := { name := "fnExactMasked", fn := fun _ => fun
  | [d1, d2] => { results := [.lit (.bool false)], args := [d1, d2] }
  | _ => none }
def FnExactMaskedWrongFalsely : Prop := fnExactMaskedRow.holds Try.pinned (OpenSpec.ofChange fnExactMaskedWrong)

/-- 'laws.FnExactShowMode': WHATEVER THE INPUT: true; the input reads as it did. -/
def fnExactShowModeSpec : ChangeSpec := { name := "fnExactShowMode", fn := fun _ => fun
  | [d] => { results := [.lit (.bool true)], args := [d] }
  | _ => none }
def fnExactShowModeRow : OpenClaim := { program := "ytfaecknkhbkiaaa", sum := "268201fc4ce9ebc0be140d32c415e9442a58f1db12b29c70f991ea4c985a1495", func := "loop.example/g00781/laws.FnExactShowMode", spec := "fnExactShowMode", apart := false }
def FnExactShowModeSaid : Prop := fnExactShowModeRow.holds Try.pinned (OpenSpec.ofChange fnExactShowModeSpec)

/-- ITS FALSE NEIGHBOUR: 'it returns false'. Refute it at one input. -/
def fnExactShowModeWrong : ChangeSpec := { name := "fnExactShowMode", fn := fun _ => fun
  | [d] => { results := [.lit (.bool false)], args := [d] }
  | _ => none }
def FnExactShowModeWrongFalsely : Prop := fnExactShowModeRow.holds Try.pinned (OpenSpec.ofChange fnExactShowModeWrong)

/-- 'laws.FnExactPermOk': WHATEVER THE INPUT: true; the input reads as it did. -/
def fnExactPermOkSpec : ChangeSpec := { name := "fnExactPermOk", fn := fun _ => fun
  | [d1, d2] => { results := [.lit (.bool true)], args := [d1, d2] }
  | _ => none }
def fnExactPermOkRow : OpenClaim := { program := "ytfaecknkhbkiaaa", sum := "268201fc4ce9ebc0be140d32c415e9442a58f1db12b29c70f991ea4c985a1495", func := "loop.example/g00781/laws.FnExactPermOk", spec := "fnExactPermOk", apart := false }
def FnExactPermOkSaid : Prop := fnExactPermOkRow.holds Try.pinned (OpenSpec.ofChange fnExactPermOkSpec)

/-- ITS FALSE NEIGHBOUR: 'it returns false'. Refute it at one input. -/
def fnExactPermOkWrong : ChangeSpec := { name := "fnExactPermOk", fn := fun _ => fun
  | [d1, d2] => { results := [.lit (.bool false)], args := [d1, d2] }
  | _ => none }
def FnExactPermOkWrongFalsely : Prop := fnExactPermOkRow.holds Try.pinned (OpenSpec.ofChange fnExactPermOkWrong)

/-- 'laws.FnExactChmod': WHATEVER THE INPUT: true; the input reads as it did. -/
def fnExactChmodSpec : ChangeSpec := { name := "fnExactChmod", fn := fun _ => fun
  | [d1, d2, d3] => { results := [.lit (.bool true)], args := [d1, d2, d3] }
  | _ => none }
def fnExactChmodRow : OpenClaim := { program := "ytfaecknkhbkiaaa", sum := "268201fc4ce9ebc0be140d32c415e9442a58f1db12b29c70f991ea4c985a1495", func := "loop.example/g00781/laws.FnExactChmod", spec := "fnExactChmod", apart := false }
def FnExactChmodSaid : Prop := fnExactChmodRow.holds Try.pinned (OpenSpec.ofChange fnExactChmodSpec)

/-- ITS FALSE NEIGHBOUR: 'it returns false'. Refute it at one input. -/
def fnExactChmodWrong : ChangeSpec := { name := "fnExactChmod", fn := fun _ => fun
  | [d1, d2, d3] => { results := [.lit (.bool false)], args := [d1, d2, d3] }
  | _ => none }
def FnExactChmodWrongFalsely : Prop := fnExactChmodRow.holds Try.pinned (OpenSpec.ofChange fnExactChmodWrong)

/-- 'laws.FnExactChown': WHATEVER THE INPUT: true; the input reads as it did. -/
def fnExactChownSpec : ChangeSpec := { name := "fnExactChown", fn := fun _ => fun
  | [d1, d2, d3, d4] => { results := [.lit (.bool true)], args := [d1, d2, d3, d4] }
  | _ => none }
def fnExactChownRow : OpenClaim := { program := "ytfaecknkhbkiaaa", sum := "268201fc4ce9ebc0be140d32c415e9442a58f1db12b29c70f991ea4c985a1495", func := "loop.example/g00781/laws.FnExactChown", spec := "fnExactChown", apart := false }
def FnExactChownSaid : Prop := fnExactChownRow.holds Try.pinned (OpenSpec.ofChange fnExactChownSpec)

/-- ITS FALSE NEIGHBOUR: 'it returns false'. Refute it at one input. -/
def fnExactChownWrong : ChangeSpec := { name := "fnExactChown", fn := fun _ => fun
  | [d1, d2, d3, d4] => { results := [.lit (.bool false)], args := [d1, d2, d3, d4] }
  | _ => none }
def FnExactChownWrongFalsely : Prop := fnExactChownRow.holds Try.pinned (OpenSpec.ofChange fnExactChownWrong)

/-- 'laws.FnExactMay': WHATEVER THE INPUT: true; the input reads as it did. -/
def fnExactMaySpec : ChangeSpec := { name := "fnExactMay", fn := fun _ => fun
  | [d1, d2] => { results := [.lit (.bool true)], args := [d1, d2] }
  | _ => none }
def fnExactMayRow : OpenClaim := { program := "ytfaecknkhbkiaaa", sum := "268201fc4ce9ebc0be140d32c415e9442a58f1db12b29c70f991ea4c985a1495", func := "loop.example/g00781/laws.FnExactMay", spec := "fnExactMay", apart := false }
def FnExactMaySaid : Prop := fnExactMayRow.holds Try.pinned (OpenSpec.ofChange fnExactMaySpec)

/-- ITS FALSE NEIGHBOUR: 'it returns false'. Refute it at one input. -/
def fnExactMayWrong : ChangeSpec := { name := "fnExactMay", fn := fun _ => fun
  | [d1, d2] => { results := [.lit (.bool false)], args := [d1, d2] }
  | _ => none }
def FnExactMayWrongFalsely : Prop := fnExactMayRow.holds Try.pinned (OpenSpec.ofChange fnExactMayWrong)

/-- 'laws.FnPerm': WHATEVER THE INPUT: true; the input reads as it did. -/
def fnPermSpec : ChangeSpec := { name := "fnPerm", fn := fun _ => fun
  | [d] => { results := [.lit (.bool true)], args := [d] }
  | _ => none }
def fnPermRow : OpenClaim := { program := "ytfaecknkhbkiaaa", sum := "268201fc4ce9ebc0be140d32c415e9442a58f1db12b29c70f991ea4c985a1495", func := "loop.example/g00781/laws.FnPerm", spec := "fnPerm", apart := false }
def FnPermSaid : Prop := fnPermRow.holds Try.pinned (OpenSpec.ofChange fnPermSpec)

/-- ITS FALSE NEIGHBOUR: 'it returns false'. Refute it at one input. -/
def fnPermWrong : ChangeSpec := { name := "fnPerm", fn := fun _ => fun
  | [d] => { results := [.lit (.bool false)], args := [d] }
  | _ => none }
def FnPermWrongFalsely : Prop := fnPermRow.holds Try.pinned (OpenSpec.ofChange fnPermWrong)

/- THE SECOND FORM. 'bulk': how many values and letters a reading holds, each counted each time it is reached (what is shared counts as often as it is met; a slice's spare places count too). A statement '..UptoSaid' is the law's where the arguments, and the package variables that the reading takes, are together of bulk at most 1048576: NARROWER than '..Said'. Prove '..Said' where nothing that the law and all that it calls make is longer than what came in: it says more and counts as full. Else prove '..UptoSaid'. A law counts once. -/
mutual
def uptoBulk {H : Type} : DataW H → Nat
  | .lit (.string bytes) => bytes.length + 1
  | .lit _ => 1
  | .nil => 1
  | .ptr d => uptoBulk d + 1
  | .slice elems spare => uptoBulkAll elems + uptoBulkAll spare + 1
  | .agg parts => uptoBulkAll parts + 1
  | .iface _ d => uptoBulk d + 1
  | .map entries => uptoBulkEntries entries + 1
  | .held _ => 1
def uptoBulkAll {H : Type} : List (DataW H) → Nat
  | [] => 0
  | d :: r => uptoBulk d + uptoBulkAll r
def uptoBulkEntries {H : Type} : List (Lit × DataW H) → Nat
  | [] => 0
  | x :: r => uptoBulkEntry x + uptoBulkEntries r
def uptoBulkEntry {H : Type} : Lit × DataW H → Nat
  | (.string bytes, d) => bytes.length + uptoBulk d + 1
  | (_, d) => uptoBulk d + 1
 end
def uptoSmall : (H : Type) → List (DataW H) → Bool := fun _ ds => decide (uptoBulkAll ds ≤ 1048576)
def OpenSpec.upto (s : _root_.Go.ChangeSpec) : _root_.Go.OpenSpec := { _root_.Go.OpenSpec.ofChange s with cond := some uptoSmall }

/-- 'laws.FnExactMasked', WHERE WHAT IT READS IS OF BULK AT MOST 1048576: true; the input reads as it did. -/
def fnExactMaskedUptoRow : OpenClaim := { program := "ytfaecknkhbkiaaa", sum := "268201fc4ce9ebc0be140d32c415e9442a58f1db12b29c70f991ea4c985a1495", func := "loop.example/g00781/laws.FnExactMasked", spec := "fnExactMasked", apart := false, narrowed := true }
def FnExactMaskedUptoSaid : Prop := fnExactMaskedUptoRow.holds Try.pinned (OpenSpec.upto fnExactMaskedSpec)

/-- 'laws.FnExactShowMode', WHERE WHAT IT READS IS OF BULK AT MOST 1048576: true; the input reads as it did. -/
def fnExactShowModeUptoRow : OpenClaim := { program := "ytfaecknkhbkiaaa", sum := "268201fc4ce9ebc0be140d32c415e9442a58f1db12b29c70f991ea4c985a1495", func := "loop.example/g00781/laws.FnExactShowMode", spec := "fnExactShowMode", apart := false, narrowed := true }
def FnExactShowModeUptoSaid : Prop := fnExactShowModeUptoRow.holds Try.pinned (OpenSpec.upto fnExactShowModeSpec)

/-- 'laws.FnExactPermOk', WHERE WHAT IT READS IS OF BULK AT MOST 1048576: true; the input reads as it did. -/
def fnExactPermOkUptoRow : OpenClaim := { program := "ytfaecknkhbkiaaa", sum := "268201fc4ce9ebc0be140d32c415e9442a58f1db12b29c70f991ea4c985a1495", func := "loop.example/g00781/laws.FnExactPermOk", spec := "fnExactPermOk", apart := false, narrowed := true }
def FnExactPermOkUptoSaid : Prop := fnExactPermOkUptoRow.holds Try.pinned (OpenSpec.upto fnExactPermOkSpec)

/-- 'laws.FnExactChmod', WHERE WHAT IT READS IS OF BULK AT MOST 1048576: true; the input reads as it did. -/
def fnExactChmodUptoRow : OpenClaim := { program := "ytfaecknkhbkiaaa", sum := "268201fc4ce9ebc0be140d32c415e9442a58f1db12b29c70f991ea4c985a1495", func := "loop.example/g00781/laws.FnExactChmod", spec := "fnExactChmod", apart := false, narrowed := true }
def FnExactChmodUptoSaid : Prop := fnExactChmodUptoRow.holds Try.pinned (OpenSpec.upto fnExactChmodSpec)

/-- 'laws.FnExactChown', WHERE WHAT IT READS IS OF BULK AT MOST 1048576: true; the input reads as it did. -/
def fnExactChownUptoRow : OpenClaim := { program := "ytfaecknkhbkiaaa", sum := "268201fc4ce9ebc0be140d32c415e9442a58f1db12b29c70f991ea4c985a1495", func := "loop.example/g00781/laws.FnExactChown", spec := "fnExactChown", apart := false, narrowed := true }
def FnExactChownUptoSaid : Prop := fnExactChownUptoRow.holds Try.pinned (OpenSpec.upto fnExactChownSpec)

/-- 'laws.FnExactMay', WHERE WHAT IT READS IS OF BULK AT MOST 1048576: true; the input reads as it did. -/
def fnExactMayUptoRow : OpenClaim := { program := "ytfaecknkhbkiaaa", sum := "268201fc4ce9ebc0be140d32c415e9442a58f1db12b29c70f991ea4c985a1495", func := "loop.example/g00781/laws.FnExactMay", spec := "fnExactMay", apart := false, narrowed := true }
def FnExactMayUptoSaid : Prop := fnExactMayUptoRow.holds Try.pinned (OpenSpec.upto fnExactMaySpec)

/-- 'laws.FnPerm', WHERE WHAT IT READS IS OF BULK AT MOST 1048576: true; the input reads as it did. -/
def fnPermUptoRow : OpenClaim := { program := "ytfaecknkhbkiaaa", sum := "268201fc4ce9ebc0be140d32c415e9442a58f1db12b29c70f991ea4c985a1495", func := "loop.example/g00781/laws.FnPerm", spec := "fnPerm", apart := false, narrowed := true }
def FnPermUptoSaid : Prop := fnPermUptoRow.holds Try.pinned (OpenSpec.upto fnPermSpec)

end Rows
end Go.Proofs.Ytfaecknkhbkiaaa
