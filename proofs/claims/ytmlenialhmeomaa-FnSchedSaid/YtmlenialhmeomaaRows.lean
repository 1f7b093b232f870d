/-
  No cell of these rows narrows 'for every input' (looked for: loops, veiled, ifaces, maps, wideKeys, modest, calm, conditions, laid).
  DERIVED. THE GIVEN ROWS OF THIS SEAT. 6 by the template 'for every input the law returns true; each argument reads behind the call as it read before'; 0 by the template 'total and deterministic' (their statements: YtmlenialhmeomaaTotals.lean).
  GIVEN WITH THE SEED: the statements are not yours to turn. If you find one false, say at which input.
  Laid BY PROGRAM, IN A SANDBOX (cutbox-rows.mjs): the forced cells as the released guide's own fill.sh prints them over the translation f8f2f919b7355a31… (all of the seat's roots in one cut). By AI agents, Wed Nov 11 2026. No macro, syntax, notation, axiom, sorry.
-/
import Derived.Test.YtmlenialhmeomaaChecked
import GoSem.Claim
import GoSem.ClaimJoined
import GoSem.ClaimMapViews
import Derived.JoinedTies
import Derived.KernelRfl
namespace Go.Proofs.Ytmlenialhmeomaa
/- THE CELL 'sum', in the pinned program and in every row, IS THE sha256 OF THE DUMP (.gsa) THAT YtmlenialhmeomaaProg.lean LOADS. Nothing in Lean hashes anything: it is a label: what it is worth is what the hold of that sum in a sandbox is worth. -/
noncomputable def Try.pinned : Pinned := { name := "ytmlenialhmeomaa", sum := "f8f2f919b7355a31ec5522494ebcf3a64721d9f238d513f727358fc4c44f4ce9", checked := Try.checked }
namespace Rows
def none {H : Type} : Left H := { results := [], args := [] }

/-- 'laws.FnExactSchedOk': WHATEVER THE INPUT: true; the input reads as it did. -/
def fnExactSchedOkSpec : ChangeSpec := { name := "fnExactSchedOk", fn := fun _ => fun
  | [d] => { results := [.lit (.bool true)], args := [d] }
  | _ => none }
def fnExactSchedOkRow : OpenClaim := { program := "ytmlenialhmeomaa", sum := "f8f2f919b7355a31ec5522494ebcf3a64721d9f238d513f727358fc4c44f4ce9", func := "loop.example/g00781/laws.FnExactSchedOk", spec := "fnExactSchedOk", apart := false }
def FnExactSchedOkSaid : Prop := fnExactSchedOkRow.holds Try.pinned (OpenSpec.ofChange fnExactSchedOkSpec)

/-- ITS FALSE NEIGHBOUR: 'it returns false'. Refute it at one input. -/
def fnExactSchedOkWrong : ChangeSpec := { name := "fnExactSchedOk", fn := fun _ => fun
  | [d] => { results := [.lit (.bool false)], args := [d] }
  | _ => none }
def FnExactSchedOkWrongFalsely : Prop := fnExactSchedOkRow.holds Try.pinned (OpenSpec.ofChange fnExactSchedOkWrong)

/-- 'laws.FnExactSchedBound': WHATEVER THE INPUT: true; the input reads as it did. -/
def fnExactSchedBoundSpec : ChangeSpec := { name := "fnExactSchedBound", fn := fun _ => fun
  | [d] => { results := [.lit (.bool true)], args := [d] }
  | _ => none }
def fnExactSchedBoundRow : OpenClaim := { program := "ytmlenialhmeomaa", sum := "f8f2f919b7355a31ec5522494ebcf3a64721d9f238d513f727358fc4c44f4ce9", func := "loop.example/g00781/laws.FnExactSchedBound", spec := "fnExactSchedBound", apart := false }
def FnExactSchedBoundSaid : Prop := fnExactSchedBoundRow.holds Try.pinned (OpenSpec.ofChange fnExactSchedBoundSpec)

/-- ITS FALSE NEIGHBOUR: 'it returns false'. Refute it at one input. -/
def fnExactSchedBoundWrong : ChangeSpec := { name := "fnExactSchedBound", fn := fun _ => fun
  | [d] => { results := [.lit (.bool false)], args := [d] }
  | _ => none }
def FnExactSchedBoundWrongFalsely : Prop := fnExactSchedBoundRow.holds Try.pinned (OpenSpec.ofChange fnExactSchedBoundWrong)

/-- 'laws.FnExactSchedNext': WHATEVER THE INPUT: true; the input reads as it did. -/
def fnExactSchedNextSpec : ChangeSpec := { name := "fnExactSchedNext", fn := fun _ => fun
  | [d] => { results := [.lit (.bool true)], args := [d] }
  | _ => none }
def fnExactSchedNextRow : OpenClaim := { program := "ytmlenialhmeomaa", sum := "f8f2f919b7355a31ec5522494ebcf3a64721d9f238d513f727358fc4c44f4ce9", func := "loop.example/g00781/laws.FnExactSchedNext", spec := "fnExactSchedNext", apart := false }
def FnExactSchedNextSaid : Prop := fnExactSchedNextRow.holds Try.pinned (OpenSpec.ofChange fnExactSchedNextSpec)

/-- ITS FALSE NEIGHBOUR: 'it returns false'. Refute it at one input. -/
def fnExactSchedNextWrong : ChangeSpec := { name := "fnExactSchedNext", fn := fun _ => fun
  | [d] => { results := [.lit (.bool false)], args := [d] }
  | _ => none }
def FnExactSchedNextWrongFalsely : Prop := fnExactSchedNextRow.holds Try.pinned (OpenSpec.ofChange fnExactSchedNextWrong)

/-- 'laws.FnExactSchedDrop': WHATEVER THE INPUT: true; the input reads as it did. -/
def fnExactSchedDropSpec : ChangeSpec := { name := "fnExactSchedDrop", fn := fun _ => fun
  | [d1, d2] => { results := [.lit (.bool true)], args := [d1, d2] }
  | _ => none }
def fnExactSchedDropRow : OpenClaim := { program := "ytmlenialhmeomaa", sum := "f8f2f919b7355a31ec5522494ebcf3a64721d9f238d513f727358fc4c44f4ce9", func := "loop.example/g00781/laws.FnExactSchedDrop", spec := "fnExactSchedDrop", unfollowed := true, recurses := true, apart := false }
def FnExactSchedDropSaid : Prop := fnExactSchedDropRow.holds Try.pinned (OpenSpec.ofChange fnExactSchedDropSpec)

/-- ITS FALSE NEIGHBOUR: 'it returns false'. Refute it at one input. -/
def fnExactSchedDropWrong : ChangeSpec := { name := "fnExactSchedDrop", fn := fun _ => fun
  | [d1, d2] => { results := [.lit (.bool false)], args := [d1, d2] }
  | _ => none }
def FnExactSchedDropWrongFalsely : Prop := fnExactSchedDropRow.holds Try.pinned (OpenSpec.ofChange fnExactSchedDropWrong)

/-- 'laws.FnExactSchedAdd': WHATEVER THE INPUT: true; the input reads as it did. -/
def fnExactSchedAddSpec : ChangeSpec := { name := "fnExactSchedAdd", fn := fun _ => fun
  | [d1, d2, d3] => { results := [.lit (.bool true)], args := [d1, d2, d3] }
  | _ => none }
def fnExactSchedAddRow : OpenClaim := { program := "ytmlenialhmeomaa", sum := "f8f2f919b7355a31ec5522494ebcf3a64721d9f238d513f727358fc4c44f4ce9", func := "loop.example/g00781/laws.FnExactSchedAdd", spec := "fnExactSchedAdd", inPlace := ["slices.overlaps[loop.example/g00781/impl.STask]"], unfollowed := true, recurses := true, apart := false }
def FnExactSchedAddSaid : Prop := fnExactSchedAddRow.holds Try.pinned (OpenSpec.ofChange fnExactSchedAddSpec)

/-- ITS FALSE NEIGHBOUR: 'it returns false'. Refute it at one input. -/
def fnExactSchedAddWrong : ChangeSpec := { name := "fnExactSchedAdd", fn := fun _ => fun
  | [d1, d2, d3] => { results := [.lit (.bool false)], args := [d1, d2, d3] }
  | _ => none }
def FnExactSchedAddWrongFalsely : Prop := fnExactSchedAddRow.holds Try.pinned (OpenSpec.ofChange fnExactSchedAddWrong)

/-- 'laws.FnSched': WHATEVER THE INPUT: true; the input reads as it did. -/
def fnSchedSpec : ChangeSpec := { name := "fnSched", fn := fun _ => fun
  | [d] => { results := [.lit (.bool true)], args := [d] }
  | _ => none }
def fnSchedRow : OpenClaim := { program := "ytmlenialhmeomaa", sum := "f8f2f919b7355a31ec5522494ebcf3a64721d9f238d513f727358fc4c44f4ce9", func := "loop.example/g00781/laws.FnSched", spec := "fnSched", inPlace := ["slices.overlaps[loop.example/g00781/impl.STask]"], unfollowed := true, recurses := true, apart := false }
def FnSchedSaid : Prop := fnSchedRow.holds Try.pinned (OpenSpec.ofChange fnSchedSpec)

/-- ITS FALSE NEIGHBOUR: 'it returns false'. Refute it at one input. -/
def fnSchedWrong : ChangeSpec := { name := "fnSched", fn := fun _ => fun
  | [d] => { results := [.lit (.bool false)], args := [d] }
  | _ => none }
def FnSchedWrongFalsely : Prop := fnSchedRow.holds Try.pinned (OpenSpec.ofChange fnSchedWrong)

/- THE SECOND FORM. 'bulk': how many values and letters a reading holds, each counted each time it is reached (what is shared counts as often as it is met; a slice's spare places count too). A statement '..UptoSaid' is the law's where the arguments, and the package variables that the reading takes, are together of bulk at most 1048576: NARROWER than '..Said'. Prove '..Said' where nothing that the law and all that it calls make is longer than what came in: it says more and counts as full. Else prove '..UptoSaid'. A law counts once. -/
mutual
def uptoBulk {H : Type} : DataW H → Nat
  | .lit (.string bytes) => bytes.length + 1
  | .lit _ => 1
  | .nil => 1
  | .ptr d => uptoBulk d + 1
  | .slice elems spare => uptoBulkAll elems + uptoBulkAll spare + 1
  | .agg parts => uptoBulkAll parts + 1
  | .iface _ d => uptoBulk d + 1
  | .map entries => uptoBulkEntries entries + 1
  | .held _ => 1
def uptoBulkAll {H : Type} : List (DataW H) → Nat
  | [] => 0
  | d :: r => uptoBulk d + uptoBulkAll r
def uptoBulkEntries {H : Type} : List (Lit × DataW H) → Nat
  | [] => 0
  | x :: r => uptoBulkEntry x + uptoBulkEntries r
def uptoBulkEntry {H : Type} : Lit × DataW H → Nat
  | (.string bytes, d) => bytes.length + uptoBulk d + 1
  | (_, d) => uptoBulk d + 1
 end
def uptoSmall : (H : Type) → List (DataW H) → Bool := fun _ ds => decide (uptoBulkAll ds ≤ 1048576)
def OpenSpec.upto (s : _root_.Go.ChangeSpec) : _root_.Go.OpenSpec := { _root_.Go.OpenSpec.ofChange s with cond := some uptoSmall }

/-- 'laws.FnExactSchedOk', WHERE WHAT IT READS IS OF BULK AT MOST 1048576: true; the input reads as it did. -/
def fnExactSchedOkUptoRow : OpenClaim := { program := "ytmlenialhmeomaa", sum := "f8f2f919b7355a31ec5522494ebcf3a64721d9f238d513f727358fc4c44f4ce9", func := "loop.example/g00781/laws.FnExactSchedOk", spec := "fnExactSchedOk", apart := false, narrowed := true }
def FnExactSchedOkUptoSaid : Prop := fnExactSchedOkUptoRow.holds Try.pinned (OpenSpec.upto fnExactSchedOkSpec)

/-- 'laws.FnExactSchedBound', WHERE WHAT IT READS IS OF BULK AT MOST 1048576: true; the input reads as it did. -/
def fnExactSchedBoundUptoRow : OpenClaim := { program := "ytmlenialhmeomaa", sum := "f8f2f919b7355a31ec5522494ebcf3a64721d9f238d513f727358fc4c44f4ce9", func := "loop.example/g00781/laws.FnExactSchedBound", spec := "fnExactSchedBound", apart := false, narrowed := true }
def FnExactSchedBoundUptoSaid : Prop := fnExactSchedBoundUptoRow.holds Try.pinned (OpenSpec.upto fnExactSchedBoundSpec)

/-- 'laws.FnExactSchedNext', WHERE WHAT IT READS IS OF BULK AT MOST 1048576: true; the input reads as it did. -/
def fnExactSchedNextUptoRow : OpenClaim := { program := "ytmlenialhmeomaa", sum := "f8f2f919b7355a31ec5522494ebcf3a64721d9f238d513f727358fc4c44f4ce9", func := "loop.example/g00781/laws.FnExactSchedNext", spec := "fnExactSchedNext", apart := false, narrowed := true }
def FnExactSchedNextUptoSaid : Prop := fnExactSchedNextUptoRow.holds Try.pinned (OpenSpec.upto fnExactSchedNextSpec)

/-- 'laws.FnExactSchedDrop', WHERE WHAT IT READS IS OF BULK AT MOST 1048576: true; the input reads as it did. -/
def fnExactSchedDropUptoRow : OpenClaim := { program := "ytmlenialhmeomaa", sum := "f8f2f919b7355a31ec5522494ebcf3a64721d9f238d513f727358fc4c44f4ce9", func := "loop.example/g00781/laws.FnExactSchedDrop", spec := "fnExactSchedDrop", unfollowed := true, recurses := true, apart := false, narrowed := true }
def FnExactSchedDropUptoSaid : Prop := fnExactSchedDropUptoRow.holds Try.pinned (OpenSpec.upto fnExactSchedDropSpec)

/-- 'laws.FnExactSchedAdd', WHERE WHAT IT READS IS OF BULK AT MOST 1048576: true; the input reads as it did. -/
def fnExactSchedAddUptoRow : OpenClaim := { program := "ytmlenialhmeomaa", sum := "f8f2f919b7355a31ec5522494ebcf3a64721d9f238d513f727358fc4c44f4ce9", func := "loop.example/g00781/laws.FnExactSchedAdd", spec := "fnExactSchedAdd", inPlace := ["slices.overlaps[loop.example/g00781/impl.STask]"], unfollowed := true, recurses := true, apart := false, narrowed := true }
def FnExactSchedAddUptoSaid : Prop := fnExactSchedAddUptoRow.holds Try.pinned (OpenSpec.upto fnExactSchedAddSpec)

/-- 'laws.FnSched', WHERE WHAT IT READS IS OF BULK AT MOST 1048576: true; the input reads as it did. -/
def fnSchedUptoRow : OpenClaim := { program := "ytmlenialhmeomaa", sum := "f8f2f919b7355a31ec5522494ebcf3a64721d9f238d513f727358fc4c44f4ce9", func := "loop.example/g00781/laws.FnSched", spec := "fnSched", inPlace := ["slices.overlaps[loop.example/g00781/impl.STask]"], unfollowed := true, recurses := true, apart := false, narrowed := true }
def FnSchedUptoSaid : Prop := fnSchedUptoRow.holds Try.pinned (OpenSpec.upto fnSchedSpec)

end Rows
end Go.Proofs.Ytmlenialhmeomaa
