/-
  No cell of these rows narrows 'for every input' (looked for: loops, veiled, ifaces, maps, wideKeys, modest, calm, conditions, laid).
  DERIVED. THE GIVEN ROWS OF THIS SEAT. 6 by the template 'for every input the law returns true; each argument reads behind the call as it read before'; 0 by the template 'total and deterministic' (their statements: YtgbbegbepbniiaaTotals.lean).
  GIVEN WITH THE SEED: the statements are not yours to turn. If you find one false, say at which input.
  Laid BY PROGRAM, IN A SANDBOX (cutbox-rows.mjs): the forced cells as the released guide's own fill.sh prints them over the translation 8099220c71d49dbe… (all of the seat's roots in one cut). By AI agents, Wed Nov 11 2026. No macro, syntax, notation, axiom, sorry.
-/
import Derived.Test.YtgbbegbepbniiaaChecked
import GoSem.Claim
import GoSem.ClaimJoined
import GoSem.ClaimMapViews
import Derived.JoinedTies
import Derived.KernelRfl
namespace Go.Proofs.Ytgbbegbepbniiaa
/- THE CELL 'sum', in the pinned program and in every row, IS THE sha256 OF THE DUMP (.gsa) THAT YtgbbegbepbniiaaProg.lean LOADS. Nothing in Lean hashes anything: it is a label: what it is worth is what the hold of that sum in a sandbox is worth. -/
noncomputable def Try.pinned : Pinned := { name := "ytgbbegbepbniiaa", sum := "8099220c71d49dbe56133dca4dd6401d262ebe94349d9662ffbe0b2e853b3cfe", checked := Try.checked }
namespace Rows
def none {H : Type} : Left H := { results := [], args := [] }

/-- 'laws.FnExactFaultsFifo': WHATEVER THE INPUT: true; the input reads as it did. -/
def fnExactFaultsFifoSpec : ChangeSpec := { name := "fnExactFaultsFifo", fn := fun _ => fun
  | [d1, d2] => { results := [.lit (.bool true)], args := [d1, d2] }
  | _ => none }
def fnExactFaultsFifoRow : OpenClaim := { program := "ytgbbegbepbniiaa", sum := "8099220c71d49dbe56133dca4dd6401d262ebe94349d9662ffbe0b2e853b3cfe", func := "loop.example/g00781/laws.FnExactFaultsFifo", spec := "fnExactFaultsFifo", unfollowed := true, recurses := true, apart := false }
def FnExactFaultsFifoSaid : Prop := fnExactFaultsFifoRow.holds Try.pinned (OpenSpec.ofChange fnExactFaultsFifoSpec)

/-- ITS FALSE NEIGHBOUR: 'it returns false'. Refute it at one input. -/
def fnExactFaultsFifoWrong : ChangeSpec := { name := "fnExactFaultsFifo", fn := fun _ => fun
  | [d1, d2] => { results := [.lit (.bool false)], args := [d1, d2] }
  | _ => none }
def FnExactFaultsFifoWrongFalsely : Prop := fnExactFaultsFifoRow.holds Try.pinned (OpenSpec.ofChange fnExactFaultsFifoWrong)

/-- 'laws.FnExactFaults': WHATEVER THE INPUT: true; the input reads as it did. -/
def fnExactFaultsSpec : ChangeSpec := { name := "fnExactFaults", fn := fun _ => fun
  | [d1, d2] => { results := [.lit (.bool true)], args := [d1, d2] }
  | _ => none }
def fnExactFaultsRow : OpenClaim := { program := "ytgbbegbepbniiaa", sum := "8099220c71d49dbe56133dca4dd6401d262ebe94349d9662ffbe0b2e853b3cfe", func := "loop.example/g00781/laws.FnExactFaults", spec := "fnExactFaults", unfollowed := true, recurses := true, apart := false }
def FnExactFaultsSaid : Prop := fnExactFaultsRow.holds Try.pinned (OpenSpec.ofChange fnExactFaultsSpec)

/-- ITS FALSE NEIGHBOUR: 'it returns false'. Refute it at one input. -/
def fnExactFaultsWrong : ChangeSpec := { name := "fnExactFaults", fn := fun _ => fun
  | [d1, d2] => { results := [.lit (.bool false)], args := [d1, d2] }
  | _ => none }
def FnExactFaultsWrongFalsely : Prop := fnExactFaultsRow.holds Try.pinned (OpenSpec.ofChange fnExactFaultsWrong)

/-- 'laws.FnExactFaultsBest': WHATEVER THE INPUT: true; the input reads as it did. -/
def fnExactFaultsBestSpec : ChangeSpec := { name := "fnExactFaultsBest", fn := fun _ => fun
  | [d1, d2] => { results := [.lit (.bool true)], args := [d1, d2] }
  | _ => none }
def fnExactFaultsBestRow : OpenClaim := { program := "ytgbbegbepbniiaa", sum := "8099220c71d49dbe56133dca4dd6401d262ebe94349d9662ffbe0b2e853b3cfe", func := "loop.example/g00781/laws.FnExactFaultsBest", spec := "fnExactFaultsBest", unfollowed := true, recurses := true, apart := false }
def FnExactFaultsBestSaid : Prop := fnExactFaultsBestRow.holds Try.pinned (OpenSpec.ofChange fnExactFaultsBestSpec)

/-- ITS FALSE NEIGHBOUR: 'it returns false'. Refute it at one input. -/
def fnExactFaultsBestWrong : ChangeSpec := { name := "fnExactFaultsBest", fn := fun _ => fun
  | [d1, d2] => { results := [.lit (.bool false)], args := [d1, d2] }
  | _ => none }
def FnExactFaultsBestWrongFalsely : Prop := fnExactFaultsBestRow.holds Try.pinned (OpenSpec.ofChange fnExactFaultsBestWrong)

/-- 'laws.FnFaults': WHATEVER THE INPUT: true; the input reads as it did. -/
def fnFaultsSpec : ChangeSpec := { name := "fnFaults", fn := fun _ => fun
  | [d] => { results := [.lit (.bool true)], args := [d] }
  | _ => none }
def fnFaultsRow : OpenClaim := { program := "ytgbbegbepbniiaa", sum := "8099220c71d49dbe56133dca4dd6401d262ebe94349d9662ffbe0b2e853b3cfe", func := "loop.example/g00781/laws.FnFaults", spec := "fnFaults", unfollowed := true, recurses := true, apart := false }
def FnFaultsSaid : Prop := fnFaultsRow.holds Try.pinned (OpenSpec.ofChange fnFaultsSpec)

/-- ITS FALSE NEIGHBOUR: 'it returns false'. Refute it at one input. -/
def fnFaultsWrong : ChangeSpec := { name := "fnFaults", fn := fun _ => fun
  | [d] => { results := [.lit (.bool false)], args := [d] }
  | _ => none }
def FnFaultsWrongFalsely : Prop := fnFaultsRow.holds Try.pinned (OpenSpec.ofChange fnFaultsWrong)

/-- 'laws.FnExactWorkingSet': WHATEVER THE INPUT: true; the input reads as it did. -/
def fnExactWorkingSetSpec : ChangeSpec := { name := "fnExactWorkingSet", fn := fun _ => fun
  | [d1, d2, d3] => { results := [.lit (.bool true)], args := [d1, d2, d3] }
  | _ => none }
def fnExactWorkingSetRow : OpenClaim := { program := "ytgbbegbepbniiaa", sum := "8099220c71d49dbe56133dca4dd6401d262ebe94349d9662ffbe0b2e853b3cfe", func := "loop.example/g00781/laws.FnExactWorkingSet", spec := "fnExactWorkingSet", unfollowed := true, recurses := true, apart := false }
def FnExactWorkingSetSaid : Prop := fnExactWorkingSetRow.holds Try.pinned (OpenSpec.ofChange fnExactWorkingSetSpec)

/-- ITS FALSE NEIGHBOUR: 'it returns false'. Refute it at one input. -/
def fnExactWorkingSetWrong : ChangeSpec := { name := "fnExactWorkingSet", fn := fun _ => fun
  | [d1, d2, d3] => { results := [.lit (.bool false)], args := [d1, d2, d3] }
  | _ => none }
def FnExactWorkingSetWrongFalsely : Prop := fnExactWorkingSetRow.holds Try.pinned (OpenSpec.ofChange fnExactWorkingSetWrong)

/-- 'laws.FnWorking': WHATEVER THE INPUT: true; the input reads as it did. -/
def fnWorkingSpec : ChangeSpec := { name := "fnWorking", fn := fun _ => fun
  | [d] => { results := [.lit (.bool true)], args := [d] }
  | _ => none }
def fnWorkingRow : OpenClaim := { program := "ytgbbegbepbniiaa", sum := "8099220c71d49dbe56133dca4dd6401d262ebe94349d9662ffbe0b2e853b3cfe", func := "loop.example/g00781/laws.FnWorking", spec := "fnWorking", unfollowed := true, recurses := true, apart := false }
def FnWorkingSaid : Prop := fnWorkingRow.holds Try.pinned (OpenSpec.ofChange fnWorkingSpec)

/-- ITS FALSE NEIGHBOUR: 'it returns false'. Refute it at one input. -/
def fnWorkingWrong : ChangeSpec := { name := "fnWorking", fn := fun _ => fun
  | [d] => { results := [.lit (.bool false)], args := [d] }
  | _ => none }
def FnWorkingWrongFalsely : Prop := fnWorkingRow.holds Try.pinned (OpenSpec.ofChange fnWorkingWrong)

/- THE SECOND FORM. 'bulk': how many values and letters a reading holds, each counted each time it is reached (what is shared counts as often as it is met; a slice's spare places count too). A statement '..UptoSaid' is the law's where the arguments, and the package variables that the reading takes, are together of bulk at most 1048576: NARROWER than '..Said'. Prove '..Said' where nothing that the law and all that it calls make is longer than what came in: it says more and counts as full. Else prove '..UptoSaid'. A law counts once. -/
mutual
def uptoBulk {H : Type} : DataW H → Nat
  | .lit (.string bytes) => bytes.length + 1
  | .lit _ => 1
  | .nil => 1
  | .ptr d => uptoBulk d + 1
  | .slice elems spare => uptoBulkAll elems + uptoBulkAll spare + 1
  | .agg parts => uptoBulkAll parts + 1
  | .iface _ d => uptoBulk d + 1
  | .map entries => uptoBulkEntries entries + 1
  | .held _ => 1
def uptoBulkAll {H : Type} : List (DataW H) → Nat
  | [] => 0
  | d :: r => uptoBulk d + uptoBulkAll r
def uptoBulkEntries {H : Type} : List (Lit × DataW H) → Nat
  | [] => 0
  | x :: r => uptoBulkEntry x + uptoBulkEntries r
def uptoBulkEntry {H : Type} : Lit × DataW H → Nat
  | (.string bytes, d) => bytes.length + uptoBulk d + 1
  | (_, d) => uptoBulk d + 1
 end
def uptoSmall : (H : Type) → List (DataW H) → Bool := fun _ ds => decide (uptoBulkAll ds ≤ 1048576)
def OpenSpec.upto (s : _root_.Go.ChangeSpec) : _root_.Go.OpenSpec := { _root_.Go.OpenSpec.ofChange s with cond := some uptoSmall }

/-- 'laws.FnExactFaultsFifo', WHERE WHAT IT READS IS OF BULK AT MOST 1048576: true; the input reads as it did. -/
def fnExactFaultsFifoUptoRow : OpenClaim := { program := "ytgbbegbepbniiaa", sum := "8099220c71d49dbe56133dca4dd6401d262ebe94349d9662ffbe0b2e853b3cfe", func := "loop.example/g00781/laws.FnExactFaultsFifo", spec := "fnExactFaultsFifo", unfollowed := true, recurses := true, apart := false, narrowed := true }
def FnExactFaultsFifoUptoSaid : Prop := fnExactFaultsFifoUptoRow.holds Try.pinned (OpenSpec.upto fnExactFaultsFifoSpec)

/-- 'laws.FnExactFaults', WHERE WHAT IT READS IS OF BULK AT MOST 1048576: true; the input reads as it did. -/
def fnExactFaultsUptoRow : OpenClaim := { program := "ytgbbegbepbniiaa", sum := "8099220c71d49dbe56133dca4dd6401d262ebe94349d9662ffbe0b2e853b3cfe", func := "loop.example/g00781/laws.FnExactFaults", spec := "fnExactFaults", unfollowed := true, recurses := true, apart := false, narrowed := true }
def FnExactFaultsUptoSaid : Prop := fnExactFaultsUptoRow.holds Try.pinned (OpenSpec.upto fnExactFaultsSpec)

/-- 'laws.FnExactFaultsBest', WHERE WHAT IT READS IS OF BULK AT MOST 1048576: true; the input reads as it did. -/
def fnExactFaultsBestUptoRow : OpenClaim := { program := "ytgbbegbepbniiaa", sum := "8099220c71d49dbe56133dca4dd6401d262ebe94349d9662ffbe0b2e853b3cfe", func := "loop.example/g00781/laws.FnExactFaultsBest", spec := "fnExactFaultsBest", unfollowed := true, recurses := true, apart := false, narrowed := true }
def FnExactFaultsBestUptoSaid : Prop := fnExactFaultsBestUptoRow.holds Try.pinned (OpenSpec.upto fnExactFaultsBestSpec)

/-- 'laws.FnFaults', WHERE WHAT IT READS IS OF BULK AT MOST 1048576: true; the input reads as it did. -/
def fnFaultsUptoRow : OpenClaim := { program := "ytgbbegbepbniiaa", sum := "8099220c71d49dbe56133dca4dd6401d262ebe94349d9662ffbe0b2e853b3cfe", func := "loop.example/g00781/laws.FnFaults", spec := "fnFaults", unfollowed := true, recurses := true, apart := false, narrowed := true }
def FnFaultsUptoSaid : Prop := fnFaultsUptoRow.holds Try.pinned (OpenSpec.upto fnFaultsSpec)

/-- 'laws.FnExactWorkingSet', WHERE WHAT IT READS IS OF BULK AT MOST 1048576: true; the input reads as it did. -/
def fnExactWorkingSetUptoRow : OpenClaim := { program := "ytgbbegbepbniiaa", sum := "8099220c71d49dbe56133dca4dd6401d262ebe94349d9662ffbe0b2e853b3cfe", func := "loop.example/g00781/laws.FnExactWorkingSet", spec := "fnExactWorkingSet", unfollowed := true, recurses := true, apart := false, narrowed := true }
def FnExactWorkingSetUptoSaid : Prop := fnExactWorkingSetUptoRow.holds Try.pinned (OpenSpec.upto fnExactWorkingSetSpec)

/-- 'laws.FnWorking', WHERE WHAT IT READS IS OF BULK AT MOST 1048576: true; the input reads as it did. -/
def fnWorkingUptoRow : OpenClaim := { program := "ytgbbegbepbniiaa", sum := "8099220c71d49dbe56133dca4dd6401d262ebe94349d9662ffbe0b2e853b3cfe", func := "loop.example/g00781/laws.FnWorking", spec := "fnWorking", unfollowed := true, recurses := true, apart := false, narrowed := true }
def FnWorkingUptoSaid : Prop := fnWorkingUptoRow.holds Try.pinned (OpenSpec.upto fnWorkingSpec)

end Rows
end Go.Proofs.Ytgbbegbepbniiaa
