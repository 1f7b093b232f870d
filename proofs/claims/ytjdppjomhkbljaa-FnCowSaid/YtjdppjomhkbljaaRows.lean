/-
  No cell of these rows narrows 'for every input' (looked for: loops, veiled, ifaces, maps, wideKeys, modest, calm, conditions, laid).
  DERIVED. THE GIVEN ROWS OF THIS SEAT. 10 by the template 'for every input the law returns true; each argument reads behind the call as it read before'; 0 by the template 'total and deterministic' (their statements: YtjdppjomhkbljaaTotals.lean).
  GIVEN WITH THE SEED: the statements are not yours to turn. If you find one false, say at which input.
  Laid BY PROGRAM, IN A SANDBOX (cutbox-rows.mjs): the forced cells as the released guide's own fill.sh prints them over the translation 61e9365ac98f062c… (all of the seat's roots in one cut). By AI agents, Wed Nov 11 2026. No macro, syntax, notation, axiom, sorry.
-/
import Derived.Test.YtjdppjomhkbljaaChecked
import GoSem.Claim
import GoSem.ClaimJoined
import GoSem.ClaimMapViews
import Derived.JoinedTies
import Derived.KernelRfl
namespace Go.Proofs.Ytjdppjomhkbljaa
/- THE CELL 'sum', in the pinned program and in every row, IS THE sha256 OF THE DUMP (.gsa) THAT YtjdppjomhkbljaaProg.lean LOADS. Nothing in Lean hashes anything: it is a label: what it is worth is what the hold of that sum in a sandbox is worth. -/
noncomputable def Try.pinned : Pinned := { name := "ytjdppjomhkbljaa", sum := "61e9365ac98f062c2a1fcbfdbca78eaf43971c6cb969a6cf59c0133e38e2e5c9", checked := Try.checked }
namespace Rows
def none {H : Type} : Left H := { results := [], args := [] }

/-- 'laws.FnExactCowNew': WHATEVER THE INPUT: true; the input reads as it did. -/
def fnExactCowNewSpec : ChangeSpec := { name := "fnExactCowNew", fn := fun _ => fun
  | [] => { results := [.lit (.bool true)], args := [] }
  | _ => none }
def fnExactCowNewRow : OpenClaim := { program := "ytjdppjomhkbljaa", sum := "61e9365ac98f062c2a1fcbfdbca78eaf43971c6cb969a6cf59c0133e38e2e5c9", func := "loop.example/g00781/laws.FnExactCowNew", spec := "fnExactCowNew", apart := false }
def FnExactCowNewSaid : Prop := fnExactCowNewRow.holds Try.pinned (OpenSpec.ofChange fnExactCowNewSpec)

/-- ITS FALSE NEIGHBOUR: 'it returns false'. Refute it at one input. -/
def fnExactCowNewWrong : ChangeSpec := { name := "fnExactCowNew", fn := fun _ => fun
  | [] => { results := [.lit (.bool false)], args := [] }
  | _ => none }
def FnExactCowNewWrongFalsely : Prop := fnExactCowNewRow.holds Try.pinned (OpenSpec.ofChange fnExactCowNewWrong)

/-- 'laws.FnExactCowOk': WHATEVER THE INPUT: true; the input reads as it did. -/
def fnExactCowOkSpec : ChangeSpec := { name := "fnExactCowOk", fn := fun _ => fun
  | [d] => { results := [.lit (.bool true)], args := [d] }
  | _ => none }
def fnExactCowOkRow : OpenClaim := { program := "ytjdppjomhkbljaa", sum := "61e9365ac98f062c2a1fcbfdbca78eaf43971c6cb969a6cf59c0133e38e2e5c9", func := "loop.example/g00781/laws.FnExactCowOk", spec := "fnExactCowOk", unfollowed := true, recurses := true, apart := false }
def FnExactCowOkSaid : Prop := fnExactCowOkRow.holds Try.pinned (OpenSpec.ofChange fnExactCowOkSpec)

/-- ITS FALSE NEIGHBOUR: 'it returns false'. Refute it at one input. -/
def fnExactCowOkWrong : ChangeSpec := { name := "fnExactCowOk", fn := fun _ => fun
  | [d] => { results := [.lit (.bool false)], args := [d] }
  | _ => none }
def FnExactCowOkWrongFalsely : Prop := fnExactCowOkRow.holds Try.pinned (OpenSpec.ofChange fnExactCowOkWrong)

/-- 'laws.FnExactCowUsed': WHATEVER THE INPUT: true; the input reads as it did. -/
def fnExactCowUsedSpec : ChangeSpec := { name := "fnExactCowUsed", fn := fun _ => fun
  | [d] => { results := [.lit (.bool true)], args := [d] }
  | _ => none }
def fnExactCowUsedRow : OpenClaim := { program := "ytjdppjomhkbljaa", sum := "61e9365ac98f062c2a1fcbfdbca78eaf43971c6cb969a6cf59c0133e38e2e5c9", func := "loop.example/g00781/laws.FnExactCowUsed", spec := "fnExactCowUsed", unfollowed := true, recurses := true, apart := false }
def FnExactCowUsedSaid : Prop := fnExactCowUsedRow.holds Try.pinned (OpenSpec.ofChange fnExactCowUsedSpec)

/-- ITS FALSE NEIGHBOUR: 'it returns false'. Refute it at one input. -/
def fnExactCowUsedWrong : ChangeSpec := { name := "fnExactCowUsed", fn := fun _ => fun
  | [d] => { results := [.lit (.bool false)], args := [d] }
  | _ => none }
def FnExactCowUsedWrongFalsely : Prop := fnExactCowUsedRow.holds Try.pinned (OpenSpec.ofChange fnExactCowUsedWrong)

/-- 'laws.FnExactCowRead': WHATEVER THE INPUT: true; the input reads as it did. -/
def fnExactCowReadSpec : ChangeSpec := { name := "fnExactCowRead", fn := fun _ => fun
  | [d1, d2, d3] => { results := [.lit (.bool true)], args := [d1, d2, d3] }
  | _ => none }
def fnExactCowReadRow : OpenClaim := { program := "ytjdppjomhkbljaa", sum := "61e9365ac98f062c2a1fcbfdbca78eaf43971c6cb969a6cf59c0133e38e2e5c9", func := "loop.example/g00781/laws.FnExactCowRead", spec := "fnExactCowRead", unfollowed := true, recurses := true, apart := false }
def FnExactCowReadSaid : Prop := fnExactCowReadRow.holds Try.pinned (OpenSpec.ofChange fnExactCowReadSpec)

/-- ITS FALSE NEIGHBOUR: 'it returns false'. Refute it at one input. -/
def fnExactCowReadWrong : ChangeSpec := { name := "fnExactCowRead", fn := fun _ => fun
  | [d1, d2, d3] => { results := [.lit (.bool false)], args := [d1, d2, d3] }
  | _ => none }
def FnExactCowReadWrongFalsely : Prop := fnExactCowReadRow.holds Try.pinned (OpenSpec.ofChange fnExactCowReadWrong)

/-- 'laws.FnExactCowFork': WHATEVER THE INPUT: true; the input reads as it did. -/
def fnExactCowForkSpec : ChangeSpec := { name := "fnExactCowFork", fn := fun _ => fun
  | [d1, d2, d3] => { results := [.lit (.bool true)], args := [d1, d2, d3] }
  | _ => none }
def fnExactCowForkRow : OpenClaim := { program := "ytjdppjomhkbljaa", sum := "61e9365ac98f062c2a1fcbfdbca78eaf43971c6cb969a6cf59c0133e38e2e5c9", func := "loop.example/g00781/laws.FnExactCowFork", spec := "fnExactCowFork", unfollowed := true, recurses := true, apart := false }
def FnExactCowForkSaid : Prop := fnExactCowForkRow.holds Try.pinned (OpenSpec.ofChange fnExactCowForkSpec)

/-- ITS FALSE NEIGHBOUR: 'it returns false'. Refute it at one input. -/
def fnExactCowForkWrong : ChangeSpec := { name := "fnExactCowFork", fn := fun _ => fun
  | [d1, d2, d3] => { results := [.lit (.bool false)], args := [d1, d2, d3] }
  | _ => none }
def FnExactCowForkWrongFalsely : Prop := fnExactCowForkRow.holds Try.pinned (OpenSpec.ofChange fnExactCowForkWrong)

/-- 'laws.FnExactCowFree': WHATEVER THE INPUT: true; the input reads as it did. -/
def fnExactCowFreeSpec : ChangeSpec := { name := "fnExactCowFree", fn := fun _ => fun
  | [d1, d2] => { results := [.lit (.bool true)], args := [d1, d2] }
  | _ => none }
def fnExactCowFreeRow : OpenClaim := { program := "ytjdppjomhkbljaa", sum := "61e9365ac98f062c2a1fcbfdbca78eaf43971c6cb969a6cf59c0133e38e2e5c9", func := "loop.example/g00781/laws.FnExactCowFree", spec := "fnExactCowFree", unfollowed := true, recurses := true, apart := false }
def FnExactCowFreeSaid : Prop := fnExactCowFreeRow.holds Try.pinned (OpenSpec.ofChange fnExactCowFreeSpec)

/-- ITS FALSE NEIGHBOUR: 'it returns false'. Refute it at one input. -/
def fnExactCowFreeWrong : ChangeSpec := { name := "fnExactCowFree", fn := fun _ => fun
  | [d1, d2] => { results := [.lit (.bool false)], args := [d1, d2] }
  | _ => none }
def FnExactCowFreeWrongFalsely : Prop := fnExactCowFreeRow.holds Try.pinned (OpenSpec.ofChange fnExactCowFreeWrong)

/-- 'laws.FnExactCowGrow': WHATEVER THE INPUT: true; the input reads as it did. -/
def fnExactCowGrowSpec : ChangeSpec := { name := "fnExactCowGrow", fn := fun _ => fun
  | [d1, d2] => { results := [.lit (.bool true)], args := [d1, d2] }
  | _ => none }
def fnExactCowGrowRow : OpenClaim := { program := "ytjdppjomhkbljaa", sum := "61e9365ac98f062c2a1fcbfdbca78eaf43971c6cb969a6cf59c0133e38e2e5c9", func := "loop.example/g00781/laws.FnExactCowGrow", spec := "fnExactCowGrow", unfollowed := true, recurses := true, apart := false }
def FnExactCowGrowSaid : Prop := fnExactCowGrowRow.holds Try.pinned (OpenSpec.ofChange fnExactCowGrowSpec)

/-- ITS FALSE NEIGHBOUR: 'it returns false'. Refute it at one input. -/
def fnExactCowGrowWrong : ChangeSpec := { name := "fnExactCowGrow", fn := fun _ => fun
  | [d1, d2] => { results := [.lit (.bool false)], args := [d1, d2] }
  | _ => none }
def FnExactCowGrowWrongFalsely : Prop := fnExactCowGrowRow.holds Try.pinned (OpenSpec.ofChange fnExactCowGrowWrong)

/-- 'laws.FnExactCowWrite': WHATEVER THE INPUT: true; the input reads as it did. -/
def fnExactCowWriteSpec : ChangeSpec := { name := "fnExactCowWrite", fn := fun _ => fun
  | [d1, d2, d3, d4] => { results := [.lit (.bool true)], args := [d1, d2, d3, d4] }
  | _ => none }
def fnExactCowWriteRow : OpenClaim := { program := "ytjdppjomhkbljaa", sum := "61e9365ac98f062c2a1fcbfdbca78eaf43971c6cb969a6cf59c0133e38e2e5c9", func := "loop.example/g00781/laws.FnExactCowWrite", spec := "fnExactCowWrite", unfollowed := true, recurses := true, apart := false }
def FnExactCowWriteSaid : Prop := fnExactCowWriteRow.holds Try.pinned (OpenSpec.ofChange fnExactCowWriteSpec)

/-- ITS FALSE NEIGHBOUR: 'it returns false'. Refute it at one input. -/
def fnExactCowWriteWrong : ChangeSpec := { name := "fnExactCowWrite", fn := fun _ => fun
  | [d1, d2, d3, d4] => { results := [.lit (.bool false)], args := [d1, d2, d3, d4] }
  | _ => none }
def FnExactCowWriteWrongFalsely : Prop := fnExactCowWriteRow.holds Try.pinned (OpenSpec.ofChange fnExactCowWriteWrong)

/-- 'laws.FnCow': WHATEVER THE INPUT: true; the input reads as it did. -/
def fnCowSpec : ChangeSpec := { name := "fnCow", fn := fun _ => fun
  | [d] => { results := [.lit (.bool true)], args := [d] }
  | _ => none }
def fnCowRow : OpenClaim := { program := "ytjdppjomhkbljaa", sum := "61e9365ac98f062c2a1fcbfdbca78eaf43971c6cb969a6cf59c0133e38e2e5c9", func := "loop.example/g00781/laws.FnCow", spec := "fnCow", unfollowed := true, recurses := true, apart := false }
def FnCowSaid : Prop := fnCowRow.holds Try.pinned (OpenSpec.ofChange fnCowSpec)

/-- ITS FALSE NEIGHBOUR: 'it returns false'. Refute it at one input. -/
def fnCowWrong : ChangeSpec := { name := "fnCow", fn := fun _ => fun
  | [d] => { results := [.lit (.bool false)], args := [d] }
  | _ => none }
def FnCowWrongFalsely : Prop := fnCowRow.holds Try.pinned (OpenSpec.ofChange fnCowWrong)

/-- 'laws.FnCows': WHATEVER THE INPUT: true; the input reads as it did. -/
def fnCowsSpec : ChangeSpec := { name := "fnCows", fn := fun _ => fun
  | [d] => { results := [.lit (.bool true)], args := [d] }
  | _ => none }
def fnCowsRow : OpenClaim := { program := "ytjdppjomhkbljaa", sum := "61e9365ac98f062c2a1fcbfdbca78eaf43971c6cb969a6cf59c0133e38e2e5c9", func := "loop.example/g00781/laws.FnCows", spec := "fnCows", unfollowed := true, recurses := true, apart := false }
def FnCowsSaid : Prop := fnCowsRow.holds Try.pinned (OpenSpec.ofChange fnCowsSpec)

/-- ITS FALSE NEIGHBOUR: 'it returns false'. Refute it at one input. -/
def fnCowsWrong : ChangeSpec := { name := "fnCows", fn := fun _ => fun
  | [d] => { results := [.lit (.bool false)], args := [d] }
  | _ => none }
def FnCowsWrongFalsely : Prop := fnCowsRow.holds Try.pinned (OpenSpec.ofChange fnCowsWrong)

/- THE SECOND FORM. 'bulk': how many values and letters a reading holds, each counted each time it is reached (what is shared counts as often as it is met; a slice's spare places count too). A statement '..UptoSaid' is the law's where the arguments, and the package variables that the reading takes, are together of bulk at most 1048576: NARROWER than '..Said'. Prove '..Said' where nothing that the law and all that it calls make is longer than what came in: it says more and counts as full. Else prove '..UptoSaid'. A law counts once. -/
mutual
def uptoBulk {H : Type} : DataW H → Nat
  | .lit (.string bytes) => bytes.length + 1
  | .lit _ => 1
  | .nil => 1
  | .ptr d => uptoBulk d + 1
  | .slice elems spare => uptoBulkAll elems + uptoBulkAll spare + 1
  | .agg parts => uptoBulkAll parts + 1
  | .iface _ d => uptoBulk d + 1
  | .map entries => uptoBulkEntries entries + 1
  | .held _ => 1
def uptoBulkAll {H : Type} : List (DataW H) → Nat
  | [] => 0
  | d :: r => uptoBulk d + uptoBulkAll r
def uptoBulkEntries {H : Type} : List (Lit × DataW H) → Nat
  | [] => 0
  | x :: r => uptoBulkEntry x + uptoBulkEntries r
def uptoBulkEntry {H : Type} : Lit × DataW H → Nat
  | (.string bytes, d) => bytes.length + uptoBulk d + 1
  | (_, d) => uptoBulk d + 1
 end
def uptoSmall : (H : Type) → List (DataW H) → Bool := fun _ ds => decide (uptoBulkAll ds ≤ 1048576)
def OpenSpec.upto (s : _root_.Go.ChangeSpec) : _root_.Go.OpenSpec := { _root_.Go.OpenSpec.ofChange s with cond := some uptoSmall }

/-- 'laws.FnExactCowNew', WHERE WHAT IT READS IS OF BULK AT MOST 1048576: true; the input reads as it did. -/
def fnExactCowNewUptoRow : OpenClaim := { program := "ytjdppjomhkbljaa", sum := "61e9365ac98f062c2a1fcbfdbca78eaf43971c6cb969a6cf59c0133e38e2e5c9", func := "loop.example/g00781/laws.FnExactCowNew", spec := "fnExactCowNew", apart := false, narrowed := true }
def FnExactCowNewUptoSaid : Prop := fnExactCowNewUptoRow.holds Try.pinned (OpenSpec.upto fnExactCowNewSpec)

/-- 'laws.FnExactCowOk', WHERE WHAT IT READS IS OF BULK AT MOST 1048576: true; the input reads as it did. -/
def fnExactCowOkUptoRow : OpenClaim := { program := "ytjdppjomhkbljaa", sum := "61e9365ac98f062c2a1fcbfdbca78eaf43971c6cb969a6cf59c0133e38e2e5c9", func := "loop.example/g00781/laws.FnExactCowOk", spec := "fnExactCowOk", unfollowed := true, recurses := true, apart := false, narrowed := true }
def FnExactCowOkUptoSaid : Prop := fnExactCowOkUptoRow.holds Try.pinned (OpenSpec.upto fnExactCowOkSpec)

/-- 'laws.FnExactCowUsed', WHERE WHAT IT READS IS OF BULK AT MOST 1048576: true; the input reads as it did. -/
def fnExactCowUsedUptoRow : OpenClaim := { program := "ytjdppjomhkbljaa", sum := "61e9365ac98f062c2a1fcbfdbca78eaf43971c6cb969a6cf59c0133e38e2e5c9", func := "loop.example/g00781/laws.FnExactCowUsed", spec := "fnExactCowUsed", unfollowed := true, recurses := true, apart := false, narrowed := true }
def FnExactCowUsedUptoSaid : Prop := fnExactCowUsedUptoRow.holds Try.pinned (OpenSpec.upto fnExactCowUsedSpec)

/-- 'laws.FnExactCowRead', WHERE WHAT IT READS IS OF BULK AT MOST 1048576: true; the input reads as it did. -/
def fnExactCowReadUptoRow : OpenClaim := { program := "ytjdppjomhkbljaa", sum := "61e9365ac98f062c2a1fcbfdbca78eaf43971c6cb969a6cf59c0133e38e2e5c9", func := "loop.example/g00781/laws.FnExactCowRead", spec := "fnExactCowRead", unfollowed := true, recurses := true, apart := false, narrowed := true }
def FnExactCowReadUptoSaid : Prop := fnExactCowReadUptoRow.holds Try.pinned (OpenSpec.upto fnExactCowReadSpec)

/-- 'laws.FnExactCowFork', WHERE WHAT IT READS IS OF BULK AT MOST 1048576: true; the input reads as it did. -/
def fnExactCowForkUptoRow : OpenClaim := { program := "ytjdppjomhkbljaa", sum := "61e9365ac98f062c2a1fcbfdbca78eaf43971c6cb969a6cf59c0133e38e2e5c9", func := "loop.example/g00781/laws.FnExactCowFork", spec := "fnExactCowFork", unfollowed := true, recurses := true, apart := false, narrowed := true }
def FnExactCowForkUptoSaid : Prop := fnExactCowForkUptoRow.holds Try.pinned (OpenSpec.upto fnExactCowForkSpec)

/-- 'laws.FnExactCowFree', WHERE WHAT IT READS IS OF BULK AT MOST 1048576: true; the input reads as it did. -/
def fnExactCowFreeUptoRow : OpenClaim := { program := "ytjdppjomhkbljaa", sum := "61e9365ac98f062c2a1fcbfdbca78eaf43971c6cb969a6cf59c0133e38e2e5c9", func := "loop.example/g00781/laws.FnExactCowFree", spec := "fnExactCowFree", unfollowed := true, recurses := true, apart := false, narrowed := true }
def FnExactCowFreeUptoSaid : Prop := fnExactCowFreeUptoRow.holds Try.pinned (OpenSpec.upto fnExactCowFreeSpec)

/-- 'laws.FnExactCowGrow', WHERE WHAT IT READS IS OF BULK AT MOST 1048576: true; the input reads as it did. -/
def fnExactCowGrowUptoRow : OpenClaim := { program := "ytjdppjomhkbljaa", sum := "61e9365ac98f062c2a1fcbfdbca78eaf43971c6cb969a6cf59c0133e38e2e5c9", func := "loop.example/g00781/laws.FnExactCowGrow", spec := "fnExactCowGrow", unfollowed := true, recurses := true, apart := false, narrowed := true }
def FnExactCowGrowUptoSaid : Prop := fnExactCowGrowUptoRow.holds Try.pinned (OpenSpec.upto fnExactCowGrowSpec)

/-- 'laws.FnExactCowWrite', WHERE WHAT IT READS IS OF BULK AT MOST 1048576: true; the input reads as it did. -/
def fnExactCowWriteUptoRow : OpenClaim := { program := "ytjdppjomhkbljaa", sum := "61e9365ac98f062c2a1fcbfdbca78eaf43971c6cb969a6cf59c0133e38e2e5c9", func := "loop.example/g00781/laws.FnExactCowWrite", spec := "fnExactCowWrite", unfollowed := true, recurses := true, apart := false, narrowed := true }
def FnExactCowWriteUptoSaid : Prop := fnExactCowWriteUptoRow.holds Try.pinned (OpenSpec.upto fnExactCowWriteSpec)

/-- 'laws.FnCow', WHERE WHAT IT READS IS OF BULK AT MOST 1048576: true; the input reads as it did. -/
def fnCowUptoRow : OpenClaim := { program := "ytjdppjomhkbljaa", sum := "61e9365ac98f062c2a1fcbfdbca78eaf43971c6cb969a6cf59c0133e38e2e5c9", func := "loop.example/g00781/laws.FnCow", spec := "fnCow", unfollowed := true, recurses := true, apart := false, narrowed := true }
def FnCowUptoSaid : Prop := fnCowUptoRow.holds Try.pinned (OpenSpec.upto fnCowSpec)

/-- 'laws.FnCows', WHERE WHAT IT READS IS OF BULK AT MOST 1048576: true; the input reads as it did. -/
def fnCowsUptoRow : OpenClaim := { program := "ytjdppjomhkbljaa", sum := "61e9365ac98f062c2a1fcbfdbca78eaf43971c6cb969a6cf59c0133e38e2e5c9", func := "loop.example/g00781/laws.FnCows", spec := "fnCows", unfollowed := true, recurses := true, apart := false, narrowed := true }
def FnCowsUptoSaid : Prop := fnCowsUptoRow.holds Try.pinned (OpenSpec.upto fnCowsSpec)

end Rows
end Go.Proofs.Ytjdppjomhkbljaa
