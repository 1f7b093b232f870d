/-
  No cell of these rows narrows 'for every input' (looked for: loops, veiled, ifaces, maps, wideKeys, modest, calm, conditions, laid).
  DERIVED. THE GIVEN ROWS OF THIS SEAT. 7 by the template 'for every input the law returns true; each argument reads behind the call as it read before'; 0 by the template 'total and deterministic' (their statements: YtmeedopbpdfeaaaTotals.lean).
  GIVEN WITH THE SEED: the statements are not yours to turn. If you find one false, say at which input.
  Laid BY PROGRAM, IN A SANDBOX (cutbox-rows.mjs): the forced cells as the released guide's own fill.sh prints them over the translation e959d44edbc0e9d6… (all of the seat's roots in one cut). By AI agents, Wed Nov 11 2026. No macro, syntax, notation, axiom, sorry.
-/
import Derived.Test.YtmeedopbpdfeaaaChecked
import GoSem.Claim
import GoSem.ClaimJoined
import GoSem.ClaimMapViews
import Derived.JoinedTies
import Derived.KernelRfl
namespace Go.Proofs.Ytmeedopbpdfeaaa
/- THE CELL 'sum', in the pinned program and in every row, IS THE sha256 OF THE DUMP (.gsa) THAT YtmeedopbpdfeaaaProg.lean LOADS. Nothing in Lean hashes anything: it is a label: what it is worth is what the hold of that sum in a sandbox is worth. -/
noncomputable def Try.pinned : Pinned := { name := "ytmeedopbpdfeaaa", sum := "e959d44edbc0e9d638f01c2ac6c93fc8ea511d48da40933345db0c22a65fc64e", checked := Try.checked }
namespace Rows
def none {H : Type} : Left H := { results := [], args := [] }

/-- 'laws.FnExactWheelOk': WHATEVER THE INPUT: true; the input reads as it did. -/
def fnExactWheelOkSpec : ChangeSpec := { name := "fnExactWheelOk", fn := fun _ => fun
  | [d] => { results := [.lit (.bool true)], args := [d] }
  | _ => none }
def fnExactWheelOkRow : OpenClaim := { program := "ytmeedopbpdfeaaa", sum := "e959d44edbc0e9d638f01c2ac6c93fc8ea511d48da40933345db0c22a65fc64e", func := "loop.example/g00781/laws.FnExactWheelOk", spec := "fnExactWheelOk", unfollowed := true, recurses := true, apart := false }
def FnExactWheelOkSaid : Prop := fnExactWheelOkRow.holds Try.pinned (OpenSpec.ofChange fnExactWheelOkSpec)

/-- ITS FALSE NEIGHBOUR: 'it returns false'. Refute it at one input. -/
def fnExactWheelOkWrong : ChangeSpec := { name := "fnExactWheelOk", fn := fun _ => fun
  | [d] => { results := [.lit (.bool false)], args := [d] }
  | _ => none }
def FnExactWheelOkWrongFalsely : Prop := fnExactWheelOkRow.holds Try.pinned (OpenSpec.ofChange fnExactWheelOkWrong)

/-- 'laws.FnExactWheelLeft': WHATEVER THE INPUT: true; the input reads as it did. -/
def fnExactWheelLeftSpec : ChangeSpec := { name := "fnExactWheelLeft", fn := fun _ => fun
  | [d1, d2] => { results := [.lit (.bool true)], args := [d1, d2] }
  | _ => none }
def fnExactWheelLeftRow : OpenClaim := { program := "ytmeedopbpdfeaaa", sum := "e959d44edbc0e9d638f01c2ac6c93fc8ea511d48da40933345db0c22a65fc64e", func := "loop.example/g00781/laws.FnExactWheelLeft", spec := "fnExactWheelLeft", unfollowed := true, recurses := true, apart := false }
def FnExactWheelLeftSaid : Prop := fnExactWheelLeftRow.holds Try.pinned (OpenSpec.ofChange fnExactWheelLeftSpec)

/-- ITS FALSE NEIGHBOUR: 'it returns false'. Refute it at one input. -/
def fnExactWheelLeftWrong : ChangeSpec := { name := "fnExactWheelLeft", fn := fun _ => fun
  | [d1, d2] => { results := [.lit (.bool false)], args := [d1, d2] }
  | _ => none }
def FnExactWheelLeftWrongFalsely : Prop := fnExactWheelLeftRow.holds Try.pinned (OpenSpec.ofChange fnExactWheelLeftWrong)

/-- 'laws.FnExactWheelDrop': WHATEVER THE INPUT: true; the input reads as it did. -/
def fnExactWheelDropSpec : ChangeSpec := { name := "fnExactWheelDrop", fn := fun _ => fun
  | [d1, d2] => { results := [.lit (.bool true)], args := [d1, d2] }
  | _ => none }
def fnExactWheelDropRow : OpenClaim := { program := "ytmeedopbpdfeaaa", sum := "e959d44edbc0e9d638f01c2ac6c93fc8ea511d48da40933345db0c22a65fc64e", func := "loop.example/g00781/laws.FnExactWheelDrop", spec := "fnExactWheelDrop", unfollowed := true, recurses := true, apart := false }
def FnExactWheelDropSaid : Prop := fnExactWheelDropRow.holds Try.pinned (OpenSpec.ofChange fnExactWheelDropSpec)

/-- ITS FALSE NEIGHBOUR: 'it returns false'. Refute it at one input. -/
def fnExactWheelDropWrong : ChangeSpec := { name := "fnExactWheelDrop", fn := fun _ => fun
  | [d1, d2] => { results := [.lit (.bool false)], args := [d1, d2] }
  | _ => none }
def FnExactWheelDropWrongFalsely : Prop := fnExactWheelDropRow.holds Try.pinned (OpenSpec.ofChange fnExactWheelDropWrong)

/-- 'laws.FnExactWheelAdd': WHATEVER THE INPUT: true; the input reads as it did. -/
def fnExactWheelAddSpec : ChangeSpec := { name := "fnExactWheelAdd", fn := fun _ => fun
  | [d1, d2, d3] => { results := [.lit (.bool true)], args := [d1, d2, d3] }
  | _ => none }
def fnExactWheelAddRow : OpenClaim := { program := "ytmeedopbpdfeaaa", sum := "e959d44edbc0e9d638f01c2ac6c93fc8ea511d48da40933345db0c22a65fc64e", func := "loop.example/g00781/laws.FnExactWheelAdd", spec := "fnExactWheelAdd", unfollowed := true, recurses := true, apart := false }
def FnExactWheelAddSaid : Prop := fnExactWheelAddRow.holds Try.pinned (OpenSpec.ofChange fnExactWheelAddSpec)

/-- ITS FALSE NEIGHBOUR: 'it returns false'. Refute it at one input. -/
def fnExactWheelAddWrong : ChangeSpec := { name := "fnExactWheelAdd", fn := fun _ => fun
  | [d1, d2, d3] => { results := [.lit (.bool false)], args := [d1, d2, d3] }
  | _ => none }
def FnExactWheelAddWrongFalsely : Prop := fnExactWheelAddRow.holds Try.pinned (OpenSpec.ofChange fnExactWheelAddWrong)

/-- 'laws.FnExactWheelGo': WHATEVER THE INPUT: true; the input reads as it did. -/
def fnExactWheelGoSpec : ChangeSpec := { name := "fnExactWheelGo", fn := fun _ => fun
  | [d1, d2] => { results := [.lit (.bool true)], args := [d1, d2] }
  | _ => none }
def fnExactWheelGoRow : OpenClaim := { program := "ytmeedopbpdfeaaa", sum := "e959d44edbc0e9d638f01c2ac6c93fc8ea511d48da40933345db0c22a65fc64e", func := "loop.example/g00781/laws.FnExactWheelGo", spec := "fnExactWheelGo", unfollowed := true, recurses := true, apart := false }
def FnExactWheelGoSaid : Prop := fnExactWheelGoRow.holds Try.pinned (OpenSpec.ofChange fnExactWheelGoSpec)

/-- ITS FALSE NEIGHBOUR: 'it returns false'. Refute it at one input. -/
def fnExactWheelGoWrong : ChangeSpec := { name := "fnExactWheelGo", fn := fun _ => fun
  | [d1, d2] => { results := [.lit (.bool false)], args := [d1, d2] }
  | _ => none }
def FnExactWheelGoWrongFalsely : Prop := fnExactWheelGoRow.holds Try.pinned (OpenSpec.ofChange fnExactWheelGoWrong)

/-- 'laws.FnWheels': WHATEVER THE INPUT: true; the input reads as it did. -/
def fnWheelsSpec : ChangeSpec := { name := "fnWheels", fn := fun _ => fun
  | [d] => { results := [.lit (.bool true)], args := [d] }
  | _ => none }
def fnWheelsRow : OpenClaim := { program := "ytmeedopbpdfeaaa", sum := "e959d44edbc0e9d638f01c2ac6c93fc8ea511d48da40933345db0c22a65fc64e", func := "loop.example/g00781/laws.FnWheels", spec := "fnWheels", unfollowed := true, recurses := true, apart := false }
def FnWheelsSaid : Prop := fnWheelsRow.holds Try.pinned (OpenSpec.ofChange fnWheelsSpec)

/-- ITS FALSE NEIGHBOUR: 'it returns false'. Refute it at one input. -/
def fnWheelsWrong : ChangeSpec := { name := "fnWheels", fn := fun _ => fun
  | [d] => { results := [.lit (.bool false)], args := [d] }
  | _ => none }
def FnWheelsWrongFalsely : Prop := fnWheelsRow.holds Try.pinned (OpenSpec.ofChange fnWheelsWrong)

/-- 'laws.FnWheel': WHATEVER THE INPUT: true; the input reads as it did. -/
def fnWheelSpec : ChangeSpec := { name := "fnWheel", fn := fun _ => fun
  | [d] => { results := [.lit (.bool true)], args := [d] }
  | _ => none }
def fnWheelRow : OpenClaim := { program := "ytmeedopbpdfeaaa", sum := "e959d44edbc0e9d638f01c2ac6c93fc8ea511d48da40933345db0c22a65fc64e", func := "loop.example/g00781/laws.FnWheel", spec := "fnWheel", unfollowed := true, recurses := true, apart := false }
def FnWheelSaid : Prop := fnWheelRow.holds Try.pinned (OpenSpec.ofChange fnWheelSpec)

/-- ITS FALSE NEIGHBOUR: 'it returns false'. Refute it at one input. -/
def fnWheelWrong : ChangeSpec := { name := "fnWheel", fn := fun _ => fun
  | [d] => { results := [.lit (.bool false)], args := [d] }
  | _ => none }
def FnWheelWrongFalsely : Prop := fnWheelRow.holds Try.pinned (OpenSpec.ofChange fnWheelWrong)

/- THE SECOND FORM. 'bulk': how many values and letters a reading holds, each counted each time it is reached (what is shared counts as often as it is met; a slice's spare places count too). A statement '..UptoSaid' is the law's where the arguments, and the package variables that the reading takes, are together of bulk at most 1048576: NARROWER than '..Said'. Prove '..Said' where nothing that the law and all that it calls make is longer than what came in: it says more and counts as full. Else prove '..UptoSaid'. A law counts once. -/
mutual
def uptoBulk {H : Type} : DataW H → Nat
  | .lit (.string bytes) => bytes.length + 1
  | .lit _ => 1
  | .nil => 1
  | .ptr d => uptoBulk d + 1
  | .slice elems spare => uptoBulkAll elems + uptoBulkAll spare + 1
  | .agg parts => uptoBulkAll parts + 1
  | .iface _ d => uptoBulk d + 1
  | .map entries => uptoBulkEntries entries + 1
  | .held _ => 1
def uptoBulkAll {H : Type} : List (DataW H) → Nat
  | [] => 0
  | d :: r => uptoBulk d + uptoBulkAll r
def uptoBulkEntries {H : Type} : List (Lit × DataW H) → Nat
  | [] => 0
  | x :: r => uptoBulkEntry x + uptoBulkEntries r
def uptoBulkEntry {H : Type} : Lit × DataW H → Nat
  | (.string bytes, d) => bytes.length + uptoBulk d + 1
  | (_, d) => uptoBulk d + 1
 end
def uptoSmall : (H : Type) → List (DataW H) → Bool := fun _ ds => decide (uptoBulkAll ds ≤ 1048576)
def OpenSpec.upto (s : _root_.Go.ChangeSpec) : _root_.Go.OpenSpec := { _root_.Go.OpenSpec.ofChange s with cond := some uptoSmall }

/-- 'laws.FnExactWheelOk', WHERE WHAT IT READS IS OF BULK AT MOST 1048576: true; the input reads as it did. -/
def fnExactWheelOkUptoRow : OpenClaim := { program := "ytmeedopbpdfeaaa", sum := "e959d44edbc0e9d638f01c2ac6c93fc8ea511d48da40933345db0c22a65fc64e", func := "loop.example/g00781/laws.FnExactWheelOk", spec := "fnExactWheelOk", unfollowed := true, recurses := true, apart := false, narrowed := true }
def FnExactWheelOkUptoSaid : Prop := fnExactWheelOkUptoRow.holds Try.pinned (OpenSpec.upto fnExactWheelOkSpec)

/-- 'laws.FnExactWheelLeft', WHERE WHAT IT READS IS OF BULK AT MOST 1048576: true; the input reads as it did. -/
def fnExactWheelLeftUptoRow : OpenClaim := { program := "ytmeedopbpdfeaaa", sum := "e959d44edbc0e9d638f01c2ac6c93fc8ea511d48da40933345db0c22a65fc64e", func := "loop.example/g00781/laws.FnExactWheelLeft", spec := "fnExactWheelLeft", unfollowed := true, recurses := true, apart := false, narrowed := true }
def FnExactWheelLeftUptoSaid : Prop := fnExactWheelLeftUptoRow.holds Try.pinned (OpenSpec.upto fnExactWheelLeftSpec)

/-- 'laws.FnExactWheelDrop', WHERE WHAT IT READS IS OF BULK AT MOST 1048576: true; the input reads as it did. -/
def fnExactWheelDropUptoRow : OpenClaim := { program := "ytmeedopbpdfeaaa", sum := "e959d44edbc0e9d638f01c2ac6c93fc8ea511d48da40933345db0c22a65fc64e", func := "loop.example/g00781/laws.FnExactWheelDrop", spec := "fnExactWheelDrop", unfollowed := true, recurses := true, apart := false, narrowed := true }
def FnExactWheelDropUptoSaid : Prop := fnExactWheelDropUptoRow.holds Try.pinned (OpenSpec.upto fnExactWheelDropSpec)

/-- 'laws.FnExactWheelAdd', WHERE WHAT IT READS IS OF BULK AT MOST 1048576: true; the input reads as it did. -/
def fnExactWheelAddUptoRow : OpenClaim := { program := "ytmeedopbpdfeaaa", sum := "e959d44edbc0e9d638f01c2ac6c93fc8ea511d48da40933345db0c22a65fc64e", func := "loop.example/g00781/laws.FnExactWheelAdd", spec := "fnExactWheelAdd", unfollowed := true, recurses := true, apart := false, narrowed := true }
def FnExactWheelAddUptoSaid : Prop := fnExactWheelAddUptoRow.holds Try.pinned (OpenSpec.upto fnExactWheelAddSpec)

/-- 'laws.FnExactWheelGo', WHERE WHAT IT READS IS OF BULK AT MOST 1048576: true; the input reads as it did. -/
def fnExactWheelGoUptoRow : OpenClaim := { program := "ytmeedopbpdfeaaa", sum := "e959d44edbc0e9d638f01c2ac6c93fc8ea511d48da40933345db0c22a65fc64e", func := "loop.example/g00781/laws.FnExactWheelGo", spec := "fnExactWheelGo", unfollowed := true, recurses := true, apart := false, narrowed := true }
def FnExactWheelGoUptoSaid : Prop := fnExactWheelGoUptoRow.holds Try.pinned (OpenSpec.upto fnExactWheelGoSpec)

/-- 'laws.FnWheels', WHERE WHAT IT READS IS OF BULK AT MOST 1048576: true; the input reads as it did. -/
def fnWheelsUptoRow : OpenClaim := { program := "ytmeedopbpdfeaaa", sum := "e959d44edbc0e9d638f01c2ac6c93fc8ea511d48da40933345db0c22a65fc64e", func := "loop.example/g00781/laws.FnWheels", spec := "fnWheels", unfollowed := true, recurses := true, apart := false, narrowed := true }
def FnWheelsUptoSaid : Prop := fnWheelsUptoRow.holds Try.pinned (OpenSpec.upto fnWheelsSpec)

/-- 'laws.FnWheel', WHERE WHAT IT READS IS OF BULK AT MOST 1048576: true; the input reads as it did. -/
def fnWheelUptoRow : OpenClaim := { program := "ytmeedopbpdfeaaa", sum := "e959d44edbc0e9d638f01c2ac6c93fc8ea511d48da40933345db0c22a65fc64e", func := "loop.example/g00781/laws.FnWheel", spec := "fnWheel", unfollowed := true, recurses := true, apart := false, narrowed := true }
def FnWheelUptoSaid : Prop := fnWheelUptoRow.holds Try.pinned (OpenSpec.upto fnWheelSpec)

end Rows
end Go.Proofs.Ytmeedopbpdfeaaa
