/-
  No cell of these rows narrows 'for every input' (looked for: loops, veiled, ifaces, maps, wideKeys, modest, calm, conditions, laid).
  DERIVED. THE GIVEN ROWS OF THIS SEAT. 9 by the template 'for every input the law returns true; each argument reads behind the call as it read before'; 0 by the template 'total and deterministic' (their statements: YtbogabgpchgfpaaTotals.lean).
  GIVEN WITH THE SEED: the statements are not yours to turn. If you find one false, say at which input.
  Laid BY PROGRAM, IN A SANDBOX (cutbox-rows.mjs): the forced cells as the released guide's own fill.sh prints them over the translation aaee1b2aadb04b56… (all of the seat's roots in one cut). By AI agents, Wed Nov 11 2026. No macro, syntax, notation, axiom, sorry.
-/
import Derived.Test.YtbogabgpchgfpaaChecked
import GoSem.Claim
import GoSem.ClaimJoined
import GoSem.ClaimMapViews
import Derived.JoinedTies
import Derived.KernelRfl
namespace Go.Proofs.Ytbogabgpchgfpaa
/- THE CELL 'sum', in the pinned program and in every row, IS THE sha256 OF THE DUMP (.gsa) THAT YtbogabgpchgfpaaProg.lean LOADS. Nothing in Lean hashes anything: it is a label: what it is worth is what the hold of that sum in a sandbox is worth. -/
noncomputable def Try.pinned : Pinned := { name := "ytbogabgpchgfpaa", sum := "aaee1b2aadb04b56269b576324f57ade3ca8cdeed06785ad7b12a53cec3ccbe7", checked := Try.checked }
namespace Rows
def none {H : Type} : Left H := { results := [], args := [] }

/-- 'laws.FnExactSigNew': WHATEVER THE INPUT: true; the input reads as it did. -/
def fnExactSigNewSpec : ChangeSpec := { name := "fnExactSigNew", fn := fun _ => fun
  | [] => { results := [.lit (.bool true)], args := [] }
  | _ => none }
def fnExactSigNewRow : OpenClaim := { program := "ytbogabgpchgfpaa", sum := "aaee1b2aadb04b56269b576324f57ade3ca8cdeed06785ad7b12a53cec3ccbe7", func := "loop.example/g00781/laws.FnExactSigNew", spec := "fnExactSigNew", apart := false }
def FnExactSigNewSaid : Prop := fnExactSigNewRow.holds Try.pinned (OpenSpec.ofChange fnExactSigNewSpec)

/-- ITS FALSE NEIGHBOUR: 'it returns false'. Refute it at one input. -/
def fnExactSigNewWrong : ChangeSpec := { name := "fnExactSigNew", fn := fun _ => fun
  | [] => { results := [.lit (.bool false)], args := [] }
  | _ => none }
def FnExactSigNewWrongFalsely : Prop := fnExactSigNewRow.holds Try.pinned (OpenSpec.ofChange fnExactSigNewWrong)

/-- 'laws.FnExactSigOk': WHATEVER THE INPUT: true; the input reads as it did. -/
def fnExactSigOkSpec : ChangeSpec := { name := "fnExactSigOk", fn := fun _ => fun
  | [d] => { results := [.lit (.bool true)], args := [d] }
  | _ => none }
def fnExactSigOkRow : OpenClaim := { program := "ytbogabgpchgfpaa", sum := "aaee1b2aadb04b56269b576324f57ade3ca8cdeed06785ad7b12a53cec3ccbe7", func := "loop.example/g00781/laws.FnExactSigOk", spec := "fnExactSigOk", unfollowed := true, recurses := true, apart := false }
def FnExactSigOkSaid : Prop := fnExactSigOkRow.holds Try.pinned (OpenSpec.ofChange fnExactSigOkSpec)

/-- ITS FALSE NEIGHBOUR: 'it returns false'. Refute it at one input. -/
def fnExactSigOkWrong : ChangeSpec := { name := "fnExactSigOk", fn := fun _ => fun
  | [d] => { results := [.lit (.bool false)], args := [d] }
  | _ => none }
def FnExactSigOkWrongFalsely : Prop := fnExactSigOkRow.holds Try.pinned (OpenSpec.ofChange fnExactSigOkWrong)

/-- 'laws.FnExactSigMask': WHATEVER THE INPUT: true; the input reads as it did. -/
def fnExactSigMaskSpec : ChangeSpec := { name := "fnExactSigMask", fn := fun _ => fun
  | [d1, d2, d3] => { results := [.lit (.bool true)], args := [d1, d2, d3] }
  | _ => none }
def fnExactSigMaskRow : OpenClaim := { program := "ytbogabgpchgfpaa", sum := "aaee1b2aadb04b56269b576324f57ade3ca8cdeed06785ad7b12a53cec3ccbe7", func := "loop.example/g00781/laws.FnExactSigMask", spec := "fnExactSigMask", unfollowed := true, recurses := true, apart := false }
def FnExactSigMaskSaid : Prop := fnExactSigMaskRow.holds Try.pinned (OpenSpec.ofChange fnExactSigMaskSpec)

/-- ITS FALSE NEIGHBOUR: 'it returns false'. Refute it at one input. -/
def fnExactSigMaskWrong : ChangeSpec := { name := "fnExactSigMask", fn := fun _ => fun
  | [d1, d2, d3] => { results := [.lit (.bool false)], args := [d1, d2, d3] }
  | _ => none }
def FnExactSigMaskWrongFalsely : Prop := fnExactSigMaskRow.holds Try.pinned (OpenSpec.ofChange fnExactSigMaskWrong)

/-- 'laws.FnExactSigBack': WHATEVER THE INPUT: true; the input reads as it did. -/
def fnExactSigBackSpec : ChangeSpec := { name := "fnExactSigBack", fn := fun _ => fun
  | [d] => { results := [.lit (.bool true)], args := [d] }
  | _ => none }
def fnExactSigBackRow : OpenClaim := { program := "ytbogabgpchgfpaa", sum := "aaee1b2aadb04b56269b576324f57ade3ca8cdeed06785ad7b12a53cec3ccbe7", func := "loop.example/g00781/laws.FnExactSigBack", spec := "fnExactSigBack", unfollowed := true, recurses := true, apart := false }
def FnExactSigBackSaid : Prop := fnExactSigBackRow.holds Try.pinned (OpenSpec.ofChange fnExactSigBackSpec)

/-- ITS FALSE NEIGHBOUR: 'it returns false'. Refute it at one input. -/
def fnExactSigBackWrong : ChangeSpec := { name := "fnExactSigBack", fn := fun _ => fun
  | [d] => { results := [.lit (.bool false)], args := [d] }
  | _ => none }
def FnExactSigBackWrongFalsely : Prop := fnExactSigBackRow.holds Try.pinned (OpenSpec.ofChange fnExactSigBackWrong)

/-- 'laws.FnExactSigSend': WHATEVER THE INPUT: true; the input reads as it did. -/
def fnExactSigSendSpec : ChangeSpec := { name := "fnExactSigSend", fn := fun _ => fun
  | [d1, d2] => { results := [.lit (.bool true)], args := [d1, d2] }
  | _ => none }
def fnExactSigSendRow : OpenClaim := { program := "ytbogabgpchgfpaa", sum := "aaee1b2aadb04b56269b576324f57ade3ca8cdeed06785ad7b12a53cec3ccbe7", func := "loop.example/g00781/laws.FnExactSigSend", spec := "fnExactSigSend", unfollowed := true, recurses := true, apart := false }
def FnExactSigSendSaid : Prop := fnExactSigSendRow.holds Try.pinned (OpenSpec.ofChange fnExactSigSendSpec)

/-- ITS FALSE NEIGHBOUR: 'it returns false'. Refute it at one input. -/
def fnExactSigSendWrong : ChangeSpec := { name := "fnExactSigSend", fn := fun _ => fun
  | [d1, d2] => { results := [.lit (.bool false)], args := [d1, d2] }
  | _ => none }
def FnExactSigSendWrongFalsely : Prop := fnExactSigSendRow.holds Try.pinned (OpenSpec.ofChange fnExactSigSendWrong)

/-- 'laws.FnExactSigSet': WHATEVER THE INPUT: true; the input reads as it did. -/
def fnExactSigSetSpec : ChangeSpec := { name := "fnExactSigSet", fn := fun _ => fun
  | [d1, d2, d3] => { results := [.lit (.bool true)], args := [d1, d2, d3] }
  | _ => none }
def fnExactSigSetRow : OpenClaim := { program := "ytbogabgpchgfpaa", sum := "aaee1b2aadb04b56269b576324f57ade3ca8cdeed06785ad7b12a53cec3ccbe7", func := "loop.example/g00781/laws.FnExactSigSet", spec := "fnExactSigSet", unfollowed := true, recurses := true, apart := false }
def FnExactSigSetSaid : Prop := fnExactSigSetRow.holds Try.pinned (OpenSpec.ofChange fnExactSigSetSpec)

/-- ITS FALSE NEIGHBOUR: 'it returns false'. Refute it at one input. -/
def fnExactSigSetWrong : ChangeSpec := { name := "fnExactSigSet", fn := fun _ => fun
  | [d1, d2, d3] => { results := [.lit (.bool false)], args := [d1, d2, d3] }
  | _ => none }
def FnExactSigSetWrongFalsely : Prop := fnExactSigSetRow.holds Try.pinned (OpenSpec.ofChange fnExactSigSetWrong)

/-- 'laws.FnExactSigNext': WHATEVER THE INPUT: true; the input reads as it did. -/
def fnExactSigNextSpec : ChangeSpec := { name := "fnExactSigNext", fn := fun _ => fun
  | [d] => { results := [.lit (.bool true)], args := [d] }
  | _ => none }
def fnExactSigNextRow : OpenClaim := { program := "ytbogabgpchgfpaa", sum := "aaee1b2aadb04b56269b576324f57ade3ca8cdeed06785ad7b12a53cec3ccbe7", func := "loop.example/g00781/laws.FnExactSigNext", spec := "fnExactSigNext", unfollowed := true, recurses := true, apart := false }
def FnExactSigNextSaid : Prop := fnExactSigNextRow.holds Try.pinned (OpenSpec.ofChange fnExactSigNextSpec)

/-- ITS FALSE NEIGHBOUR: 'it returns false'. Refute it at one input. -/
def fnExactSigNextWrong : ChangeSpec := { name := "fnExactSigNext", fn := fun _ => fun
  | [d] => { results := [.lit (.bool false)], args := [d] }
  | _ => none }
def FnExactSigNextWrongFalsely : Prop := fnExactSigNextRow.holds Try.pinned (OpenSpec.ofChange fnExactSigNextWrong)

/-- 'laws.FnSig': WHATEVER THE INPUT: true; the input reads as it did. -/
def fnSigSpec : ChangeSpec := { name := "fnSig", fn := fun _ => fun
  | [d] => { results := [.lit (.bool true)], args := [d] }
  | _ => none }
def fnSigRow : OpenClaim := { program := "ytbogabgpchgfpaa", sum := "aaee1b2aadb04b56269b576324f57ade3ca8cdeed06785ad7b12a53cec3ccbe7", func := "loop.example/g00781/laws.FnSig", spec := "fnSig", unfollowed := true, recurses := true, apart := false }
def FnSigSaid : Prop := fnSigRow.holds Try.pinned (OpenSpec.ofChange fnSigSpec)

/-- ITS FALSE NEIGHBOUR: 'it returns false'. Refute it at one input. -/
def fnSigWrong : ChangeSpec := { name := "fnSig", fn := fun _ => fun
  | [d] => { results := [.lit (.bool false)], args := [d] }
  | _ => none }
def FnSigWrongFalsely : Prop := fnSigRow.holds Try.pinned (OpenSpec.ofChange fnSigWrong)

/-- 'laws.FnSigs': WHATEVER THE INPUT: true; the input reads as it did. -/
def fnSigsSpec : ChangeSpec := { name := "fnSigs", fn := fun _ => fun
  | [d] => { results := [.lit (.bool true)], args := [d] }
  | _ => none }
def fnSigsRow : OpenClaim := { program := "ytbogabgpchgfpaa", sum := "aaee1b2aadb04b56269b576324f57ade3ca8cdeed06785ad7b12a53cec3ccbe7", func := "loop.example/g00781/laws.FnSigs", spec := "fnSigs", unfollowed := true, recurses := true, apart := false }
def FnSigsSaid : Prop := fnSigsRow.holds Try.pinned (OpenSpec.ofChange fnSigsSpec)

/-- ITS FALSE NEIGHBOUR: 'it returns false'. Refute it at one input. -/
def fnSigsWrong : ChangeSpec := { name := "fnSigs", fn := fun _ => fun
  | [d] => { results := [.lit (.bool false)], args := [d] }
  | _ => none }
def FnSigsWrongFalsely : Prop := fnSigsRow.holds Try.pinned (OpenSpec.ofChange fnSigsWrong)

/- THE SECOND FORM. 'bulk': how many values and letters a reading holds, each counted each time it is reached (what is shared counts as often as it is met; a slice's spare places count too). A statement '..UptoSaid' is the law's where the arguments, and the package variables that the reading takes, are together of bulk at most 1048576: NARROWER than '..Said'. Prove '..Said' where nothing that the law and all that it calls make is longer than what came in: it says more and counts as full. Else prove '..UptoSaid'. A law counts once. -/
mutual
def uptoBulk {H : Type} : DataW H → Nat
  | .lit (.string bytes) => bytes.length + 1
  | .lit _ => 1
  | .nil => 1
  | .ptr d => uptoBulk d + 1
  | .slice elems spare => uptoBulkAll elems + uptoBulkAll spare + 1
  | .agg parts => uptoBulkAll parts + 1
  | .iface _ d => uptoBulk d + 1
  | .map entries => uptoBulkEntries entries + 1
  | .held _ => 1
def uptoBulkAll {H : Type} : List (DataW H) → Nat
  | [] => 0
  | d :: r => uptoBulk d + uptoBulkAll r
def uptoBulkEntries {H : Type} : List (Lit × DataW H) → Nat
  | [] => 0
  | x :: r => uptoBulkEntry x + uptoBulkEntries r
def uptoBulkEntry {H : Type} : Lit × DataW H → Nat
  | (.string bytes, d) => bytes.length + uptoBulk d + 1
  | (_, d) => uptoBulk d + 1
 end
def uptoSmall : (H : Type) → List (DataW H) → Bool := fun _ ds => decide (uptoBulkAll ds ≤ 1048576)
def OpenSpec.upto (s : _root_.Go.ChangeSpec) : _root_.Go.OpenSpec := { _root_.Go.OpenSpec.ofChange s with cond := some uptoSmall }

/-- 'laws.FnExactSigNew', WHERE WHAT IT READS IS OF BULK AT MOST 1048576: true; the input reads as it did. -/
def fnExactSigNewUptoRow : OpenClaim := { program := "ytbogabgpchgfpaa", sum := "aaee1b2aadb04b56269b576324f57ade3ca8cdeed06785ad7b12a53cec3ccbe7", func := "loop.example/g00781/laws.FnExactSigNew", spec := "fnExactSigNew", apart := false, narrowed := true }
def FnExactSigNewUptoSaid : Prop := fnExactSigNewUptoRow.holds Try.pinned (OpenSpec.upto fnExactSigNewSpec)

/-- 'laws.FnExactSigOk', WHERE WHAT IT READS IS OF BULK AT MOST 1048576: true; the input reads as it did. -/
def fnExactSigOkUptoRow : OpenClaim := { program := "ytbogabgpchgfpaa", sum := "aaee1b2aadb04b56269b576324f57ade3ca8cdeed06785ad7b12a53cec3ccbe7", func := "loop.example/g00781/laws.FnExactSigOk", spec := "fnExactSigOk", unfollowed := true, recurses := true, apart := false, narrowed := true }
def FnExactSigOkUptoSaid : Prop := fnExactSigOkUptoRow.holds Try.pinned (OpenSpec.upto fnExactSigOkSpec)

/-- 'laws.FnExactSigMask', WHERE WHAT IT READS IS OF BULK AT MOST 1048576: true; the input reads as it did. -/
def fnExactSigMaskUptoRow : OpenClaim := { program := "ytbogabgpchgfpaa", sum := "aaee1b2aadb04b56269b576324f57ade3ca8cdeed06785ad7b12a53cec3ccbe7", func := "loop.example/g00781/laws.FnExactSigMask", spec := "fnExactSigMask", unfollowed := true, recurses := true, apart := false, narrowed := true }
def FnExactSigMaskUptoSaid : Prop := fnExactSigMaskUptoRow.holds Try.pinned (OpenSpec.upto fnExactSigMaskSpec)

/-- 'laws.FnExactSigBack', WHERE WHAT IT READS IS OF BULK AT MOST 1048576: true; the input reads as it did. -/
def fnExactSigBackUptoRow : OpenClaim := { program := "ytbogabgpchgfpaa", sum := "aaee1b2aadb04b56269b576324f57ade3ca8cdeed06785ad7b12a53cec3ccbe7", func := "loop.example/g00781/laws.FnExactSigBack", spec := "fnExactSigBack", unfollowed := true, recurses := true, apart := false, narrowed := true }
def FnExactSigBackUptoSaid : Prop := fnExactSigBackUptoRow.holds Try.pinned (OpenSpec.upto fnExactSigBackSpec)

/-- 'laws.FnExactSigSend', WHERE WHAT IT READS IS OF BULK AT MOST 1048576: true; the input reads as it did. -/
def fnExactSigSendUptoRow : OpenClaim := { program := "ytbogabgpchgfpaa", sum := "aaee1b2aadb04b56269b576324f57ade3ca8cdeed06785ad7b12a53cec3ccbe7", func := "loop.example/g00781/laws.FnExactSigSend", spec := "fnExactSigSend", unfollowed := true, recurses := true, apart := false, narrowed := true }
def FnExactSigSendUptoSaid : Prop := fnExactSigSendUptoRow.holds Try.pinned (OpenSpec.upto fnExactSigSendSpec)

/-- 'laws.FnExactSigSet', WHERE WHAT IT READS IS OF BULK AT MOST 1048576: true; the input reads as it did. -/
def fnExactSigSetUptoRow : OpenClaim := { program := "ytbogabgpchgfpaa", sum := "aaee1b2aadb04b56269b576324f57ade3ca8cdeed06785ad7b12a53cec3ccbe7", func := "loop.example/g00781/laws.FnExactSigSet", spec := "fnExactSigSet", unfollowed := true, recurses := true, apart := false, narrowed := true }
def FnExactSigSetUptoSaid : Prop := fnExactSigSetUptoRow.holds Try.pinned (OpenSpec.upto fnExactSigSetSpec)

/-- 'laws.FnExactSigNext', WHERE WHAT IT READS IS OF BULK AT MOST 1048576: true; the input reads as it did. -/
def fnExactSigNextUptoRow : OpenClaim := { program := "ytbogabgpchgfpaa", sum := "aaee1b2aadb04b56269b576324f57ade3ca8cdeed06785ad7b12a53cec3ccbe7", func := "loop.example/g00781/laws.FnExactSigNext", spec := "fnExactSigNext", unfollowed := true, recurses := true, apart := false, narrowed := true }
def FnExactSigNextUptoSaid : Prop := fnExactSigNextUptoRow.holds Try.pinned (OpenSpec.upto fnExactSigNextSpec)

/-- 'laws.FnSig', WHERE WHAT IT READS IS OF BULK AT MOST 1048576: true; the input reads as it did. -/
def fnSigUptoRow : OpenClaim := { program := "ytbogabgpchgfpaa", sum := "aaee1b2aadb04b56269b576324f57ade3ca8cdeed06785ad7b12a53cec3ccbe7", func := "loop.example/g00781/laws.FnSig", spec := "fnSig", unfollowed := true, recurses := true, apart := false, narrowed := true }
def FnSigUptoSaid : Prop := fnSigUptoRow.holds Try.pinned (OpenSpec.upto fnSigSpec)

/-- 'laws.FnSigs', WHERE WHAT IT READS IS OF BULK AT MOST 1048576: true; the input reads as it did. -/
def fnSigsUptoRow : OpenClaim := { program := "ytbogabgpchgfpaa", sum := "aaee1b2aadb04b56269b576324f57ade3ca8cdeed06785ad7b12a53cec3ccbe7", func := "loop.example/g00781/laws.FnSigs", spec := "fnSigs", unfollowed := true, recurses := true, apart := false, narrowed := true }
def FnSigsUptoSaid : Prop := fnSigsUptoRow.holds Try.pinned (OpenSpec.upto fnSigsSpec)

end Rows
end Go.Proofs.Ytbogabgpchgfpaa
