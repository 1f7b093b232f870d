/-
  No cell of these rows narrows 'for every input' (looked for: loops, veiled, ifaces, maps, wideKeys, modest, calm, conditions, laid).
  DERIVED. THE GIVEN ROWS OF THIS SEAT. 8 by the template 'for every input the law returns true; each argument reads behind the call as it read before'; 0 by the template 'total and deterministic' (their statements: YtnpgddgbkaojmaaTotals.lean).
  GIVEN WITH THE SEED: the statements are not yours to turn. If you find one false, say at which input.
  Laid BY PROGRAM, IN A SANDBOX (cutbox-rows.mjs): the forced cells as the released guide's own fill.sh prints them over the translation ad6f86fe28a0a05a… (all of the seat's roots in one cut). By AI agents, Wed Nov 11 2026. No macro, syntax, notation, axiom, sorry.
-/
import Derived.Test.YtnpgddgbkaojmaaChecked
import GoSem.Claim
import GoSem.ClaimJoined
import GoSem.ClaimMapViews
import Derived.JoinedTies
import Derived.KernelRfl
namespace Go.Proofs.Ytnpgddgbkaojmaa
/- THE CELL 'sum', in the pinned program and in every row, IS THE sha256 OF THE DUMP (.gsa) THAT YtnpgddgbkaojmaaProg.lean LOADS. Nothing in Lean hashes anything: it is a label: what it is worth is what the hold of that sum in a sandbox is worth. -/
noncomputable def Try.pinned : Pinned := { name := "ytnpgddgbkaojmaa", sum := "ad6f86fe28a0a05a0ff03d0474ba827c1172d73d084a038209ab2ba96ae98a72", checked := Try.checked }
namespace Rows
def none {H : Type} : Left H := { results := [], args := [] }

/-- 'laws.FnExactCacheNew': WHATEVER THE INPUT: true; the input reads as it did. -/
def fnExactCacheNewSpec : ChangeSpec := { name := "fnExactCacheNew", fn := fun _ => fun
  | [d] => { results := [.lit (.bool true)], args := [d] }
  | _ => none }
def fnExactCacheNewRow : OpenClaim := { program := "ytnpgddgbkaojmaa", sum := "ad6f86fe28a0a05a0ff03d0474ba827c1172d73d084a038209ab2ba96ae98a72", func := "loop.example/g00781/laws.FnExactCacheNew", spec := "fnExactCacheNew", apart := false }
def FnExactCacheNewSaid : Prop := fnExactCacheNewRow.holds Try.pinned (OpenSpec.ofChange fnExactCacheNewSpec)

/-- ITS FALSE NEIGHBOUR: 'it returns false'. Refute it at one input. -/
def fnExactCacheNewWrong : ChangeSpec := { name := "fnExactCacheNew", fn := fun _ => fun
  | [d] => { results := [.lit (.bool false)], args := [d] }
  | _ => none }
def FnExactCacheNewWrongFalsely : Prop := fnExactCacheNewRow.holds Try.pinned (OpenSpec.ofChange fnExactCacheNewWrong)

/-- 'laws.FnExactCacheOk': WHATEVER THE INPUT: true; the input reads as it did. -/
def fnExactCacheOkSpec : ChangeSpec := { name := "fnExactCacheOk", fn := fun _ => fun
  | [d] => { results := [.lit (.bool true)], args := [d] }
  | _ => none }
def fnExactCacheOkRow : OpenClaim := { program := "ytnpgddgbkaojmaa", sum := "ad6f86fe28a0a05a0ff03d0474ba827c1172d73d084a038209ab2ba96ae98a72", func := "loop.example/g00781/laws.FnExactCacheOk", spec := "fnExactCacheOk", unfollowed := true, recurses := true, apart := false }
def FnExactCacheOkSaid : Prop := fnExactCacheOkRow.holds Try.pinned (OpenSpec.ofChange fnExactCacheOkSpec)

/-- ITS FALSE NEIGHBOUR: 'it returns false'. Refute it at one input. -/
def fnExactCacheOkWrong : ChangeSpec := { name := "fnExactCacheOk", fn := fun _ => fun
  | [d] => { results := [.lit (.bool false)], args := [d] }
  | _ => none }
def FnExactCacheOkWrongFalsely : Prop := fnExactCacheOkRow.holds Try.pinned (OpenSpec.ofChange fnExactCacheOkWrong)

/-- 'laws.FnExactCacheSee': WHATEVER THE INPUT: true; the input reads as it did. -/
def fnExactCacheSeeSpec : ChangeSpec := { name := "fnExactCacheSee", fn := fun _ => fun
  | [d1, d2] => { results := [.lit (.bool true)], args := [d1, d2] }
  | _ => none }
def fnExactCacheSeeRow : OpenClaim := { program := "ytnpgddgbkaojmaa", sum := "ad6f86fe28a0a05a0ff03d0474ba827c1172d73d084a038209ab2ba96ae98a72", func := "loop.example/g00781/laws.FnExactCacheSee", spec := "fnExactCacheSee", unfollowed := true, recurses := true, apart := false }
def FnExactCacheSeeSaid : Prop := fnExactCacheSeeRow.holds Try.pinned (OpenSpec.ofChange fnExactCacheSeeSpec)

/-- ITS FALSE NEIGHBOUR: 'it returns false'. Refute it at one input. -/
def fnExactCacheSeeWrong : ChangeSpec := { name := "fnExactCacheSee", fn := fun _ => fun
  | [d1, d2] => { results := [.lit (.bool false)], args := [d1, d2] }
  | _ => none }
def FnExactCacheSeeWrongFalsely : Prop := fnExactCacheSeeRow.holds Try.pinned (OpenSpec.ofChange fnExactCacheSeeWrong)

/-- 'laws.FnExactCacheSync': WHATEVER THE INPUT: true; the input reads as it did. -/
def fnExactCacheSyncSpec : ChangeSpec := { name := "fnExactCacheSync", fn := fun _ => fun
  | [d] => { results := [.lit (.bool true)], args := [d] }
  | _ => none }
def fnExactCacheSyncRow : OpenClaim := { program := "ytnpgddgbkaojmaa", sum := "ad6f86fe28a0a05a0ff03d0474ba827c1172d73d084a038209ab2ba96ae98a72", func := "loop.example/g00781/laws.FnExactCacheSync", spec := "fnExactCacheSync", unfollowed := true, recurses := true, apart := false }
def FnExactCacheSyncSaid : Prop := fnExactCacheSyncRow.holds Try.pinned (OpenSpec.ofChange fnExactCacheSyncSpec)

/-- ITS FALSE NEIGHBOUR: 'it returns false'. Refute it at one input. -/
def fnExactCacheSyncWrong : ChangeSpec := { name := "fnExactCacheSync", fn := fun _ => fun
  | [d] => { results := [.lit (.bool false)], args := [d] }
  | _ => none }
def FnExactCacheSyncWrongFalsely : Prop := fnExactCacheSyncRow.holds Try.pinned (OpenSpec.ofChange fnExactCacheSyncWrong)

/-- 'laws.FnExactCachePut': WHATEVER THE INPUT: true; the input reads as it did. -/
def fnExactCachePutSpec : ChangeSpec := { name := "fnExactCachePut", fn := fun _ => fun
  | [d1, d2, d3] => { results := [.lit (.bool true)], args := [d1, d2, d3] }
  | _ => none }
def fnExactCachePutRow : OpenClaim := { program := "ytnpgddgbkaojmaa", sum := "ad6f86fe28a0a05a0ff03d0474ba827c1172d73d084a038209ab2ba96ae98a72", func := "loop.example/g00781/laws.FnExactCachePut", spec := "fnExactCachePut", unfollowed := true, recurses := true, apart := false }
def FnExactCachePutSaid : Prop := fnExactCachePutRow.holds Try.pinned (OpenSpec.ofChange fnExactCachePutSpec)

/-- ITS FALSE NEIGHBOUR: 'it returns false'. Refute it at one input. -/
def fnExactCachePutWrong : ChangeSpec := { name := "fnExactCachePut", fn := fun _ => fun
  | [d1, d2, d3] => { results := [.lit (.bool false)], args := [d1, d2, d3] }
  | _ => none }
def FnExactCachePutWrongFalsely : Prop := fnExactCachePutRow.holds Try.pinned (OpenSpec.ofChange fnExactCachePutWrong)

/-- 'laws.FnExactCacheGet': WHATEVER THE INPUT: true; the input reads as it did. -/
def fnExactCacheGetSpec : ChangeSpec := { name := "fnExactCacheGet", fn := fun _ => fun
  | [d1, d2] => { results := [.lit (.bool true)], args := [d1, d2] }
  | _ => none }
def fnExactCacheGetRow : OpenClaim := { program := "ytnpgddgbkaojmaa", sum := "ad6f86fe28a0a05a0ff03d0474ba827c1172d73d084a038209ab2ba96ae98a72", func := "loop.example/g00781/laws.FnExactCacheGet", spec := "fnExactCacheGet", unfollowed := true, recurses := true, apart := false }
def FnExactCacheGetSaid : Prop := fnExactCacheGetRow.holds Try.pinned (OpenSpec.ofChange fnExactCacheGetSpec)

/-- ITS FALSE NEIGHBOUR: 'it returns false'. Refute it at one input. -/
def fnExactCacheGetWrong : ChangeSpec := { name := "fnExactCacheGet", fn := fun _ => fun
  | [d1, d2] => { results := [.lit (.bool false)], args := [d1, d2] }
  | _ => none }
def FnExactCacheGetWrongFalsely : Prop := fnExactCacheGetRow.holds Try.pinned (OpenSpec.ofChange fnExactCacheGetWrong)

/-- 'laws.FnCache': WHATEVER THE INPUT: true; the input reads as it did. -/
def fnCacheSpec : ChangeSpec := { name := "fnCache", fn := fun _ => fun
  | [d] => { results := [.lit (.bool true)], args := [d] }
  | _ => none }
def fnCacheRow : OpenClaim := { program := "ytnpgddgbkaojmaa", sum := "ad6f86fe28a0a05a0ff03d0474ba827c1172d73d084a038209ab2ba96ae98a72", func := "loop.example/g00781/laws.FnCache", spec := "fnCache", unfollowed := true, recurses := true, apart := false }
def FnCacheSaid : Prop := fnCacheRow.holds Try.pinned (OpenSpec.ofChange fnCacheSpec)

/-- ITS FALSE NEIGHBOUR: 'it returns false'. Refute it at one input. -/
def fnCacheWrong : ChangeSpec := { name := "fnCache", fn := fun _ => fun
  | [d] => { results := [.lit (.bool false)], args := [d] }
  | _ => none }
def FnCacheWrongFalsely : Prop := fnCacheRow.holds Try.pinned (OpenSpec.ofChange fnCacheWrong)

/-- 'laws.FnCacheReads': WHATEVER THE INPUT: true; the input reads as it did. -/
def fnCacheReadsSpec : ChangeSpec := { name := "fnCacheReads", fn := fun _ => fun
  | [d] => { results := [.lit (.bool true)], args := [d] }
  | _ => none }
def fnCacheReadsRow : OpenClaim := { program := "ytnpgddgbkaojmaa", sum := "ad6f86fe28a0a05a0ff03d0474ba827c1172d73d084a038209ab2ba96ae98a72", func := "loop.example/g00781/laws.FnCacheReads", spec := "fnCacheReads", unfollowed := true, recurses := true, apart := false }
def FnCacheReadsSaid : Prop := fnCacheReadsRow.holds Try.pinned (OpenSpec.ofChange fnCacheReadsSpec)

/-- ITS FALSE NEIGHBOUR: 'it returns false'. Refute it at one input. -/
def fnCacheReadsWrong : ChangeSpec := { name := "fnCacheReads", fn := fun _ => fun
  | [d] => { results := [.lit (.bool false)], args := [d] }
  | _ => none }
def FnCacheReadsWrongFalsely : Prop := fnCacheReadsRow.holds Try.pinned (OpenSpec.ofChange fnCacheReadsWrong)

/- THE SECOND FORM. 'bulk': how many values and letters a reading holds, each counted each time it is reached (what is shared counts as often as it is met; a slice's spare places count too). A statement '..UptoSaid' is the law's where the arguments, and the package variables that the reading takes, are together of bulk at most 1048576: NARROWER than '..Said'. Prove '..Said' where nothing that the law and all that it calls make is longer than what came in: it says more and counts as full. Else prove '..UptoSaid'. A law counts once. -/
mutual
def uptoBulk {H : Type} : DataW H → Nat
  | .lit (.string bytes) => bytes.length + 1
  | .lit _ => 1
  | .nil => 1
  | .ptr d => uptoBulk d + 1
  | .slice elems spare => uptoBulkAll elems + uptoBulkAll spare + 1
  | .agg parts => uptoBulkAll parts + 1
  | .iface _ d => uptoBulk d + 1
  | .map entries => uptoBulkEntries entries + 1
  | .held _ => 1
def uptoBulkAll {H : Type} : List (DataW H) → Nat
  | [] => 0
  | d :: r => uptoBulk d + uptoBulkAll r
def uptoBulkEntries {H : Type} : List (Lit × DataW H) → Nat
  | [] => 0
  | x :: r => uptoBulkEntry x + uptoBulkEntries r
def uptoBulkEntry {H : Type} : Lit × DataW H → Nat
  | (.string bytes, d) => bytes.length + uptoBulk d + 1
  | (_, d) => uptoBulk d + 1
 end
def uptoSmall : (H : Type) → List (DataW H) → Bool := fun _ ds => decide (uptoBulkAll ds ≤ 1048576)
def OpenSpec.upto (s : _root_.Go.ChangeSpec) : _root_.Go.OpenSpec := { _root_.Go.OpenSpec.ofChange s with cond := some uptoSmall }

/-- 'laws.FnExactCacheNew', WHERE WHAT IT READS IS OF BULK AT MOST 1048576: true; the input reads as it did. -/
def fnExactCacheNewUptoRow : OpenClaim := { program := "ytnpgddgbkaojmaa", sum := "ad6f86fe28a0a05a0ff03d0474ba827c1172d73d084a038209ab2ba96ae98a72", func := "loop.example/g00781/laws.FnExactCacheNew", spec := "fnExactCacheNew", apart := false, narrowed := true }
def FnExactCacheNewUptoSaid : Prop := fnExactCacheNewUptoRow.holds Try.pinned (OpenSpec.upto fnExactCacheNewSpec)

/-- 'laws.FnExactCacheOk', WHERE WHAT IT READS IS OF BULK AT MOST 1048576: true; the input reads as it did. -/
def fnExactCacheOkUptoRow : OpenClaim := { program := "ytnpgddgbkaojmaa", sum := "ad6f86fe28a0a05a0ff03d0474ba827c1172d73d084a038209ab2ba96ae98a72", func := "loop.example/g00781/laws.FnExactCacheOk", spec := "fnExactCacheOk", unfollowed := true, recurses := true, apart := false, narrowed := true }
def FnExactCacheOkUptoSaid : Prop := fnExactCacheOkUptoRow.holds Try.pinned (OpenSpec.upto fnExactCacheOkSpec)

/-- 'laws.FnExactCacheSee', WHERE WHAT IT READS IS OF BULK AT MOST 1048576: true; the input reads as it did. -/
def fnExactCacheSeeUptoRow : OpenClaim := { program := "ytnpgddgbkaojmaa", sum := "ad6f86fe28a0a05a0ff03d0474ba827c1172d73d084a038209ab2ba96ae98a72", func := "loop.example/g00781/laws.FnExactCacheSee", spec := "fnExactCacheSee", unfollowed := true, recurses := true, apart := false, narrowed := true }
def FnExactCacheSeeUptoSaid : Prop := fnExactCacheSeeUptoRow.holds Try.pinned (OpenSpec.upto fnExactCacheSeeSpec)

/-- 'laws.FnExactCacheSync', WHERE WHAT IT READS IS OF BULK AT MOST 1048576: true; the input reads as it did. -/
def fnExactCacheSyncUptoRow : OpenClaim := { program := "ytnpgddgbkaojmaa", sum := "ad6f86fe28a0a05a0ff03d0474ba827c1172d73d084a038209ab2ba96ae98a72", func := "loop.example/g00781/laws.FnExactCacheSync", spec := "fnExactCacheSync", unfollowed := true, recurses := true, apart := false, narrowed := true }
def FnExactCacheSyncUptoSaid : Prop := fnExactCacheSyncUptoRow.holds Try.pinned (OpenSpec.upto fnExactCacheSyncSpec)

/-- 'laws.FnExactCachePut', WHERE WHAT IT READS IS OF BULK AT MOST 1048576: true; the input reads as it did. -/
def fnExactCachePutUptoRow : OpenClaim := { program := "ytnpgddgbkaojmaa", sum := "ad6f86fe28a0a05a0ff03d0474ba827c1172d73d084a038209ab2ba96ae98a72", func := "loop.example/g00781/laws.FnExactCachePut", spec := "fnExactCachePut", unfollowed := true, recurses := true, apart := false, narrowed := true }
def FnExactCachePutUptoSaid : Prop := fnExactCachePutUptoRow.holds Try.pinned (OpenSpec.upto fnExactCachePutSpec)

/-- 'laws.FnExactCacheGet', WHERE WHAT IT READS IS OF BULK AT MOST 1048576: true; the input reads as it did. -/
def fnExactCacheGetUptoRow : OpenClaim := { program := "ytnpgddgbkaojmaa", sum := "ad6f86fe28a0a05a0ff03d0474ba827c1172d73d084a038209ab2ba96ae98a72", func := "loop.example/g00781/laws.FnExactCacheGet", spec := "fnExactCacheGet", unfollowed := true, recurses := true, apart := false, narrowed := true }
def FnExactCacheGetUptoSaid : Prop := fnExactCacheGetUptoRow.holds Try.pinned (OpenSpec.upto fnExactCacheGetSpec)

/-- 'laws.FnCache', WHERE WHAT IT READS IS OF BULK AT MOST 1048576: true; the input reads as it did. -/
def fnCacheUptoRow : OpenClaim := { program := "ytnpgddgbkaojmaa", sum := "ad6f86fe28a0a05a0ff03d0474ba827c1172d73d084a038209ab2ba96ae98a72", func := "loop.example/g00781/laws.FnCache", spec := "fnCache", unfollowed := true, recurses := true, apart := false, narrowed := true }
def FnCacheUptoSaid : Prop := fnCacheUptoRow.holds Try.pinned (OpenSpec.upto fnCacheSpec)

/-- 'laws.FnCacheReads', WHERE WHAT IT READS IS OF BULK AT MOST 1048576: true; the input reads as it did. -/
def fnCacheReadsUptoRow : OpenClaim := { program := "ytnpgddgbkaojmaa", sum := "ad6f86fe28a0a05a0ff03d0474ba827c1172d73d084a038209ab2ba96ae98a72", func := "loop.example/g00781/laws.FnCacheReads", spec := "fnCacheReads", unfollowed := true, recurses := true, apart := false, narrowed := true }
def FnCacheReadsUptoSaid : Prop := fnCacheReadsUptoRow.holds Try.pinned (OpenSpec.upto fnCacheReadsSpec)

end Rows
end Go.Proofs.Ytnpgddgbkaojmaa
