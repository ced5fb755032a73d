/-
  No cell of these rows narrows 'for every input' (looked for: loops, veiled, ifaces, maps, wideKeys, modest, calm, conditions, laid).
  DERIVED. THE GIVEN ROWS OF THIS SEAT. 6 by the template 'for every input the law returns true; each argument reads behind the call as it read before'; 0 by the template 'total and deterministic' (their statements: YtfnpjfcfgilchaaTotals.lean).
  GIVEN WITH THE SEED: the statements are not yours to turn. If you find one false, say at which input.
  Laid BY PROGRAM, IN A SANDBOX (cutbox-rows.mjs): the forced cells as the released guide's own fill.sh prints them over the translation f5de0d9ffdb048c7… (all of the seat's roots in one cut). By AI agents, Wed Nov 11 2026. No macro, syntax, notation, axiom, sorry.
-/
import Derived.Test.YtfnpjfcfgilchaaChecked
import GoSem.Claim
import GoSem.ClaimJoined
import GoSem.ClaimMapViews
import Derived.JoinedTies
import Derived.KernelRfl
namespace Go.Proofs.Ytfnpjfcfgilchaa
/- THE CELL 'sum', in the pinned program and in every row, IS THE sha256 OF THE DUMP (.gsa) THAT YtfnpjfcfgilchaaProg.lean LOADS. Nothing in Lean hashes anything: it is a label: what it is worth is what the hold of that sum in a sandbox is worth. -/
noncomputable def Try.pinned : Pinned := { name := "ytfnpjfcfgilchaa", sum := "f5de0d9ffdb048c750e85f72a428d96d7ac795f9f3bac5da2e93c6c436c4159c", checked := Try.checked }
namespace Rows
def none {H : Type} : Left H := { results := [], args := [] }

/-- 'steelyardlaw03.AddrOf': WHATEVER THE INPUT: true; the input reads as it did. -/
def addrOfSpec : ChangeSpec := { name := "addrOf", fn := fun _ => fun
  | [d1, d2] => { results := [.lit (.bool true)], args := [d1, d2] }
  | _ => none }
def addrOfRow : OpenClaim := { program := "ytfnpjfcfgilchaa", sum := "f5de0d9ffdb048c750e85f72a428d96d7ac795f9f3bac5da2e93c6c436c4159c", func := "steelyard/steelyardlaw03.AddrOf", spec := "addrOf", inPlace := ["internal/bytealg.Compare"], apart := false }
def AddrOfSaid : Prop := addrOfRow.holds Try.pinned (OpenSpec.ofChange addrOfSpec)

/-- ITS FALSE NEIGHBOUR: 'it returns false'. Refute it at one input. -/
def addrOfWrong : ChangeSpec := { name := "addrOf", fn := fun _ => fun
  | [d1, d2] => { results := [.lit (.bool false)], args := [d1, d2] }
  | _ => none }
def AddrOfWrongFalsely : Prop := addrOfRow.holds Try.pinned (OpenSpec.ofChange addrOfWrong)

/-- 'steelyardlaw03.AddrLess': WHATEVER THE INPUT: true; the input reads as it did. -/
def addrLessSpec : ChangeSpec := { name := "addrLess", fn := fun _ => fun
  | [d1, d2, d3] => { results := [.lit (.bool true)], args := [d1, d2, d3] }
  | _ => none }
def addrLessRow : OpenClaim := { program := "ytfnpjfcfgilchaa", sum := "f5de0d9ffdb048c750e85f72a428d96d7ac795f9f3bac5da2e93c6c436c4159c", func := "steelyard/steelyardlaw03.AddrLess", spec := "addrLess", inPlace := ["internal/bytealg.Compare"], apart := false }
def AddrLessSaid : Prop := addrLessRow.holds Try.pinned (OpenSpec.ofChange addrLessSpec)

/-- ITS FALSE NEIGHBOUR: 'it returns false'. Refute it at one input. -/
def addrLessWrong : ChangeSpec := { name := "addrLess", fn := fun _ => fun
  | [d1, d2, d3] => { results := [.lit (.bool false)], args := [d1, d2, d3] }
  | _ => none }
def AddrLessWrongFalsely : Prop := addrLessRow.holds Try.pinned (OpenSpec.ofChange addrLessWrong)

/-- 'steelyardlaw03.AddrMask': WHATEVER THE INPUT: true; the input reads as it did. -/
def addrMaskSpec : ChangeSpec := { name := "addrMask", fn := fun _ => fun
  | [d1, d2, d3, d4] => { results := [.lit (.bool true)], args := [d1, d2, d3, d4] }
  | _ => none }
def addrMaskRow : OpenClaim := { program := "ytfnpjfcfgilchaa", sum := "f5de0d9ffdb048c750e85f72a428d96d7ac795f9f3bac5da2e93c6c436c4159c", func := "steelyard/steelyardlaw03.AddrMask", spec := "addrMask", inPlace := ["internal/bytealg.Compare"], apart := false }
def AddrMaskSaid : Prop := addrMaskRow.holds Try.pinned (OpenSpec.ofChange addrMaskSpec)

/-- ITS FALSE NEIGHBOUR: 'it returns false'. Refute it at one input. -/
def addrMaskWrong : ChangeSpec := { name := "addrMask", fn := fun _ => fun
  | [d1, d2, d3, d4] => { results := [.lit (.bool false)], args := [d1, d2, d3, d4] }
  | _ => none }
def AddrMaskWrongFalsely : Prop := addrMaskRow.holds Try.pinned (OpenSpec.ofChange addrMaskWrong)

/-- 'steelyardlaw03.AddrAlike': WHATEVER THE INPUT: true; the input reads as it did. -/
def addrAlikeSpec : ChangeSpec := { name := "addrAlike", fn := fun _ => fun
  | [d1, d2, d3, d4] => { results := [.lit (.bool true)], args := [d1, d2, d3, d4] }
  | _ => none }
def addrAlikeRow : OpenClaim := { program := "ytfnpjfcfgilchaa", sum := "f5de0d9ffdb048c750e85f72a428d96d7ac795f9f3bac5da2e93c6c436c4159c", func := "steelyard/steelyardlaw03.AddrAlike", spec := "addrAlike", inPlace := ["internal/bytealg.Compare"], apart := false }
def AddrAlikeSaid : Prop := addrAlikeRow.holds Try.pinned (OpenSpec.ofChange addrAlikeSpec)

/-- ITS FALSE NEIGHBOUR: 'it returns false'. Refute it at one input. -/
def addrAlikeWrong : ChangeSpec := { name := "addrAlike", fn := fun _ => fun
  | [d1, d2, d3, d4] => { results := [.lit (.bool false)], args := [d1, d2, d3, d4] }
  | _ => none }
def AddrAlikeWrongFalsely : Prop := addrAlikeRow.holds Try.pinned (OpenSpec.ofChange addrAlikeWrong)

/-- 'steelyardlaw03.AddrTuples': WHATEVER THE INPUT: true; the input reads as it did. -/
def addrTuplesSpec : ChangeSpec := { name := "addrTuples", fn := fun _ => fun
  | [d1, d2, d3] => { results := [.lit (.bool true)], args := [d1, d2, d3] }
  | _ => none }
def addrTuplesRow : OpenClaim := { program := "ytfnpjfcfgilchaa", sum := "f5de0d9ffdb048c750e85f72a428d96d7ac795f9f3bac5da2e93c6c436c4159c", func := "steelyard/steelyardlaw03.AddrTuples", spec := "addrTuples", inPlace := ["internal/bytealg.Compare"], unfollowed := true, recurses := true, apart := false }
def AddrTuplesSaid : Prop := addrTuplesRow.holds Try.pinned (OpenSpec.ofChange addrTuplesSpec)

/-- ITS FALSE NEIGHBOUR: 'it returns false'. Refute it at one input. -/
def addrTuplesWrong : ChangeSpec := { name := "addrTuples", fn := fun _ => fun
  | [d1, d2, d3] => { results := [.lit (.bool false)], args := [d1, d2, d3] }
  | _ => none }
def AddrTuplesWrongFalsely : Prop := addrTuplesRow.holds Try.pinned (OpenSpec.ofChange addrTuplesWrong)

/-- 'steelyardlaw03.AddrBytes': WHATEVER THE INPUT: true; the input reads as it did. -/
def addrBytesSpec : ChangeSpec := { name := "addrBytes", fn := fun _ => fun
  | [d1, d2] => { results := [.lit (.bool true)], args := [d1, d2] }
  | _ => none }
def addrBytesRow : OpenClaim := { program := "ytfnpjfcfgilchaa", sum := "f5de0d9ffdb048c750e85f72a428d96d7ac795f9f3bac5da2e93c6c436c4159c", func := "steelyard/steelyardlaw03.AddrBytes", spec := "addrBytes", inPlace := ["internal/bytealg.Compare"], unfollowed := true, recurses := true, apart := false }
def AddrBytesSaid : Prop := addrBytesRow.holds Try.pinned (OpenSpec.ofChange addrBytesSpec)

/-- ITS FALSE NEIGHBOUR: 'it returns false'. Refute it at one input. -/
def addrBytesWrong : ChangeSpec := { name := "addrBytes", fn := fun _ => fun
  | [d1, d2] => { results := [.lit (.bool false)], args := [d1, d2] }
  | _ => none }
def AddrBytesWrongFalsely : Prop := addrBytesRow.holds Try.pinned (OpenSpec.ofChange addrBytesWrong)

/- THE SECOND FORM. 'bulk': how many values and letters a reading holds, each counted each time it is reached (what is shared counts as often as it is met; a slice's spare places count too). A statement '..UptoSaid' is the law's where the arguments, and the package variables that the reading takes, are together of bulk at most 1048576: NARROWER than '..Said'. Prove '..Said' where nothing that the law and all that it calls make is longer than what came in: it says more and counts as full. Else prove '..UptoSaid'. A law counts once. -/
mutual
def uptoBulk {H : Type} : DataW H → Nat
  | .lit (.string bytes) => bytes.length + 1
  | .lit _ => 1
  | .nil => 1
  | .ptr d => uptoBulk d + 1
  | .slice elems spare => uptoBulkAll elems + uptoBulkAll spare + 1
  | .agg parts => uptoBulkAll parts + 1
  | .iface _ d => uptoBulk d + 1
  | .map entries => uptoBulkEntries entries + 1
  | .held _ => 1
def uptoBulkAll {H : Type} : List (DataW H) → Nat
  | [] => 0
  | d :: r => uptoBulk d + uptoBulkAll r
def uptoBulkEntries {H : Type} : List (Lit × DataW H) → Nat
  | [] => 0
  | x :: r => uptoBulkEntry x + uptoBulkEntries r
def uptoBulkEntry {H : Type} : Lit × DataW H → Nat
  | (.string bytes, d) => bytes.length + uptoBulk d + 1
  | (_, d) => uptoBulk d + 1
 end
def uptoSmall : (H : Type) → List (DataW H) → Bool := fun _ ds => decide (uptoBulkAll ds ≤ 1048576)
def OpenSpec.upto (s : _root_.Go.ChangeSpec) : _root_.Go.OpenSpec := { _root_.Go.OpenSpec.ofChange s with cond := some uptoSmall }

/-- 'steelyardlaw03.AddrOf', WHERE WHAT IT READS IS OF BULK AT MOST 1048576: true; the input reads as it did. -/
def addrOfUptoRow : OpenClaim := { program := "ytfnpjfcfgilchaa", sum := "f5de0d9ffdb048c750e85f72a428d96d7ac795f9f3bac5da2e93c6c436c4159c", func := "steelyard/steelyardlaw03.AddrOf", spec := "addrOf", inPlace := ["internal/bytealg.Compare"], apart := false, narrowed := true }
def AddrOfUptoSaid : Prop := addrOfUptoRow.holds Try.pinned (OpenSpec.upto addrOfSpec)

/-- 'steelyardlaw03.AddrLess', WHERE WHAT IT READS IS OF BULK AT MOST 1048576: true; the input reads as it did. -/
def addrLessUptoRow : OpenClaim := { program := "ytfnpjfcfgilchaa", sum := "f5de0d9ffdb048c750e85f72a428d96d7ac795f9f3bac5da2e93c6c436c4159c", func := "steelyard/steelyardlaw03.AddrLess", spec := "addrLess", inPlace := ["internal/bytealg.Compare"], apart := false, narrowed := true }
def AddrLessUptoSaid : Prop := addrLessUptoRow.holds Try.pinned (OpenSpec.upto addrLessSpec)

/-- 'steelyardlaw03.AddrMask', WHERE WHAT IT READS IS OF BULK AT MOST 1048576: true; the input reads as it did. -/
def addrMaskUptoRow : OpenClaim := { program := "ytfnpjfcfgilchaa", sum := "f5de0d9ffdb048c750e85f72a428d96d7ac795f9f3bac5da2e93c6c436c4159c", func := "steelyard/steelyardlaw03.AddrMask", spec := "addrMask", inPlace := ["internal/bytealg.Compare"], apart := false, narrowed := true }
def AddrMaskUptoSaid : Prop := addrMaskUptoRow.holds Try.pinned (OpenSpec.upto addrMaskSpec)

/-- 'steelyardlaw03.AddrAlike', WHERE WHAT IT READS IS OF BULK AT MOST 1048576: true; the input reads as it did. -/
def addrAlikeUptoRow : OpenClaim := { program := "ytfnpjfcfgilchaa", sum := "f5de0d9ffdb048c750e85f72a428d96d7ac795f9f3bac5da2e93c6c436c4159c", func := "steelyard/steelyardlaw03.AddrAlike", spec := "addrAlike", inPlace := ["internal/bytealg.Compare"], apart := false, narrowed := true }
def AddrAlikeUptoSaid : Prop := addrAlikeUptoRow.holds Try.pinned (OpenSpec.upto addrAlikeSpec)

/-- 'steelyardlaw03.AddrTuples', WHERE WHAT IT READS IS OF BULK AT MOST 1048576: true; the input reads as it did. -/
def addrTuplesUptoRow : OpenClaim := { program := "ytfnpjfcfgilchaa", sum := "f5de0d9ffdb048c750e85f72a428d96d7ac795f9f3bac5da2e93c6c436c4159c", func := "steelyard/steelyardlaw03.AddrTuples", spec := "addrTuples", inPlace := ["internal/bytealg.Compare"], unfollowed := true, recurses := true, apart := false, narrowed := true }
def AddrTuplesUptoSaid : Prop := addrTuplesUptoRow.holds Try.pinned (OpenSpec.upto addrTuplesSpec)

/-- 'steelyardlaw03.AddrBytes', WHERE WHAT IT READS IS OF BULK AT MOST 1048576: true; the input reads as it did. -/
def addrBytesUptoRow : OpenClaim := { program := "ytfnpjfcfgilchaa", sum := "f5de0d9ffdb048c750e85f72a428d96d7ac795f9f3bac5da2e93c6c436c4159c", func := "steelyard/steelyardlaw03.AddrBytes", spec := "addrBytes", inPlace := ["internal/bytealg.Compare"], unfollowed := true, recurses := true, apart := false, narrowed := true }
def AddrBytesUptoSaid : Prop := addrBytesUptoRow.holds Try.pinned (OpenSpec.upto addrBytesSpec)

end Rows
end Go.Proofs.Ytfnpjfcfgilchaa
