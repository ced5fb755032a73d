/-
  No cell of these rows narrows 'for every input' (looked for: loops, veiled, ifaces, maps, wideKeys, modest, calm, conditions, laid).
  DERIVED. THE GIVEN ROWS OF THIS SEAT. 5 by the template 'for every input the law returns true; each argument reads behind the call as it read before'; 0 by the template 'total and deterministic' (their statements: YtjcmcjhfmcabnaaTotals.lean).
  GIVEN WITH THE SEED: the statements are not yours to turn. If you find one false, say at which input.
  Laid BY PROGRAM, IN A SANDBOX (cutbox-rows.mjs): the forced cells as the released guide's own fill.sh prints them over the translation 603eeee947911b10… (all of the seat's roots in one cut). By AI agents, Wed Nov 11 2026. No macro, syntax, notation, axiom, sorry.
-/
import Derived.Test.YtjcmcjhfmcabnaaChecked
import GoSem.Claim
import GoSem.ClaimJoined
import GoSem.ClaimMapViews
import Derived.JoinedTies
import Derived.KernelRfl
namespace Go.Proofs.Ytjcmcjhfmcabnaa
/- THE CELL 'sum', in the pinned program and in every row, IS THE sha256 OF THE DUMP (.gsa) THAT YtjcmcjhfmcabnaaProg.lean LOADS. Nothing in Lean hashes anything: it is a label: what it is worth is what the hold of that sum in a sandbox is worth. -/
noncomputable def Try.pinned : Pinned := { name := "ytjcmcjhfmcabnaa", sum := "603eeee947911b10f60f30aab8c8dff797dc9e9618f45ad8adc99ec4dc6f4d85", checked := Try.checked }
namespace Rows
def none {H : Type} : Left H := { results := [], args := [] }

/-- 'steelyardlaw09.HashSip': WHATEVER THE INPUT: true; the input reads as it did. -/
def hashSipSpec : ChangeSpec := { name := "hashSip", fn := fun _ => fun
  | [d1, d2, d3] => { results := [.lit (.bool true)], args := [d1, d2, d3] }
  | _ => none }
def hashSipRow : OpenClaim := { program := "ytjcmcjhfmcabnaa", sum := "603eeee947911b10f60f30aab8c8dff797dc9e9618f45ad8adc99ec4dc6f4d85", func := "steelyard/steelyardlaw09.HashSip", spec := "hashSip", apart := false }
def HashSipSaid : Prop := hashSipRow.holds Try.pinned (OpenSpec.ofChange hashSipSpec)

/-- ITS FALSE NEIGHBOUR: 'it returns false'. Refute it at one input. -/
def hashSipWrong : ChangeSpec := { name := "hashSip", fn := fun _ => fun
  | [d1, d2, d3] => { results := [.lit (.bool false)], args := [d1, d2, d3] }
  | _ => none }
def HashSipWrongFalsely : Prop := hashSipRow.holds Try.pinned (OpenSpec.ofChange hashSipWrong)

/-- 'steelyardlaw09.HashShort': WHATEVER THE INPUT: true; the input reads as it did. -/
def hashShortSpec : ChangeSpec := { name := "hashShort", fn := fun _ => fun
  | [d1, d2, d3] => { results := [.lit (.bool true)], args := [d1, d2, d3] }
  | _ => none }
def hashShortRow : OpenClaim := { program := "ytjcmcjhfmcabnaa", sum := "603eeee947911b10f60f30aab8c8dff797dc9e9618f45ad8adc99ec4dc6f4d85", func := "steelyard/steelyardlaw09.HashShort", spec := "hashShort", apart := false }
def HashShortSaid : Prop := hashShortRow.holds Try.pinned (OpenSpec.ofChange hashShortSpec)

/-- ITS FALSE NEIGHBOUR: 'it returns false'. Refute it at one input. -/
def hashShortWrong : ChangeSpec := { name := "hashShort", fn := fun _ => fun
  | [d1, d2, d3] => { results := [.lit (.bool false)], args := [d1, d2, d3] }
  | _ => none }
def HashShortWrongFalsely : Prop := hashShortRow.holds Try.pinned (OpenSpec.ofChange hashShortWrong)

/-- 'steelyardlaw09.HashMix': WHATEVER THE INPUT: true; the input reads as it did. -/
def hashMixSpec : ChangeSpec := { name := "hashMix", fn := fun _ => fun
  | [d1, d2, d3, d4] => { results := [.lit (.bool true)], args := [d1, d2, d3, d4] }
  | _ => none }
def hashMixRow : OpenClaim := { program := "ytjcmcjhfmcabnaa", sum := "603eeee947911b10f60f30aab8c8dff797dc9e9618f45ad8adc99ec4dc6f4d85", func := "steelyard/steelyardlaw09.HashMix", spec := "hashMix", apart := false }
def HashMixSaid : Prop := hashMixRow.holds Try.pinned (OpenSpec.ofChange hashMixSpec)

/-- ITS FALSE NEIGHBOUR: 'it returns false'. Refute it at one input. -/
def hashMixWrong : ChangeSpec := { name := "hashMix", fn := fun _ => fun
  | [d1, d2, d3, d4] => { results := [.lit (.bool false)], args := [d1, d2, d3, d4] }
  | _ => none }
def HashMixWrongFalsely : Prop := hashMixRow.holds Try.pinned (OpenSpec.ofChange hashMixWrong)

/-- 'steelyardlaw09.HashApart': WHATEVER THE INPUT: true; the input reads as it did. -/
def hashApartSpec : ChangeSpec := { name := "hashApart", fn := fun _ => fun
  | [d1, d2, d3, d4] => { results := [.lit (.bool true)], args := [d1, d2, d3, d4] }
  | _ => none }
def hashApartRow : OpenClaim := { program := "ytjcmcjhfmcabnaa", sum := "603eeee947911b10f60f30aab8c8dff797dc9e9618f45ad8adc99ec4dc6f4d85", func := "steelyard/steelyardlaw09.HashApart", spec := "hashApart", apart := false }
def HashApartSaid : Prop := hashApartRow.holds Try.pinned (OpenSpec.ofChange hashApartSpec)

/-- ITS FALSE NEIGHBOUR: 'it returns false'. Refute it at one input. -/
def hashApartWrong : ChangeSpec := { name := "hashApart", fn := fun _ => fun
  | [d1, d2, d3, d4] => { results := [.lit (.bool false)], args := [d1, d2, d3, d4] }
  | _ => none }
def HashApartWrongFalsely : Prop := hashApartRow.holds Try.pinned (OpenSpec.ofChange hashApartWrong)

/-- 'steelyardlaw09.HashFlow': WHATEVER THE INPUT: true; the input reads as it did. -/
def hashFlowSpec : ChangeSpec := { name := "hashFlow", fn := fun _ => fun
  | [d1, d2] => { results := [.lit (.bool true)], args := [d1, d2] }
  | _ => none }
def hashFlowRow : OpenClaim := { program := "ytjcmcjhfmcabnaa", sum := "603eeee947911b10f60f30aab8c8dff797dc9e9618f45ad8adc99ec4dc6f4d85", func := "steelyard/steelyardlaw09.HashFlow", spec := "hashFlow", unfollowed := true, recurses := true, apart := false }
def HashFlowSaid : Prop := hashFlowRow.holds Try.pinned (OpenSpec.ofChange hashFlowSpec)

/-- ITS FALSE NEIGHBOUR: 'it returns false'. Refute it at one input. -/
def hashFlowWrong : ChangeSpec := { name := "hashFlow", fn := fun _ => fun
  | [d1, d2] => { results := [.lit (.bool false)], args := [d1, d2] }
  | _ => none }
def HashFlowWrongFalsely : Prop := hashFlowRow.holds Try.pinned (OpenSpec.ofChange hashFlowWrong)

/- THE SECOND FORM. 'bulk': how many values and letters a reading holds, each counted each time it is reached (what is shared counts as often as it is met; a slice's spare places count too). A statement '..UptoSaid' is the law's where the arguments, and the package variables that the reading takes, are together of bulk at most 1048576: NARROWER than '..Said'. Prove '..Said' where nothing that the law and all that it calls make is longer than what came in: it says more and counts as full. Else prove '..UptoSaid'. A law counts once. -/
mutual
def uptoBulk {H : Type} : DataW H → Nat
  | .lit (.string bytes) => bytes.length + 1
  | .lit _ => 1
  | .nil => 1
  | .ptr d => uptoBulk d + 1
  | .slice elems spare => uptoBulkAll elems + uptoBulkAll spare + 1
  | .agg parts => uptoBulkAll parts + 1
  | .iface _ d => uptoBulk d + 1
  | .map entries => uptoBulkEntries entries + 1
  | .held _ => 1
def uptoBulkAll {H : Type} : List (DataW H) → Nat
  | [] => 0
  | d :: r => uptoBulk d + uptoBulkAll r
def uptoBulkEntries {H : Type} : List (Lit × DataW H) → Nat
  | [] => 0
  | x :: r => uptoBulkEntry x + uptoBulkEntries r
def uptoBulkEntry {H : Type} : Lit × DataW H → Nat
  | (.string bytes, d) => bytes.length + uptoBulk d + 1
  | (_, d) => uptoBulk d + 1
 end
def uptoSmall : (H : Type) → List (DataW H) → Bool := fun _ ds => decide (uptoBulkAll ds ≤ 1048576)
def OpenSpec.upto (s : _root_.Go.ChangeSpec) : _root_.Go.OpenSpec := { _root_.Go.OpenSpec.ofChange s with cond := some uptoSmall }

/-- 'steelyardlaw09.HashSip', WHERE WHAT IT READS IS OF BULK AT MOST 1048576: true; the input reads as it did. -/
def hashSipUptoRow : OpenClaim := { program := "ytjcmcjhfmcabnaa", sum := "603eeee947911b10f60f30aab8c8dff797dc9e9618f45ad8adc99ec4dc6f4d85", func := "steelyard/steelyardlaw09.HashSip", spec := "hashSip", apart := false, narrowed := true }
def HashSipUptoSaid : Prop := hashSipUptoRow.holds Try.pinned (OpenSpec.upto hashSipSpec)

/-- 'steelyardlaw09.HashShort', WHERE WHAT IT READS IS OF BULK AT MOST 1048576: true; the input reads as it did. -/
def hashShortUptoRow : OpenClaim := { program := "ytjcmcjhfmcabnaa", sum := "603eeee947911b10f60f30aab8c8dff797dc9e9618f45ad8adc99ec4dc6f4d85", func := "steelyard/steelyardlaw09.HashShort", spec := "hashShort", apart := false, narrowed := true }
def HashShortUptoSaid : Prop := hashShortUptoRow.holds Try.pinned (OpenSpec.upto hashShortSpec)

/-- 'steelyardlaw09.HashMix', WHERE WHAT IT READS IS OF BULK AT MOST 1048576: true; the input reads as it did. -/
def hashMixUptoRow : OpenClaim := { program := "ytjcmcjhfmcabnaa", sum := "603eeee947911b10f60f30aab8c8dff797dc9e9618f45ad8adc99ec4dc6f4d85", func := "steelyard/steelyardlaw09.HashMix", spec := "hashMix", apart := false, narrowed := true }
def HashMixUptoSaid : Prop := hashMixUptoRow.holds Try.pinned (OpenSpec.upto hashMixSpec)

/-- 'steelyardlaw09.HashApart', WHERE WHAT IT READS IS OF BULK AT MOST 1048576: true; the input reads as it did. -/
def hashApartUptoRow : OpenClaim := { program := "ytjcmcjhfmcabnaa", sum := "603eeee947911b10f60f30aab8c8dff797dc9e9618f45ad8adc99ec4dc6f4d85", func := "steelyard/steelyardlaw09.HashApart", spec := "hashApart", apart := false, narrowed := true }
def HashApartUptoSaid : Prop := hashApartUptoRow.holds Try.pinned (OpenSpec.upto hashApartSpec)

/-- 'steelyardlaw09.HashFlow', WHERE WHAT IT READS IS OF BULK AT MOST 1048576: true; the input reads as it did. -/
def hashFlowUptoRow : OpenClaim := { program := "ytjcmcjhfmcabnaa", sum := "603eeee947911b10f60f30aab8c8dff797dc9e9618f45ad8adc99ec4dc6f4d85", func := "steelyard/steelyardlaw09.HashFlow", spec := "hashFlow", unfollowed := true, recurses := true, apart := false, narrowed := true }
def HashFlowUptoSaid : Prop := hashFlowUptoRow.holds Try.pinned (OpenSpec.upto hashFlowSpec)

end Rows
end Go.Proofs.Ytjcmcjhfmcabnaa
