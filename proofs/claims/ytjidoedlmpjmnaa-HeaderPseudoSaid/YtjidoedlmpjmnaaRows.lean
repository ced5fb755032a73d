/-
  No cell of these rows narrows 'for every input' (looked for: loops, veiled, ifaces, maps, wideKeys, modest, calm, conditions, laid).
  DERIVED. THE GIVEN ROWS OF THIS SEAT. 4 by the template 'for every input the law returns true; each argument reads behind the call as it read before'; 0 by the template 'total and deterministic' (their statements: YtjidoedlmpjmnaaTotals.lean).
  GIVEN WITH THE SEED: the statements are not yours to turn. If you find one false, say at which input.
  Laid BY PROGRAM, IN A SANDBOX (cutbox-rows.mjs): the forced cells as the released guide's own fill.sh prints them over the translation fa701f7cf4ce81a6… (all of the seat's roots in one cut). By AI agents, Wed Nov 11 2026. No macro, syntax, notation, axiom, sorry.
-/
import Derived.Test.YtjidoedlmpjmnaaChecked
import GoSem.Claim
import GoSem.ClaimJoined
import GoSem.ClaimMapViews
import Derived.JoinedTies
import Derived.KernelRfl
namespace Go.Proofs.Ytjidoedlmpjmnaa
/- THE CELL 'sum', in the pinned program and in every row, IS THE sha256 OF THE DUMP (.gsa) THAT YtjidoedlmpjmnaaProg.lean LOADS. Nothing in Lean hashes anything: it is a label: what it is worth is what the hold of that sum in a sandbox is worth. -/
noncomputable def Try.pinned : Pinned := { name := "ytjidoedlmpjmnaa", sum := "fa701f7cf4ce81a6a8cf21b2cfdd5c77d9d69404c83eef09a842aa9bad199343", checked := Try.checked }
namespace Rows
def none {H : Type} : Left H := { results := [], args := [] }

/-- 'steelyardlaw04.HeaderPuts': WHATEVER THE INPUT: true; the input reads as it did. -/
def headerPutsSpec : ChangeSpec := { name := "headerPuts", fn := fun _ => fun
  | [d] => { results := [.lit (.bool true)], args := [d] }
  | _ => none }
def headerPutsRow : OpenClaim := { program := "ytjidoedlmpjmnaa", sum := "fa701f7cf4ce81a6a8cf21b2cfdd5c77d9d69404c83eef09a842aa9bad199343", func := "steelyard/steelyardlaw04.HeaderPuts", spec := "headerPuts", unfollowed := true, recurses := true, apart := false }
def HeaderPutsSaid : Prop := headerPutsRow.holds Try.pinned (OpenSpec.ofChange headerPutsSpec)

/-- ITS FALSE NEIGHBOUR: 'it returns false'. Refute it at one input. -/
def headerPutsWrong : ChangeSpec := { name := "headerPuts", fn := fun _ => fun
  | [d] => { results := [.lit (.bool false)], args := [d] }
  | _ => none }
def HeaderPutsWrongFalsely : Prop := headerPutsRow.holds Try.pinned (OpenSpec.ofChange headerPutsWrong)

/-- 'steelyardlaw04.HeaderCut': WHATEVER THE INPUT: true; the input reads as it did. -/
def headerCutSpec : ChangeSpec := { name := "headerCut", fn := fun _ => fun
  | [d1, d2, d3] => { results := [.lit (.bool true)], args := [d1, d2, d3] }
  | _ => none }
def headerCutRow : OpenClaim := { program := "ytjidoedlmpjmnaa", sum := "fa701f7cf4ce81a6a8cf21b2cfdd5c77d9d69404c83eef09a842aa9bad199343", func := "steelyard/steelyardlaw04.HeaderCut", spec := "headerCut", unfollowed := true, recurses := true, apart := false }
def HeaderCutSaid : Prop := headerCutRow.holds Try.pinned (OpenSpec.ofChange headerCutSpec)

/-- ITS FALSE NEIGHBOUR: 'it returns false'. Refute it at one input. -/
def headerCutWrong : ChangeSpec := { name := "headerCut", fn := fun _ => fun
  | [d1, d2, d3] => { results := [.lit (.bool false)], args := [d1, d2, d3] }
  | _ => none }
def HeaderCutWrongFalsely : Prop := headerCutRow.holds Try.pinned (OpenSpec.ofChange headerCutWrong)

/-- 'steelyardlaw04.HeaderSum': WHATEVER THE INPUT: true; the input reads as it did. -/
def headerSumSpec : ChangeSpec := { name := "headerSum", fn := fun _ => fun
  | [d] => { results := [.lit (.bool true)], args := [d] }
  | _ => none }
def headerSumRow : OpenClaim := { program := "ytjidoedlmpjmnaa", sum := "fa701f7cf4ce81a6a8cf21b2cfdd5c77d9d69404c83eef09a842aa9bad199343", func := "steelyard/steelyardlaw04.HeaderSum", spec := "headerSum", unfollowed := true, recurses := true, apart := false }
def HeaderSumSaid : Prop := headerSumRow.holds Try.pinned (OpenSpec.ofChange headerSumSpec)

/-- ITS FALSE NEIGHBOUR: 'it returns false'. Refute it at one input. -/
def headerSumWrong : ChangeSpec := { name := "headerSum", fn := fun _ => fun
  | [d] => { results := [.lit (.bool false)], args := [d] }
  | _ => none }
def HeaderSumWrongFalsely : Prop := headerSumRow.holds Try.pinned (OpenSpec.ofChange headerSumWrong)

/-- 'steelyardlaw04.HeaderPseudo': WHATEVER THE INPUT: true; the input reads as it did. -/
def headerPseudoSpec : ChangeSpec := { name := "headerPseudo", fn := fun _ => fun
  | [d] => { results := [.lit (.bool true)], args := [d] }
  | _ => none }
def headerPseudoRow : OpenClaim := { program := "ytjidoedlmpjmnaa", sum := "fa701f7cf4ce81a6a8cf21b2cfdd5c77d9d69404c83eef09a842aa9bad199343", func := "steelyard/steelyardlaw04.HeaderPseudo", spec := "headerPseudo", unfollowed := true, recurses := true, apart := false }
def HeaderPseudoSaid : Prop := headerPseudoRow.holds Try.pinned (OpenSpec.ofChange headerPseudoSpec)

/-- ITS FALSE NEIGHBOUR: 'it returns false'. Refute it at one input. -/
def headerPseudoWrong : ChangeSpec := { name := "headerPseudo", fn := fun _ => fun
  | [d] => { results := [.lit (.bool false)], args := [d] }
  | _ => none }
def HeaderPseudoWrongFalsely : Prop := headerPseudoRow.holds Try.pinned (OpenSpec.ofChange headerPseudoWrong)

/- THE SECOND FORM. 'bulk': how many values and letters a reading holds, each counted each time it is reached (what is shared counts as often as it is met; a slice's spare places count too). A statement '..UptoSaid' is the law's where the arguments, and the package variables that the reading takes, are together of bulk at most 1048576: NARROWER than '..Said'. Prove '..Said' where nothing that the law and all that it calls make is longer than what came in: it says more and counts as full. Else prove '..UptoSaid'. A law counts once. -/
mutual
def uptoBulk {H : Type} : DataW H → Nat
  | .lit (.string bytes) => bytes.length + 1
  | .lit _ => 1
  | .nil => 1
  | .ptr d => uptoBulk d + 1
  | .slice elems spare => uptoBulkAll elems + uptoBulkAll spare + 1
  | .agg parts => uptoBulkAll parts + 1
  | .iface _ d => uptoBulk d + 1
  | .map entries => uptoBulkEntries entries + 1
  | .held _ => 1
def uptoBulkAll {H : Type} : List (DataW H) → Nat
  | [] => 0
  | d :: r => uptoBulk d + uptoBulkAll r
def uptoBulkEntries {H : Type} : List (Lit × DataW H) → Nat
  | [] => 0
  | x :: r => uptoBulkEntry x + uptoBulkEntries r
def uptoBulkEntry {H : Type} : Lit × DataW H → Nat
  | (.string bytes, d) => bytes.length + uptoBulk d + 1
  | (_, d) => uptoBulk d + 1
 end
def uptoSmall : (H : Type) → List (DataW H) → Bool := fun _ ds => decide (uptoBulkAll ds ≤ 1048576)
def OpenSpec.upto (s : _root_.Go.ChangeSpec) : _root_.Go.OpenSpec := { _root_.Go.OpenSpec.ofChange s with cond := some uptoSmall }

/-- 'steelyardlaw04.HeaderPuts', WHERE WHAT IT READS IS OF BULK AT MOST 1048576: true; the input reads as it did. -/
def headerPutsUptoRow : OpenClaim := { program := "ytjidoedlmpjmnaa", sum := "fa701f7cf4ce81a6a8cf21b2cfdd5c77d9d69404c83eef09a842aa9bad199343", func := "steelyard/steelyardlaw04.HeaderPuts", spec := "headerPuts", unfollowed := true, recurses := true, apart := false, narrowed := true }
def HeaderPutsUptoSaid : Prop := headerPutsUptoRow.holds Try.pinned (OpenSpec.upto headerPutsSpec)

/-- 'steelyardlaw04.HeaderCut', WHERE WHAT IT READS IS OF BULK AT MOST 1048576: true; the input reads as it did. -/
def headerCutUptoRow : OpenClaim := { program := "ytjidoedlmpjmnaa", sum := "fa701f7cf4ce81a6a8cf21b2cfdd5c77d9d69404c83eef09a842aa9bad199343", func := "steelyard/steelyardlaw04.HeaderCut", spec := "headerCut", unfollowed := true, recurses := true, apart := false, narrowed := true }
def HeaderCutUptoSaid : Prop := headerCutUptoRow.holds Try.pinned (OpenSpec.upto headerCutSpec)

/-- 'steelyardlaw04.HeaderSum', WHERE WHAT IT READS IS OF BULK AT MOST 1048576: true; the input reads as it did. -/
def headerSumUptoRow : OpenClaim := { program := "ytjidoedlmpjmnaa", sum := "fa701f7cf4ce81a6a8cf21b2cfdd5c77d9d69404c83eef09a842aa9bad199343", func := "steelyard/steelyardlaw04.HeaderSum", spec := "headerSum", unfollowed := true, recurses := true, apart := false, narrowed := true }
def HeaderSumUptoSaid : Prop := headerSumUptoRow.holds Try.pinned (OpenSpec.upto headerSumSpec)

/-- 'steelyardlaw04.HeaderPseudo', WHERE WHAT IT READS IS OF BULK AT MOST 1048576: true; the input reads as it did. -/
def headerPseudoUptoRow : OpenClaim := { program := "ytjidoedlmpjmnaa", sum := "fa701f7cf4ce81a6a8cf21b2cfdd5c77d9d69404c83eef09a842aa9bad199343", func := "steelyard/steelyardlaw04.HeaderPseudo", spec := "headerPseudo", unfollowed := true, recurses := true, apart := false, narrowed := true }
def HeaderPseudoUptoSaid : Prop := headerPseudoUptoRow.holds Try.pinned (OpenSpec.upto headerPseudoSpec)

end Rows
end Go.Proofs.Ytjidoedlmpjmnaa
