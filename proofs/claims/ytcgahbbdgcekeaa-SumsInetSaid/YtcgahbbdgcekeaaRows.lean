/-
  No cell of these rows narrows 'for every input' (looked for: loops, veiled, ifaces, maps, wideKeys, modest, calm, conditions, laid).
  DERIVED. THE GIVEN ROWS OF THIS SEAT. 6 by the template 'for every input the law returns true; each argument reads behind the call as it read before'; 0 by the template 'total and deterministic' (their statements: YtcgahbbdgcekeaaTotals.lean).
  GIVEN WITH THE SEED: the statements are not yours to turn. If you find one false, say at which input.
  Laid BY PROGRAM, IN A SANDBOX (cutbox-rows.mjs): the forced cells as the released guide's own fill.sh prints them over the translation 22a910ff286ef9a7… (all of the seat's roots in one cut). By AI agents, Wed Nov 11 2026. No macro, syntax, notation, axiom, sorry.
-/
import Derived.Test.YtcgahbbdgcekeaaChecked
import GoSem.Claim
import GoSem.ClaimJoined
import GoSem.ClaimMapViews
import Derived.JoinedTies
import Derived.KernelRfl
namespace Go.Proofs.Ytcgahbbdgcekeaa
/- THE CELL 'sum', in the pinned program and in every row, IS THE sha256 OF THE DUMP (.gsa) THAT YtcgahbbdgcekeaaProg.lean LOADS. Nothing in Lean hashes anything: it is a label: what it is worth is what the hold of that sum in a sandbox is worth. -/
noncomputable def Try.pinned : Pinned := { name := "ytcgahbbdgcekeaa", sum := "22a910ff286ef9a7e62a663fd693a87b0d9555a0dcf7028237bf786fed6e6323", checked := Try.checked }
namespace Rows
def none {H : Type} : Left H := { results := [], args := [] }

/-- 'steelyardlaw02.SumsCrc': WHATEVER THE INPUT: true; the input reads as it did. -/
def sumsCrcSpec : ChangeSpec := { name := "sumsCrc", fn := fun _ => fun
  | [d1, d2] => { results := [.lit (.bool true)], args := [d1, d2] }
  | _ => none }
def sumsCrcRow : OpenClaim := { program := "ytcgahbbdgcekeaa", sum := "22a910ff286ef9a7e62a663fd693a87b0d9555a0dcf7028237bf786fed6e6323", func := "steelyard/steelyardlaw02.SumsCrc", spec := "sumsCrc", apart := false }
def SumsCrcSaid : Prop := sumsCrcRow.holds Try.pinned (OpenSpec.ofChange sumsCrcSpec)

/-- ITS FALSE NEIGHBOUR: 'it returns false'. Refute it at one input. -/
def sumsCrcWrong : ChangeSpec := { name := "sumsCrc", fn := fun _ => fun
  | [d1, d2] => { results := [.lit (.bool false)], args := [d1, d2] }
  | _ => none }
def SumsCrcWrongFalsely : Prop := sumsCrcRow.holds Try.pinned (OpenSpec.ofChange sumsCrcWrong)

/-- 'steelyardlaw02.SumsPieces': WHATEVER THE INPUT: true; the input reads as it did. -/
def sumsPiecesSpec : ChangeSpec := { name := "sumsPieces", fn := fun _ => fun
  | [d1, d2, d3] => { results := [.lit (.bool true)], args := [d1, d2, d3] }
  | _ => none }
def sumsPiecesRow : OpenClaim := { program := "ytcgahbbdgcekeaa", sum := "22a910ff286ef9a7e62a663fd693a87b0d9555a0dcf7028237bf786fed6e6323", func := "steelyard/steelyardlaw02.SumsPieces", spec := "sumsPieces", apart := false }
def SumsPiecesSaid : Prop := sumsPiecesRow.holds Try.pinned (OpenSpec.ofChange sumsPiecesSpec)

/-- ITS FALSE NEIGHBOUR: 'it returns false'. Refute it at one input. -/
def sumsPiecesWrong : ChangeSpec := { name := "sumsPieces", fn := fun _ => fun
  | [d1, d2, d3] => { results := [.lit (.bool false)], args := [d1, d2, d3] }
  | _ => none }
def SumsPiecesWrongFalsely : Prop := sumsPiecesRow.holds Try.pinned (OpenSpec.ofChange sumsPiecesWrong)

/-- 'steelyardlaw02.SumsOwn': WHATEVER THE INPUT: true; the input reads as it did. -/
def sumsOwnSpec : ChangeSpec := { name := "sumsOwn", fn := fun _ => fun
  | [d] => { results := [.lit (.bool true)], args := [d] }
  | _ => none }
def sumsOwnRow : OpenClaim := { program := "ytcgahbbdgcekeaa", sum := "22a910ff286ef9a7e62a663fd693a87b0d9555a0dcf7028237bf786fed6e6323", func := "steelyard/steelyardlaw02.SumsOwn", spec := "sumsOwn", apart := false }
def SumsOwnSaid : Prop := sumsOwnRow.holds Try.pinned (OpenSpec.ofChange sumsOwnSpec)

/-- ITS FALSE NEIGHBOUR: 'it returns false'. Refute it at one input. -/
def sumsOwnWrong : ChangeSpec := { name := "sumsOwn", fn := fun _ => fun
  | [d] => { results := [.lit (.bool false)], args := [d] }
  | _ => none }
def SumsOwnWrongFalsely : Prop := sumsOwnRow.holds Try.pinned (OpenSpec.ofChange sumsOwnWrong)

/-- 'steelyardlaw02.SumsTurned': WHATEVER THE INPUT: true; the input reads as it did. -/
def sumsTurnedSpec : ChangeSpec := { name := "sumsTurned", fn := fun _ => fun
  | [d1, d2, d3] => { results := [.lit (.bool true)], args := [d1, d2, d3] }
  | _ => none }
def sumsTurnedRow : OpenClaim := { program := "ytcgahbbdgcekeaa", sum := "22a910ff286ef9a7e62a663fd693a87b0d9555a0dcf7028237bf786fed6e6323", func := "steelyard/steelyardlaw02.SumsTurned", spec := "sumsTurned", apart := false }
def SumsTurnedSaid : Prop := sumsTurnedRow.holds Try.pinned (OpenSpec.ofChange sumsTurnedSpec)

/-- ITS FALSE NEIGHBOUR: 'it returns false'. Refute it at one input. -/
def sumsTurnedWrong : ChangeSpec := { name := "sumsTurned", fn := fun _ => fun
  | [d1, d2, d3] => { results := [.lit (.bool false)], args := [d1, d2, d3] }
  | _ => none }
def SumsTurnedWrongFalsely : Prop := sumsTurnedRow.holds Try.pinned (OpenSpec.ofChange sumsTurnedWrong)

/-- 'steelyardlaw02.SumsInet': WHATEVER THE INPUT: true; the input reads as it did. -/
def sumsInetSpec : ChangeSpec := { name := "sumsInet", fn := fun _ => fun
  | [d1, d2, d3, d4] => { results := [.lit (.bool true)], args := [d1, d2, d3, d4] }
  | _ => none }
def sumsInetRow : OpenClaim := { program := "ytcgahbbdgcekeaa", sum := "22a910ff286ef9a7e62a663fd693a87b0d9555a0dcf7028237bf786fed6e6323", func := "steelyard/steelyardlaw02.SumsInet", spec := "sumsInet", apart := false }
def SumsInetSaid : Prop := sumsInetRow.holds Try.pinned (OpenSpec.ofChange sumsInetSpec)

/-- ITS FALSE NEIGHBOUR: 'it returns false'. Refute it at one input. -/
def sumsInetWrong : ChangeSpec := { name := "sumsInet", fn := fun _ => fun
  | [d1, d2, d3, d4] => { results := [.lit (.bool false)], args := [d1, d2, d3, d4] }
  | _ => none }
def SumsInetWrongFalsely : Prop := sumsInetRow.holds Try.pinned (OpenSpec.ofChange sumsInetWrong)

/-- 'steelyardlaw02.SumsUpdates': WHATEVER THE INPUT: true; the input reads as it did. -/
def sumsUpdatesSpec : ChangeSpec := { name := "sumsUpdates", fn := fun _ => fun
  | [d1, d2, d3] => { results := [.lit (.bool true)], args := [d1, d2, d3] }
  | _ => none }
def sumsUpdatesRow : OpenClaim := { program := "ytcgahbbdgcekeaa", sum := "22a910ff286ef9a7e62a663fd693a87b0d9555a0dcf7028237bf786fed6e6323", func := "steelyard/steelyardlaw02.SumsUpdates", spec := "sumsUpdates", apart := false }
def SumsUpdatesSaid : Prop := sumsUpdatesRow.holds Try.pinned (OpenSpec.ofChange sumsUpdatesSpec)

/-- ITS FALSE NEIGHBOUR: 'it returns false'. Refute it at one input. -/
def sumsUpdatesWrong : ChangeSpec := { name := "sumsUpdates", fn := fun _ => fun
  | [d1, d2, d3] => { results := [.lit (.bool false)], args := [d1, d2, d3] }
  | _ => none }
def SumsUpdatesWrongFalsely : Prop := sumsUpdatesRow.holds Try.pinned (OpenSpec.ofChange sumsUpdatesWrong)

/- THE SECOND FORM. 'bulk': how many values and letters a reading holds, each counted each time it is reached (what is shared counts as often as it is met; a slice's spare places count too). A statement '..UptoSaid' is the law's where the arguments, and the package variables that the reading takes, are together of bulk at most 1048576: NARROWER than '..Said'. Prove '..Said' where nothing that the law and all that it calls make is longer than what came in: it says more and counts as full. Else prove '..UptoSaid'. A law counts once. -/
mutual
def uptoBulk {H : Type} : DataW H → Nat
  | .lit (.string bytes) => bytes.length + 1
  | .lit _ => 1
  | .nil => 1
  | .ptr d => uptoBulk d + 1
  | .slice elems spare => uptoBulkAll elems + uptoBulkAll spare + 1
  | .agg parts => uptoBulkAll parts + 1
  | .iface _ d => uptoBulk d + 1
  | .map entries => uptoBulkEntries entries + 1
  | .held _ => 1
def uptoBulkAll {H : Type} : List (DataW H) → Nat
  | [] => 0
  | d :: r => uptoBulk d + uptoBulkAll r
def uptoBulkEntries {H : Type} : List (Lit × DataW H) → Nat
  | [] => 0
  | x :: r => uptoBulkEntry x + uptoBulkEntries r
def uptoBulkEntry {H : Type} : Lit × DataW H → Nat
  | (.string bytes, d) => bytes.length + uptoBulk d + 1
  | (_, d) => uptoBulk d + 1
 end
def uptoSmall : (H : Type) → List (DataW H) → Bool := fun _ ds => decide (uptoBulkAll ds ≤ 1048576)
def OpenSpec.upto (s : _root_.Go.ChangeSpec) : _root_.Go.OpenSpec := { _root_.Go.OpenSpec.ofChange s with cond := some uptoSmall }

/-- 'steelyardlaw02.SumsCrc', WHERE WHAT IT READS IS OF BULK AT MOST 1048576: true; the input reads as it did. -/
def sumsCrcUptoRow : OpenClaim := { program := "ytcgahbbdgcekeaa", sum := "22a910ff286ef9a7e62a663fd693a87b0d9555a0dcf7028237bf786fed6e6323", func := "steelyard/steelyardlaw02.SumsCrc", spec := "sumsCrc", apart := false, narrowed := true }
def SumsCrcUptoSaid : Prop := sumsCrcUptoRow.holds Try.pinned (OpenSpec.upto sumsCrcSpec)

/-- 'steelyardlaw02.SumsPieces', WHERE WHAT IT READS IS OF BULK AT MOST 1048576: true; the input reads as it did. -/
def sumsPiecesUptoRow : OpenClaim := { program := "ytcgahbbdgcekeaa", sum := "22a910ff286ef9a7e62a663fd693a87b0d9555a0dcf7028237bf786fed6e6323", func := "steelyard/steelyardlaw02.SumsPieces", spec := "sumsPieces", apart := false, narrowed := true }
def SumsPiecesUptoSaid : Prop := sumsPiecesUptoRow.holds Try.pinned (OpenSpec.upto sumsPiecesSpec)

/-- 'steelyardlaw02.SumsOwn', WHERE WHAT IT READS IS OF BULK AT MOST 1048576: true; the input reads as it did. -/
def sumsOwnUptoRow : OpenClaim := { program := "ytcgahbbdgcekeaa", sum := "22a910ff286ef9a7e62a663fd693a87b0d9555a0dcf7028237bf786fed6e6323", func := "steelyard/steelyardlaw02.SumsOwn", spec := "sumsOwn", apart := false, narrowed := true }
def SumsOwnUptoSaid : Prop := sumsOwnUptoRow.holds Try.pinned (OpenSpec.upto sumsOwnSpec)

/-- 'steelyardlaw02.SumsTurned', WHERE WHAT IT READS IS OF BULK AT MOST 1048576: true; the input reads as it did. -/
def sumsTurnedUptoRow : OpenClaim := { program := "ytcgahbbdgcekeaa", sum := "22a910ff286ef9a7e62a663fd693a87b0d9555a0dcf7028237bf786fed6e6323", func := "steelyard/steelyardlaw02.SumsTurned", spec := "sumsTurned", apart := false, narrowed := true }
def SumsTurnedUptoSaid : Prop := sumsTurnedUptoRow.holds Try.pinned (OpenSpec.upto sumsTurnedSpec)

/-- 'steelyardlaw02.SumsInet', WHERE WHAT IT READS IS OF BULK AT MOST 1048576: true; the input reads as it did. -/
def sumsInetUptoRow : OpenClaim := { program := "ytcgahbbdgcekeaa", sum := "22a910ff286ef9a7e62a663fd693a87b0d9555a0dcf7028237bf786fed6e6323", func := "steelyard/steelyardlaw02.SumsInet", spec := "sumsInet", apart := false, narrowed := true }
def SumsInetUptoSaid : Prop := sumsInetUptoRow.holds Try.pinned (OpenSpec.upto sumsInetSpec)

/-- 'steelyardlaw02.SumsUpdates', WHERE WHAT IT READS IS OF BULK AT MOST 1048576: true; the input reads as it did. -/
def sumsUpdatesUptoRow : OpenClaim := { program := "ytcgahbbdgcekeaa", sum := "22a910ff286ef9a7e62a663fd693a87b0d9555a0dcf7028237bf786fed6e6323", func := "steelyard/steelyardlaw02.SumsUpdates", spec := "sumsUpdates", apart := false, narrowed := true }
def SumsUpdatesUptoSaid : Prop := sumsUpdatesUptoRow.holds Try.pinned (OpenSpec.upto sumsUpdatesSpec)

end Rows
end Go.Proofs.Ytcgahbbdgcekeaa
