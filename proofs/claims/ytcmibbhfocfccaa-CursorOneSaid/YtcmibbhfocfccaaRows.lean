/-
  No cell of these rows narrows 'for every input' (looked for: loops, veiled, ifaces, maps, wideKeys, modest, calm, conditions, laid).
  DERIVED. THE GIVEN ROWS OF THIS SEAT. 5 by the template 'for every input the law returns true; each argument reads behind the call as it read before'; 0 by the template 'total and deterministic' (their statements: YtcmibbhfocfccaaTotals.lean).
  GIVEN WITH THE SEED: the statements are not yours to turn. If you find one false, say at which input.
  Laid BY PROGRAM, IN A SANDBOX (cutbox-rows.mjs): the forced cells as the released guide's own fill.sh prints them over the translation f04d210b26046379… (all of the seat's roots in one cut). By AI agents, Wed Nov 11 2026. No macro, syntax, notation, axiom, sorry.
-/
import Derived.Test.YtcmibbhfocfccaaChecked
import GoSem.Claim
import GoSem.ClaimJoined
import GoSem.ClaimMapViews
import Derived.JoinedTies
import Derived.KernelRfl
namespace Go.Proofs.Ytcmibbhfocfccaa
/- THE CELL 'sum', in the pinned program and in every row, IS THE sha256 OF THE DUMP (.gsa) THAT YtcmibbhfocfccaaProg.lean LOADS. Nothing in Lean hashes anything: it is a label: what it is worth is what the hold of that sum in a sandbox is worth. -/
noncomputable def Try.pinned : Pinned := { name := "ytcmibbhfocfccaa", sum := "f04d210b26046379b3f97a6cd3500d74dbef509072da459d9c42f0686bcc7f54", checked := Try.checked }
namespace Rows
def none {H : Type} : Left H := { results := [], args := [] }

/-- 'steelyardlaw01.CursorRuns': WHATEVER THE INPUT: true; the input reads as it did. -/
def cursorRunsSpec : ChangeSpec := { name := "cursorRuns", fn := fun _ => fun
  | [d1, d2] => { results := [.lit (.bool true)], args := [d1, d2] }
  | _ => none }
def cursorRunsRow : OpenClaim := { program := "ytcmibbhfocfccaa", sum := "f04d210b26046379b3f97a6cd3500d74dbef509072da459d9c42f0686bcc7f54", func := "steelyard/steelyardlaw01.CursorRuns", spec := "cursorRuns", unfollowed := true, recurses := true, apart := false }
def CursorRunsSaid : Prop := cursorRunsRow.holds Try.pinned (OpenSpec.ofChange cursorRunsSpec)

/-- ITS FALSE NEIGHBOUR: 'it returns false'. Refute it at one input. -/
def cursorRunsWrong : ChangeSpec := { name := "cursorRuns", fn := fun _ => fun
  | [d1, d2] => { results := [.lit (.bool false)], args := [d1, d2] }
  | _ => none }
def CursorRunsWrongFalsely : Prop := cursorRunsRow.holds Try.pinned (OpenSpec.ofChange cursorRunsWrong)

/-- 'steelyardlaw01.CursorMore': WHATEVER THE INPUT: true; the input reads as it did. -/
def cursorMoreSpec : ChangeSpec := { name := "cursorMore", fn := fun _ => fun
  | [d1, d2, d3] => { results := [.lit (.bool true)], args := [d1, d2, d3] }
  | _ => none }
def cursorMoreRow : OpenClaim := { program := "ytcmibbhfocfccaa", sum := "f04d210b26046379b3f97a6cd3500d74dbef509072da459d9c42f0686bcc7f54", func := "steelyard/steelyardlaw01.CursorMore", spec := "cursorMore", unfollowed := true, recurses := true, apart := false }
def CursorMoreSaid : Prop := cursorMoreRow.holds Try.pinned (OpenSpec.ofChange cursorMoreSpec)

/-- ITS FALSE NEIGHBOUR: 'it returns false'. Refute it at one input. -/
def cursorMoreWrong : ChangeSpec := { name := "cursorMore", fn := fun _ => fun
  | [d1, d2, d3] => { results := [.lit (.bool false)], args := [d1, d2, d3] }
  | _ => none }
def CursorMoreWrongFalsely : Prop := cursorMoreRow.holds Try.pinned (OpenSpec.ofChange cursorMoreWrong)

/-- 'steelyardlaw01.CursorCut': WHATEVER THE INPUT: true; the input reads as it did. -/
def cursorCutSpec : ChangeSpec := { name := "cursorCut", fn := fun _ => fun
  | [d1, d2, d3] => { results := [.lit (.bool true)], args := [d1, d2, d3] }
  | _ => none }
def cursorCutRow : OpenClaim := { program := "ytcmibbhfocfccaa", sum := "f04d210b26046379b3f97a6cd3500d74dbef509072da459d9c42f0686bcc7f54", func := "steelyard/steelyardlaw01.CursorCut", spec := "cursorCut", unfollowed := true, recurses := true, apart := false }
def CursorCutSaid : Prop := cursorCutRow.holds Try.pinned (OpenSpec.ofChange cursorCutSpec)

/-- ITS FALSE NEIGHBOUR: 'it returns false'. Refute it at one input. -/
def cursorCutWrong : ChangeSpec := { name := "cursorCut", fn := fun _ => fun
  | [d1, d2, d3] => { results := [.lit (.bool false)], args := [d1, d2, d3] }
  | _ => none }
def CursorCutWrongFalsely : Prop := cursorCutRow.holds Try.pinned (OpenSpec.ofChange cursorCutWrong)

/-- 'steelyardlaw01.CursorTwice': WHATEVER THE INPUT: true; the input reads as it did. -/
def cursorTwiceSpec : ChangeSpec := { name := "cursorTwice", fn := fun _ => fun
  | [d1, d2, d3, d4] => { results := [.lit (.bool true)], args := [d1, d2, d3, d4] }
  | _ => none }
def cursorTwiceRow : OpenClaim := { program := "ytcmibbhfocfccaa", sum := "f04d210b26046379b3f97a6cd3500d74dbef509072da459d9c42f0686bcc7f54", func := "steelyard/steelyardlaw01.CursorTwice", spec := "cursorTwice", unfollowed := true, recurses := true, apart := false }
def CursorTwiceSaid : Prop := cursorTwiceRow.holds Try.pinned (OpenSpec.ofChange cursorTwiceSpec)

/-- ITS FALSE NEIGHBOUR: 'it returns false'. Refute it at one input. -/
def cursorTwiceWrong : ChangeSpec := { name := "cursorTwice", fn := fun _ => fun
  | [d1, d2, d3, d4] => { results := [.lit (.bool false)], args := [d1, d2, d3, d4] }
  | _ => none }
def CursorTwiceWrongFalsely : Prop := cursorTwiceRow.holds Try.pinned (OpenSpec.ofChange cursorTwiceWrong)

/-- 'steelyardlaw01.CursorOne': WHATEVER THE INPUT: true; the input reads as it did. -/
def cursorOneSpec : ChangeSpec := { name := "cursorOne", fn := fun _ => fun
  | [d1, d2] => { results := [.lit (.bool true)], args := [d1, d2] }
  | _ => none }
def cursorOneRow : OpenClaim := { program := "ytcmibbhfocfccaa", sum := "f04d210b26046379b3f97a6cd3500d74dbef509072da459d9c42f0686bcc7f54", func := "steelyard/steelyardlaw01.CursorOne", spec := "cursorOne", unfollowed := true, recurses := true, apart := false }
def CursorOneSaid : Prop := cursorOneRow.holds Try.pinned (OpenSpec.ofChange cursorOneSpec)

/-- ITS FALSE NEIGHBOUR: 'it returns false'. Refute it at one input. -/
def cursorOneWrong : ChangeSpec := { name := "cursorOne", fn := fun _ => fun
  | [d1, d2] => { results := [.lit (.bool false)], args := [d1, d2] }
  | _ => none }
def CursorOneWrongFalsely : Prop := cursorOneRow.holds Try.pinned (OpenSpec.ofChange cursorOneWrong)

/- THE SECOND FORM. 'bulk': how many values and letters a reading holds, each counted each time it is reached (what is shared counts as often as it is met; a slice's spare places count too). A statement '..UptoSaid' is the law's where the arguments, and the package variables that the reading takes, are together of bulk at most 1048576: NARROWER than '..Said'. Prove '..Said' where nothing that the law and all that it calls make is longer than what came in: it says more and counts as full. Else prove '..UptoSaid'. A law counts once. -/
mutual
def uptoBulk {H : Type} : DataW H → Nat
  | .lit (.string bytes) => bytes.length + 1
  | .lit _ => 1
  | .nil => 1
  | .ptr d => uptoBulk d + 1
  | .slice elems spare => uptoBulkAll elems + uptoBulkAll spare + 1
  | .agg parts => uptoBulkAll parts + 1
  | .iface _ d => uptoBulk d + 1
  | .map entries => uptoBulkEntries entries + 1
  | .held _ => 1
def uptoBulkAll {H : Type} : List (DataW H) → Nat
  | [] => 0
  | d :: r => uptoBulk d + uptoBulkAll r
def uptoBulkEntries {H : Type} : List (Lit × DataW H) → Nat
  | [] => 0
  | x :: r => uptoBulkEntry x + uptoBulkEntries r
def uptoBulkEntry {H : Type} : Lit × DataW H → Nat
  | (.string bytes, d) => bytes.length + uptoBulk d + 1
  | (_, d) => uptoBulk d + 1
 end
def uptoSmall : (H : Type) → List (DataW H) → Bool := fun _ ds => decide (uptoBulkAll ds ≤ 1048576)
def OpenSpec.upto (s : _root_.Go.ChangeSpec) : _root_.Go.OpenSpec := { _root_.Go.OpenSpec.ofChange s with cond := some uptoSmall }

/-- 'steelyardlaw01.CursorRuns', WHERE WHAT IT READS IS OF BULK AT MOST 1048576: true; the input reads as it did. -/
def cursorRunsUptoRow : OpenClaim := { program := "ytcmibbhfocfccaa", sum := "f04d210b26046379b3f97a6cd3500d74dbef509072da459d9c42f0686bcc7f54", func := "steelyard/steelyardlaw01.CursorRuns", spec := "cursorRuns", unfollowed := true, recurses := true, apart := false, narrowed := true }
def CursorRunsUptoSaid : Prop := cursorRunsUptoRow.holds Try.pinned (OpenSpec.upto cursorRunsSpec)

/-- 'steelyardlaw01.CursorMore', WHERE WHAT IT READS IS OF BULK AT MOST 1048576: true; the input reads as it did. -/
def cursorMoreUptoRow : OpenClaim := { program := "ytcmibbhfocfccaa", sum := "f04d210b26046379b3f97a6cd3500d74dbef509072da459d9c42f0686bcc7f54", func := "steelyard/steelyardlaw01.CursorMore", spec := "cursorMore", unfollowed := true, recurses := true, apart := false, narrowed := true }
def CursorMoreUptoSaid : Prop := cursorMoreUptoRow.holds Try.pinned (OpenSpec.upto cursorMoreSpec)

/-- 'steelyardlaw01.CursorCut', WHERE WHAT IT READS IS OF BULK AT MOST 1048576: true; the input reads as it did. -/
def cursorCutUptoRow : OpenClaim := { program := "ytcmibbhfocfccaa", sum := "f04d210b26046379b3f97a6cd3500d74dbef509072da459d9c42f0686bcc7f54", func := "steelyard/steelyardlaw01.CursorCut", spec := "cursorCut", unfollowed := true, recurses := true, apart := false, narrowed := true }
def CursorCutUptoSaid : Prop := cursorCutUptoRow.holds Try.pinned (OpenSpec.upto cursorCutSpec)

/-- 'steelyardlaw01.CursorTwice', WHERE WHAT IT READS IS OF BULK AT MOST 1048576: true; the input reads as it did. -/
def cursorTwiceUptoRow : OpenClaim := { program := "ytcmibbhfocfccaa", sum := "f04d210b26046379b3f97a6cd3500d74dbef509072da459d9c42f0686bcc7f54", func := "steelyard/steelyardlaw01.CursorTwice", spec := "cursorTwice", unfollowed := true, recurses := true, apart := false, narrowed := true }
def CursorTwiceUptoSaid : Prop := cursorTwiceUptoRow.holds Try.pinned (OpenSpec.upto cursorTwiceSpec)

/-- 'steelyardlaw01.CursorOne', WHERE WHAT IT READS IS OF BULK AT MOST 1048576: true; the input reads as it did. -/
def cursorOneUptoRow : OpenClaim := { program := "ytcmibbhfocfccaa", sum := "f04d210b26046379b3f97a6cd3500d74dbef509072da459d9c42f0686bcc7f54", func := "steelyard/steelyardlaw01.CursorOne", spec := "cursorOne", unfollowed := true, recurses := true, apart := false, narrowed := true }
def CursorOneUptoSaid : Prop := cursorOneUptoRow.holds Try.pinned (OpenSpec.upto cursorOneSpec)

end Rows
end Go.Proofs.Ytcmibbhfocfccaa
