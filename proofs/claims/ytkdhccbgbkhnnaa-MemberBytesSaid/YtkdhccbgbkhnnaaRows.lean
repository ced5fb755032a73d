/-
  No cell of these rows narrows 'for every input' (looked for: loops, veiled, ifaces, maps, wideKeys, modest, calm, conditions, laid).
  DERIVED. THE GIVEN ROWS OF THIS SEAT. 6 by the template 'for every input the law returns true; each argument reads behind the call as it read before'; 0 by the template 'total and deterministic' (their statements: YtkdhccbgbkhnnaaTotals.lean).
  GIVEN WITH THE SEED: the statements are not yours to turn. If you find one false, say at which input.
  Laid BY PROGRAM, IN A SANDBOX (cutbox-rows.mjs): the forced cells as the released guide's own fill.sh prints them over the translation 058395fd01267780… (all of the seat's roots in one cut). By AI agents, Wed Nov 11 2026. No macro, syntax, notation, axiom, sorry.
-/
import Derived.Test.YtkdhccbgbkhnnaaChecked
import GoSem.Claim
import GoSem.ClaimJoined
import GoSem.ClaimMapViews
import Derived.JoinedTies
import Derived.KernelRfl
namespace Go.Proofs.Ytkdhccbgbkhnnaa
/- THE CELL 'sum', in the pinned program and in every row, IS THE sha256 OF THE DUMP (.gsa) THAT YtkdhccbgbkhnnaaProg.lean LOADS. Nothing in Lean hashes anything: it is a label: what it is worth is what the hold of that sum in a sandbox is worth. -/
noncomputable def Try.pinned : Pinned := { name := "ytkdhccbgbkhnnaa", sum := "058395fd01267780496420f8ab1a315cfbe03a0df4a9b6a91037a720e7e9eb35", checked := Try.checked }
namespace Rows
def none {H : Type} : Left H := { results := [], args := [] }

/-- 'steelyardlaw14.MemberNewer': WHATEVER THE INPUT: true; the input reads as it did. -/
def memberNewerSpec : ChangeSpec := { name := "memberNewer", fn := fun _ => fun
  | [d1, d2, d3] => { results := [.lit (.bool true)], args := [d1, d2, d3] }
  | _ => none }
def memberNewerRow : OpenClaim := { program := "ytkdhccbgbkhnnaa", sum := "058395fd01267780496420f8ab1a315cfbe03a0df4a9b6a91037a720e7e9eb35", func := "steelyard/steelyardlaw14.MemberNewer", spec := "memberNewer", unfollowed := true, recurses := true, apart := false }
def MemberNewerSaid : Prop := memberNewerRow.holds Try.pinned (OpenSpec.ofChange memberNewerSpec)

/-- ITS FALSE NEIGHBOUR: 'it returns false'. Refute it at one input. -/
def memberNewerWrong : ChangeSpec := { name := "memberNewer", fn := fun _ => fun
  | [d1, d2, d3] => { results := [.lit (.bool false)], args := [d1, d2, d3] }
  | _ => none }
def MemberNewerWrongFalsely : Prop := memberNewerRow.holds Try.pinned (OpenSpec.ofChange memberNewerWrong)

/-- 'steelyardlaw14.MemberMeets': WHATEVER THE INPUT: true; the input reads as it did. -/
def memberMeetsSpec : ChangeSpec := { name := "memberMeets", fn := fun _ => fun
  | [d1, d2] => { results := [.lit (.bool true)], args := [d1, d2] }
  | _ => none }
def memberMeetsRow : OpenClaim := { program := "ytkdhccbgbkhnnaa", sum := "058395fd01267780496420f8ab1a315cfbe03a0df4a9b6a91037a720e7e9eb35", func := "steelyard/steelyardlaw14.MemberMeets", spec := "memberMeets", unfollowed := true, recurses := true, apart := false }
def MemberMeetsSaid : Prop := memberMeetsRow.holds Try.pinned (OpenSpec.ofChange memberMeetsSpec)

/-- ITS FALSE NEIGHBOUR: 'it returns false'. Refute it at one input. -/
def memberMeetsWrong : ChangeSpec := { name := "memberMeets", fn := fun _ => fun
  | [d1, d2] => { results := [.lit (.bool false)], args := [d1, d2] }
  | _ => none }
def MemberMeetsWrongFalsely : Prop := memberMeetsRow.holds Try.pinned (OpenSpec.ofChange memberMeetsWrong)

/-- 'steelyardlaw14.MemberBytes': WHATEVER THE INPUT: true; the input reads as it did. -/
def memberBytesSpec : ChangeSpec := { name := "memberBytes", fn := fun _ => fun
  | [d] => { results := [.lit (.bool true)], args := [d] }
  | _ => none }
def memberBytesRow : OpenClaim := { program := "ytkdhccbgbkhnnaa", sum := "058395fd01267780496420f8ab1a315cfbe03a0df4a9b6a91037a720e7e9eb35", func := "steelyard/steelyardlaw14.MemberBytes", spec := "memberBytes", unfollowed := true, recurses := true, apart := false }
def MemberBytesSaid : Prop := memberBytesRow.holds Try.pinned (OpenSpec.ofChange memberBytesSpec)

/-- ITS FALSE NEIGHBOUR: 'it returns false'. Refute it at one input. -/
def memberBytesWrong : ChangeSpec := { name := "memberBytes", fn := fun _ => fun
  | [d] => { results := [.lit (.bool false)], args := [d] }
  | _ => none }
def MemberBytesWrongFalsely : Prop := memberBytesRow.holds Try.pinned (OpenSpec.ofChange memberBytesWrong)

/-- 'steelyardlaw14.MemberPlays': WHATEVER THE INPUT: true; the input reads as it did. -/
def memberPlaysSpec : ChangeSpec := { name := "memberPlays", fn := fun _ => fun
  | [d1, d2, d3] => { results := [.lit (.bool true)], args := [d1, d2, d3] }
  | _ => none }
def memberPlaysRow : OpenClaim := { program := "ytkdhccbgbkhnnaa", sum := "058395fd01267780496420f8ab1a315cfbe03a0df4a9b6a91037a720e7e9eb35", func := "steelyard/steelyardlaw14.MemberPlays", spec := "memberPlays", inPlace := ["maps.clone"], unfollowed := true, recurses := true, apart := false }
def MemberPlaysSaid : Prop := memberPlaysRow.holds Try.pinned (OpenSpec.ofChange memberPlaysSpec)

/-- ITS FALSE NEIGHBOUR: 'it returns false'. Refute it at one input. -/
def memberPlaysWrong : ChangeSpec := { name := "memberPlays", fn := fun _ => fun
  | [d1, d2, d3] => { results := [.lit (.bool false)], args := [d1, d2, d3] }
  | _ => none }
def MemberPlaysWrongFalsely : Prop := memberPlaysRow.holds Try.pinned (OpenSpec.ofChange memberPlaysWrong)

/-- 'steelyardlaw14.MemberNil': WHATEVER THE INPUT: true; the input reads as it did. -/
def memberNilSpec : ChangeSpec := { name := "memberNil", fn := fun _ => fun
  | [d1, d2] => { results := [.lit (.bool true)], args := [d1, d2] }
  | _ => none }
def memberNilRow : OpenClaim := { program := "ytkdhccbgbkhnnaa", sum := "058395fd01267780496420f8ab1a315cfbe03a0df4a9b6a91037a720e7e9eb35", func := "steelyard/steelyardlaw14.MemberNil", spec := "memberNil", inPlace := ["maps.clone"], unfollowed := true, recurses := true, apart := false }
def MemberNilSaid : Prop := memberNilRow.holds Try.pinned (OpenSpec.ofChange memberNilSpec)

/-- ITS FALSE NEIGHBOUR: 'it returns false'. Refute it at one input. -/
def memberNilWrong : ChangeSpec := { name := "memberNil", fn := fun _ => fun
  | [d1, d2] => { results := [.lit (.bool false)], args := [d1, d2] }
  | _ => none }
def MemberNilWrongFalsely : Prop := memberNilRow.holds Try.pinned (OpenSpec.ofChange memberNilWrong)

/-- 'steelyardlaw14.MemberBack': WHATEVER THE INPUT: true; the input reads as it did. -/
def memberBackSpec : ChangeSpec := { name := "memberBack", fn := fun _ => fun
  | [d1, d2, d3] => { results := [.lit (.bool true)], args := [d1, d2, d3] }
  | _ => none }
def memberBackRow : OpenClaim := { program := "ytkdhccbgbkhnnaa", sum := "058395fd01267780496420f8ab1a315cfbe03a0df4a9b6a91037a720e7e9eb35", func := "steelyard/steelyardlaw14.MemberBack", spec := "memberBack", unfollowed := true, recurses := true, apart := false }
def MemberBackSaid : Prop := memberBackRow.holds Try.pinned (OpenSpec.ofChange memberBackSpec)

/-- ITS FALSE NEIGHBOUR: 'it returns false'. Refute it at one input. -/
def memberBackWrong : ChangeSpec := { name := "memberBack", fn := fun _ => fun
  | [d1, d2, d3] => { results := [.lit (.bool false)], args := [d1, d2, d3] }
  | _ => none }
def MemberBackWrongFalsely : Prop := memberBackRow.holds Try.pinned (OpenSpec.ofChange memberBackWrong)

/- THE SECOND FORM. 'bulk': how many values and letters a reading holds, each counted each time it is reached (what is shared counts as often as it is met; a slice's spare places count too). A statement '..UptoSaid' is the law's where the arguments, and the package variables that the reading takes, are together of bulk at most 1048576: NARROWER than '..Said'. Prove '..Said' where nothing that the law and all that it calls make is longer than what came in: it says more and counts as full. Else prove '..UptoSaid'. A law counts once. -/
mutual
def uptoBulk {H : Type} : DataW H → Nat
  | .lit (.string bytes) => bytes.length + 1
  | .lit _ => 1
  | .nil => 1
  | .ptr d => uptoBulk d + 1
  | .slice elems spare => uptoBulkAll elems + uptoBulkAll spare + 1
  | .agg parts => uptoBulkAll parts + 1
  | .iface _ d => uptoBulk d + 1
  | .map entries => uptoBulkEntries entries + 1
  | .held _ => 1
def uptoBulkAll {H : Type} : List (DataW H) → Nat
  | [] => 0
  | d :: r => uptoBulk d + uptoBulkAll r
def uptoBulkEntries {H : Type} : List (Lit × DataW H) → Nat
  | [] => 0
  | x :: r => uptoBulkEntry x + uptoBulkEntries r
def uptoBulkEntry {H : Type} : Lit × DataW H → Nat
  | (.string bytes, d) => bytes.length + uptoBulk d + 1
  | (_, d) => uptoBulk d + 1
 end
def uptoSmall : (H : Type) → List (DataW H) → Bool := fun _ ds => decide (uptoBulkAll ds ≤ 1048576)
def OpenSpec.upto (s : _root_.Go.ChangeSpec) : _root_.Go.OpenSpec := { _root_.Go.OpenSpec.ofChange s with cond := some uptoSmall }

/-- 'steelyardlaw14.MemberNewer', WHERE WHAT IT READS IS OF BULK AT MOST 1048576: true; the input reads as it did. -/
def memberNewerUptoRow : OpenClaim := { program := "ytkdhccbgbkhnnaa", sum := "058395fd01267780496420f8ab1a315cfbe03a0df4a9b6a91037a720e7e9eb35", func := "steelyard/steelyardlaw14.MemberNewer", spec := "memberNewer", unfollowed := true, recurses := true, apart := false, narrowed := true }
def MemberNewerUptoSaid : Prop := memberNewerUptoRow.holds Try.pinned (OpenSpec.upto memberNewerSpec)

/-- 'steelyardlaw14.MemberMeets', WHERE WHAT IT READS IS OF BULK AT MOST 1048576: true; the input reads as it did. -/
def memberMeetsUptoRow : OpenClaim := { program := "ytkdhccbgbkhnnaa", sum := "058395fd01267780496420f8ab1a315cfbe03a0df4a9b6a91037a720e7e9eb35", func := "steelyard/steelyardlaw14.MemberMeets", spec := "memberMeets", unfollowed := true, recurses := true, apart := false, narrowed := true }
def MemberMeetsUptoSaid : Prop := memberMeetsUptoRow.holds Try.pinned (OpenSpec.upto memberMeetsSpec)

/-- 'steelyardlaw14.MemberBytes', WHERE WHAT IT READS IS OF BULK AT MOST 1048576: true; the input reads as it did. -/
def memberBytesUptoRow : OpenClaim := { program := "ytkdhccbgbkhnnaa", sum := "058395fd01267780496420f8ab1a315cfbe03a0df4a9b6a91037a720e7e9eb35", func := "steelyard/steelyardlaw14.MemberBytes", spec := "memberBytes", unfollowed := true, recurses := true, apart := false, narrowed := true }
def MemberBytesUptoSaid : Prop := memberBytesUptoRow.holds Try.pinned (OpenSpec.upto memberBytesSpec)

/-- 'steelyardlaw14.MemberPlays', WHERE WHAT IT READS IS OF BULK AT MOST 1048576: true; the input reads as it did. -/
def memberPlaysUptoRow : OpenClaim := { program := "ytkdhccbgbkhnnaa", sum := "058395fd01267780496420f8ab1a315cfbe03a0df4a9b6a91037a720e7e9eb35", func := "steelyard/steelyardlaw14.MemberPlays", spec := "memberPlays", inPlace := ["maps.clone"], unfollowed := true, recurses := true, apart := false, narrowed := true }
def MemberPlaysUptoSaid : Prop := memberPlaysUptoRow.holds Try.pinned (OpenSpec.upto memberPlaysSpec)

/-- 'steelyardlaw14.MemberNil', WHERE WHAT IT READS IS OF BULK AT MOST 1048576: true; the input reads as it did. -/
def memberNilUptoRow : OpenClaim := { program := "ytkdhccbgbkhnnaa", sum := "058395fd01267780496420f8ab1a315cfbe03a0df4a9b6a91037a720e7e9eb35", func := "steelyard/steelyardlaw14.MemberNil", spec := "memberNil", inPlace := ["maps.clone"], unfollowed := true, recurses := true, apart := false, narrowed := true }
def MemberNilUptoSaid : Prop := memberNilUptoRow.holds Try.pinned (OpenSpec.upto memberNilSpec)

/-- 'steelyardlaw14.MemberBack', WHERE WHAT IT READS IS OF BULK AT MOST 1048576: true; the input reads as it did. -/
def memberBackUptoRow : OpenClaim := { program := "ytkdhccbgbkhnnaa", sum := "058395fd01267780496420f8ab1a315cfbe03a0df4a9b6a91037a720e7e9eb35", func := "steelyard/steelyardlaw14.MemberBack", spec := "memberBack", unfollowed := true, recurses := true, apart := false, narrowed := true }
def MemberBackUptoSaid : Prop := memberBackUptoRow.holds Try.pinned (OpenSpec.upto memberBackSpec)

end Rows
end Go.Proofs.Ytkdhccbgbkhnnaa
