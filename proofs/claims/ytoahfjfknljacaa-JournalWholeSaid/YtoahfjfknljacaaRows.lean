/-
  No cell of these rows narrows 'for every input' (looked for: loops, veiled, ifaces, maps, wideKeys, modest, calm, conditions, laid).
  DERIVED. THE GIVEN ROWS OF THIS SEAT. 7 by the template 'for every input the law returns true; each argument reads behind the call as it read before'; 0 by the template 'total and deterministic' (their statements: YtoahfjfknljacaaTotals.lean).
  GIVEN WITH THE SEED: the statements are not yours to turn. If you find one false, say at which input.
  Laid BY PROGRAM, IN A SANDBOX (cutbox-rows.mjs): the forced cells as the released guide's own fill.sh prints them over the translation b6026283751d9e08… (all of the seat's roots in one cut). By AI agents, Wed Nov 11 2026. No macro, syntax, notation, axiom, sorry.
-/
import Derived.Test.YtoahfjfknljacaaChecked
import GoSem.Claim
import GoSem.ClaimJoined
import GoSem.ClaimMapViews
import Derived.JoinedTies
import Derived.KernelRfl
namespace Go.Proofs.Ytoahfjfknljacaa
/- THE CELL 'sum', in the pinned program and in every row, IS THE sha256 OF THE DUMP (.gsa) THAT YtoahfjfknljacaaProg.lean LOADS. Nothing in Lean hashes anything: it is a label: what it is worth is what the hold of that sum in a sandbox is worth. -/
noncomputable def Try.pinned : Pinned := { name := "ytoahfjfknljacaa", sum := "b6026283751d9e086814e03e90fe66ba7e72b28e08a52c01e648ce2fef29f880", checked := Try.checked }
namespace Rows
def none {H : Type} : Left H := { results := [], args := [] }

/-- 'tithinglaw16.JournalHeads': WHATEVER THE INPUT: true; the input reads as it did. -/
def journalHeadsSpec : ChangeSpec := { name := "journalHeads", fn := fun _ => fun
  | [d1, d2, d3] => { results := [.lit (.bool true)], args := [d1, d2, d3] }
  | _ => none }
def journalHeadsRow : OpenClaim := { program := "ytoahfjfknljacaa", sum := "b6026283751d9e086814e03e90fe66ba7e72b28e08a52c01e648ce2fef29f880", func := "tithing/tithinglaw16.JournalHeads", spec := "journalHeads", unfollowed := true, recurses := true, apart := false }
def JournalHeadsSaid : Prop := journalHeadsRow.holds Try.pinned (OpenSpec.ofChange journalHeadsSpec)

/-- ITS FALSE NEIGHBOUR: 'it returns false'. Refute it at one input. -/
def journalHeadsWrong : ChangeSpec := { name := "journalHeads", fn := fun _ => fun
  | [d1, d2, d3] => { results := [.lit (.bool false)], args := [d1, d2, d3] }
  | _ => none }
def JournalHeadsWrongFalsely : Prop := journalHeadsRow.holds Try.pinned (OpenSpec.ofChange journalHeadsWrong)

/-- 'tithinglaw16.JournalOpens': WHATEVER THE INPUT: true; the input reads as it did. -/
def journalOpensSpec : ChangeSpec := { name := "journalOpens", fn := fun _ => fun
  | [d1, d2, d3] => { results := [.lit (.bool true)], args := [d1, d2, d3] }
  | _ => none }
def journalOpensRow : OpenClaim := { program := "ytoahfjfknljacaa", sum := "b6026283751d9e086814e03e90fe66ba7e72b28e08a52c01e648ce2fef29f880", func := "tithing/tithinglaw16.JournalOpens", spec := "journalOpens", unfollowed := true, recurses := true, apart := false }
def JournalOpensSaid : Prop := journalOpensRow.holds Try.pinned (OpenSpec.ofChange journalOpensSpec)

/-- ITS FALSE NEIGHBOUR: 'it returns false'. Refute it at one input. -/
def journalOpensWrong : ChangeSpec := { name := "journalOpens", fn := fun _ => fun
  | [d1, d2, d3] => { results := [.lit (.bool false)], args := [d1, d2, d3] }
  | _ => none }
def JournalOpensWrongFalsely : Prop := journalOpensRow.holds Try.pinned (OpenSpec.ofChange journalOpensWrong)

/-- 'tithinglaw16.JournalDisks': WHATEVER THE INPUT: true; the input reads as it did. -/
def journalDisksSpec : ChangeSpec := { name := "journalDisks", fn := fun _ => fun
  | [d1, d2] => { results := [.lit (.bool true)], args := [d1, d2] }
  | _ => none }
def journalDisksRow : OpenClaim := { program := "ytoahfjfknljacaa", sum := "b6026283751d9e086814e03e90fe66ba7e72b28e08a52c01e648ce2fef29f880", func := "tithing/tithinglaw16.JournalDisks", spec := "journalDisks", unfollowed := true, recurses := true, apart := false }
def JournalDisksSaid : Prop := journalDisksRow.holds Try.pinned (OpenSpec.ofChange journalDisksSpec)

/-- ITS FALSE NEIGHBOUR: 'it returns false'. Refute it at one input. -/
def journalDisksWrong : ChangeSpec := { name := "journalDisks", fn := fun _ => fun
  | [d1, d2] => { results := [.lit (.bool false)], args := [d1, d2] }
  | _ => none }
def JournalDisksWrongFalsely : Prop := journalDisksRow.holds Try.pinned (OpenSpec.ofChange journalDisksWrong)

/-- 'tithinglaw16.JournalWhole': WHATEVER THE INPUT: true; the input reads as it did. -/
def journalWholeSpec : ChangeSpec := { name := "journalWhole", fn := fun _ => fun
  | [d1, d2] => { results := [.lit (.bool true)], args := [d1, d2] }
  | _ => none }
def journalWholeRow : OpenClaim := { program := "ytoahfjfknljacaa", sum := "b6026283751d9e086814e03e90fe66ba7e72b28e08a52c01e648ce2fef29f880", func := "tithing/tithinglaw16.JournalWhole", spec := "journalWhole", unfollowed := true, recurses := true, apart := false }
def JournalWholeSaid : Prop := journalWholeRow.holds Try.pinned (OpenSpec.ofChange journalWholeSpec)

/-- ITS FALSE NEIGHBOUR: 'it returns false'. Refute it at one input. -/
def journalWholeWrong : ChangeSpec := { name := "journalWhole", fn := fun _ => fun
  | [d1, d2] => { results := [.lit (.bool false)], args := [d1, d2] }
  | _ => none }
def JournalWholeWrongFalsely : Prop := journalWholeRow.holds Try.pinned (OpenSpec.ofChange journalWholeWrong)

/-- 'tithinglaw16.JournalStores': WHATEVER THE INPUT: true; the input reads as it did. -/
def journalStoresSpec : ChangeSpec := { name := "journalStores", fn := fun _ => fun
  | [d1, d2] => { results := [.lit (.bool true)], args := [d1, d2] }
  | _ => none }
def journalStoresRow : OpenClaim := { program := "ytoahfjfknljacaa", sum := "b6026283751d9e086814e03e90fe66ba7e72b28e08a52c01e648ce2fef29f880", func := "tithing/tithinglaw16.JournalStores", spec := "journalStores", unfollowed := true, recurses := true, apart := false }
def JournalStoresSaid : Prop := journalStoresRow.holds Try.pinned (OpenSpec.ofChange journalStoresSpec)

/-- ITS FALSE NEIGHBOUR: 'it returns false'. Refute it at one input. -/
def journalStoresWrong : ChangeSpec := { name := "journalStores", fn := fun _ => fun
  | [d1, d2] => { results := [.lit (.bool false)], args := [d1, d2] }
  | _ => none }
def JournalStoresWrongFalsely : Prop := journalStoresRow.holds Try.pinned (OpenSpec.ofChange journalStoresWrong)

/-- 'tithinglaw16.JournalCopies': WHATEVER THE INPUT: true; the input reads as it did. -/
def journalCopiesSpec : ChangeSpec := { name := "journalCopies", fn := fun _ => fun
  | [d1, d2, d3] => { results := [.lit (.bool true)], args := [d1, d2, d3] }
  | _ => none }
def journalCopiesRow : OpenClaim := { program := "ytoahfjfknljacaa", sum := "b6026283751d9e086814e03e90fe66ba7e72b28e08a52c01e648ce2fef29f880", func := "tithing/tithinglaw16.JournalCopies", spec := "journalCopies", unfollowed := true, recurses := true, apart := false }
def JournalCopiesSaid : Prop := journalCopiesRow.holds Try.pinned (OpenSpec.ofChange journalCopiesSpec)

/-- ITS FALSE NEIGHBOUR: 'it returns false'. Refute it at one input. -/
def journalCopiesWrong : ChangeSpec := { name := "journalCopies", fn := fun _ => fun
  | [d1, d2, d3] => { results := [.lit (.bool false)], args := [d1, d2, d3] }
  | _ => none }
def JournalCopiesWrongFalsely : Prop := journalCopiesRow.holds Try.pinned (OpenSpec.ofChange journalCopiesWrong)

/-- 'tithinglaw16.JournalNils': WHATEVER THE INPUT: true; the input reads as it did. -/
def journalNilsSpec : ChangeSpec := { name := "journalNils", fn := fun _ => fun
  | [d1, d2] => { results := [.lit (.bool true)], args := [d1, d2] }
  | _ => none }
def journalNilsRow : OpenClaim := { program := "ytoahfjfknljacaa", sum := "b6026283751d9e086814e03e90fe66ba7e72b28e08a52c01e648ce2fef29f880", func := "tithing/tithinglaw16.JournalNils", spec := "journalNils", unfollowed := true, recurses := true, apart := false }
def JournalNilsSaid : Prop := journalNilsRow.holds Try.pinned (OpenSpec.ofChange journalNilsSpec)

/-- ITS FALSE NEIGHBOUR: 'it returns false'. Refute it at one input. -/
def journalNilsWrong : ChangeSpec := { name := "journalNils", fn := fun _ => fun
  | [d1, d2] => { results := [.lit (.bool false)], args := [d1, d2] }
  | _ => none }
def JournalNilsWrongFalsely : Prop := journalNilsRow.holds Try.pinned (OpenSpec.ofChange journalNilsWrong)

/- THE SECOND FORM. 'bulk': how many values and letters a reading holds, each counted each time it is reached (what is shared counts as often as it is met; a slice's spare places count too). A statement '..UptoSaid' is the law's where the arguments, and the package variables that the reading takes, are together of bulk at most 1048576: NARROWER than '..Said'. Prove '..Said' where nothing that the law and all that it calls make is longer than what came in: it says more and counts as full. Else prove '..UptoSaid'. A law counts once. -/
mutual
def uptoBulk {H : Type} : DataW H → Nat
  | .lit (.string bytes) => bytes.length + 1
  | .lit _ => 1
  | .nil => 1
  | .ptr d => uptoBulk d + 1
  | .slice elems spare => uptoBulkAll elems + uptoBulkAll spare + 1
  | .agg parts => uptoBulkAll parts + 1
  | .iface _ d => uptoBulk d + 1
  | .map entries => uptoBulkEntries entries + 1
  | .held _ => 1
def uptoBulkAll {H : Type} : List (DataW H) → Nat
  | [] => 0
  | d :: r => uptoBulk d + uptoBulkAll r
def uptoBulkEntries {H : Type} : List (Lit × DataW H) → Nat
  | [] => 0
  | x :: r => uptoBulkEntry x + uptoBulkEntries r
def uptoBulkEntry {H : Type} : Lit × DataW H → Nat
  | (.string bytes, d) => bytes.length + uptoBulk d + 1
  | (_, d) => uptoBulk d + 1
 end
def uptoSmall : (H : Type) → List (DataW H) → Bool := fun _ ds => decide (uptoBulkAll ds ≤ 1048576)
def OpenSpec.upto (s : _root_.Go.ChangeSpec) : _root_.Go.OpenSpec := { _root_.Go.OpenSpec.ofChange s with cond := some uptoSmall }

/-- 'tithinglaw16.JournalHeads', WHERE WHAT IT READS IS OF BULK AT MOST 1048576: true; the input reads as it did. -/
def journalHeadsUptoRow : OpenClaim := { program := "ytoahfjfknljacaa", sum := "b6026283751d9e086814e03e90fe66ba7e72b28e08a52c01e648ce2fef29f880", func := "tithing/tithinglaw16.JournalHeads", spec := "journalHeads", unfollowed := true, recurses := true, apart := false, narrowed := true }
def JournalHeadsUptoSaid : Prop := journalHeadsUptoRow.holds Try.pinned (OpenSpec.upto journalHeadsSpec)

/-- 'tithinglaw16.JournalOpens', WHERE WHAT IT READS IS OF BULK AT MOST 1048576: true; the input reads as it did. -/
def journalOpensUptoRow : OpenClaim := { program := "ytoahfjfknljacaa", sum := "b6026283751d9e086814e03e90fe66ba7e72b28e08a52c01e648ce2fef29f880", func := "tithing/tithinglaw16.JournalOpens", spec := "journalOpens", unfollowed := true, recurses := true, apart := false, narrowed := true }
def JournalOpensUptoSaid : Prop := journalOpensUptoRow.holds Try.pinned (OpenSpec.upto journalOpensSpec)

/-- 'tithinglaw16.JournalDisks', WHERE WHAT IT READS IS OF BULK AT MOST 1048576: true; the input reads as it did. -/
def journalDisksUptoRow : OpenClaim := { program := "ytoahfjfknljacaa", sum := "b6026283751d9e086814e03e90fe66ba7e72b28e08a52c01e648ce2fef29f880", func := "tithing/tithinglaw16.JournalDisks", spec := "journalDisks", unfollowed := true, recurses := true, apart := false, narrowed := true }
def JournalDisksUptoSaid : Prop := journalDisksUptoRow.holds Try.pinned (OpenSpec.upto journalDisksSpec)

/-- 'tithinglaw16.JournalWhole', WHERE WHAT IT READS IS OF BULK AT MOST 1048576: true; the input reads as it did. -/
def journalWholeUptoRow : OpenClaim := { program := "ytoahfjfknljacaa", sum := "b6026283751d9e086814e03e90fe66ba7e72b28e08a52c01e648ce2fef29f880", func := "tithing/tithinglaw16.JournalWhole", spec := "journalWhole", unfollowed := true, recurses := true, apart := false, narrowed := true }
def JournalWholeUptoSaid : Prop := journalWholeUptoRow.holds Try.pinned (OpenSpec.upto journalWholeSpec)

/-- 'tithinglaw16.JournalStores', WHERE WHAT IT READS IS OF BULK AT MOST 1048576: true; the input reads as it did. -/
def journalStoresUptoRow : OpenClaim := { program := "ytoahfjfknljacaa", sum := "b6026283751d9e086814e03e90fe66ba7e72b28e08a52c01e648ce2fef29f880", func := "tithing/tithinglaw16.JournalStores", spec := "journalStores", unfollowed := true, recurses := true, apart := false, narrowed := true }
def JournalStoresUptoSaid : Prop := journalStoresUptoRow.holds Try.pinned (OpenSpec.upto journalStoresSpec)

/-- 'tithinglaw16.JournalCopies', WHERE WHAT IT READS IS OF BULK AT MOST 1048576: true; the input reads as it did. -/
def journalCopiesUptoRow : OpenClaim := { program := "ytoahfjfknljacaa", sum := "b6026283751d9e086814e03e90fe66ba7e72b28e08a52c01e648ce2fef29f880", func := "tithing/tithinglaw16.JournalCopies", spec := "journalCopies", unfollowed := true, recurses := true, apart := false, narrowed := true }
def JournalCopiesUptoSaid : Prop := journalCopiesUptoRow.holds Try.pinned (OpenSpec.upto journalCopiesSpec)

/-- 'tithinglaw16.JournalNils', WHERE WHAT IT READS IS OF BULK AT MOST 1048576: true; the input reads as it did. -/
def journalNilsUptoRow : OpenClaim := { program := "ytoahfjfknljacaa", sum := "b6026283751d9e086814e03e90fe66ba7e72b28e08a52c01e648ce2fef29f880", func := "tithing/tithinglaw16.JournalNils", spec := "journalNils", unfollowed := true, recurses := true, apart := false, narrowed := true }
def JournalNilsUptoSaid : Prop := journalNilsUptoRow.holds Try.pinned (OpenSpec.upto journalNilsSpec)

end Rows
end Go.Proofs.Ytoahfjfknljacaa
