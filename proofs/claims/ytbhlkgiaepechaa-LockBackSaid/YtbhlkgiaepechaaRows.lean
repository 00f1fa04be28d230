/-
  No cell of these rows narrows 'for every input' (looked for: loops, veiled, ifaces, maps, wideKeys, modest, calm, conditions, laid).
  DERIVED. THE GIVEN ROWS OF THIS SEAT. 7 by the template 'for every input the law returns true; each argument reads behind the call as it read before'; 0 by the template 'total and deterministic' (their statements: YtbhlkgiaepechaaTotals.lean).
  GIVEN WITH THE SEED: the statements are not yours to turn. If you find one false, say at which input.
  Laid BY PROGRAM, IN A SANDBOX (cutbox-rows.mjs): the forced cells as the released guide's own fill.sh prints them over the translation 635b3aeeeefb11a7… (all of the seat's roots in one cut). By AI agents, Wed Nov 11 2026. No macro, syntax, notation, axiom, sorry.
-/
import Derived.Test.YtbhlkgiaepechaaChecked
import GoSem.Claim
import GoSem.ClaimJoined
import GoSem.ClaimMapViews
import Derived.JoinedTies
import Derived.KernelRfl
namespace Go.Proofs.Ytbhlkgiaepechaa
/- THE CELL 'sum', in the pinned program and in every row, IS THE sha256 OF THE DUMP (.gsa) THAT YtbhlkgiaepechaaProg.lean LOADS. Nothing in Lean hashes anything: it is a label: what it is worth is what the hold of that sum in a sandbox is worth. -/
noncomputable def Try.pinned : Pinned := { name := "ytbhlkgiaepechaa", sum := "635b3aeeeefb11a7f06c8109a4c3d270e66fd407e3eceff5d2b900749c7cab82", checked := Try.checked }
namespace Rows
def none {H : Type} : Left H := { results := [], args := [] }

/-- 'tithinglaw20.LockTables': WHATEVER THE INPUT: true; the input reads as it did. -/
def lockTablesSpec : ChangeSpec := { name := "lockTables", fn := fun _ => fun
  | [d1, d2, d3] => { results := [.lit (.bool true)], args := [d1, d2, d3] }
  | _ => none }
def lockTablesRow : OpenClaim := { program := "ytbhlkgiaepechaa", sum := "635b3aeeeefb11a7f06c8109a4c3d270e66fd407e3eceff5d2b900749c7cab82", func := "tithing/tithinglaw20.LockTables", spec := "lockTables", inPlace := ["slices.overlaps[tithing/api.Span]"], apart := false }
def LockTablesSaid : Prop := lockTablesRow.holds Try.pinned (OpenSpec.ofChange lockTablesSpec)

/-- ITS FALSE NEIGHBOUR: 'it returns false'. Refute it at one input. -/
def lockTablesWrong : ChangeSpec := { name := "lockTables", fn := fun _ => fun
  | [d1, d2, d3] => { results := [.lit (.bool false)], args := [d1, d2, d3] }
  | _ => none }
def LockTablesWrongFalsely : Prop := lockTablesRow.holds Try.pinned (OpenSpec.ofChange lockTablesWrong)

/-- 'tithinglaw20.LockEnds': WHATEVER THE INPUT: true; the input reads as it did. -/
def lockEndsSpec : ChangeSpec := { name := "lockEnds", fn := fun _ => fun
  | [d1, d2, d3] => { results := [.lit (.bool true)], args := [d1, d2, d3] }
  | _ => none }
def lockEndsRow : OpenClaim := { program := "ytbhlkgiaepechaa", sum := "635b3aeeeefb11a7f06c8109a4c3d270e66fd407e3eceff5d2b900749c7cab82", func := "tithing/tithinglaw20.LockEnds", spec := "lockEnds", inPlace := ["slices.overlaps[tithing/api.Span]"], apart := false }
def LockEndsSaid : Prop := lockEndsRow.holds Try.pinned (OpenSpec.ofChange lockEndsSpec)

/-- ITS FALSE NEIGHBOUR: 'it returns false'. Refute it at one input. -/
def lockEndsWrong : ChangeSpec := { name := "lockEnds", fn := fun _ => fun
  | [d1, d2, d3] => { results := [.lit (.bool false)], args := [d1, d2, d3] }
  | _ => none }
def LockEndsWrongFalsely : Prop := lockEndsRow.holds Try.pinned (OpenSpec.ofChange lockEndsWrong)

/-- 'tithinglaw20.LockMay': WHATEVER THE INPUT: true; the input reads as it did. -/
def lockMaySpec : ChangeSpec := { name := "lockMay", fn := fun _ => fun
  | [d1, d2] => { results := [.lit (.bool true)], args := [d1, d2] }
  | _ => none }
def lockMayRow : OpenClaim := { program := "ytbhlkgiaepechaa", sum := "635b3aeeeefb11a7f06c8109a4c3d270e66fd407e3eceff5d2b900749c7cab82", func := "tithing/tithinglaw20.LockMay", spec := "lockMay", inPlace := ["slices.overlaps[tithing/api.Span]"], unfollowed := true, recurses := true, apart := false }
def LockMaySaid : Prop := lockMayRow.holds Try.pinned (OpenSpec.ofChange lockMaySpec)

/-- ITS FALSE NEIGHBOUR: 'it returns false'. Refute it at one input. -/
def lockMayWrong : ChangeSpec := { name := "lockMay", fn := fun _ => fun
  | [d1, d2] => { results := [.lit (.bool false)], args := [d1, d2] }
  | _ => none }
def LockMayWrongFalsely : Prop := lockMayRow.holds Try.pinned (OpenSpec.ofChange lockMayWrong)

/-- 'tithinglaw20.LockBytes': WHATEVER THE INPUT: true; the input reads as it did. -/
def lockBytesSpec : ChangeSpec := { name := "lockBytes", fn := fun _ => fun
  | [d1, d2, d3] => { results := [.lit (.bool true)], args := [d1, d2, d3] }
  | _ => none }
def lockBytesRow : OpenClaim := { program := "ytbhlkgiaepechaa", sum := "635b3aeeeefb11a7f06c8109a4c3d270e66fd407e3eceff5d2b900749c7cab82", func := "tithing/tithinglaw20.LockBytes", spec := "lockBytes", inPlace := ["slices.overlaps[tithing/api.Span]"], unfollowed := true, recurses := true, apart := false }
def LockBytesSaid : Prop := lockBytesRow.holds Try.pinned (OpenSpec.ofChange lockBytesSpec)

/-- ITS FALSE NEIGHBOUR: 'it returns false'. Refute it at one input. -/
def lockBytesWrong : ChangeSpec := { name := "lockBytes", fn := fun _ => fun
  | [d1, d2, d3] => { results := [.lit (.bool false)], args := [d1, d2, d3] }
  | _ => none }
def LockBytesWrongFalsely : Prop := lockBytesRow.holds Try.pinned (OpenSpec.ofChange lockBytesWrong)

/-- 'tithinglaw20.LockModes': WHATEVER THE INPUT: true; the input reads as it did. -/
def lockModesSpec : ChangeSpec := { name := "lockModes", fn := fun _ => fun
  | [d1, d2] => { results := [.lit (.bool true)], args := [d1, d2] }
  | _ => none }
def lockModesRow : OpenClaim := { program := "ytbhlkgiaepechaa", sum := "635b3aeeeefb11a7f06c8109a4c3d270e66fd407e3eceff5d2b900749c7cab82", func := "tithing/tithinglaw20.LockModes", spec := "lockModes", inPlace := ["slices.overlaps[tithing/api.Span]"], unfollowed := true, recurses := true, apart := false }
def LockModesSaid : Prop := lockModesRow.holds Try.pinned (OpenSpec.ofChange lockModesSpec)

/-- ITS FALSE NEIGHBOUR: 'it returns false'. Refute it at one input. -/
def lockModesWrong : ChangeSpec := { name := "lockModes", fn := fun _ => fun
  | [d1, d2] => { results := [.lit (.bool false)], args := [d1, d2] }
  | _ => none }
def LockModesWrongFalsely : Prop := lockModesRow.holds Try.pinned (OpenSpec.ofChange lockModesWrong)

/-- 'tithinglaw20.LockLocks': WHATEVER THE INPUT: true; the input reads as it did. -/
def lockLocksSpec : ChangeSpec := { name := "lockLocks", fn := fun _ => fun
  | [d1, d2] => { results := [.lit (.bool true)], args := [d1, d2] }
  | _ => none }
def lockLocksRow : OpenClaim := { program := "ytbhlkgiaepechaa", sum := "635b3aeeeefb11a7f06c8109a4c3d270e66fd407e3eceff5d2b900749c7cab82", func := "tithing/tithinglaw20.LockLocks", spec := "lockLocks", inPlace := ["slices.overlaps[tithing/api.Span]"], unfollowed := true, recurses := true, apart := false }
def LockLocksSaid : Prop := lockLocksRow.holds Try.pinned (OpenSpec.ofChange lockLocksSpec)

/-- ITS FALSE NEIGHBOUR: 'it returns false'. Refute it at one input. -/
def lockLocksWrong : ChangeSpec := { name := "lockLocks", fn := fun _ => fun
  | [d1, d2] => { results := [.lit (.bool false)], args := [d1, d2] }
  | _ => none }
def LockLocksWrongFalsely : Prop := lockLocksRow.holds Try.pinned (OpenSpec.ofChange lockLocksWrong)

/-- 'tithinglaw20.LockBack': WHATEVER THE INPUT: true; the input reads as it did. -/
def lockBackSpec : ChangeSpec := { name := "lockBack", fn := fun _ => fun
  | [d1, d2] => { results := [.lit (.bool true)], args := [d1, d2] }
  | _ => none }
def lockBackRow : OpenClaim := { program := "ytbhlkgiaepechaa", sum := "635b3aeeeefb11a7f06c8109a4c3d270e66fd407e3eceff5d2b900749c7cab82", func := "tithing/tithinglaw20.LockBack", spec := "lockBack", inPlace := ["slices.overlaps[tithing/api.Span]"], unfollowed := true, recurses := true, apart := false }
def LockBackSaid : Prop := lockBackRow.holds Try.pinned (OpenSpec.ofChange lockBackSpec)

/-- ITS FALSE NEIGHBOUR: 'it returns false'. Refute it at one input. -/
def lockBackWrong : ChangeSpec := { name := "lockBack", fn := fun _ => fun
  | [d1, d2] => { results := [.lit (.bool false)], args := [d1, d2] }
  | _ => none }
def LockBackWrongFalsely : Prop := lockBackRow.holds Try.pinned (OpenSpec.ofChange lockBackWrong)

/- THE SECOND FORM. 'bulk': how many values and letters a reading holds, each counted each time it is reached (what is shared counts as often as it is met; a slice's spare places count too). A statement '..UptoSaid' is the law's where the arguments, and the package variables that the reading takes, are together of bulk at most 1048576: NARROWER than '..Said'. Prove '..Said' where nothing that the law and all that it calls make is longer than what came in: it says more and counts as full. Else prove '..UptoSaid'. A law counts once. -/
mutual
def uptoBulk {H : Type} : DataW H → Nat
  | .lit (.string bytes) => bytes.length + 1
  | .lit _ => 1
  | .nil => 1
  | .ptr d => uptoBulk d + 1
  | .slice elems spare => uptoBulkAll elems + uptoBulkAll spare + 1
  | .agg parts => uptoBulkAll parts + 1
  | .iface _ d => uptoBulk d + 1
  | .map entries => uptoBulkEntries entries + 1
  | .held _ => 1
def uptoBulkAll {H : Type} : List (DataW H) → Nat
  | [] => 0
  | d :: r => uptoBulk d + uptoBulkAll r
def uptoBulkEntries {H : Type} : List (Lit × DataW H) → Nat
  | [] => 0
  | x :: r => uptoBulkEntry x + uptoBulkEntries r
def uptoBulkEntry {H : Type} : Lit × DataW H → Nat
  | (.string bytes, d) => bytes.length + uptoBulk d + 1
  | (_, d) => uptoBulk d + 1
 end
def uptoSmall : (H : Type) → List (DataW H) → Bool := fun _ ds => decide (uptoBulkAll ds ≤ 1048576)
def OpenSpec.upto (s : _root_.Go.ChangeSpec) : _root_.Go.OpenSpec := { _root_.Go.OpenSpec.ofChange s with cond := some uptoSmall }

/-- 'tithinglaw20.LockTables', WHERE WHAT IT READS IS OF BULK AT MOST 1048576: true; the input reads as it did. -/
def lockTablesUptoRow : OpenClaim := { program := "ytbhlkgiaepechaa", sum := "635b3aeeeefb11a7f06c8109a4c3d270e66fd407e3eceff5d2b900749c7cab82", func := "tithing/tithinglaw20.LockTables", spec := "lockTables", inPlace := ["slices.overlaps[tithing/api.Span]"], apart := false, narrowed := true }
def LockTablesUptoSaid : Prop := lockTablesUptoRow.holds Try.pinned (OpenSpec.upto lockTablesSpec)

/-- 'tithinglaw20.LockEnds', WHERE WHAT IT READS IS OF BULK AT MOST 1048576: true; the input reads as it did. -/
def lockEndsUptoRow : OpenClaim := { program := "ytbhlkgiaepechaa", sum := "635b3aeeeefb11a7f06c8109a4c3d270e66fd407e3eceff5d2b900749c7cab82", func := "tithing/tithinglaw20.LockEnds", spec := "lockEnds", inPlace := ["slices.overlaps[tithing/api.Span]"], apart := false, narrowed := true }
def LockEndsUptoSaid : Prop := lockEndsUptoRow.holds Try.pinned (OpenSpec.upto lockEndsSpec)

/-- 'tithinglaw20.LockMay', WHERE WHAT IT READS IS OF BULK AT MOST 1048576: true; the input reads as it did. -/
def lockMayUptoRow : OpenClaim := { program := "ytbhlkgiaepechaa", sum := "635b3aeeeefb11a7f06c8109a4c3d270e66fd407e3eceff5d2b900749c7cab82", func := "tithing/tithinglaw20.LockMay", spec := "lockMay", inPlace := ["slices.overlaps[tithing/api.Span]"], unfollowed := true, recurses := true, apart := false, narrowed := true }
def LockMayUptoSaid : Prop := lockMayUptoRow.holds Try.pinned (OpenSpec.upto lockMaySpec)

/-- 'tithinglaw20.LockBytes', WHERE WHAT IT READS IS OF BULK AT MOST 1048576: true; the input reads as it did. -/
def lockBytesUptoRow : OpenClaim := { program := "ytbhlkgiaepechaa", sum := "635b3aeeeefb11a7f06c8109a4c3d270e66fd407e3eceff5d2b900749c7cab82", func := "tithing/tithinglaw20.LockBytes", spec := "lockBytes", inPlace := ["slices.overlaps[tithing/api.Span]"], unfollowed := true, recurses := true, apart := false, narrowed := true }
def LockBytesUptoSaid : Prop := lockBytesUptoRow.holds Try.pinned (OpenSpec.upto lockBytesSpec)

/-- 'tithinglaw20.LockModes', WHERE WHAT IT READS IS OF BULK AT MOST 1048576: true; the input reads as it did. -/
def lockModesUptoRow : OpenClaim := { program := "ytbhlkgiaepechaa", sum := "635b3aeeeefb11a7f06c8109a4c3d270e66fd407e3eceff5d2b900749c7cab82", func := "tithing/tithinglaw20.LockModes", spec := "lockModes", inPlace := ["slices.overlaps[tithing/api.Span]"], unfollowed := true, recurses := true, apart := false, narrowed := true }
def LockModesUptoSaid : Prop := lockModesUptoRow.holds Try.pinned (OpenSpec.upto lockModesSpec)

/-- 'tithinglaw20.LockLocks', WHERE WHAT IT READS IS OF BULK AT MOST 1048576: true; the input reads as it did. -/
def lockLocksUptoRow : OpenClaim := { program := "ytbhlkgiaepechaa", sum := "635b3aeeeefb11a7f06c8109a4c3d270e66fd407e3eceff5d2b900749c7cab82", func := "tithing/tithinglaw20.LockLocks", spec := "lockLocks", inPlace := ["slices.overlaps[tithing/api.Span]"], unfollowed := true, recurses := true, apart := false, narrowed := true }
def LockLocksUptoSaid : Prop := lockLocksUptoRow.holds Try.pinned (OpenSpec.upto lockLocksSpec)

/-- 'tithinglaw20.LockBack', WHERE WHAT IT READS IS OF BULK AT MOST 1048576: true; the input reads as it did. -/
def lockBackUptoRow : OpenClaim := { program := "ytbhlkgiaepechaa", sum := "635b3aeeeefb11a7f06c8109a4c3d270e66fd407e3eceff5d2b900749c7cab82", func := "tithing/tithinglaw20.LockBack", spec := "lockBack", inPlace := ["slices.overlaps[tithing/api.Span]"], unfollowed := true, recurses := true, apart := false, narrowed := true }
def LockBackUptoSaid : Prop := lockBackUptoRow.holds Try.pinned (OpenSpec.upto lockBackSpec)

end Rows
end Go.Proofs.Ytbhlkgiaepechaa
