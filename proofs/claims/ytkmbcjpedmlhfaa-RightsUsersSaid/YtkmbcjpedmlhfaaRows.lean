/-
  No cell of these rows narrows 'for every input' (looked for: loops, veiled, ifaces, maps, wideKeys, modest, calm, conditions, laid).
  DERIVED. THE GIVEN ROWS OF THIS SEAT. 7 by the template 'for every input the law returns true; each argument reads behind the call as it read before'; 0 by the template 'total and deterministic' (their statements: YtkmbcjpedmlhfaaTotals.lean).
  GIVEN WITH THE SEED: the statements are not yours to turn. If you find one false, say at which input.
  Laid BY PROGRAM, IN A SANDBOX (cutbox-rows.mjs): the forced cells as the released guide's own fill.sh prints them over the translation 63942cf39e3636e4… (all of the seat's roots in one cut). By AI agents, Wed Nov 11 2026. No macro, syntax, notation, axiom, sorry.
-/
import Derived.Test.YtkmbcjpedmlhfaaChecked
import GoSem.Claim
import GoSem.ClaimJoined
import GoSem.ClaimMapViews
import Derived.JoinedTies
import Derived.KernelRfl
namespace Go.Proofs.Ytkmbcjpedmlhfaa
/- THE CELL 'sum', in the pinned program and in every row, IS THE sha256 OF THE DUMP (.gsa) THAT YtkmbcjpedmlhfaaProg.lean LOADS. Nothing in Lean hashes anything: it is a label: what it is worth is what the hold of that sum in a sandbox is worth. -/
noncomputable def Try.pinned : Pinned := { name := "ytkmbcjpedmlhfaa", sum := "63942cf39e3636e4ab710b5797117bf3818945e7e8f717011247201cc4f0c4c7", checked := Try.checked }
namespace Rows
def none {H : Type} : Left H := { results := [], args := [] }

/-- 'tithinglaw21.RightsHas': WHATEVER THE INPUT: true; the input reads as it did. -/
def rightsHasSpec : ChangeSpec := { name := "rightsHas", fn := fun _ => fun
  | [d1, d2, d3] => { results := [.lit (.bool true)], args := [d1, d2, d3] }
  | _ => none }
def rightsHasRow : OpenClaim := { program := "ytkmbcjpedmlhfaa", sum := "63942cf39e3636e4ab710b5797117bf3818945e7e8f717011247201cc4f0c4c7", func := "tithing/tithinglaw21.RightsHas", spec := "rightsHas", unfollowed := true, recurses := true, apart := false }
def RightsHasSaid : Prop := rightsHasRow.holds Try.pinned (OpenSpec.ofChange rightsHasSpec)

/-- ITS FALSE NEIGHBOUR: 'it returns false'. Refute it at one input. -/
def rightsHasWrong : ChangeSpec := { name := "rightsHas", fn := fun _ => fun
  | [d1, d2, d3] => { results := [.lit (.bool false)], args := [d1, d2, d3] }
  | _ => none }
def RightsHasWrongFalsely : Prop := rightsHasRow.holds Try.pinned (OpenSpec.ofChange rightsHasWrong)

/-- 'tithinglaw21.RightsChange': WHATEVER THE INPUT: true; the input reads as it did. -/
def rightsChangeSpec : ChangeSpec := { name := "rightsChange", fn := fun _ => fun
  | [d1, d2, d3] => { results := [.lit (.bool true)], args := [d1, d2, d3] }
  | _ => none }
def rightsChangeRow : OpenClaim := { program := "ytkmbcjpedmlhfaa", sum := "63942cf39e3636e4ab710b5797117bf3818945e7e8f717011247201cc4f0c4c7", func := "tithing/tithinglaw21.RightsChange", spec := "rightsChange", unfollowed := true, recurses := true, apart := false }
def RightsChangeSaid : Prop := rightsChangeRow.holds Try.pinned (OpenSpec.ofChange rightsChangeSpec)

/-- ITS FALSE NEIGHBOUR: 'it returns false'. Refute it at one input. -/
def rightsChangeWrong : ChangeSpec := { name := "rightsChange", fn := fun _ => fun
  | [d1, d2, d3] => { results := [.lit (.bool false)], args := [d1, d2, d3] }
  | _ => none }
def RightsChangeWrongFalsely : Prop := rightsChangeRow.holds Try.pinned (OpenSpec.ofChange rightsChangeWrong)

/-- 'tithinglaw21.RightsUsers': WHATEVER THE INPUT: true; the input reads as it did. -/
def rightsUsersSpec : ChangeSpec := { name := "rightsUsers", fn := fun _ => fun
  | [d1, d2, d3] => { results := [.lit (.bool true)], args := [d1, d2, d3] }
  | _ => none }
def rightsUsersRow : OpenClaim := { program := "ytkmbcjpedmlhfaa", sum := "63942cf39e3636e4ab710b5797117bf3818945e7e8f717011247201cc4f0c4c7", func := "tithing/tithinglaw21.RightsUsers", spec := "rightsUsers", unfollowed := true, recurses := true, apart := false }
def RightsUsersSaid : Prop := rightsUsersRow.holds Try.pinned (OpenSpec.ofChange rightsUsersSpec)

/-- ITS FALSE NEIGHBOUR: 'it returns false'. Refute it at one input. -/
def rightsUsersWrong : ChangeSpec := { name := "rightsUsers", fn := fun _ => fun
  | [d1, d2, d3] => { results := [.lit (.bool false)], args := [d1, d2, d3] }
  | _ => none }
def RightsUsersWrongFalsely : Prop := rightsUsersRow.holds Try.pinned (OpenSpec.ofChange rightsUsersWrong)

/-- 'tithinglaw21.RightsBlank': WHATEVER THE INPUT: true; the input reads as it did. -/
def rightsBlankSpec : ChangeSpec := { name := "rightsBlank", fn := fun _ => fun
  | [d1, d2, d3] => { results := [.lit (.bool true)], args := [d1, d2, d3] }
  | _ => none }
def rightsBlankRow : OpenClaim := { program := "ytkmbcjpedmlhfaa", sum := "63942cf39e3636e4ab710b5797117bf3818945e7e8f717011247201cc4f0c4c7", func := "tithing/tithinglaw21.RightsBlank", spec := "rightsBlank", unfollowed := true, recurses := true, apart := false }
def RightsBlankSaid : Prop := rightsBlankRow.holds Try.pinned (OpenSpec.ofChange rightsBlankSpec)

/-- ITS FALSE NEIGHBOUR: 'it returns false'. Refute it at one input. -/
def rightsBlankWrong : ChangeSpec := { name := "rightsBlank", fn := fun _ => fun
  | [d1, d2, d3] => { results := [.lit (.bool false)], args := [d1, d2, d3] }
  | _ => none }
def RightsBlankWrongFalsely : Prop := rightsBlankRow.holds Try.pinned (OpenSpec.ofChange rightsBlankWrong)

/-- 'tithinglaw21.RightsAt': WHATEVER THE INPUT: true; the input reads as it did. -/
def rightsAtSpec : ChangeSpec := { name := "rightsAt", fn := fun _ => fun
  | [d1, d2, d3] => { results := [.lit (.bool true)], args := [d1, d2, d3] }
  | _ => none }
def rightsAtRow : OpenClaim := { program := "ytkmbcjpedmlhfaa", sum := "63942cf39e3636e4ab710b5797117bf3818945e7e8f717011247201cc4f0c4c7", func := "tithing/tithinglaw21.RightsAt", spec := "rightsAt", unfollowed := true, recurses := true, apart := false }
def RightsAtSaid : Prop := rightsAtRow.holds Try.pinned (OpenSpec.ofChange rightsAtSpec)

/-- ITS FALSE NEIGHBOUR: 'it returns false'. Refute it at one input. -/
def rightsAtWrong : ChangeSpec := { name := "rightsAt", fn := fun _ => fun
  | [d1, d2, d3] => { results := [.lit (.bool false)], args := [d1, d2, d3] }
  | _ => none }
def RightsAtWrongFalsely : Prop := rightsAtRow.holds Try.pinned (OpenSpec.ofChange rightsAtWrong)

/-- 'tithinglaw21.RightsMay': WHATEVER THE INPUT: true; the input reads as it did. -/
def rightsMaySpec : ChangeSpec := { name := "rightsMay", fn := fun _ => fun
  | [d1, d2, d3] => { results := [.lit (.bool true)], args := [d1, d2, d3] }
  | _ => none }
def rightsMayRow : OpenClaim := { program := "ytkmbcjpedmlhfaa", sum := "63942cf39e3636e4ab710b5797117bf3818945e7e8f717011247201cc4f0c4c7", func := "tithing/tithinglaw21.RightsMay", spec := "rightsMay", unfollowed := true, recurses := true, apart := false }
def RightsMaySaid : Prop := rightsMayRow.holds Try.pinned (OpenSpec.ofChange rightsMaySpec)

/-- ITS FALSE NEIGHBOUR: 'it returns false'. Refute it at one input. -/
def rightsMayWrong : ChangeSpec := { name := "rightsMay", fn := fun _ => fun
  | [d1, d2, d3] => { results := [.lit (.bool false)], args := [d1, d2, d3] }
  | _ => none }
def RightsMayWrongFalsely : Prop := rightsMayRow.holds Try.pinned (OpenSpec.ofChange rightsMayWrong)

/-- 'tithinglaw21.RightsMore': WHATEVER THE INPUT: true; the input reads as it did. -/
def rightsMoreSpec : ChangeSpec := { name := "rightsMore", fn := fun _ => fun
  | [d1, d2, d3] => { results := [.lit (.bool true)], args := [d1, d2, d3] }
  | _ => none }
def rightsMoreRow : OpenClaim := { program := "ytkmbcjpedmlhfaa", sum := "63942cf39e3636e4ab710b5797117bf3818945e7e8f717011247201cc4f0c4c7", func := "tithing/tithinglaw21.RightsMore", spec := "rightsMore", unfollowed := true, recurses := true, apart := false }
def RightsMoreSaid : Prop := rightsMoreRow.holds Try.pinned (OpenSpec.ofChange rightsMoreSpec)

/-- ITS FALSE NEIGHBOUR: 'it returns false'. Refute it at one input. -/
def rightsMoreWrong : ChangeSpec := { name := "rightsMore", fn := fun _ => fun
  | [d1, d2, d3] => { results := [.lit (.bool false)], args := [d1, d2, d3] }
  | _ => none }
def RightsMoreWrongFalsely : Prop := rightsMoreRow.holds Try.pinned (OpenSpec.ofChange rightsMoreWrong)

/- THE SECOND FORM. 'bulk': how many values and letters a reading holds, each counted each time it is reached (what is shared counts as often as it is met; a slice's spare places count too). A statement '..UptoSaid' is the law's where the arguments, and the package variables that the reading takes, are together of bulk at most 1048576: NARROWER than '..Said'. Prove '..Said' where nothing that the law and all that it calls make is longer than what came in: it says more and counts as full. Else prove '..UptoSaid'. A law counts once. -/
mutual
def uptoBulk {H : Type} : DataW H → Nat
  | .lit (.string bytes) => bytes.length + 1
  | .lit _ => 1
  | .nil => 1
  | .ptr d => uptoBulk d + 1
  | .slice elems spare => uptoBulkAll elems + uptoBulkAll spare + 1
  | .agg parts => uptoBulkAll parts + 1
  | .iface _ d => uptoBulk d + 1
  | .map entries => uptoBulkEntries entries + 1
  | .held _ => 1
def uptoBulkAll {H : Type} : List (DataW H) → Nat
  | [] => 0
  | d :: r => uptoBulk d + uptoBulkAll r
def uptoBulkEntries {H : Type} : List (Lit × DataW H) → Nat
  | [] => 0
  | x :: r => uptoBulkEntry x + uptoBulkEntries r
def uptoBulkEntry {H : Type} : Lit × DataW H → Nat
  | (.string bytes, d) => bytes.length + uptoBulk d + 1
  | (_, d) => uptoBulk d + 1
 end
def uptoSmall : (H : Type) → List (DataW H) → Bool := fun _ ds => decide (uptoBulkAll ds ≤ 1048576)
def OpenSpec.upto (s : _root_.Go.ChangeSpec) : _root_.Go.OpenSpec := { _root_.Go.OpenSpec.ofChange s with cond := some uptoSmall }

/-- 'tithinglaw21.RightsHas', WHERE WHAT IT READS IS OF BULK AT MOST 1048576: true; the input reads as it did. -/
def rightsHasUptoRow : OpenClaim := { program := "ytkmbcjpedmlhfaa", sum := "63942cf39e3636e4ab710b5797117bf3818945e7e8f717011247201cc4f0c4c7", func := "tithing/tithinglaw21.RightsHas", spec := "rightsHas", unfollowed := true, recurses := true, apart := false, narrowed := true }
def RightsHasUptoSaid : Prop := rightsHasUptoRow.holds Try.pinned (OpenSpec.upto rightsHasSpec)

/-- 'tithinglaw21.RightsChange', WHERE WHAT IT READS IS OF BULK AT MOST 1048576: true; the input reads as it did. -/
def rightsChangeUptoRow : OpenClaim := { program := "ytkmbcjpedmlhfaa", sum := "63942cf39e3636e4ab710b5797117bf3818945e7e8f717011247201cc4f0c4c7", func := "tithing/tithinglaw21.RightsChange", spec := "rightsChange", unfollowed := true, recurses := true, apart := false, narrowed := true }
def RightsChangeUptoSaid : Prop := rightsChangeUptoRow.holds Try.pinned (OpenSpec.upto rightsChangeSpec)

/-- 'tithinglaw21.RightsUsers', WHERE WHAT IT READS IS OF BULK AT MOST 1048576: true; the input reads as it did. -/
def rightsUsersUptoRow : OpenClaim := { program := "ytkmbcjpedmlhfaa", sum := "63942cf39e3636e4ab710b5797117bf3818945e7e8f717011247201cc4f0c4c7", func := "tithing/tithinglaw21.RightsUsers", spec := "rightsUsers", unfollowed := true, recurses := true, apart := false, narrowed := true }
def RightsUsersUptoSaid : Prop := rightsUsersUptoRow.holds Try.pinned (OpenSpec.upto rightsUsersSpec)

/-- 'tithinglaw21.RightsBlank', WHERE WHAT IT READS IS OF BULK AT MOST 1048576: true; the input reads as it did. -/
def rightsBlankUptoRow : OpenClaim := { program := "ytkmbcjpedmlhfaa", sum := "63942cf39e3636e4ab710b5797117bf3818945e7e8f717011247201cc4f0c4c7", func := "tithing/tithinglaw21.RightsBlank", spec := "rightsBlank", unfollowed := true, recurses := true, apart := false, narrowed := true }
def RightsBlankUptoSaid : Prop := rightsBlankUptoRow.holds Try.pinned (OpenSpec.upto rightsBlankSpec)

/-- 'tithinglaw21.RightsAt', WHERE WHAT IT READS IS OF BULK AT MOST 1048576: true; the input reads as it did. -/
def rightsAtUptoRow : OpenClaim := { program := "ytkmbcjpedmlhfaa", sum := "63942cf39e3636e4ab710b5797117bf3818945e7e8f717011247201cc4f0c4c7", func := "tithing/tithinglaw21.RightsAt", spec := "rightsAt", unfollowed := true, recurses := true, apart := false, narrowed := true }
def RightsAtUptoSaid : Prop := rightsAtUptoRow.holds Try.pinned (OpenSpec.upto rightsAtSpec)

/-- 'tithinglaw21.RightsMay', WHERE WHAT IT READS IS OF BULK AT MOST 1048576: true; the input reads as it did. -/
def rightsMayUptoRow : OpenClaim := { program := "ytkmbcjpedmlhfaa", sum := "63942cf39e3636e4ab710b5797117bf3818945e7e8f717011247201cc4f0c4c7", func := "tithing/tithinglaw21.RightsMay", spec := "rightsMay", unfollowed := true, recurses := true, apart := false, narrowed := true }
def RightsMayUptoSaid : Prop := rightsMayUptoRow.holds Try.pinned (OpenSpec.upto rightsMaySpec)

/-- 'tithinglaw21.RightsMore', WHERE WHAT IT READS IS OF BULK AT MOST 1048576: true; the input reads as it did. -/
def rightsMoreUptoRow : OpenClaim := { program := "ytkmbcjpedmlhfaa", sum := "63942cf39e3636e4ab710b5797117bf3818945e7e8f717011247201cc4f0c4c7", func := "tithing/tithinglaw21.RightsMore", spec := "rightsMore", unfollowed := true, recurses := true, apart := false, narrowed := true }
def RightsMoreUptoSaid : Prop := rightsMoreUptoRow.holds Try.pinned (OpenSpec.upto rightsMoreSpec)

end Rows
end Go.Proofs.Ytkmbcjpedmlhfaa
