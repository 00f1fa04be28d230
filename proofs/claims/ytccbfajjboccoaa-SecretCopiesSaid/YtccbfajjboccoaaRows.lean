/-
  No cell of these rows narrows 'for every input' (looked for: loops, veiled, ifaces, maps, wideKeys, modest, calm, conditions, laid).
  DERIVED. THE GIVEN ROWS OF THIS SEAT. 5 by the template 'for every input the law returns true; each argument reads behind the call as it read before'; 0 by the template 'total and deterministic' (their statements: YtccbfajjboccoaaTotals.lean).
  GIVEN WITH THE SEED: the statements are not yours to turn. If you find one false, say at which input.
  Laid BY PROGRAM, IN A SANDBOX (cutbox-rows.mjs): the forced cells as the released guide's own fill.sh prints them over the translation 23ff9e7cccf78507… (all of the seat's roots in one cut). By AI agents, Wed Nov 11 2026. No macro, syntax, notation, axiom, sorry.
-/
import Derived.Test.YtccbfajjboccoaaChecked
import GoSem.Claim
import GoSem.ClaimJoined
import GoSem.ClaimMapViews
import Derived.JoinedTies
import Derived.KernelRfl
namespace Go.Proofs.Ytccbfajjboccoaa
/- THE CELL 'sum', in the pinned program and in every row, IS THE sha256 OF THE DUMP (.gsa) THAT YtccbfajjboccoaaProg.lean LOADS. Nothing in Lean hashes anything: it is a label: what it is worth is what the hold of that sum in a sandbox is worth. -/
noncomputable def Try.pinned : Pinned := { name := "ytccbfajjboccoaa", sum := "23ff9e7cccf7850770400cd93a2a1f12d52426d9004ce8f271fa70eb4123d530", checked := Try.checked }
namespace Rows
def none {H : Type} : Left H := { results := [], args := [] }

/-- 'tithinglaw24.SecretCiphers': WHATEVER THE INPUT: true; the input reads as it did. -/
def secretCiphersSpec : ChangeSpec := { name := "secretCiphers", fn := fun _ => fun
  | [d1, d2] => { results := [.lit (.bool true)], args := [d1, d2] }
  | _ => none }
def secretCiphersRow : OpenClaim := { program := "ytccbfajjboccoaa", sum := "23ff9e7cccf7850770400cd93a2a1f12d52426d9004ce8f271fa70eb4123d530", func := "tithing/tithinglaw24.SecretCiphers", spec := "secretCiphers", unfollowed := true, recurses := true, apart := false }
def SecretCiphersSaid : Prop := secretCiphersRow.holds Try.pinned (OpenSpec.ofChange secretCiphersSpec)

/-- ITS FALSE NEIGHBOUR: 'it returns false'. Refute it at one input. -/
def secretCiphersWrong : ChangeSpec := { name := "secretCiphers", fn := fun _ => fun
  | [d1, d2] => { results := [.lit (.bool false)], args := [d1, d2] }
  | _ => none }
def SecretCiphersWrongFalsely : Prop := secretCiphersRow.holds Try.pinned (OpenSpec.ofChange secretCiphersWrong)

/-- 'tithinglaw24.SecretEnters': WHATEVER THE INPUT: true; the input reads as it did. -/
def secretEntersSpec : ChangeSpec := { name := "secretEnters", fn := fun _ => fun
  | [d1, d2, d3, d4] => { results := [.lit (.bool true)], args := [d1, d2, d3, d4] }
  | _ => none }
def secretEntersRow : OpenClaim := { program := "ytccbfajjboccoaa", sum := "23ff9e7cccf7850770400cd93a2a1f12d52426d9004ce8f271fa70eb4123d530", func := "tithing/tithinglaw24.SecretEnters", spec := "secretEnters", unfollowed := true, recurses := true, apart := false }
def SecretEntersSaid : Prop := secretEntersRow.holds Try.pinned (OpenSpec.ofChange secretEntersSpec)

/-- ITS FALSE NEIGHBOUR: 'it returns false'. Refute it at one input. -/
def secretEntersWrong : ChangeSpec := { name := "secretEnters", fn := fun _ => fun
  | [d1, d2, d3, d4] => { results := [.lit (.bool false)], args := [d1, d2, d3, d4] }
  | _ => none }
def SecretEntersWrongFalsely : Prop := secretEntersRow.holds Try.pinned (OpenSpec.ofChange secretEntersWrong)

/-- 'tithinglaw24.SecretDoors': WHATEVER THE INPUT: true; the input reads as it did. -/
def secretDoorsSpec : ChangeSpec := { name := "secretDoors", fn := fun _ => fun
  | [d1, d2, d3] => { results := [.lit (.bool true)], args := [d1, d2, d3] }
  | _ => none }
def secretDoorsRow : OpenClaim := { program := "ytccbfajjboccoaa", sum := "23ff9e7cccf7850770400cd93a2a1f12d52426d9004ce8f271fa70eb4123d530", func := "tithing/tithinglaw24.SecretDoors", spec := "secretDoors", unfollowed := true, recurses := true, apart := false }
def SecretDoorsSaid : Prop := secretDoorsRow.holds Try.pinned (OpenSpec.ofChange secretDoorsSpec)

/-- ITS FALSE NEIGHBOUR: 'it returns false'. Refute it at one input. -/
def secretDoorsWrong : ChangeSpec := { name := "secretDoors", fn := fun _ => fun
  | [d1, d2, d3] => { results := [.lit (.bool false)], args := [d1, d2, d3] }
  | _ => none }
def SecretDoorsWrongFalsely : Prop := secretDoorsRow.holds Try.pinned (OpenSpec.ofChange secretDoorsWrong)

/-- 'tithinglaw24.SecretCopies': WHATEVER THE INPUT: true; the input reads as it did. -/
def secretCopiesSpec : ChangeSpec := { name := "secretCopies", fn := fun _ => fun
  | [d1, d2, d3] => { results := [.lit (.bool true)], args := [d1, d2, d3] }
  | _ => none }
def secretCopiesRow : OpenClaim := { program := "ytccbfajjboccoaa", sum := "23ff9e7cccf7850770400cd93a2a1f12d52426d9004ce8f271fa70eb4123d530", func := "tithing/tithinglaw24.SecretCopies", spec := "secretCopies", unfollowed := true, recurses := true, apart := false }
def SecretCopiesSaid : Prop := secretCopiesRow.holds Try.pinned (OpenSpec.ofChange secretCopiesSpec)

/-- ITS FALSE NEIGHBOUR: 'it returns false'. Refute it at one input. -/
def secretCopiesWrong : ChangeSpec := { name := "secretCopies", fn := fun _ => fun
  | [d1, d2, d3] => { results := [.lit (.bool false)], args := [d1, d2, d3] }
  | _ => none }
def SecretCopiesWrongFalsely : Prop := secretCopiesRow.holds Try.pinned (OpenSpec.ofChange secretCopiesWrong)

/-- 'tithinglaw24.SecretNils': WHATEVER THE INPUT: true; the input reads as it did. -/
def secretNilsSpec : ChangeSpec := { name := "secretNils", fn := fun _ => fun
  | [d1, d2] => { results := [.lit (.bool true)], args := [d1, d2] }
  | _ => none }
def secretNilsRow : OpenClaim := { program := "ytccbfajjboccoaa", sum := "23ff9e7cccf7850770400cd93a2a1f12d52426d9004ce8f271fa70eb4123d530", func := "tithing/tithinglaw24.SecretNils", spec := "secretNils", unfollowed := true, recurses := true, apart := false }
def SecretNilsSaid : Prop := secretNilsRow.holds Try.pinned (OpenSpec.ofChange secretNilsSpec)

/-- ITS FALSE NEIGHBOUR: 'it returns false'. Refute it at one input. -/
def secretNilsWrong : ChangeSpec := { name := "secretNils", fn := fun _ => fun
  | [d1, d2] => { results := [.lit (.bool false)], args := [d1, d2] }
  | _ => none }
def SecretNilsWrongFalsely : Prop := secretNilsRow.holds Try.pinned (OpenSpec.ofChange secretNilsWrong)

/- THE SECOND FORM. 'bulk': how many values and letters a reading holds, each counted each time it is reached (what is shared counts as often as it is met; a slice's spare places count too). A statement '..UptoSaid' is the law's where the arguments, and the package variables that the reading takes, are together of bulk at most 1048576: NARROWER than '..Said'. Prove '..Said' where nothing that the law and all that it calls make is longer than what came in: it says more and counts as full. Else prove '..UptoSaid'. A law counts once. -/
mutual
def uptoBulk {H : Type} : DataW H → Nat
  | .lit (.string bytes) => bytes.length + 1
  | .lit _ => 1
  | .nil => 1
  | .ptr d => uptoBulk d + 1
  | .slice elems spare => uptoBulkAll elems + uptoBulkAll spare + 1
  | .agg parts => uptoBulkAll parts + 1
  | .iface _ d => uptoBulk d + 1
  | .map entries => uptoBulkEntries entries + 1
  | .held _ => 1
def uptoBulkAll {H : Type} : List (DataW H) → Nat
  | [] => 0
  | d :: r => uptoBulk d + uptoBulkAll r
def uptoBulkEntries {H : Type} : List (Lit × DataW H) → Nat
  | [] => 0
  | x :: r => uptoBulkEntry x + uptoBulkEntries r
def uptoBulkEntry {H : Type} : Lit × DataW H → Nat
  | (.string bytes, d) => bytes.length + uptoBulk d + 1
  | (_, d) => uptoBulk d + 1
 end
def uptoSmall : (H : Type) → List (DataW H) → Bool := fun _ ds => decide (uptoBulkAll ds ≤ 1048576)
def OpenSpec.upto (s : _root_.Go.ChangeSpec) : _root_.Go.OpenSpec := { _root_.Go.OpenSpec.ofChange s with cond := some uptoSmall }

/-- 'tithinglaw24.SecretCiphers', WHERE WHAT IT READS IS OF BULK AT MOST 1048576: true; the input reads as it did. -/
def secretCiphersUptoRow : OpenClaim := { program := "ytccbfajjboccoaa", sum := "23ff9e7cccf7850770400cd93a2a1f12d52426d9004ce8f271fa70eb4123d530", func := "tithing/tithinglaw24.SecretCiphers", spec := "secretCiphers", unfollowed := true, recurses := true, apart := false, narrowed := true }
def SecretCiphersUptoSaid : Prop := secretCiphersUptoRow.holds Try.pinned (OpenSpec.upto secretCiphersSpec)

/-- 'tithinglaw24.SecretEnters', WHERE WHAT IT READS IS OF BULK AT MOST 1048576: true; the input reads as it did. -/
def secretEntersUptoRow : OpenClaim := { program := "ytccbfajjboccoaa", sum := "23ff9e7cccf7850770400cd93a2a1f12d52426d9004ce8f271fa70eb4123d530", func := "tithing/tithinglaw24.SecretEnters", spec := "secretEnters", unfollowed := true, recurses := true, apart := false, narrowed := true }
def SecretEntersUptoSaid : Prop := secretEntersUptoRow.holds Try.pinned (OpenSpec.upto secretEntersSpec)

/-- 'tithinglaw24.SecretDoors', WHERE WHAT IT READS IS OF BULK AT MOST 1048576: true; the input reads as it did. -/
def secretDoorsUptoRow : OpenClaim := { program := "ytccbfajjboccoaa", sum := "23ff9e7cccf7850770400cd93a2a1f12d52426d9004ce8f271fa70eb4123d530", func := "tithing/tithinglaw24.SecretDoors", spec := "secretDoors", unfollowed := true, recurses := true, apart := false, narrowed := true }
def SecretDoorsUptoSaid : Prop := secretDoorsUptoRow.holds Try.pinned (OpenSpec.upto secretDoorsSpec)

/-- 'tithinglaw24.SecretCopies', WHERE WHAT IT READS IS OF BULK AT MOST 1048576: true; the input reads as it did. -/
def secretCopiesUptoRow : OpenClaim := { program := "ytccbfajjboccoaa", sum := "23ff9e7cccf7850770400cd93a2a1f12d52426d9004ce8f271fa70eb4123d530", func := "tithing/tithinglaw24.SecretCopies", spec := "secretCopies", unfollowed := true, recurses := true, apart := false, narrowed := true }
def SecretCopiesUptoSaid : Prop := secretCopiesUptoRow.holds Try.pinned (OpenSpec.upto secretCopiesSpec)

/-- 'tithinglaw24.SecretNils', WHERE WHAT IT READS IS OF BULK AT MOST 1048576: true; the input reads as it did. -/
def secretNilsUptoRow : OpenClaim := { program := "ytccbfajjboccoaa", sum := "23ff9e7cccf7850770400cd93a2a1f12d52426d9004ce8f271fa70eb4123d530", func := "tithing/tithinglaw24.SecretNils", spec := "secretNils", unfollowed := true, recurses := true, apart := false, narrowed := true }
def SecretNilsUptoSaid : Prop := secretNilsUptoRow.holds Try.pinned (OpenSpec.upto secretNilsSpec)

end Rows
end Go.Proofs.Ytccbfajjboccoaa
