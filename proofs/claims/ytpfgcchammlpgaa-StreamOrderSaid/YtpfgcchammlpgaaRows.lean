/-
  No cell of these rows narrows 'for every input' (looked for: loops, veiled, ifaces, maps, wideKeys, modest, calm, conditions, laid).
  DERIVED. THE GIVEN ROWS OF THIS SEAT. 5 by the template 'for every input the law returns true; each argument reads behind the call as it read before'; 0 by the template 'total and deterministic' (their statements: YtpfgcchammlpgaaTotals.lean).
  GIVEN WITH THE SEED: the statements are not yours to turn. If you find one false, say at which input.
  Laid BY PROGRAM, IN A SANDBOX (cutbox-rows.mjs): the forced cells as the released guide's own fill.sh prints them over the translation af32369504f9f887… (all of the seat's roots in one cut). By AI agents, Wed Nov 11 2026. No macro, syntax, notation, axiom, sorry.
-/
import Derived.Test.YtpfgcchammlpgaaChecked
import GoSem.Claim
import GoSem.ClaimJoined
import GoSem.ClaimMapViews
import Derived.JoinedTies
import Derived.KernelRfl
namespace Go.Proofs.Ytpfgcchammlpgaa
/- THE CELL 'sum', in the pinned program and in every row, IS THE sha256 OF THE DUMP (.gsa) THAT YtpfgcchammlpgaaProg.lean LOADS. Nothing in Lean hashes anything: it is a label: what it is worth is what the hold of that sum in a sandbox is worth. -/
noncomputable def Try.pinned : Pinned := { name := "ytpfgcchammlpgaa", sum := "af32369504f9f887ecdca97672bc12a22385baad01d0406c1433510a8a4391af", checked := Try.checked }
namespace Rows
def none {H : Type} : Left H := { results := [], args := [] }

/-- 'tithinglaw12.StreamValid': WHATEVER THE INPUT: true; the input reads as it did. -/
def streamValidSpec : ChangeSpec := { name := "streamValid", fn := fun _ => fun
  | [d] => { results := [.lit (.bool true)], args := [d] }
  | _ => none }
def streamValidRow : OpenClaim := { program := "ytpfgcchammlpgaa", sum := "af32369504f9f887ecdca97672bc12a22385baad01d0406c1433510a8a4391af", func := "tithing/tithinglaw12.StreamValid", spec := "streamValid", apart := false }
def StreamValidSaid : Prop := streamValidRow.holds Try.pinned (OpenSpec.ofChange streamValidSpec)

/-- ITS FALSE NEIGHBOUR: 'it returns false'. Refute it at one input. -/
def streamValidWrong : ChangeSpec := { name := "streamValid", fn := fun _ => fun
  | [d] => { results := [.lit (.bool false)], args := [d] }
  | _ => none }
def StreamValidWrongFalsely : Prop := streamValidRow.holds Try.pinned (OpenSpec.ofChange streamValidWrong)

/-- 'tithinglaw12.StreamPairs': WHATEVER THE INPUT: true; the input reads as it did. -/
def streamPairsSpec : ChangeSpec := { name := "streamPairs", fn := fun _ => fun
  | [d1, d2, d3] => { results := [.lit (.bool true)], args := [d1, d2, d3] }
  | _ => none }
def streamPairsRow : OpenClaim := { program := "ytpfgcchammlpgaa", sum := "af32369504f9f887ecdca97672bc12a22385baad01d0406c1433510a8a4391af", func := "tithing/tithinglaw12.StreamPairs", spec := "streamPairs", apart := false }
def StreamPairsSaid : Prop := streamPairsRow.holds Try.pinned (OpenSpec.ofChange streamPairsSpec)

/-- ITS FALSE NEIGHBOUR: 'it returns false'. Refute it at one input. -/
def streamPairsWrong : ChangeSpec := { name := "streamPairs", fn := fun _ => fun
  | [d1, d2, d3] => { results := [.lit (.bool false)], args := [d1, d2, d3] }
  | _ => none }
def StreamPairsWrongFalsely : Prop := streamPairsRow.holds Try.pinned (OpenSpec.ofChange streamPairsWrong)

/-- 'tithinglaw12.StreamOrder': WHATEVER THE INPUT: true; the input reads as it did. -/
def streamOrderSpec : ChangeSpec := { name := "streamOrder", fn := fun _ => fun
  | [d1, d2, d3] => { results := [.lit (.bool true)], args := [d1, d2, d3] }
  | _ => none }
def streamOrderRow : OpenClaim := { program := "ytpfgcchammlpgaa", sum := "af32369504f9f887ecdca97672bc12a22385baad01d0406c1433510a8a4391af", func := "tithing/tithinglaw12.StreamOrder", spec := "streamOrder", apart := false }
def StreamOrderSaid : Prop := streamOrderRow.holds Try.pinned (OpenSpec.ofChange streamOrderSpec)

/-- ITS FALSE NEIGHBOUR: 'it returns false'. Refute it at one input. -/
def streamOrderWrong : ChangeSpec := { name := "streamOrder", fn := fun _ => fun
  | [d1, d2, d3] => { results := [.lit (.bool false)], args := [d1, d2, d3] }
  | _ => none }
def StreamOrderWrongFalsely : Prop := streamOrderRow.holds Try.pinned (OpenSpec.ofChange streamOrderWrong)

/-- 'tithinglaw12.StreamAll': WHATEVER THE INPUT: true; the input reads as it did. -/
def streamAllSpec : ChangeSpec := { name := "streamAll", fn := fun _ => fun
  | [d1, d2, d3] => { results := [.lit (.bool true)], args := [d1, d2, d3] }
  | _ => none }
def streamAllRow : OpenClaim := { program := "ytpfgcchammlpgaa", sum := "af32369504f9f887ecdca97672bc12a22385baad01d0406c1433510a8a4391af", func := "tithing/tithinglaw12.StreamAll", spec := "streamAll", apart := false }
def StreamAllSaid : Prop := streamAllRow.holds Try.pinned (OpenSpec.ofChange streamAllSpec)

/-- ITS FALSE NEIGHBOUR: 'it returns false'. Refute it at one input. -/
def streamAllWrong : ChangeSpec := { name := "streamAll", fn := fun _ => fun
  | [d1, d2, d3] => { results := [.lit (.bool false)], args := [d1, d2, d3] }
  | _ => none }
def StreamAllWrongFalsely : Prop := streamAllRow.holds Try.pinned (OpenSpec.ofChange streamAllWrong)

/-- 'tithinglaw12.StreamNils': WHATEVER THE INPUT: true; the input reads as it did. -/
def streamNilsSpec : ChangeSpec := { name := "streamNils", fn := fun _ => fun
  | [d1, d2] => { results := [.lit (.bool true)], args := [d1, d2] }
  | _ => none }
def streamNilsRow : OpenClaim := { program := "ytpfgcchammlpgaa", sum := "af32369504f9f887ecdca97672bc12a22385baad01d0406c1433510a8a4391af", func := "tithing/tithinglaw12.StreamNils", spec := "streamNils", apart := false }
def StreamNilsSaid : Prop := streamNilsRow.holds Try.pinned (OpenSpec.ofChange streamNilsSpec)

/-- ITS FALSE NEIGHBOUR: 'it returns false'. Refute it at one input. -/
def streamNilsWrong : ChangeSpec := { name := "streamNils", fn := fun _ => fun
  | [d1, d2] => { results := [.lit (.bool false)], args := [d1, d2] }
  | _ => none }
def StreamNilsWrongFalsely : Prop := streamNilsRow.holds Try.pinned (OpenSpec.ofChange streamNilsWrong)

/- THE SECOND FORM. 'bulk': how many values and letters a reading holds, each counted each time it is reached (what is shared counts as often as it is met; a slice's spare places count too). A statement '..UptoSaid' is the law's where the arguments, and the package variables that the reading takes, are together of bulk at most 1048576: NARROWER than '..Said'. Prove '..Said' where nothing that the law and all that it calls make is longer than what came in: it says more and counts as full. Else prove '..UptoSaid'. A law counts once. -/
mutual
def uptoBulk {H : Type} : DataW H → Nat
  | .lit (.string bytes) => bytes.length + 1
  | .lit _ => 1
  | .nil => 1
  | .ptr d => uptoBulk d + 1
  | .slice elems spare => uptoBulkAll elems + uptoBulkAll spare + 1
  | .agg parts => uptoBulkAll parts + 1
  | .iface _ d => uptoBulk d + 1
  | .map entries => uptoBulkEntries entries + 1
  | .held _ => 1
def uptoBulkAll {H : Type} : List (DataW H) → Nat
  | [] => 0
  | d :: r => uptoBulk d + uptoBulkAll r
def uptoBulkEntries {H : Type} : List (Lit × DataW H) → Nat
  | [] => 0
  | x :: r => uptoBulkEntry x + uptoBulkEntries r
def uptoBulkEntry {H : Type} : Lit × DataW H → Nat
  | (.string bytes, d) => bytes.length + uptoBulk d + 1
  | (_, d) => uptoBulk d + 1
 end
def uptoSmall : (H : Type) → List (DataW H) → Bool := fun _ ds => decide (uptoBulkAll ds ≤ 1048576)
def OpenSpec.upto (s : _root_.Go.ChangeSpec) : _root_.Go.OpenSpec := { _root_.Go.OpenSpec.ofChange s with cond := some uptoSmall }

/-- 'tithinglaw12.StreamValid', WHERE WHAT IT READS IS OF BULK AT MOST 1048576: true; the input reads as it did. -/
def streamValidUptoRow : OpenClaim := { program := "ytpfgcchammlpgaa", sum := "af32369504f9f887ecdca97672bc12a22385baad01d0406c1433510a8a4391af", func := "tithing/tithinglaw12.StreamValid", spec := "streamValid", apart := false, narrowed := true }
def StreamValidUptoSaid : Prop := streamValidUptoRow.holds Try.pinned (OpenSpec.upto streamValidSpec)

/-- 'tithinglaw12.StreamPairs', WHERE WHAT IT READS IS OF BULK AT MOST 1048576: true; the input reads as it did. -/
def streamPairsUptoRow : OpenClaim := { program := "ytpfgcchammlpgaa", sum := "af32369504f9f887ecdca97672bc12a22385baad01d0406c1433510a8a4391af", func := "tithing/tithinglaw12.StreamPairs", spec := "streamPairs", apart := false, narrowed := true }
def StreamPairsUptoSaid : Prop := streamPairsUptoRow.holds Try.pinned (OpenSpec.upto streamPairsSpec)

/-- 'tithinglaw12.StreamOrder', WHERE WHAT IT READS IS OF BULK AT MOST 1048576: true; the input reads as it did. -/
def streamOrderUptoRow : OpenClaim := { program := "ytpfgcchammlpgaa", sum := "af32369504f9f887ecdca97672bc12a22385baad01d0406c1433510a8a4391af", func := "tithing/tithinglaw12.StreamOrder", spec := "streamOrder", apart := false, narrowed := true }
def StreamOrderUptoSaid : Prop := streamOrderUptoRow.holds Try.pinned (OpenSpec.upto streamOrderSpec)

/-- 'tithinglaw12.StreamAll', WHERE WHAT IT READS IS OF BULK AT MOST 1048576: true; the input reads as it did. -/
def streamAllUptoRow : OpenClaim := { program := "ytpfgcchammlpgaa", sum := "af32369504f9f887ecdca97672bc12a22385baad01d0406c1433510a8a4391af", func := "tithing/tithinglaw12.StreamAll", spec := "streamAll", apart := false, narrowed := true }
def StreamAllUptoSaid : Prop := streamAllUptoRow.holds Try.pinned (OpenSpec.upto streamAllSpec)

/-- 'tithinglaw12.StreamNils', WHERE WHAT IT READS IS OF BULK AT MOST 1048576: true; the input reads as it did. -/
def streamNilsUptoRow : OpenClaim := { program := "ytpfgcchammlpgaa", sum := "af32369504f9f887ecdca97672bc12a22385baad01d0406c1433510a8a4391af", func := "tithing/tithinglaw12.StreamNils", spec := "streamNils", apart := false, narrowed := true }
def StreamNilsUptoSaid : Prop := streamNilsUptoRow.holds Try.pinned (OpenSpec.upto streamNilsSpec)

end Rows
end Go.Proofs.Ytpfgcchammlpgaa
