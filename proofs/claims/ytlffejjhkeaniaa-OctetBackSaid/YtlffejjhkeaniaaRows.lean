/-
  No cell of these rows narrows 'for every input' (looked for: loops, veiled, ifaces, maps, wideKeys, modest, calm, conditions, laid).
  DERIVED. THE GIVEN ROWS OF THIS SEAT. 8 by the template 'for every input the law returns true; each argument reads behind the call as it read before'; 0 by the template 'total and deterministic' (their statements: YtlffejjhkeaniaaTotals.lean).
  GIVEN WITH THE SEED: the statements are not yours to turn. If you find one false, say at which input.
  Laid BY PROGRAM, IN A SANDBOX (cutbox-rows.mjs): the forced cells as the released guide's own fill.sh prints them over the translation 5cbfeb8f837ab860… (all of the seat's roots in one cut). By AI agents, Wed Nov 11 2026. No macro, syntax, notation, axiom, sorry.
-/
import Derived.Test.YtlffejjhkeaniaaChecked
import GoSem.Claim
import GoSem.ClaimJoined
import GoSem.ClaimMapViews
import Derived.JoinedTies
import Derived.KernelRfl
namespace Go.Proofs.Ytlffejjhkeaniaa
/- THE CELL 'sum', in the pinned program and in every row, IS THE sha256 OF THE DUMP (.gsa) THAT YtlffejjhkeaniaaProg.lean LOADS. Nothing in Lean hashes anything: it is a label: what it is worth is what the hold of that sum in a sandbox is worth. -/
noncomputable def Try.pinned : Pinned := { name := "ytlffejjhkeaniaa", sum := "5cbfeb8f837ab86097d1e51a32438e43b0de34faa9cac1f974467904ff1f69bb", checked := Try.checked }
namespace Rows
def none {H : Type} : Left H := { results := [], args := [] }

/-- 'tithinglaw01.OctetSums': WHATEVER THE INPUT: true; the input reads as it did. -/
def octetSumsSpec : ChangeSpec := { name := "octetSums", fn := fun _ => fun
  | [d] => { results := [.lit (.bool true)], args := [d] }
  | _ => none }
def octetSumsRow : OpenClaim := { program := "ytlffejjhkeaniaa", sum := "5cbfeb8f837ab86097d1e51a32438e43b0de34faa9cac1f974467904ff1f69bb", func := "tithing/tithinglaw01.OctetSums", spec := "octetSums", apart := false }
def OctetSumsSaid : Prop := octetSumsRow.holds Try.pinned (OpenSpec.ofChange octetSumsSpec)

/-- ITS FALSE NEIGHBOUR: 'it returns false'. Refute it at one input. -/
def octetSumsWrong : ChangeSpec := { name := "octetSums", fn := fun _ => fun
  | [d] => { results := [.lit (.bool false)], args := [d] }
  | _ => none }
def OctetSumsWrongFalsely : Prop := octetSumsRow.holds Try.pinned (OpenSpec.ofChange octetSumsWrong)

/-- 'tithinglaw01.OctetDiffer': WHATEVER THE INPUT: true; the input reads as it did. -/
def octetDifferSpec : ChangeSpec := { name := "octetDiffer", fn := fun _ => fun
  | [d1, d2, d3] => { results := [.lit (.bool true)], args := [d1, d2, d3] }
  | _ => none }
def octetDifferRow : OpenClaim := { program := "ytlffejjhkeaniaa", sum := "5cbfeb8f837ab86097d1e51a32438e43b0de34faa9cac1f974467904ff1f69bb", func := "tithing/tithinglaw01.OctetDiffer", spec := "octetDiffer", apart := false }
def OctetDifferSaid : Prop := octetDifferRow.holds Try.pinned (OpenSpec.ofChange octetDifferSpec)

/-- ITS FALSE NEIGHBOUR: 'it returns false'. Refute it at one input. -/
def octetDifferWrong : ChangeSpec := { name := "octetDiffer", fn := fun _ => fun
  | [d1, d2, d3] => { results := [.lit (.bool false)], args := [d1, d2, d3] }
  | _ => none }
def OctetDifferWrongFalsely : Prop := octetDifferRow.holds Try.pinned (OpenSpec.ofChange octetDifferWrong)

/-- 'tithinglaw01.OctetNumbers': WHATEVER THE INPUT: true; the input reads as it did. -/
def octetNumbersSpec : ChangeSpec := { name := "octetNumbers", fn := fun _ => fun
  | [d1, d2] => { results := [.lit (.bool true)], args := [d1, d2] }
  | _ => none }
def octetNumbersRow : OpenClaim := { program := "ytlffejjhkeaniaa", sum := "5cbfeb8f837ab86097d1e51a32438e43b0de34faa9cac1f974467904ff1f69bb", func := "tithing/tithinglaw01.OctetNumbers", spec := "octetNumbers", apart := false }
def OctetNumbersSaid : Prop := octetNumbersRow.holds Try.pinned (OpenSpec.ofChange octetNumbersSpec)

/-- ITS FALSE NEIGHBOUR: 'it returns false'. Refute it at one input. -/
def octetNumbersWrong : ChangeSpec := { name := "octetNumbers", fn := fun _ => fun
  | [d1, d2] => { results := [.lit (.bool false)], args := [d1, d2] }
  | _ => none }
def OctetNumbersWrongFalsely : Prop := octetNumbersRow.holds Try.pinned (OpenSpec.ofChange octetNumbersWrong)

/-- 'tithinglaw01.OctetFolds': WHATEVER THE INPUT: true; the input reads as it did. -/
def octetFoldsSpec : ChangeSpec := { name := "octetFolds", fn := fun _ => fun
  | [d1, d2] => { results := [.lit (.bool true)], args := [d1, d2] }
  | _ => none }
def octetFoldsRow : OpenClaim := { program := "ytlffejjhkeaniaa", sum := "5cbfeb8f837ab86097d1e51a32438e43b0de34faa9cac1f974467904ff1f69bb", func := "tithing/tithinglaw01.OctetFolds", spec := "octetFolds", apart := false }
def OctetFoldsSaid : Prop := octetFoldsRow.holds Try.pinned (OpenSpec.ofChange octetFoldsSpec)

/-- ITS FALSE NEIGHBOUR: 'it returns false'. Refute it at one input. -/
def octetFoldsWrong : ChangeSpec := { name := "octetFolds", fn := fun _ => fun
  | [d1, d2] => { results := [.lit (.bool false)], args := [d1, d2] }
  | _ => none }
def OctetFoldsWrongFalsely : Prop := octetFoldsRow.holds Try.pinned (OpenSpec.ofChange octetFoldsWrong)

/-- 'tithinglaw01.OctetTexts': WHATEVER THE INPUT: true; the input reads as it did. -/
def octetTextsSpec : ChangeSpec := { name := "octetTexts", fn := fun _ => fun
  | [d1, d2, d3] => { results := [.lit (.bool true)], args := [d1, d2, d3] }
  | _ => none }
def octetTextsRow : OpenClaim := { program := "ytlffejjhkeaniaa", sum := "5cbfeb8f837ab86097d1e51a32438e43b0de34faa9cac1f974467904ff1f69bb", func := "tithing/tithinglaw01.OctetTexts", spec := "octetTexts", apart := false }
def OctetTextsSaid : Prop := octetTextsRow.holds Try.pinned (OpenSpec.ofChange octetTextsSpec)

/-- ITS FALSE NEIGHBOUR: 'it returns false'. Refute it at one input. -/
def octetTextsWrong : ChangeSpec := { name := "octetTexts", fn := fun _ => fun
  | [d1, d2, d3] => { results := [.lit (.bool false)], args := [d1, d2, d3] }
  | _ => none }
def OctetTextsWrongFalsely : Prop := octetTextsRow.holds Try.pinned (OpenSpec.ofChange octetTextsWrong)

/-- 'tithinglaw01.OctetBack': WHATEVER THE INPUT: true; the input reads as it did. -/
def octetBackSpec : ChangeSpec := { name := "octetBack", fn := fun _ => fun
  | [d1, d2, d3] => { results := [.lit (.bool true)], args := [d1, d2, d3] }
  | _ => none }
def octetBackRow : OpenClaim := { program := "ytlffejjhkeaniaa", sum := "5cbfeb8f837ab86097d1e51a32438e43b0de34faa9cac1f974467904ff1f69bb", func := "tithing/tithinglaw01.OctetBack", spec := "octetBack", apart := false }
def OctetBackSaid : Prop := octetBackRow.holds Try.pinned (OpenSpec.ofChange octetBackSpec)

/-- ITS FALSE NEIGHBOUR: 'it returns false'. Refute it at one input. -/
def octetBackWrong : ChangeSpec := { name := "octetBack", fn := fun _ => fun
  | [d1, d2, d3] => { results := [.lit (.bool false)], args := [d1, d2, d3] }
  | _ => none }
def OctetBackWrongFalsely : Prop := octetBackRow.holds Try.pinned (OpenSpec.ofChange octetBackWrong)

/-- 'tithinglaw01.OctetFits': WHATEVER THE INPUT: true; the input reads as it did. -/
def octetFitsSpec : ChangeSpec := { name := "octetFits", fn := fun _ => fun
  | [d1, d2] => { results := [.lit (.bool true)], args := [d1, d2] }
  | _ => none }
def octetFitsRow : OpenClaim := { program := "ytlffejjhkeaniaa", sum := "5cbfeb8f837ab86097d1e51a32438e43b0de34faa9cac1f974467904ff1f69bb", func := "tithing/tithinglaw01.OctetFits", spec := "octetFits", inPlace := ["internal/bytealg.IndexByteString"], apart := false }
def OctetFitsSaid : Prop := octetFitsRow.holds Try.pinned (OpenSpec.ofChange octetFitsSpec)

/-- ITS FALSE NEIGHBOUR: 'it returns false'. Refute it at one input. -/
def octetFitsWrong : ChangeSpec := { name := "octetFits", fn := fun _ => fun
  | [d1, d2] => { results := [.lit (.bool false)], args := [d1, d2] }
  | _ => none }
def OctetFitsWrongFalsely : Prop := octetFitsRow.holds Try.pinned (OpenSpec.ofChange octetFitsWrong)

/-- 'tithinglaw01.OctetOrder': WHATEVER THE INPUT: true; the input reads as it did. -/
def octetOrderSpec : ChangeSpec := { name := "octetOrder", fn := fun _ => fun
  | [d1, d2, d3] => { results := [.lit (.bool true)], args := [d1, d2, d3] }
  | _ => none }
def octetOrderRow : OpenClaim := { program := "ytlffejjhkeaniaa", sum := "5cbfeb8f837ab86097d1e51a32438e43b0de34faa9cac1f974467904ff1f69bb", func := "tithing/tithinglaw01.OctetOrder", spec := "octetOrder", inPlace := ["internal/bytealg.IndexByteString"], apart := false }
def OctetOrderSaid : Prop := octetOrderRow.holds Try.pinned (OpenSpec.ofChange octetOrderSpec)

/-- ITS FALSE NEIGHBOUR: 'it returns false'. Refute it at one input. -/
def octetOrderWrong : ChangeSpec := { name := "octetOrder", fn := fun _ => fun
  | [d1, d2, d3] => { results := [.lit (.bool false)], args := [d1, d2, d3] }
  | _ => none }
def OctetOrderWrongFalsely : Prop := octetOrderRow.holds Try.pinned (OpenSpec.ofChange octetOrderWrong)

/- THE SECOND FORM. 'bulk': how many values and letters a reading holds, each counted each time it is reached (what is shared counts as often as it is met; a slice's spare places count too). A statement '..UptoSaid' is the law's where the arguments, and the package variables that the reading takes, are together of bulk at most 1048576: NARROWER than '..Said'. Prove '..Said' where nothing that the law and all that it calls make is longer than what came in: it says more and counts as full. Else prove '..UptoSaid'. A law counts once. -/
mutual
def uptoBulk {H : Type} : DataW H → Nat
  | .lit (.string bytes) => bytes.length + 1
  | .lit _ => 1
  | .nil => 1
  | .ptr d => uptoBulk d + 1
  | .slice elems spare => uptoBulkAll elems + uptoBulkAll spare + 1
  | .agg parts => uptoBulkAll parts + 1
  | .iface _ d => uptoBulk d + 1
  | .map entries => uptoBulkEntries entries + 1
  | .held _ => 1
def uptoBulkAll {H : Type} : List (DataW H) → Nat
  | [] => 0
  | d :: r => uptoBulk d + uptoBulkAll r
def uptoBulkEntries {H : Type} : List (Lit × DataW H) → Nat
  | [] => 0
  | x :: r => uptoBulkEntry x + uptoBulkEntries r
def uptoBulkEntry {H : Type} : Lit × DataW H → Nat
  | (.string bytes, d) => bytes.length + uptoBulk d + 1
  | (_, d) => uptoBulk d + 1
 end
def uptoSmall : (H : Type) → List (DataW H) → Bool := fun _ ds => decide (uptoBulkAll ds ≤ 1048576)
def OpenSpec.upto (s : _root_.Go.ChangeSpec) : _root_.Go.OpenSpec := { _root_.Go.OpenSpec.ofChange s with cond := some uptoSmall }

/-- 'tithinglaw01.OctetSums', WHERE WHAT IT READS IS OF BULK AT MOST 1048576: true; the input reads as it did. -/
def octetSumsUptoRow : OpenClaim := { program := "ytlffejjhkeaniaa", sum := "5cbfeb8f837ab86097d1e51a32438e43b0de34faa9cac1f974467904ff1f69bb", func := "tithing/tithinglaw01.OctetSums", spec := "octetSums", apart := false, narrowed := true }
def OctetSumsUptoSaid : Prop := octetSumsUptoRow.holds Try.pinned (OpenSpec.upto octetSumsSpec)

/-- 'tithinglaw01.OctetDiffer', WHERE WHAT IT READS IS OF BULK AT MOST 1048576: true; the input reads as it did. -/
def octetDifferUptoRow : OpenClaim := { program := "ytlffejjhkeaniaa", sum := "5cbfeb8f837ab86097d1e51a32438e43b0de34faa9cac1f974467904ff1f69bb", func := "tithing/tithinglaw01.OctetDiffer", spec := "octetDiffer", apart := false, narrowed := true }
def OctetDifferUptoSaid : Prop := octetDifferUptoRow.holds Try.pinned (OpenSpec.upto octetDifferSpec)

/-- 'tithinglaw01.OctetNumbers', WHERE WHAT IT READS IS OF BULK AT MOST 1048576: true; the input reads as it did. -/
def octetNumbersUptoRow : OpenClaim := { program := "ytlffejjhkeaniaa", sum := "5cbfeb8f837ab86097d1e51a32438e43b0de34faa9cac1f974467904ff1f69bb", func := "tithing/tithinglaw01.OctetNumbers", spec := "octetNumbers", apart := false, narrowed := true }
def OctetNumbersUptoSaid : Prop := octetNumbersUptoRow.holds Try.pinned (OpenSpec.upto octetNumbersSpec)

/-- 'tithinglaw01.OctetFolds', WHERE WHAT IT READS IS OF BULK AT MOST 1048576: true; the input reads as it did. -/
def octetFoldsUptoRow : OpenClaim := { program := "ytlffejjhkeaniaa", sum := "5cbfeb8f837ab86097d1e51a32438e43b0de34faa9cac1f974467904ff1f69bb", func := "tithing/tithinglaw01.OctetFolds", spec := "octetFolds", apart := false, narrowed := true }
def OctetFoldsUptoSaid : Prop := octetFoldsUptoRow.holds Try.pinned (OpenSpec.upto octetFoldsSpec)

/-- 'tithinglaw01.OctetTexts', WHERE WHAT IT READS IS OF BULK AT MOST 1048576: true; the input reads as it did. -/
def octetTextsUptoRow : OpenClaim := { program := "ytlffejjhkeaniaa", sum := "5cbfeb8f837ab86097d1e51a32438e43b0de34faa9cac1f974467904ff1f69bb", func := "tithing/tithinglaw01.OctetTexts", spec := "octetTexts", apart := false, narrowed := true }
def OctetTextsUptoSaid : Prop := octetTextsUptoRow.holds Try.pinned (OpenSpec.upto octetTextsSpec)

/-- 'tithinglaw01.OctetBack', WHERE WHAT IT READS IS OF BULK AT MOST 1048576: true; the input reads as it did. -/
def octetBackUptoRow : OpenClaim := { program := "ytlffejjhkeaniaa", sum := "5cbfeb8f837ab86097d1e51a32438e43b0de34faa9cac1f974467904ff1f69bb", func := "tithing/tithinglaw01.OctetBack", spec := "octetBack", apart := false, narrowed := true }
def OctetBackUptoSaid : Prop := octetBackUptoRow.holds Try.pinned (OpenSpec.upto octetBackSpec)

/-- 'tithinglaw01.OctetFits', WHERE WHAT IT READS IS OF BULK AT MOST 1048576: true; the input reads as it did. -/
def octetFitsUptoRow : OpenClaim := { program := "ytlffejjhkeaniaa", sum := "5cbfeb8f837ab86097d1e51a32438e43b0de34faa9cac1f974467904ff1f69bb", func := "tithing/tithinglaw01.OctetFits", spec := "octetFits", inPlace := ["internal/bytealg.IndexByteString"], apart := false, narrowed := true }
def OctetFitsUptoSaid : Prop := octetFitsUptoRow.holds Try.pinned (OpenSpec.upto octetFitsSpec)

/-- 'tithinglaw01.OctetOrder', WHERE WHAT IT READS IS OF BULK AT MOST 1048576: true; the input reads as it did. -/
def octetOrderUptoRow : OpenClaim := { program := "ytlffejjhkeaniaa", sum := "5cbfeb8f837ab86097d1e51a32438e43b0de34faa9cac1f974467904ff1f69bb", func := "tithing/tithinglaw01.OctetOrder", spec := "octetOrder", inPlace := ["internal/bytealg.IndexByteString"], apart := false, narrowed := true }
def OctetOrderUptoSaid : Prop := octetOrderUptoRow.holds Try.pinned (OpenSpec.upto octetOrderSpec)

end Rows
end Go.Proofs.Ytlffejjhkeaniaa
