/- StreamOrder, at arguments that are read as data. -/
import Derived.Test.YtpfgcchammlpgaaVAN
import Derived.Test.YtpfgcchammlpgaaVOM
namespace Go.Proofs.Ytpfgcchammlpgaa.V
open Go Go.Proofs.YtpfgcchammlpgaaV
theorem StreamOrder_row {I : Imm} {w : World} {L : List Asn} (H : Holds I w L) (x0 x1 : Sx) {v : Value} {l : List Mx} (hv : SlI I v 4 l.length (l.flatMap mxC)) (hn : l.length ≤ 140737488355328) (ho : ∀ x ∈ l, MxOk I x) : Rets Try.prog F_tithinglaw12_StreamOrder #[.agg (sxC x0).toArray, .agg (sxC x1).toArray, v] w fun u w' => u = .bool true ∧ Holds I w' L :=
  StreamOrder_any H hv ho hn
end Go.Proofs.Ytpfgcchammlpgaa.V
