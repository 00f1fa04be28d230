/- Both disks go on alike. -/
import Derived.Test.YtkeapkmjkmbdpaaVDD
namespace Go.Proofs.Ytkeapkmjkmbdpaa.V
open Go Go.Proofs.YtkeapkmjkmbdpaaV
set_option linter.unusedVariables false
set_option linter.unusedSimpArgs false
set_option maxHeartbeats 1000000
set_option maxRecDepth 4000
attribute [local irreducible] IntKind.wrap
variable {I : Imm} {w : World} {L : List Asn}
def longS (l : List Ac) : Bool := (l.any fun a => decide (300 < a.done.2.2.length)) || decide (200 < l.length)
end Go.Proofs.Ytkeapkmjkmbdpaa.V
