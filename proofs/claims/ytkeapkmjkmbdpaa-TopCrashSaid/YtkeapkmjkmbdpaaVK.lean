/- The document's disk, deed by deed. -/
import Derived.Test.YtkeapkmjkmbdpaaVH
namespace Go.Proofs.Ytkeapkmjkmbdpaa.V
open Go Go.Proofs.YtkeapkmjkmbdpaaV
set_option linter.unusedVariables false
set_option linter.unusedSimpArgs false
set_option maxHeartbeats 1000000
set_option maxRecDepth 4000
attribute [local irreducible] IntKind.wrap
variable {I : Imm} {w : World} {L : List Asn}
abbrev rkV (P : Kd) (bv wv : Value) : List Value := [bv, wv, .int .i64 P.stop, .int .i64 (P.writes : Int)]
/-- A slice of bytes that never change. -/
def FzB (I : Imm) (x : Vb) : Prop := SlI I x.1 1 x.2.length (byL x.2)
theorem FzB.mono {I J : Imm} {x : Vb} (h : FzB I x) (hl : Imm.Le I J) : FzB J x := SlI.mono h hl
theorem FzB.form {J : Imm} {x : Vb} (h : FzB J x) : ∃ A c, x.1 = .slice A x.2.length c ∧ x.2.length ≤ c := SlI.form h
theorem SlR_nil : SlR I L (.slice none 0 0) 1 ([] : By).length (byL []) := ⟨none, 0, rfl, rfl, Nat.le_refl _, fun _ => ⟨rfl, rfl⟩, fun a e => by cases e⟩
end Go.Proofs.Ytkeapkmjkmbdpaa.V
