/- Heads that are put on a disk by hand. -/
import Derived.Test.YtkeapkmjkmbdpaaVGG
namespace Go.Proofs.Ytkeapkmjkmbdpaa.V
open Go Go.Proofs.YtkeapkmjkmbdpaaV
set_option linter.unusedVariables false
set_option linter.unusedSimpArgs false
set_option maxHeartbeats 1000000
set_option maxRecDepth 4000
attribute [local irreducible] IntKind.wrap
variable {I : Imm} {w : World} {L : List Asn}
def hdS (b : By) (c : Nat) : Nat → Dk
  | 0 => (wrS (newS 60) 10 b).1
  | k + 1 => (wrS (hdS b c k) ((11 + k : Nat) : Int) (fullB (UInt8.ofNat ((c + k) % 256)))).1
theorem hdS_writes (b : By) (c : Nat) (k : Nat) : (hdS b c k).writes ≤ k + 1 := by
  induction k with
  | zero => exact wrS_writes _ _ _
  | succ k ih =>
    have := wrS_writes (hdS b c k) ((11 + k : Nat) : Int) (fullB (UInt8.ofNat ((c + k) % 256)))
    show (wrS _ _ _).1.writes ≤ _
    omega
theorem fill_v (c k : Nat) : Value.int .u8 (IntKind.u8.wrap ((c : Int) + IntKind.u8.wrap (k : Nat))) = byteV (UInt8.ofNat ((c + k) % 256)) := by
  rw [u8_of _ (by omega), wrap_u8, wrap_u8]
  congr 1
  omega
theorem openS_writes (D : Dk) (home : Int) : (openS D home).1.writes ≤ D.writes + 41 := by
  unfold openS
  split
  · exact recS_writes _ _
  · exact Nat.le_add_right _ _
end Go.Proofs.Ytkeapkmjkmbdpaa.V
