/- Slices of bools, read as data. -/
import Derived.Test.YtoahfjfknljacaaVOP
namespace Go.Proofs.Ytoahfjfknljacaa.V
open Go Go.Proofs.YtoahfjfknljacaaV
set_option linter.unusedVariables false
theorem opnBo : Opn Try.prog 4 1 boC (fun _ _ => True) := Opn.iso (fun a : Bool => a) (fun _ => rfl) (fun b => ⟨b, rfl⟩) (fun _ _ _ => trivial) (Opn.bool Try.underlying4)
theorem maxLen_bo {n : Nat} (h : n * Try.prog.bytesOf 4 ≤ 140737488351232) : n ≤ 140737488355328 := by
  have : Try.prog.bytesOf 4 = 1 := by kernel_rfl
  rw [this] at h
  omega
end Go.Proofs.Ytoahfjfknljacaa.V
