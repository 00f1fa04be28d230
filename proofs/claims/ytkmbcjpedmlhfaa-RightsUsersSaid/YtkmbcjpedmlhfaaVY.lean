/- Rights, read as data. -/
import Derived.Test.YtkmbcjpedmlhfaaVU
import Derived.Test.YtkmbcjpedmlhfaaVX
namespace Go.Proofs.Ytkmbcjpedmlhfaa.V
open Go Go.Proofs.YtkmbcjpedmlhfaaV
set_option linter.unusedVariables false
theorem opnRt : Opn Try.prog 24 6 rtC (fun _ _ => True) := by
  have h : Opn Try.prog 24 6 _ _ := Opn.struct Try.underlying24 (by kernel_rfl) (OpnF.cons rfl (by kernel_rfl) rfl (Opn.int Try.underlying3) (OpnF.cons rfl (by kernel_rfl) rfl (Opn.int Try.underlying3) (OpnF.cons rfl (by kernel_rfl) rfl (Opn.int Try.underlying3) (OpnF.cons rfl (by kernel_rfl) rfl (Opn.int Try.underlying3) (OpnF.cons rfl (by kernel_rfl) rfl (Opn.int Try.underlying3) (OpnF.one rfl (by kernel_rfl) (Opn.bool Try.underlying4)))))))
  exact Opn.iso (fun a : Int × Int × Int × Int × Int × Bool => (⟨a.1, a.2.1, a.2.2.1, a.2.2.2.1, a.2.2.2.2.1, a.2.2.2.2.2⟩ : Rt)) (fun _ => rfl) (fun ⟨a, b, c, d, e, f⟩ => ⟨(a, b, c, d, e, f), rfl⟩) (fun _ _ _ => trivial) h
theorem maxLen_le {n : Nat} (h : n * Try.prog.bytesOf 37 ≤ 140737488351232) : n ≤ 140737488355328 := by
  have : Try.prog.bytesOf 37 = 56 := by kernel_rfl
  rw [this] at h
  omega
theorem maxLen_rt {n : Nat} (h : n * Try.prog.bytesOf 24 ≤ 140737488351232) : n ≤ 140737488355328 := by
  have : Try.prog.bytesOf 24 = 48 := by kernel_rfl
  rw [this] at h
  omega
end Go.Proofs.Ytkmbcjpedmlhfaa.V
