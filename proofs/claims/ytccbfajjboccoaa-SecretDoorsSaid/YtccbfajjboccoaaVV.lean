/- Deeds, read as data. -/
import Derived.Test.YtccbfajjboccoaaVU
import Derived.Test.YtccbfajjboccoaaVS
namespace Go.Proofs.Ytccbfajjboccoaa.V
open Go Go.Proofs.YtccbfajjboccoaaV
set_option linter.unusedVariables false
theorem opnAc : Opn Try.prog 54 4 acC (fun _ _ => True) := by
  have h : Opn Try.prog 54 4 _ _ := Opn.struct Try.underlying54 (by kernel_rfl) (OpnF.cons rfl (by kernel_rfl) rfl (Opn.int Try.underlying3) (OpnF.cons rfl (by kernel_rfl) rfl (Opn.int Try.underlying3) (OpnF.cons rfl (by kernel_rfl) rfl (Opn.int Try.underlying3) (OpnF.one rfl (by kernel_rfl) (Opn.string Try.underlying9)))))
  exact Opn.iso (fun a : Int × Int × Int × ByteArray => (⟨a.1, a.2.1, a.2.2.1, a.2.2.2⟩ : Ac)) (fun _ => rfl) (fun ⟨a, b, c, d⟩ => ⟨(a, b, c, d), rfl⟩) (fun _ _ _ => trivial) h
theorem maxLen_le {n : Nat} (h : n * Try.prog.bytesOf 34 ≤ 140737488351232) : n ≤ 140737488355328 := by
  have : Try.prog.bytesOf 34 = 56 := by kernel_rfl
  rw [this] at h
  omega
theorem maxLen_ac {n : Nat} (h : n * Try.prog.bytesOf 54 ≤ 140737488351232) : n ≤ 140737488355328 := by
  have : Try.prog.bytesOf 54 = 40 := by kernel_rfl
  rw [this] at h
  omega
end Go.Proofs.Ytccbfajjboccoaa.V
