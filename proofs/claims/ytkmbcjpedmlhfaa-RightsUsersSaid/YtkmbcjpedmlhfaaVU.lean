/- Users, read as data. -/
import Derived.Test.YtkmbcjpedmlhfaaVC
import Derived.Test.YtkmbcjpedmlhfaaVcOpen
namespace Go.Proofs.Ytkmbcjpedmlhfaa.V
open Go Go.Proofs.YtkmbcjpedmlhfaaV
set_option linter.unusedVariables false
theorem opnUs : Opn Try.prog 37 4 usC (fun w u => UsI (Imm.of w) u) := by
  have h : Opn Try.prog 37 4 _ _ := Opn.struct Try.underlying37 (by kernel_rfl) (OpnF.cons rfl (by kernel_rfl) rfl (Opn.int Try.underlying3) (OpnF.cons rfl (by kernel_rfl) rfl (Opn.string Try.underlying9) (OpnF.cons rfl (by kernel_rfl) rfl (Opn.int Try.underlying3) (OpnF.one rfl (by kernel_rfl) (Opn.slice Try.underlying35 (by kernel_rfl) (by decide) (Opn.int Try.underlying3))))))
  exact Opn.iso (fun a : Int × ByteArray × Int × SlD Int => (⟨a.1, a.2.1, a.2.2.1, a.2.2.2⟩ : Us)) (fun _ => rfl) (fun ⟨a, b, c, d⟩ => ⟨(a, b, c, d), rfl⟩) (fun w a ha => by
    obtain ⟨_, h2, _, h4, h5, h6, _⟩ := ha
    refine ⟨h4, Nat.le_trans h2 (by decide), ?_⟩
    show a.2.2.2.2.2.length ≤ _
    have : Try.prog.bytesOf 3 = 8 := by kernel_rfl
    rw [this] at h5
    omega) h
end Go.Proofs.Ytkmbcjpedmlhfaa.V
