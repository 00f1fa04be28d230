/- Puts, read as data. -/
import Derived.Test.YtkeapkmjkmbdpaaVII
import Derived.Test.YtkeapkmjkmbdpaaVOP
namespace Go.Proofs.Ytkeapkmjkmbdpaa.V
open Go Go.Proofs.YtkeapkmjkmbdpaaV
set_option linter.unusedVariables false
theorem opnPu : Opn Try.prog 31 5 puC (fun w a => PuOk (Imm.of w) a) := by
  have h : Opn Try.prog 31 5 _ _ := Opn.struct Try.underlying31 (by kernel_rfl) (OpnF.cons rfl (by kernel_rfl) rfl (Opn.int Try.underlying3) (OpnF.cons rfl (by kernel_rfl) rfl (Opn.int Try.underlying3) (OpnF.cons rfl (by kernel_rfl) rfl (Opn.slice Try.underlying29 (by kernel_rfl) (by decide) (Opn.int Try.underlying3)) (OpnF.cons rfl (by kernel_rfl) rfl (Opn.int Try.underlying5) (OpnF.one rfl (by kernel_rfl) (Opn.slice Try.underlying23 (by kernel_rfl) (by decide) (Opn.bool Try.underlying4)))))))
  exact Opn.iso (fun a : Int × Int × SlD Int × Int × SlD Bool => (⟨a.1, a.2.1, a.2.2.1, a.2.2.2.1, a.2.2.2.2⟩ : Pu)) (fun _ => rfl) (fun ⟨a, b, c, d, e⟩ => ⟨(a, b, c, d, e), rfl⟩) (fun w a ha => by
    obtain ⟨_, h2, ⟨h3, h4, _⟩, h5, h6, h7, _⟩ := ha
    refine ⟨wf_i64 h2, wf_u8 h5, h3, ?_, h6, ?_⟩
    · show a.2.2.1.2.2.length ≤ _
      have : Try.prog.bytesOf 3 = 8 := by kernel_rfl
      rw [this] at h4
      omega
    · show a.2.2.2.2.2.2.length ≤ _
      have : Try.prog.bytesOf 4 = 1 := by kernel_rfl
      rw [this] at h7
      omega) h
theorem maxLen_pu {n : Nat} (h : n * Try.prog.bytesOf 31 ≤ 140737488351232) : n ≤ 140737488355328 := by
  have : Try.prog.bytesOf 31 = 72 := by kernel_rfl
  rw [this] at h
  omega
end Go.Proofs.Ytkeapkmjkmbdpaa.V
