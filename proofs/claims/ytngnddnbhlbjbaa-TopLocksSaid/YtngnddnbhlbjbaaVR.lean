/- Spans and modes, read as data. -/
import Derived.Test.YtngnddnbhlbjbaaVP
import Derived.Test.YtngnddnbhlbjbaaVcOpen
namespace Go.Proofs.Ytngnddnbhlbjbaa.V
open Go Go.Proofs.YtngnddnbhlbjbaaV
theorem opnSp : Opn Try.prog 28 3 spC (fun _ _ => True) := by
  have h : Opn Try.prog 28 3 _ _ := Opn.struct Try.underlying28 (by kernel_rfl) (OpnF.cons rfl (by kernel_rfl) rfl (Opn.int Try.underlying3) (OpnF.cons rfl (by kernel_rfl) rfl (Opn.int Try.underlying3) (OpnF.one rfl (by kernel_rfl) (Opn.int Try.underlying3))))
  exact Opn.iso (fun a : Int × Int × Int => (⟨a.1, a.2.1, a.2.2⟩ : Sp)) (fun _ => rfl) (fun ⟨a, b, c⟩ => ⟨(a, b, c), rfl⟩) (fun _ _ _ => trivial) h
theorem opnMd : Opn Try.prog 35 4 mdC (fun _ _ => True) := by
  have h : Opn Try.prog 35 4 _ _ := Opn.struct Try.underlying35 (by kernel_rfl) (OpnF.cons rfl (by kernel_rfl) rfl (Opn.bool Try.underlying4) (OpnF.cons rfl (by kernel_rfl) rfl (Opn.bool Try.underlying4) (OpnF.cons rfl (by kernel_rfl) rfl (Opn.bool Try.underlying4) (OpnF.one rfl (by kernel_rfl) (Opn.bool Try.underlying4)))))
  exact Opn.iso (fun a : Bool × Bool × Bool × Bool => (⟨a.1, a.2.1, a.2.2.1, a.2.2.2⟩ : Md)) (fun _ => rfl) (fun ⟨a, b, c, d⟩ => ⟨(a, b, c, d), rfl⟩) (fun _ _ _ => trivial) h
theorem wf_i64 {a : Int} (h : (Lit.int .i64 a).wf = true) : -9223372036854775808 ≤ a ∧ a < 9223372036854775808 := by
  simp [Lit.wf, IntKind.min, IntKind.max, IntKind.signed, IntKind.bits] at h
  omega
theorem wf_u32 {a : Int} (h : (Lit.int .u32 a).wf = true) : 0 ≤ a ∧ a < 4294967296 := by
  simp [Lit.wf, IntKind.min, IntKind.max, IntKind.signed, IntKind.bits] at h
  omega
theorem wf_u8 {a : Int} (h : (Lit.int .u8 a).wf = true) : 0 ≤ a ∧ a < 256 := by
  simp [Lit.wf, IntKind.min, IntKind.max, IntKind.signed, IntKind.bits] at h
  omega
end Go.Proofs.Ytngnddnbhlbjbaa.V
