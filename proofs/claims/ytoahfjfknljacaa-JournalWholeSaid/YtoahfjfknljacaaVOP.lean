/- Deeds, read as data. -/
import Derived.Test.YtoahfjfknljacaaVDD
namespace Go.Proofs.Ytoahfjfknljacaa.V
open Go Go.Proofs.YtoahfjfknljacaaV
set_option linter.unusedVariables false
theorem wf_i64 {a : Int} (h : (Lit.int .i64 a).wf = true) : in64 a := by
  obtain ⟨h1, h2⟩ := (Bool.and_eq_true ..).mp h
  exact ⟨of_decide_eq_true h1, of_decide_eq_true h2⟩
theorem wf_u8 {a : Int} (h : (Lit.int .u8 a).wf = true) : 0 ≤ a ∧ a < 256 := by
  obtain ⟨h1, h2⟩ := (Bool.and_eq_true ..).mp h
  have h3 : a ≤ 255 := of_decide_eq_true h2
  exact ⟨of_decide_eq_true h1, by omega⟩
theorem opnAc : Opn Try.prog 48 6 acC (fun w a => AcOk (Imm.of w) a) := by
  have h : Opn Try.prog 48 6 _ _ := Opn.struct Try.underlying48 (by kernel_rfl) (OpnF.cons rfl (by kernel_rfl) rfl (Opn.int Try.underlying3) (OpnF.cons rfl (by kernel_rfl) rfl (Opn.int Try.underlying3) (OpnF.cons rfl (by kernel_rfl) rfl (Opn.int Try.underlying3) (OpnF.cons rfl (by kernel_rfl) rfl (Opn.int Try.underlying5) (OpnF.cons rfl (by kernel_rfl) rfl (Opn.slice Try.underlying46 (by kernel_rfl) (by decide) (Opn.bool Try.underlying4)) (OpnF.one rfl (by kernel_rfl) (Opn.bool Try.underlying4)))))))
  exact Opn.iso (fun a : Int × Int × Int × Int × SlD Bool × Bool => (⟨a.1, a.2.1, a.2.2.1, a.2.2.2.1, a.2.2.2.2.1, a.2.2.2.2.2⟩ : Ac)) (fun _ => rfl) (fun ⟨a, b, c, d, e, f⟩ => ⟨(a, b, c, d, e, f), rfl⟩) (fun w a ha => by
    obtain ⟨_, h2, h3, h4, ⟨h5, h6, _⟩, _⟩ := ha
    refine ⟨wf_i64 h2, wf_i64 h3, wf_u8 h4, h5, ?_⟩
    show a.2.2.2.2.1.2.2.length ≤ _
    have : Try.prog.bytesOf 4 = 1 := by kernel_rfl
    rw [this] at h6
    omega) h
theorem maxLen_ac {n : Nat} (h : n * Try.prog.bytesOf 48 ≤ 140737488351232) : n ≤ 140737488355328 := by
  have : Try.prog.bytesOf 48 = 64 := by kernel_rfl
  rw [this] at h
  omega
theorem opnU8 : Opn Try.prog 5 1 (fun b : UInt8 => [byteV b]) (fun _ _ => True) := ⟨fun _ => rfl, fun h h2 => by
  obtain ⟨n, hn, hw⟩ := (Opn.int Try.underlying5).out h h2
  have hr := wf_u8 hw
  refine ⟨UInt8.ofNat n.toNat, ?_, trivial⟩
  rw [hn]
  show [Value.int .u8 n] = [byteV _]
  rw [u8_of _ (by omega)]
  congr 2
  omega⟩
theorem by_flat (l : By) : (l.flatMap fun b => [byteV b]) = byL l := by
  induction l with
  | nil => rfl
  | cons b r ih => rw [List.flatMap_cons, ih]; rfl
theorem byS {I : Imm} {v : Value} {l : By} (h : SlI I v 1 l.length (l.flatMap fun b => [byteV b])) : SlI I v 1 l.length (byL l) := by_flat l ▸ h
theorem maxLen_u8 {n : Nat} (h : n * Try.prog.bytesOf 5 ≤ 140737488351232) : n ≤ 140737488355328 := by
  have : Try.prog.bytesOf 5 = 1 := by kernel_rfl
  rw [this] at h
  omega
end Go.Proofs.Ytoahfjfknljacaa.V
