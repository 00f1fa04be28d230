/- Deeds, read as data. -/
import Derived.Test.YtkeapkmjkmbdpaaVDD
namespace Go.Proofs.Ytkeapkmjkmbdpaa.V
open Go Go.Proofs.YtkeapkmjkmbdpaaV
set_option linter.unusedVariables false
theorem wf_i64 {a : Int} (h : (Lit.int .i64 a).wf = true) : in64 a := by
  obtain ⟨h1, h2⟩ := (Bool.and_eq_true ..).mp h
  exact ⟨of_decide_eq_true h1, of_decide_eq_true h2⟩
theorem wf_u8 {a : Int} (h : (Lit.int .u8 a).wf = true) : 0 ≤ a ∧ a < 256 := by
  obtain ⟨h1, h2⟩ := (Bool.and_eq_true ..).mp h
  have h3 : a ≤ 255 := of_decide_eq_true h2
  exact ⟨of_decide_eq_true h1, by omega⟩
theorem opnU8 : Opn Try.prog 5 1 (fun b : UInt8 => [byteV b]) (fun _ _ => True) := ⟨fun _ => rfl, fun h h2 => by
  obtain ⟨n, hn, hw⟩ := (Opn.int Try.underlying5).out h h2
  have hr := wf_u8 hw
  refine ⟨UInt8.ofNat n.toNat, ?_, trivial⟩
  rw [hn]
  show [Value.int .u8 n] = [byteV _]
  rw [u8_of _ (by omega)]
  congr 2
  omega⟩
theorem by_flat (l : By) : (l.flatMap fun b => [byteV b]) = byL l := by
  induction l with
  | nil => rfl
  | cons b r ih => rw [List.flatMap_cons, ih]; rfl
theorem byS {I : Imm} {v : Value} {l : By} (h : SlI I v 1 l.length (l.flatMap fun b => [byteV b])) : SlI I v 1 l.length (byL l) := by_flat l ▸ h
theorem maxLen_u8 {n : Nat} (h : n * Try.prog.bytesOf 5 ≤ 140737488351232) : n ≤ 140737488355328 := by
  have : Try.prog.bytesOf 5 = 1 := by kernel_rfl
  rw [this] at h
  omega
end Go.Proofs.Ytkeapkmjkmbdpaa.V
