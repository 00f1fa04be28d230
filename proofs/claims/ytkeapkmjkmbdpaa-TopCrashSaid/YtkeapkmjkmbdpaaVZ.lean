/- The document's store is opened. -/
import Derived.Test.YtkeapkmjkmbdpaaVY
namespace Go.Proofs.Ytkeapkmjkmbdpaa.V
open Go Go.Proofs.YtkeapkmjkmbdpaaV
set_option linter.unusedVariables false
set_option linter.unusedSimpArgs false
set_option maxHeartbeats 1000000
set_option maxRecDepth 4000
attribute [local irreducible] IntKind.wrap
variable {I : Imm} {w : World} {L : List Asn}
theorem all_zero {l : By} (h : l.length = 256) : l.all isZ = decide (l = zeroB) := by
  by_cases hz : l = zeroB
  · rw [decide_eq_true hz, hz, List.all_eq_true]
    intro x hx
    unfold zeroB fullB at hx
    rw [List.eq_of_mem_replicate hx]
    rfl
  · rw [decide_eq_false hz]
    rw [← Bool.not_eq_true, List.all_eq_true]
    intro hall
    apply hz
    unfold zeroB fullB
    rw [List.eq_replicate_iff]
    refine ⟨h, fun x hx => ?_⟩
    have := hall x hx
    simp only [isZ, decide_eq_true_eq] at this
    exact UInt8.toNat_inj.1 this
theorem wrC_one (x : Int × Vb) {A : Option Addr} {m c : Nat} (h : x.2.1 = .slice A m c) : ∀ u ∈ wrC x, oneC u = true := by
  intro u hu
  simp only [wrC, List.mem_cons, List.not_mem_nil, or_false] at hu
  rcases hu with rfl | rfl
  · rfl
  · rw [h]; rfl
end Go.Proofs.Ytkeapkmjkmbdpaa.V
