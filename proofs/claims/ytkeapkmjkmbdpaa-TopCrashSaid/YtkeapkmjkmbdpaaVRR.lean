/- What writes make of pages. -/
import Derived.Test.YtkeapkmjkmbdpaaVQQ
namespace Go.Proofs.Ytkeapkmjkmbdpaa.V
open Go Go.Proofs.YtkeapkmjkmbdpaaV
set_option linter.unusedVariables false
set_option linter.unusedSimpArgs false
set_option maxHeartbeats 1000000
set_option maxRecDepth 4000
attribute [local irreducible] IntKind.wrap
variable {I : Imm} {w : World} {L : List Asn}
def afterL (now : List By) : List By → Ws → List By
  | out, [] => out
  | out, x :: r => if x.1 < 0 ∨ now.length ≤ x.1 then now else afterL now (out.set x.1.toNat x.2) r
def afterS (now : List By) (ws : Ws) : List By := afterL now now ws
theorem drop_atD {α : Type} [Inhabited α] {l : List α} {k : Nat} (h : k < l.length) : l.drop k = atD l k :: l.drop (k + 1) := by
  rw [List.drop_eq_getElem_cons h]
  congr 1
  have := atD_get h
  rw [List.getElem?_eq_getElem h] at this
  exact Option.some.inj this
theorem pgC_one (l : List By) : ∀ u ∈ l.flatMap pgC, oneC u = true := fun u hu => by
  obtain ⟨x, hx, hu⟩ := List.mem_flatMap.1 hu
  simp only [pgC, List.mem_singleton] at hu
  rw [hu]
  rfl
theorem repL0 (x : List Value) : repL 0 x = [] := List.eq_nil_of_length_eq_zero (by rw [repL_length, Nat.zero_mul])
end Go.Proofs.Ytkeapkmjkmbdpaa.V
