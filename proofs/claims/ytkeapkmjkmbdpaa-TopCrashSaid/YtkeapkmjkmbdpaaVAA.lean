/- The document's store: read, commit. -/
import Derived.Test.YtkeapkmjkmbdpaaVZ
namespace Go.Proofs.Ytkeapkmjkmbdpaa.V
open Go Go.Proofs.YtkeapkmjkmbdpaaV
set_option linter.unusedVariables false
set_option linter.unusedSimpArgs false
set_option maxHeartbeats 1000000
set_option maxRecDepth 4000
attribute [local irreducible] IntKind.wrap
variable {I : Imm} {w : World} {L : List Asn}
theorem mem_seen {ws : Ws} {k : Nat} {q : Int} (h : q ∈ seen ws k) (hk : k ≤ ws.length) : ∃ j, j < k ∧ (atD ws j).1 = q := by
  unfold seen at h
  obtain ⟨x, hx, rfl⟩ := List.mem_map.1 h
  obtain ⟨j, hj, e⟩ := mem_atD hx
  rw [List.length_take] at hj
  refine ⟨j, by omega, ?_⟩
  rw [← e]
  congr 1
  exact atD_of (by rw [← atD_get (show j < (ws.take k).length by rw [List.length_take]; omega), List.getElem?_take, if_pos (by omega)])
theorem seen_mem {ws : Ws} {k j : Nat} (hj : j < k) (hk : k ≤ ws.length) : (atD ws j).1 ∈ seen ws k := by
  unfold seen
  refine List.mem_map_of_mem (List.mem_of_getElem? (i := j) ?_)
  rw [List.getElem?_take, if_pos hj, atD_get (by omega)]
end Go.Proofs.Ytkeapkmjkmbdpaa.V
