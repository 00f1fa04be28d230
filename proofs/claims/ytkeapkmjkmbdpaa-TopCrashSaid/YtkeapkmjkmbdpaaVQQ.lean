/- Lists of pages. -/
import Derived.Test.YtkeapkmjkmbdpaaVII
namespace Go.Proofs.Ytkeapkmjkmbdpaa.V
open Go Go.Proofs.YtkeapkmjkmbdpaaV
set_option linter.unusedVariables false
set_option linter.unusedSimpArgs false
set_option maxHeartbeats 1000000
set_option maxRecDepth 4000
attribute [local irreducible] IntKind.wrap
variable {I : Imm} {w : World} {L : List Asn}
def pgC (b : By) : List Value := [.string ⟨b.toArray⟩]
theorem pgC_len (b : By) : (pgC b).length = 1 := rfl
theorem map_eq_of0 {xs ys : List By} (hl : xs.length = ys.length) (h : ∀ j, j < xs.length → atD xs j = atD ys j) : xs = ys := by
  apply List.ext_getElem?
  intro i
  rcases Nat.lt_or_ge i xs.length with hi | hi
  · rw [atD_get hi, atD_get (by omega), h i hi]
  · rw [List.getElem?_eq_none hi, List.getElem?_eq_none (by omega)]
def homeS (D : Dk) (ho : Nat) : List By := (List.range ho).map (rdB D)
theorem homeS_len (D : Dk) (ho : Nat) : (homeS D ho).length = ho := by unfold homeS; simp
theorem homeS_at {D : Dk} {ho i : Nat} (h : i < ho) : atD (homeS D ho) i = rdB D i := atD_of (by unfold homeS; rw [List.getElem?_map, List.getElem?_range h]; rfl)
def isS (D : Dk) (ho : Nat) (dead : Bool) (l : List By) : Int := if dead then 2 else if homeS D ho = l then 1 else 0
end Go.Proofs.Ytkeapkmjkmbdpaa.V
