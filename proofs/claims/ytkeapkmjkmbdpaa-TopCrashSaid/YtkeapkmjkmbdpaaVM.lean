/- The document's disk: flush and crash. -/
import Derived.Test.YtkeapkmjkmbdpaaVK
namespace Go.Proofs.Ytkeapkmjkmbdpaa.V
open Go Go.Proofs.YtkeapkmjkmbdpaaV
set_option linter.unusedVariables false
set_option linter.unusedSimpArgs false
set_option maxHeartbeats 1000000
set_option maxRecDepth 4000
attribute [local irreducible] IntKind.wrap
variable {I : Imm} {w : World} {L : List Asn}
theorem flK_mem {wt : List (Nat × Vb)} {x : Vb} : ∀ {bl : List Vb}, x ∈ flK bl wt → x ∈ bl ∨ x ∈ wt.map (·.2) := by
  unfold flK
  induction wt with
  | nil => exact fun h => .inl h
  | cons y r ih =>
    intro bl h
    rw [List.foldl_cons] at h
    rcases ih h with h | h
    · rcases List.mem_or_eq_of_mem_set h with h | rfl
      · exact .inl h
      · exact .inr (List.mem_cons_self ..)
    · exact .inr (List.mem_cons_of_mem _ h)
theorem own_at {v : Value} {A : Option Addr} {e sz m cap : Nat} {cs : List Value} (hn : 0 < m) (H : Holds I w (own (.slice A m cap) e sz m cs :: L)) : ∃ b o, A = some ⟨b, o, none⟩ := by
  obtain ⟨b, o, c, e, _⟩ := Holds.own_some hn H
  injection e with e1 e2 e3
  exact ⟨b, o, e1⟩
end Go.Proofs.Ytkeapkmjkmbdpaa.V
