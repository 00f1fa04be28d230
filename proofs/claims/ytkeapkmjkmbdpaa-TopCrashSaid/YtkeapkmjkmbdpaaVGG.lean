/- Which homes a disk has room for, which blocks are heads. -/
import Derived.Test.YtkeapkmjkmbdpaaVEE
namespace Go.Proofs.Ytkeapkmjkmbdpaa.V
open Go Go.Proofs.YtkeapkmjkmbdpaaV
set_option linter.unusedVariables false
set_option linter.unusedSimpArgs false
set_option maxHeartbeats 1000000
set_option maxRecDepth 4000
attribute [local irreducible] IntKind.wrap
variable {I : Imm} {w : World} {L : List Asn}
theorem Open_no {d : Nat} {D : Dk} (H : Holds I w (dskA d D :: L)) (hw : D.writes + 100 < 2 ^ 40) {home : Int} (hm1 : -9223372036854775808 ≤ home ∧ home ≤ 9223372036854775807) (h0 : (openS D home).2 ≠ 0) :
    Rets Try.prog F_journal_Open #[ptr d, .int .i64 home] w fun u w' => u = .tuple #[.pointer none, .int .i64 (openS D home).2] ∧ Holds I w' (dskA d (openS D home).1 :: L) :=
  (Open_any H hw hm1).mono fun u w' h => by
    rcases h.out with ⟨he, _⟩ | ⟨_, h1, h2⟩
    · exact absurd he h0
    · exact ⟨h1, h2⟩
/-- The answer alone. -/
theorem Open_err {d : Nat} {D : Dk} (H : Holds I w (dskA d D :: L)) (hw : D.writes + 100 < 2 ^ 40) {home : Int} (hm1 : -9223372036854775808 ≤ home ∧ home ≤ 9223372036854775807) :
    Rets Try.prog F_journal_Open #[ptr d, .int .i64 home] w fun u w' => ∃ sv, u = .tuple #[sv, .int .i64 (openS D home).2] ∧ Holds I w' (dskA d (openS D home).1 :: L) :=
  (Open_any H hw hm1).mono fun u w' h => by
    rcases h.out with ⟨h0, s, h1, h2⟩ | ⟨_, h1, h2⟩
    · exact ⟨_, h0 ▸ h1, h2.drop1⟩
    · exact ⟨_, h1, h2⟩
theorem tgt_ok {l : By} {home : Int} {u : Value} (h : TgtR I w L l home u) : ∃ a b, u = .tuple #[a, b, .bool (decide (headOk l home))] ∧ Holds I w L := by
  rcases h.out with ⟨h1, h2, h3⟩ | ⟨sv, h1, h2, h3⟩
  · exact ⟨_, _, by rw [h2, decide_eq_false h1], h3⟩
  · exact ⟨_, _, by rw [h2, decide_eq_true h1], h3.drop⟩
end Go.Proofs.Ytkeapkmjkmbdpaa.V
