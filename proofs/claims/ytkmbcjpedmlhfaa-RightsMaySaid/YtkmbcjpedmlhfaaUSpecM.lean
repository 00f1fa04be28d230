/- What is needed, who may: the program's. -/
import Derived.Test.YtkmbcjpedmlhfaaUx42
import Derived.Test.YtkmbcjpedmlhfaaUSpecI
set_option linter.unusedVariables false
namespace Go.Proofs.Ytkmbcjpedmlhfaa.USpec
open Go.RowKit Go.Proofs.Ytkmbcjpedmlhfaa.U Go.Proofs.YtkmbcjpedmlhfaaW.PrintWords Go.Proofs.YtkmbcjpedmlhfaaW.PrintLast Go.Proofs.YtkmbcjpedmlhfaaW.PrintMore Go.Proofs.Ytkmbcjpedmlhfaa.Aux

def needsS (a : ByteArray) : Int × Int × Int := (rights_Needs.f 1 a).getD (0, 0, 0)
theorem needs_ok (a : ByteArray) (k : Nat) (hk : 1 ≤ k) : rights_Needs.f k a = some (needsS a) := by
  obtain ⟨k, rfl⟩ : ∃ m, k = m + 1 := ⟨k - 1, by omega⟩
  unfold needsS rights_Needs.f
  simp only [rights_Needs.j0]
  repeat' split
  all_goals rfl
theorem needs_err (a : ByteArray) : ((needsS a).2.2 = 0 ∨ (needsS a).2.2 = 2) ∧ 0 ≤ (needsS a).1 ∧ (needsS a).1 ≤ 7 := by
  unfold needsS rights_Needs.f
  simp only [rights_Needs.j0]
  repeat' split
  all_goals decide
def MayS (l : List S37) (u : Int) (a : ByteArray) (w : List S24) : Bool × Int := if (needsS a).2.2 = 0 then (if (AtS l u w).2 = 0 then ((Go.bits .and .i64 (AtS l u w).1 (needsS a).1) == (needsS a).1, 0) else (false, (AtS l u w).2)) else (false, (needsS a).2.2)
theorem May_ok (l : List S37) (hf : FewU l) (u : Int) (a : ByteArray) (w : List S24) (k : Nat) (hk : 300 ≤ k) : rights_May.f k l u a w = some (MayS l u a w) := by
  unfold rights_May.f MayS
  rw [needs_ok a k (by omega), Option.bind_some, At_ok l hf u w k hk, Option.bind_some]
  split
  · split <;> rfl
  · rfl
end Go.Proofs.Ytkmbcjpedmlhfaa.USpec
