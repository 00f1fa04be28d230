/- RightsMore -/
import Derived.Test.YtkmbcjpedmlhfaaUx45
import Derived.Test.YtkmbcjpedmlhfaaUSpecX
set_option linter.unusedVariables false
namespace Go.Proofs.Ytkmbcjpedmlhfaa.Pure
open Go.Proofs.Ytkmbcjpedmlhfaa.USpec Go.RowKit Go.Proofs.Ytkmbcjpedmlhfaa.U Go.Proofs.YtkmbcjpedmlhfaaW.PrintWords Go.Proofs.YtkmbcjpedmlhfaaW.PrintLast Go.Proofs.YtkmbcjpedmlhfaaW.PrintMore

theorem RightsMore (l0 : List (S37)) (a1_0 : Int) (a1_1 : ByteArray) (l2 : List (S24)) (w0 : l0.length * 56 ≤ 140737488351232 ∧ l0.length ≤ maxLen ∧ ∀ x7_ ∈ l0, ((Lit.int .i64 x7_.f0).wf = true) ∧ ((x7_.f1.size ≤ 140737488351232) ∧ (((Lit.int .i64 x7_.f2).wf = true) ∧ (x7_.f3.length * 8 ≤ 140737488351232 ∧ x7_.f3.length ≤ maxLen ∧ ∀ x8_ ∈ x7_.f3, (Lit.int .i64 x8_).wf = true)))) (w1_0 : (Lit.int .i64 a1_0).wf = true) (w1_1 : a1_1.size ≤ 140737488351232) (w2 : l2.length * 48 ≤ 140737488351232 ∧ l2.length ≤ maxLen ∧ ∀ x9_ ∈ l2, ((Lit.int .i64 x9_.f0).wf = true) ∧ (((Lit.int .i64 x9_.f1).wf = true) ∧ (((Lit.int .i64 x9_.f2).wf = true) ∧ (((Lit.int .i64 x9_.f3).wf = true) ∧ (((Lit.int .i64 x9_.f4).wf = true) ∧ (True)))))) : ∃ k, tithinglaw21_RightsMore.f k l0 a1_0 a1_1 l2 = some true := by
  have hs : ∀ u ∈ l0, u.f1.size ≤ 140737488351232 := fun u hu => (w0.2.2 u hu).2.1
  have hl : l0.length ≤ 2513169434917 := by have := w0.1; omega
  have hF : ∀ K, 20 ≤ K → ((tithinglaw21_First.f K).bind fun t186 => (some t186)) = some true := fun K h => by rw [first_true K h, Option.bind_some]
  refine ⟨l0.length + 13001, ?_⟩
  unfold tithinglaw21_RightsMore.f
  rw [few_ok l0 l2 (by omega) _ (by omega), Option.bind_some]
  by_cases h : fewS l0 l2 = true
  case neg => rw [if_neg h, hF _ (by omega)]
  obtain ⟨hf, hy⟩ := few_out h hs
  rw [if_pos h, May_ok l0 hf _ _ _ _ (by omega), Option.bind_some]
  simp only [tithinglaw21_RightsMore.j0]
  by_cases h1 : (MayS l0 a1_0 a1_1 l2).2 = 0
  case neg => rw [if_neg h1, if_pos trivial, hF _ (by omega)]
  rw [if_pos h1]
  by_cases h2 : (MayS l0 a1_0 a1_1 l2).1 = true
  case neg => rw [if_pos (by rw [eq_false_of_ne_true h2]; rfl), hF _ (by omega)]
  rw [if_neg (by rw [h2]; decide)]
  have hway := MayS_way h1 h2
  have hl2 := (isWayS_out hway).1
  -- one place, one bit
  have one : ∀ (i m : Nat), i < l2.length → m < 3 → MayS l0 a1_0 a1_1 (l2.set i (moreR (rd_T24 l2 i) (shl .i64 1 (m : Int)) (shr .i64 4 (m : Int)))) = (true, 0) := fun i m hi hm => by
    have hb : In7 (shl .i64 1 (m : Int)) ∧ In7 (shr .i64 4 (m : Int)) := by
      rcases (show m = 0 ∨ m = 1 ∨ m = 2 from by omega) with rfl | rfl | rfl <;> unfold In7 <;> decide +kernel
    obtain ⟨e1, e2⟩ := more_le hway i hi _ _ hb.1 hb.2
    exact MayS_mono l0 a1_0 a1_1 e1 e2 h1 h2
  have row : ∀ (i : Nat), i < l2.length → ∀ (d m k : Nat), m + d = 3 → 400 ≤ k → tithinglaw21_RightsMore.l1 (k + d + 1) l0 l2 (i : Int) (m : Int) a1_0 a1_1 = tithinglaw21_RightsMore.l0 k l0 l2 (wrap64 ((i : Int) + 1)) a1_0 a1_1 := fun i hi d => by
    induction d with
    | zero =>
      intro m k hm hk
      simp only [tithinglaw21_RightsMore.l1]
      rw [if_neg (by omega)]
    | succ d ih =>
      intro m k hm hk
      rw [show k + (d + 1) + 1 = (k + d + 1) + 1 from by omega]
      simp only [tithinglaw21_RightsMore.l1]
      rw [if_pos (by omega), Option.bind_some, if_pos (by simp; omega), Option.bind_some, List.nil_append, if_pos (by omega), if_pos (by omega), if_pos (by omega), Option.bind_some]
      have hset : ((l2.set (i : Int).toNat (⟨(rd_T24 l2 i).f0, (rd_T24 l2 i).f1, Go.bits .or .i64 ((rd_T24 l2 i).f2) (shl .i64 1 (m : Int)), (rd_T24 l2 i).f3, (rd_T24 l2 i).f4, (rd_T24 l2 i).f5⟩ : S24)).set (i : Int).toNat
          (⟨(rd_T24 (l2.set (i : Int).toNat (⟨(rd_T24 l2 i).f0, (rd_T24 l2 i).f1, Go.bits .or .i64 ((rd_T24 l2 i).f2) (shl .i64 1 (m : Int)), (rd_T24 l2 i).f3, (rd_T24 l2 i).f4, (rd_T24 l2 i).f5⟩ : S24)) i).f0, (rd_T24 (l2.set (i : Int).toNat (⟨(rd_T24 l2 i).f0, (rd_T24 l2 i).f1, Go.bits .or .i64 ((rd_T24 l2 i).f2) (shl .i64 1 (m : Int)), (rd_T24 l2 i).f3, (rd_T24 l2 i).f4, (rd_T24 l2 i).f5⟩ : S24)) i).f1, (rd_T24 (l2.set (i : Int).toNat (⟨(rd_T24 l2 i).f0, (rd_T24 l2 i).f1, Go.bits .or .i64 ((rd_T24 l2 i).f2) (shl .i64 1 (m : Int)), (rd_T24 l2 i).f3, (rd_T24 l2 i).f4, (rd_T24 l2 i).f5⟩ : S24)) i).f2, (rd_T24 (l2.set (i : Int).toNat (⟨(rd_T24 l2 i).f0, (rd_T24 l2 i).f1, Go.bits .or .i64 ((rd_T24 l2 i).f2) (shl .i64 1 (m : Int)), (rd_T24 l2 i).f3, (rd_T24 l2 i).f4, (rd_T24 l2 i).f5⟩ : S24)) i).f3, Go.bits .or .i64 ((rd_T24 (l2.set (i : Int).toNat (⟨(rd_T24 l2 i).f0, (rd_T24 l2 i).f1, Go.bits .or .i64 ((rd_T24 l2 i).f2) (shl .i64 1 (m : Int)), (rd_T24 l2 i).f3, (rd_T24 l2 i).f4, (rd_T24 l2 i).f5⟩ : S24)) i).f4) (shr .i64 4 (m : Int)), (rd_T24 (l2.set (i : Int).toNat (⟨(rd_T24 l2 i).f0, (rd_T24 l2 i).f1, Go.bits .or .i64 ((rd_T24 l2 i).f2) (shl .i64 1 (m : Int)), (rd_T24 l2 i).f3, (rd_T24 l2 i).f4, (rd_T24 l2 i).f5⟩ : S24)) i).f5⟩ : S24)) = l2.set i (moreR (rd_T24 l2 i) (shl .i64 1 (m : Int)) (shr .i64 4 (m : Int))) := by
        rw [Int.toNat_natCast, rd_set l2 i hi, List.set_set]
        rfl
      rw [hset, May_ok l0 hf _ _ _ _ (by omega), one i m hi (by omega), Option.bind_some, if_pos rfl, if_pos rfl, show wrap64 ((m : Int) + 1) = ((m + 1 : Nat) : Int) from by unfold wrap64; omega]
      exact ih (m + 1) k (by omega) hk
  have all : ∀ (d i k : Nat), i + d = l2.length → 5 * d + 500 ≤ k → tithinglaw21_RightsMore.l0 k l0 l2 (i : Int) a1_0 a1_1 = some true := fun d => by
    induction d with
    | zero =>
      intro i k hi hk
      obtain ⟨k, rfl⟩ : ∃ m, k = m + 1 := ⟨k - 1, by omega⟩
      simp only [tithinglaw21_RightsMore.l0]
      rw [if_neg (by omega), hF _ (by omega)]
    | succ d ih =>
      intro i k hi hk
      obtain ⟨k, rfl⟩ : ∃ m, k = (m + 3 + 1) + 1 := ⟨k - 5, by omega⟩
      have hr := row i (by omega) 3 0 k (by omega) (by omega)
      rw [show ((0 : Nat) : Int) = 0 from rfl] at hr
      simp only [tithinglaw21_RightsMore.l0]
      rw [if_pos (by omega), hr, show wrap64 ((i : Int) + 1) = ((i + 1 : Nat) : Int) from by unfold wrap64; omega]
      exact ih (i + 1) k (by omega) (by omega)
  exact all l2.length 0 _ (by omega) (by omega)

end Go.Proofs.Ytkmbcjpedmlhfaa.Pure
