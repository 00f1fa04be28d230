-- PRINTED by print.py (a twelfth state) out of the translation. Not trusted: Lean checks it.
import Derived.Test.YtkmbcjpedmlhfaaUx0
namespace Go.Proofs.Ytkmbcjpedmlhfaa.U
open Go.RowKit Go.Proofs.YtkmbcjpedmlhfaaW.PrintWords Go.Proofs.YtkmbcjpedmlhfaaW.PrintLast Go.Proofs.YtkmbcjpedmlhfaaW.PrintMore
attribute [local go_sem] max2_int min2_int max_two min_two max_three min_three max_four min_four   -- for this text's walks alone
set_option linter.unusedVariables false
set_option linter.unusedSimpArgs false

/-! ### rights_Needs: function 27 -/
def rights_Needs.j0 : Nat → Int → ByteArray → Bool → Option (Int × Int × Int)
  | 0, _, _, _ => none
  | k + 1, x2, x5, x12 => if x12 = true then (some (1, 4, 0)) else (if x5.toList = ([115, 101, 101] : List UInt8) then (some (x2, 4, 0)) else (some (0, 0, 2)))
def rights_Needs.f (k : Nat) (a0 : ByteArray) : Option (Int × Int × Int) := if a0.toList = ([108, 105, 115, 116] : List UInt8) then (some (4, 4, 0)) else (if a0.toList = ([114, 101, 97, 100] : List UInt8) then (some (2, 4, 0)) else (if a0.toList = ([119, 114, 105, 116, 101] : List UInt8) then (some (3, 4, 0)) else (if a0.toList = ([109, 97, 107, 101] : List UInt8) then (rights_Needs.j0 k 0 a0 (a0.toList == ([109, 97, 107, 101] : List UInt8))) else (if a0.toList = ([114, 101, 110, 97, 109, 101] : List UInt8) then (rights_Needs.j0 k 0 a0 (a0.toList == ([114, 101, 110, 97, 109, 101] : List UInt8))) else (rights_Needs.j0 k 0 a0 (a0.toList == ([100, 101, 108, 101, 116, 101] : List UInt8)))))))
theorem rights_Needs.mono_l : ∀ k, (∀ y0 y1 y2, LeO (rights_Needs.j0 k y0 y1 y2) (rights_Needs.j0 (k + 1) y0 y1 y2))
  | 0 => fun _ _ _ r h => by simp [rights_Needs.j0] at h
  | k + 1 => by
    have ih0 := rights_Needs.mono_l k
    · intro y0 y1 y2
      unfold rights_Needs.j0
      repeat' first
      | (with_reducible exact ih0 _ _ _)
      | (with_reducible exact LeO.refl _)
      | (with_reducible exact LeO.none _)
      | (with_reducible refine LeO.ite ?_ ?_)
      | (with_reducible refine LeO.bind ?_ (fun _ => ?_))
      | exact ih0 _ _ _
      | exact LeO.none _
      | refine LeO.ite ?_ ?_
      | refine LeO.bind ?_ (fun _ => ?_)
theorem rights_Needs.mono : ∀ a0 k, LeO (rights_Needs.f k a0) (rights_Needs.f (k + 1) a0) := by
  intro a0 k
  have ih0 := rights_Needs.mono_l k
  unfold rights_Needs.f
  repeat' first
      | (with_reducible exact ih0 _ _ _)
      | (with_reducible exact LeO.refl _)
      | (with_reducible exact LeO.none _)
      | (with_reducible refine LeO.ite ?_ ?_)
      | (with_reducible refine LeO.bind ?_ (fun _ => ?_))
      | exact ih0 _ _ _
      | exact LeO.none _
      | refine LeO.ite ?_ ?_
      | refine LeO.bind ?_ (fun _ => ?_)
set_option maxHeartbeats 8000000 in
set_option maxRecDepth 100000 in
theorem rights_Needs.calls (k : Nat) (a0 : ByteArray) (r1 : Int) (r2 : Int) (r3 : Int) (w : World) (h : rights_Needs.f k a0 = some (r1, r2, r3)) :
    Calls Try.prog 27 #[.string a0] w fun e w' => e = .returned (.tuple #[.int .i64 r1, .int .i64 r2, .int .i64 r3]) ∧ Drawn0 w w' := by
  have H : (if a0.toList = ([108, 105, 115, 116] : List UInt8) then (some (4, 4, 0)) else (if a0.toList = ([114, 101, 97, 100] : List UInt8) then (some (2, 4, 0)) else (if a0.toList = ([119, 114, 105, 116, 101] : List UInt8) then (some (3, 4, 0)) else (if a0.toList = ([109, 97, 107, 101] : List UInt8) then (rights_Needs.j0 k 0 a0 (a0.toList == ([109, 97, 107, 101] : List UInt8))) else (if a0.toList = ([114, 101, 110, 97, 109, 101] : List UInt8) then (rights_Needs.j0 k 0 a0 (a0.toList == ([114, 101, 110, 97, 109, 101] : List UInt8))) else (rights_Needs.j0 k 0 a0 (a0.toList == ([100, 101, 108, 101, 116, 101] : List UInt8)))))))) = some (r1, r2, r3) := h
  clear h
  by_cases c2 : a0.toList = ([108, 105, 115, 116] : List UInt8)
  · rw [if_pos c2] at H
    have c2b0 : (a0.toList == ([108, 105, 115, 116] : List UInt8)) = true := beq_iff_eq.mpr c2
    have c2b1 : (a0.toList != ([108, 105, 115, 116] : List UInt8)) = false := bne_eq_false_iff_eq.mpr c2
    clear c2
    simp only [Option.some.injEq, Prod.mk.injEq] at H
    obtain ⟨rfl, rfl, rfl⟩ := H
    go_enter Try.func27, Try.ntmps27
    go_wp2
    go_ret3
    exact ⟨by first | rfl | (simp; done) | (simp [*]; done), by repeat (first | exact Drawn0.refl _ | apply Drawn0.step)⟩
  · rw [if_neg c2] at H
    have c2b0 : (a0.toList == ([108, 105, 115, 116] : List UInt8)) = false := beq_eq_false_iff_ne.mpr c2
    have c2b1 : (a0.toList != ([108, 105, 115, 116] : List UInt8)) = true := bne_iff_ne.mpr c2
    by_cases c3 : a0.toList = ([114, 101, 97, 100] : List UInt8)
    · rw [if_pos c3] at H
      have c3b0 : (a0.toList == ([114, 101, 97, 100] : List UInt8)) = true := beq_iff_eq.mpr c3
      have c3b1 : (a0.toList != ([114, 101, 97, 100] : List UInt8)) = false := bne_eq_false_iff_eq.mpr c3
      clear c3
      simp only [Option.some.injEq, Prod.mk.injEq] at H
      obtain ⟨rfl, rfl, rfl⟩ := H
      go_enter Try.func27, Try.ntmps27
      go_wp2
      go_ret3
      exact ⟨by first | rfl | (simp; done) | (simp [*]; done), by repeat (first | exact Drawn0.refl _ | apply Drawn0.step)⟩
    · rw [if_neg c3] at H
      have c3b0 : (a0.toList == ([114, 101, 97, 100] : List UInt8)) = false := beq_eq_false_iff_ne.mpr c3
      have c3b1 : (a0.toList != ([114, 101, 97, 100] : List UInt8)) = true := bne_iff_ne.mpr c3
      by_cases c4 : a0.toList = ([119, 114, 105, 116, 101] : List UInt8)
      · rw [if_pos c4] at H
        have c4b0 : (a0.toList == ([119, 114, 105, 116, 101] : List UInt8)) = true := beq_iff_eq.mpr c4
        have c4b1 : (a0.toList != ([119, 114, 105, 116, 101] : List UInt8)) = false := bne_eq_false_iff_eq.mpr c4
        clear c4
        simp only [Option.some.injEq, Prod.mk.injEq] at H
        obtain ⟨rfl, rfl, rfl⟩ := H
        go_enter Try.func27, Try.ntmps27
        go_wp2
        go_ret3
        exact ⟨by first | rfl | (simp; done) | (simp [*]; done), by repeat (first | exact Drawn0.refl _ | apply Drawn0.step)⟩
      · rw [if_neg c4] at H
        have c4b0 : (a0.toList == ([119, 114, 105, 116, 101] : List UInt8)) = false := beq_eq_false_iff_ne.mpr c4
        have c4b1 : (a0.toList != ([119, 114, 105, 116, 101] : List UInt8)) = true := bne_iff_ne.mpr c4
        have HC5 := Aside0.mk H
        clear H
        go_enter Try.func27, Try.ntmps27
        go_upto_if 12 with (fail)
        go_cut [12] (fun v12 wc => ∃ (kq : Nat) (x12_4 : Bool), v12 = .bool x12_4 ∧ Aside0 (rights_Needs.j0 kq 0 a0 x12_4 = some (r1, r2, r3)) ∧ Aside0 (kq ≤ k) ∧ Drawn0 w wc)
        case first =>
          have H := HC5.out
          clear HC5
          by_cases c6 : a0.toList = ([109, 97, 107, 101] : List UInt8)
          · rw [if_pos c6] at H
            have c6b0 : (a0.toList == ([109, 97, 107, 101] : List UInt8)) = true := beq_iff_eq.mpr c6
            have c6b1 : (a0.toList != ([109, 97, 107, 101] : List UInt8)) = false := bne_eq_false_iff_eq.mpr c6
            clear c6
            (first | rw [c6b0] | (simp only [i64_w, i32_w]; rw [c6b0]) | skip)
            have H' := Aside0.mk H
            clear H
            go_wp2
            go_meet
            case rel => exact ⟨_, ((a0.toList == ([109, 97, 107, 101] : List UInt8))), (by first | rfl | (simp; done) | (simp [*]; done)), H', ⟨by first | omega | exact Nat.le_refl _⟩, by repeat (first | exact Drawn0.refl _ | apply Drawn0.step)⟩
          · rw [if_neg c6] at H
            have c6b0 : (a0.toList == ([109, 97, 107, 101] : List UInt8)) = false := beq_eq_false_iff_ne.mpr c6
            have c6b1 : (a0.toList != ([109, 97, 107, 101] : List UInt8)) = true := bne_iff_ne.mpr c6
            (first | rw [c6b0] | (simp only [i64_w, i32_w]; rw [c6b0]) | skip)
            by_cases c7 : a0.toList = ([114, 101, 110, 97, 109, 101] : List UInt8)
            · rw [if_pos c7] at H
              have c7b0 : (a0.toList == ([114, 101, 110, 97, 109, 101] : List UInt8)) = true := beq_iff_eq.mpr c7
              have c7b1 : (a0.toList != ([114, 101, 110, 97, 109, 101] : List UInt8)) = false := bne_eq_false_iff_eq.mpr c7
              clear c7
              have H' := Aside0.mk H
              clear H
              go_wp2
              go_meet
              case rel => exact ⟨_, ((a0.toList == ([114, 101, 110, 97, 109, 101] : List UInt8))), (by first | rfl | (simp; done) | (simp [*]; done)), H', ⟨by first | omega | exact Nat.le_refl _⟩, by repeat (first | exact Drawn0.refl _ | apply Drawn0.step)⟩
            · rw [if_neg c7] at H
              have c7b0 : (a0.toList == ([114, 101, 110, 97, 109, 101] : List UInt8)) = false := beq_eq_false_iff_ne.mpr c7
              have c7b1 : (a0.toList != ([114, 101, 110, 97, 109, 101] : List UInt8)) = true := bne_iff_ne.mpr c7
              have H' := Aside0.mk H
              clear H
              go_wp2
              go_meet
              case rel => exact ⟨_, ((a0.toList == ([100, 101, 108, 101, 116, 101] : List UInt8))), (by first | rfl | (simp; done) | (simp [*]; done)), H', ⟨by first | omega | exact Nat.le_refl _⟩, by repeat (first | exact Drawn0.refl _ | apply Drawn0.step)⟩
        case rest =>
          clear HC5
          try clear c2
          try clear c2b0
          try clear c2b1
          try clear p2
          try clear c3
          try clear c3b0
          try clear c3b1
          try clear c4
          try clear c4b0
          try clear c4b1
          try clear c6
          try clear c6b0
          try clear c6b1
          try clear c7
          try clear c7b0
          try clear c7b1
          obtain ⟨kq, x12_4, rfl, HA, HJ4, ⟨mc4, rfl⟩⟩ := hcut
          cases kq with
          | zero => exact absurd HA.out (by simp [rights_Needs.j0])
          | succ kj4 =>
            have H := HA.out
            clear HA
            simp only [rights_Needs.j0] at H
            by_cases c8 : x12_4 = true
            · subst c8
              have H1 : (some (1, 4, 0)) = some (r1, r2, r3) := by rw [if_pos rfl] at H; exact H
              clear H
              have H := H1
              clear H1
              simp only [Option.some.injEq, Prod.mk.injEq] at H
              obtain ⟨rfl, rfl, rfl⟩ := H
              go_wp2
              go_ret3
              exact ⟨by first | rfl | (simp; done) | (simp [*]; done), by repeat (first | exact Drawn0.refl _ | apply Drawn0.step)⟩
            · replace c8 := Bool.eq_false_iff.mpr c8
              subst c8
              have H1 : (if a0.toList = ([115, 101, 101] : List UInt8) then (some (0, 4, 0)) else (some (0, 0, 2))) = some (r1, r2, r3) := by rw [if_neg (show ¬ (false = true) by decide)] at H; exact H
              clear H
              have H := H1
              clear H1
              by_cases c9 : a0.toList = ([115, 101, 101] : List UInt8)
              · rw [if_pos c9] at H
                have c9b0 : (a0.toList == ([115, 101, 101] : List UInt8)) = true := beq_iff_eq.mpr c9
                have c9b1 : (a0.toList != ([115, 101, 101] : List UInt8)) = false := bne_eq_false_iff_eq.mpr c9
                clear c9
                simp only [Option.some.injEq, Prod.mk.injEq] at H
                obtain ⟨rfl, rfl, rfl⟩ := H
                go_wp2
                go_ret3
                exact ⟨by first | rfl | (simp; done) | (simp [*]; done), by repeat (first | exact Drawn0.refl _ | apply Drawn0.step)⟩
              · rw [if_neg c9] at H
                have c9b0 : (a0.toList == ([115, 101, 101] : List UInt8)) = false := beq_eq_false_iff_ne.mpr c9
                have c9b1 : (a0.toList != ([115, 101, 101] : List UInt8)) = true := bne_iff_ne.mpr c9
                simp only [Option.some.injEq, Prod.mk.injEq] at H
                obtain ⟨rfl, rfl, rfl⟩ := H
                go_wp2
                go_ret3
                exact ⟨by first | rfl | (simp; done) | (simp [*]; done), by repeat (first | exact Drawn0.refl _ | apply Drawn0.step)⟩


/-! ### tithingref21_Needs: function 28 -/
def tithingref21_Needs.j0 : Nat → ByteArray → Bool → Option (Int × Int × Int)
  | 0, _, _ => none
  | k + 1, x5, x12 => if x12 = true then (some (1, 4, 0)) else (if x5.toList = ([115, 101, 101] : List UInt8) then (some (0, 4, 0)) else (some (0, 0, 2)))
def tithingref21_Needs.f (k : Nat) (a0 : ByteArray) : Option (Int × Int × Int) := if a0.toList = ([108, 105, 115, 116] : List UInt8) then (some (4, 4, 0)) else (if a0.toList = ([114, 101, 97, 100] : List UInt8) then (some (2, 4, 0)) else (if a0.toList = ([119, 114, 105, 116, 101] : List UInt8) then (some (3, 4, 0)) else (if a0.toList = ([109, 97, 107, 101] : List UInt8) then (tithingref21_Needs.j0 k a0 (a0.toList == ([109, 97, 107, 101] : List UInt8))) else (if a0.toList = ([114, 101, 110, 97, 109, 101] : List UInt8) then (tithingref21_Needs.j0 k a0 (a0.toList == ([114, 101, 110, 97, 109, 101] : List UInt8))) else (tithingref21_Needs.j0 k a0 (a0.toList == ([100, 101, 108, 101, 116, 101] : List UInt8)))))))
theorem tithingref21_Needs.mono_l : ∀ k, (∀ y0 y1, LeO (tithingref21_Needs.j0 k y0 y1) (tithingref21_Needs.j0 (k + 1) y0 y1))
  | 0 => fun _ _ r h => by simp [tithingref21_Needs.j0] at h
  | k + 1 => by
    have ih0 := tithingref21_Needs.mono_l k
    · intro y0 y1
      unfold tithingref21_Needs.j0
      repeat' first
      | (with_reducible exact ih0 _ _)
      | (with_reducible exact LeO.refl _)
      | (with_reducible exact LeO.none _)
      | (with_reducible refine LeO.ite ?_ ?_)
      | (with_reducible refine LeO.bind ?_ (fun _ => ?_))
      | exact ih0 _ _
      | exact LeO.none _
      | refine LeO.ite ?_ ?_
      | refine LeO.bind ?_ (fun _ => ?_)
theorem tithingref21_Needs.mono : ∀ a0 k, LeO (tithingref21_Needs.f k a0) (tithingref21_Needs.f (k + 1) a0) := by
  intro a0 k
  have ih0 := tithingref21_Needs.mono_l k
  unfold tithingref21_Needs.f
  repeat' first
      | (with_reducible exact ih0 _ _)
      | (with_reducible exact LeO.refl _)
      | (with_reducible exact LeO.none _)
      | (with_reducible refine LeO.ite ?_ ?_)
      | (with_reducible refine LeO.bind ?_ (fun _ => ?_))
      | exact ih0 _ _
      | exact LeO.none _
      | refine LeO.ite ?_ ?_
      | refine LeO.bind ?_ (fun _ => ?_)
set_option maxHeartbeats 8000000 in
set_option maxRecDepth 100000 in
theorem tithingref21_Needs.calls (k : Nat) (a0 : ByteArray) (r1 : Int) (r2 : Int) (r3 : Int) (w : World) (h : tithingref21_Needs.f k a0 = some (r1, r2, r3)) :
    Calls Try.prog 28 #[.string a0] w fun e w' => e = .returned (.tuple #[.int .i64 r1, .int .i64 r2, .int .i64 r3]) ∧ Drawn0 w w' := by
  have H : (if a0.toList = ([108, 105, 115, 116] : List UInt8) then (some (4, 4, 0)) else (if a0.toList = ([114, 101, 97, 100] : List UInt8) then (some (2, 4, 0)) else (if a0.toList = ([119, 114, 105, 116, 101] : List UInt8) then (some (3, 4, 0)) else (if a0.toList = ([109, 97, 107, 101] : List UInt8) then (tithingref21_Needs.j0 k a0 (a0.toList == ([109, 97, 107, 101] : List UInt8))) else (if a0.toList = ([114, 101, 110, 97, 109, 101] : List UInt8) then (tithingref21_Needs.j0 k a0 (a0.toList == ([114, 101, 110, 97, 109, 101] : List UInt8))) else (tithingref21_Needs.j0 k a0 (a0.toList == ([100, 101, 108, 101, 116, 101] : List UInt8)))))))) = some (r1, r2, r3) := h
  clear h
  by_cases c2 : a0.toList = ([108, 105, 115, 116] : List UInt8)
  · rw [if_pos c2] at H
    have c2b0 : (a0.toList == ([108, 105, 115, 116] : List UInt8)) = true := beq_iff_eq.mpr c2
    have c2b1 : (a0.toList != ([108, 105, 115, 116] : List UInt8)) = false := bne_eq_false_iff_eq.mpr c2
    clear c2
    simp only [Option.some.injEq, Prod.mk.injEq] at H
    obtain ⟨rfl, rfl, rfl⟩ := H
    go_enter Try.func28, Try.ntmps28
    go_wp2
    go_ret3
    exact ⟨by first | rfl | (simp; done) | (simp [*]; done), by repeat (first | exact Drawn0.refl _ | apply Drawn0.step)⟩
  · rw [if_neg c2] at H
    have c2b0 : (a0.toList == ([108, 105, 115, 116] : List UInt8)) = false := beq_eq_false_iff_ne.mpr c2
    have c2b1 : (a0.toList != ([108, 105, 115, 116] : List UInt8)) = true := bne_iff_ne.mpr c2
    by_cases c3 : a0.toList = ([114, 101, 97, 100] : List UInt8)
    · rw [if_pos c3] at H
      have c3b0 : (a0.toList == ([114, 101, 97, 100] : List UInt8)) = true := beq_iff_eq.mpr c3
      have c3b1 : (a0.toList != ([114, 101, 97, 100] : List UInt8)) = false := bne_eq_false_iff_eq.mpr c3
      clear c3
      simp only [Option.some.injEq, Prod.mk.injEq] at H
      obtain ⟨rfl, rfl, rfl⟩ := H
      go_enter Try.func28, Try.ntmps28
      go_wp2
      go_ret3
      exact ⟨by first | rfl | (simp; done) | (simp [*]; done), by repeat (first | exact Drawn0.refl _ | apply Drawn0.step)⟩
    · rw [if_neg c3] at H
      have c3b0 : (a0.toList == ([114, 101, 97, 100] : List UInt8)) = false := beq_eq_false_iff_ne.mpr c3
      have c3b1 : (a0.toList != ([114, 101, 97, 100] : List UInt8)) = true := bne_iff_ne.mpr c3
      by_cases c4 : a0.toList = ([119, 114, 105, 116, 101] : List UInt8)
      · rw [if_pos c4] at H
        have c4b0 : (a0.toList == ([119, 114, 105, 116, 101] : List UInt8)) = true := beq_iff_eq.mpr c4
        have c4b1 : (a0.toList != ([119, 114, 105, 116, 101] : List UInt8)) = false := bne_eq_false_iff_eq.mpr c4
        clear c4
        simp only [Option.some.injEq, Prod.mk.injEq] at H
        obtain ⟨rfl, rfl, rfl⟩ := H
        go_enter Try.func28, Try.ntmps28
        go_wp2
        go_ret3
        exact ⟨by first | rfl | (simp; done) | (simp [*]; done), by repeat (first | exact Drawn0.refl _ | apply Drawn0.step)⟩
      · rw [if_neg c4] at H
        have c4b0 : (a0.toList == ([119, 114, 105, 116, 101] : List UInt8)) = false := beq_eq_false_iff_ne.mpr c4
        have c4b1 : (a0.toList != ([119, 114, 105, 116, 101] : List UInt8)) = true := bne_iff_ne.mpr c4
        have HC5 := Aside0.mk H
        clear H
        go_enter Try.func28, Try.ntmps28
        go_upto_if 12 with (fail)
        go_cut [12] (fun v12 wc => ∃ (kq : Nat) (x12_4 : Bool), v12 = .bool x12_4 ∧ Aside0 (tithingref21_Needs.j0 kq a0 x12_4 = some (r1, r2, r3)) ∧ Aside0 (kq ≤ k) ∧ Drawn0 w wc)
        case first =>
          have H := HC5.out
          clear HC5
          by_cases c6 : a0.toList = ([109, 97, 107, 101] : List UInt8)
          · rw [if_pos c6] at H
            have c6b0 : (a0.toList == ([109, 97, 107, 101] : List UInt8)) = true := beq_iff_eq.mpr c6
            have c6b1 : (a0.toList != ([109, 97, 107, 101] : List UInt8)) = false := bne_eq_false_iff_eq.mpr c6
            clear c6
            (first | rw [c6b0] | (simp only [i64_w, i32_w]; rw [c6b0]) | skip)
            have H' := Aside0.mk H
            clear H
            go_wp2
            go_meet
            case rel => exact ⟨_, ((a0.toList == ([109, 97, 107, 101] : List UInt8))), (by first | rfl | (simp; done) | (simp [*]; done)), H', ⟨by first | omega | exact Nat.le_refl _⟩, by repeat (first | exact Drawn0.refl _ | apply Drawn0.step)⟩
          · rw [if_neg c6] at H
            have c6b0 : (a0.toList == ([109, 97, 107, 101] : List UInt8)) = false := beq_eq_false_iff_ne.mpr c6
            have c6b1 : (a0.toList != ([109, 97, 107, 101] : List UInt8)) = true := bne_iff_ne.mpr c6
            (first | rw [c6b0] | (simp only [i64_w, i32_w]; rw [c6b0]) | skip)
            by_cases c7 : a0.toList = ([114, 101, 110, 97, 109, 101] : List UInt8)
            · rw [if_pos c7] at H
              have c7b0 : (a0.toList == ([114, 101, 110, 97, 109, 101] : List UInt8)) = true := beq_iff_eq.mpr c7
              have c7b1 : (a0.toList != ([114, 101, 110, 97, 109, 101] : List UInt8)) = false := bne_eq_false_iff_eq.mpr c7
              clear c7
              have H' := Aside0.mk H
              clear H
              go_wp2
              go_meet
              case rel => exact ⟨_, ((a0.toList == ([114, 101, 110, 97, 109, 101] : List UInt8))), (by first | rfl | (simp; done) | (simp [*]; done)), H', ⟨by first | omega | exact Nat.le_refl _⟩, by repeat (first | exact Drawn0.refl _ | apply Drawn0.step)⟩
            · rw [if_neg c7] at H
              have c7b0 : (a0.toList == ([114, 101, 110, 97, 109, 101] : List UInt8)) = false := beq_eq_false_iff_ne.mpr c7
              have c7b1 : (a0.toList != ([114, 101, 110, 97, 109, 101] : List UInt8)) = true := bne_iff_ne.mpr c7
              have H' := Aside0.mk H
              clear H
              go_wp2
              go_meet
              case rel => exact ⟨_, ((a0.toList == ([100, 101, 108, 101, 116, 101] : List UInt8))), (by first | rfl | (simp; done) | (simp [*]; done)), H', ⟨by first | omega | exact Nat.le_refl _⟩, by repeat (first | exact Drawn0.refl _ | apply Drawn0.step)⟩
        case rest =>
          clear HC5
          try clear c2
          try clear c2b0
          try clear c2b1
          try clear p2
          try clear c3
          try clear c3b0
          try clear c3b1
          try clear c4
          try clear c4b0
          try clear c4b1
          try clear c6
          try clear c6b0
          try clear c6b1
          try clear c7
          try clear c7b0
          try clear c7b1
          obtain ⟨kq, x12_4, rfl, HA, HJ4, ⟨mc4, rfl⟩⟩ := hcut
          cases kq with
          | zero => exact absurd HA.out (by simp [tithingref21_Needs.j0])
          | succ kj4 =>
            have H := HA.out
            clear HA
            simp only [tithingref21_Needs.j0] at H
            by_cases c8 : x12_4 = true
            · subst c8
              have H1 : (some (1, 4, 0)) = some (r1, r2, r3) := by rw [if_pos rfl] at H; exact H
              clear H
              have H := H1
              clear H1
              simp only [Option.some.injEq, Prod.mk.injEq] at H
              obtain ⟨rfl, rfl, rfl⟩ := H
              go_wp2
              go_ret3
              exact ⟨by first | rfl | (simp; done) | (simp [*]; done), by repeat (first | exact Drawn0.refl _ | apply Drawn0.step)⟩
            · replace c8 := Bool.eq_false_iff.mpr c8
              subst c8
              have H1 : (if a0.toList = ([115, 101, 101] : List UInt8) then (some (0, 4, 0)) else (some (0, 0, 2))) = some (r1, r2, r3) := by rw [if_neg (show ¬ (false = true) by decide)] at H; exact H
              clear H
              have H := H1
              clear H1
              by_cases c9 : a0.toList = ([115, 101, 101] : List UInt8)
              · rw [if_pos c9] at H
                have c9b0 : (a0.toList == ([115, 101, 101] : List UInt8)) = true := beq_iff_eq.mpr c9
                have c9b1 : (a0.toList != ([115, 101, 101] : List UInt8)) = false := bne_eq_false_iff_eq.mpr c9
                clear c9
                simp only [Option.some.injEq, Prod.mk.injEq] at H
                obtain ⟨rfl, rfl, rfl⟩ := H
                go_wp2
                go_ret3
                exact ⟨by first | rfl | (simp; done) | (simp [*]; done), by repeat (first | exact Drawn0.refl _ | apply Drawn0.step)⟩
              · rw [if_neg c9] at H
                have c9b0 : (a0.toList == ([115, 101, 101] : List UInt8)) = false := beq_eq_false_iff_ne.mpr c9
                have c9b1 : (a0.toList != ([115, 101, 101] : List UInt8)) = true := bne_iff_ne.mpr c9
                simp only [Option.some.injEq, Prod.mk.injEq] at H
                obtain ⟨rfl, rfl, rfl⟩ := H
                go_wp2
                go_ret3
                exact ⟨by first | rfl | (simp; done) | (simp [*]; done), by repeat (first | exact Drawn0.refl _ | apply Drawn0.step)⟩

end Go.Proofs.Ytkmbcjpedmlhfaa.U
