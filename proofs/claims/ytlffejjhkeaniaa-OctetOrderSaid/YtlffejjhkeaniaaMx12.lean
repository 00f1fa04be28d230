-- PRINTED by print.py (a twelfth state) out of the translation. Not trusted: Lean checks it.
import Derived.Test.YtlffejjhkeaniaaMx0
import Derived.Test.YtlffejjhkeaniaaMx2
import Derived.Test.YtlffejjhkeaniaaMx8
import Derived.Test.YtlffejjhkeaniaaMx10
import Derived.Test.YtlffejjhkeaniaaMx11
namespace Go.Proofs.Ytlffejjhkeaniaa.M
open Go.RowKit Go.Proofs.YtlffejjhkeaniaaW.PrintWords Go.Proofs.YtlffejjhkeaniaaW.PrintLast Go.Proofs.YtlffejjhkeaniaaW.PrintMore
attribute [local go_sem] max2_int min2_int max_two min_two max_three min_three max_four min_four   -- for this text's walks alone
set_option linter.unusedVariables false
set_option linter.unusedSimpArgs false

/-! ### tithingref01_Fits: function 29 -/
def tithingref01_Fits.f (k : Nat) (a0 : ByteArray) (a1 : ByteArray) : Option (Bool) := (tithingref01_gap.f k a0).bind fun t213 => (if a0.toList = ([61] : List UInt8) then (some true) else (if t213 < 0 then ((tithingref01_Equal.f k a0 a1).bind fun t214 => (some t214)) else (if (a1.size : Int) ≥ (wrap64 (t213 + (wrap64 ((wrap64 ((a0.size : Int) - t213)) - 1)))) then (if 0 ≤ t213 then (if t213 ≤ (a0.size : Int) then (if t213 ≤ (a1.size : Int) then ((tithingref01_Equal.f k (a0.extract 0 (t213 : Int).toNat) (a1.extract 0 (t213 : Int).toNat)).bind fun t215 => (if t215 = true then (if 0 ≤ (wrap64 (t213 + 1)) then (if (wrap64 (t213 + 1)) ≤ (a0.size : Int) then (if 0 ≤ (wrap64 ((a1.size : Int) - (wrap64 ((wrap64 ((a0.size : Int) - t213)) - 1)))) then (if (wrap64 ((a1.size : Int) - (wrap64 ((wrap64 ((a0.size : Int) - t213)) - 1)))) ≤ (a1.size : Int) then ((tithingref01_Equal.f k (a0.extract ((wrap64 (t213 + 1)) : Int).toNat a0.size) (a1.extract ((wrap64 ((a1.size : Int) - (wrap64 ((wrap64 ((a0.size : Int) - t213)) - 1)))) : Int).toNat a1.size)).bind fun t216 => (some t216)) else (none)) else (none)) else (none)) else (none)) else (some false))) else (none)) else (none)) else (none)) else (some false))))
theorem tithingref01_Fits.mono : ∀ a0 a1 k, LeO (tithingref01_Fits.f k a0 a1) (tithingref01_Fits.f (k + 1) a0 a1) := by
  intro a0 a1 k
  unfold tithingref01_Fits.f
  repeat' first
      | (with_reducible exact tithingref01_Equal.mono _ _ _)
      | (with_reducible exact tithingref01_gap.mono _ _)
      | (with_reducible exact LeO.refl _)
      | (with_reducible exact LeO.none _)
      | (with_reducible refine LeO.ite ?_ ?_)
      | (with_reducible refine LeO.bind ?_ (fun _ => ?_))
      | exact tithingref01_Equal.mono _ _ _
      | exact tithingref01_gap.mono _ _
      | exact LeO.none _
      | refine LeO.ite ?_ ?_
      | refine LeO.bind ?_ (fun _ => ?_)
set_option maxHeartbeats 8000000 in
set_option maxRecDepth 100000 in
theorem tithingref01_Fits.calls (k : Nat) (a0 : ByteArray) (a1 : ByteArray) (r : Bool) (w : World) (h : tithingref01_Fits.f k a0 a1 = some r) :
    Calls Try.prog 29 #[.string a0, .string a1] w fun e w' => e = .returned (.bool r) ∧ Drawn0 w w' := by
  have H : ((tithingref01_gap.f k a0).bind fun t213 => (if a0.toList = ([61] : List UInt8) then (some true) else (if t213 < 0 then ((tithingref01_Equal.f k a0 a1).bind fun t214 => (some t214)) else (if (a1.size : Int) ≥ (wrap64 (t213 + (wrap64 ((wrap64 ((a0.size : Int) - t213)) - 1)))) then (if 0 ≤ t213 then (if t213 ≤ (a0.size : Int) then (if t213 ≤ (a1.size : Int) then ((tithingref01_Equal.f k (a0.extract 0 (t213 : Int).toNat) (a1.extract 0 (t213 : Int).toNat)).bind fun t215 => (if t215 = true then (if 0 ≤ (wrap64 (t213 + 1)) then (if (wrap64 (t213 + 1)) ≤ (a0.size : Int) then (if 0 ≤ (wrap64 ((a1.size : Int) - (wrap64 ((wrap64 ((a0.size : Int) - t213)) - 1)))) then (if (wrap64 ((a1.size : Int) - (wrap64 ((wrap64 ((a0.size : Int) - t213)) - 1)))) ≤ (a1.size : Int) then ((tithingref01_Equal.f k (a0.extract ((wrap64 (t213 + 1)) : Int).toNat a0.size) (a1.extract ((wrap64 ((a1.size : Int) - (wrap64 ((wrap64 ((a0.size : Int) - t213)) - 1)))) : Int).toNat a1.size)).bind fun t216 => (some t216)) else (none)) else (none)) else (none)) else (none)) else (some false))) else (none)) else (none)) else (none)) else (some false))))) = some r := h
  clear h
  replace H := Option.bind_eq_some_iff.mp H
  obtain ⟨t213, A30, H⟩ := H
  replace H : (if a0.toList = ([61] : List UInt8) then (some true) else (if t213 < 0 then ((tithingref01_Equal.f k a0 a1).bind fun t214 => (some t214)) else (if (a1.size : Int) ≥ (wrap64 (t213 + (wrap64 ((wrap64 ((a0.size : Int) - t213)) - 1)))) then (if 0 ≤ t213 then (if t213 ≤ (a0.size : Int) then (if t213 ≤ (a1.size : Int) then ((tithingref01_Equal.f k (a0.extract 0 (t213 : Int).toNat) (a1.extract 0 (t213 : Int).toNat)).bind fun t215 => (if t215 = true then (if 0 ≤ (wrap64 (t213 + 1)) then (if (wrap64 (t213 + 1)) ≤ (a0.size : Int) then (if 0 ≤ (wrap64 ((a1.size : Int) - (wrap64 ((wrap64 ((a0.size : Int) - t213)) - 1)))) then (if (wrap64 ((a1.size : Int) - (wrap64 ((wrap64 ((a0.size : Int) - t213)) - 1)))) ≤ (a1.size : Int) then ((tithingref01_Equal.f k (a0.extract ((wrap64 (t213 + 1)) : Int).toNat a0.size) (a1.extract ((wrap64 ((a1.size : Int) - (wrap64 ((wrap64 ((a0.size : Int) - t213)) - 1)))) : Int).toNat a1.size)).bind fun t216 => (some t216)) else (none)) else (none)) else (none)) else (none)) else (some false))) else (none)) else (none)) else (none)) else (some false)))) = some r := H
  have A3 := Aside0.mk A30
  clear A30
  by_cases c4 : a0.toList = ([61] : List UInt8)
  · rw [if_pos c4] at H
    have c4b0 : (a0.toList == ([61] : List UInt8)) = true := beq_iff_eq.mpr c4
    have c4b1 : (a0.toList != ([61] : List UInt8)) = false := bne_eq_false_iff_eq.mpr c4
    clear c4
    obtain rfl := Option.some.inj H
    go_enter Try.func29, Try.ntmps29
    go_wp2_with (first | (go_at_call 41; (with_reducible refine (tithingref01_gap.calls k a0 t213 _ A3.out).mono ?_); rintro e w' ⟨rfl, ⟨nd, rfl⟩⟩; (try first | exact ⟨rfl, _, World.drewN_drewN _ _ _⟩ | exact ⟨rfl, _, Eq.trans (World.drewN_drewN _ _ _) (congrArg (World.drewN _) (Nat.add_assoc _ _ _))⟩)))
    repeat (go_quiet (first | (go_at_call 41; (with_reducible refine (tithingref01_gap.calls k a0 t213 _ A3.out).mono ?_); rintro e w' ⟨rfl, ⟨nd, rfl⟩⟩; (try first | exact ⟨rfl, _, World.drewN_drewN _ _ _⟩ | exact ⟨rfl, _, Eq.trans (World.drewN_drewN _ _ _) (congrArg (World.drewN _) (Nat.add_assoc _ _ _))⟩))); try go_wp2_with (first | (go_at_call 41; (with_reducible refine (tithingref01_gap.calls k a0 t213 _ A3.out).mono ?_); rintro e w' ⟨rfl, ⟨nd, rfl⟩⟩; (try first | exact ⟨rfl, _, World.drewN_drewN _ _ _⟩ | exact ⟨rfl, _, Eq.trans (World.drewN_drewN _ _ _) (congrArg (World.drewN _) (Nat.add_assoc _ _ _))⟩))))
    go_ret
    exact ⟨by first | rfl | (simp; done) | (simp [*]; done), by repeat (first | exact Drawn0.refl _ | apply Drawn0.step)⟩
  · rw [if_neg c4] at H
    have c4b0 : (a0.toList == ([61] : List UInt8)) = false := beq_eq_false_iff_ne.mpr c4
    have c4b1 : (a0.toList != ([61] : List UInt8)) = true := bne_iff_ne.mpr c4
    by_cases c5 : t213 < 0
    · rw [if_pos c5] at H
      have c5b0 : decide (t213 < 0) = true := decide_eq_true c5
      clear c5
      replace H := Option.bind_eq_some_iff.mp H
      obtain ⟨t214, A60, H⟩ := H
      replace H : (some t214) = some r := H
      have A6 := Aside0.mk A60
      clear A60
      obtain rfl := Option.some.inj H
      go_enter Try.func29, Try.ntmps29
      go_wp2_with (first | (go_at_call 41; (with_reducible refine (tithingref01_gap.calls k a0 t213 _ A3.out).mono ?_); rintro e w' ⟨rfl, ⟨nd, rfl⟩⟩; (try first | exact ⟨rfl, _, World.drewN_drewN _ _ _⟩ | exact ⟨rfl, _, Eq.trans (World.drewN_drewN _ _ _) (congrArg (World.drewN _) (Nat.add_assoc _ _ _))⟩)) | (go_at_call 21; (with_reducible refine (tithingref01_Equal.calls k a0 a1 t214 _ A6.out).mono ?_); rintro e w' ⟨rfl, ⟨nd, rfl⟩⟩; (try first | exact ⟨rfl, _, World.drewN_drewN _ _ _⟩ | exact ⟨rfl, _, Eq.trans (World.drewN_drewN _ _ _) (congrArg (World.drewN _) (Nat.add_assoc _ _ _))⟩)))
      repeat (go_quiet (first | (go_at_call 41; (with_reducible refine (tithingref01_gap.calls k a0 t213 _ A3.out).mono ?_); rintro e w' ⟨rfl, ⟨nd, rfl⟩⟩; (try first | exact ⟨rfl, _, World.drewN_drewN _ _ _⟩ | exact ⟨rfl, _, Eq.trans (World.drewN_drewN _ _ _) (congrArg (World.drewN _) (Nat.add_assoc _ _ _))⟩)) | (go_at_call 21; (with_reducible refine (tithingref01_Equal.calls k a0 a1 t214 _ A6.out).mono ?_); rintro e w' ⟨rfl, ⟨nd, rfl⟩⟩; (try first | exact ⟨rfl, _, World.drewN_drewN _ _ _⟩ | exact ⟨rfl, _, Eq.trans (World.drewN_drewN _ _ _) (congrArg (World.drewN _) (Nat.add_assoc _ _ _))⟩))); try go_wp2_with (first | (go_at_call 41; (with_reducible refine (tithingref01_gap.calls k a0 t213 _ A3.out).mono ?_); rintro e w' ⟨rfl, ⟨nd, rfl⟩⟩; (try first | exact ⟨rfl, _, World.drewN_drewN _ _ _⟩ | exact ⟨rfl, _, Eq.trans (World.drewN_drewN _ _ _) (congrArg (World.drewN _) (Nat.add_assoc _ _ _))⟩)) | (go_at_call 21; (with_reducible refine (tithingref01_Equal.calls k a0 a1 t214 _ A6.out).mono ?_); rintro e w' ⟨rfl, ⟨nd, rfl⟩⟩; (try first | exact ⟨rfl, _, World.drewN_drewN _ _ _⟩ | exact ⟨rfl, _, Eq.trans (World.drewN_drewN _ _ _) (congrArg (World.drewN _) (Nat.add_assoc _ _ _))⟩))))
      go_ret
      exact ⟨by first | rfl | (simp; done) | (simp [*]; done), by repeat (first | exact Drawn0.refl _ | apply Drawn0.step)⟩
    · rw [if_neg c5] at H
      have c5b0 : decide (t213 < 0) = false := decide_eq_false c5
      clear c5
      by_cases c7 : (a1.size : Int) ≥ (wrap64 (t213 + (wrap64 ((wrap64 ((a0.size : Int) - t213)) - 1))))
      · rw [if_pos c7] at H
        have c7b0 : decide ((wrap64 (t213 + (wrap64 ((wrap64 ((a0.size : Int) - t213)) - 1)))) ≤ (a1.size : Int)) = true := decide_eq_true c7
        clear c7
        by_cases c8 : 0 ≤ t213
        · rw [if_pos c8] at H
          have c8b0 := eq_true c8
          have c8b1 : decide (0 ≤ t213) = true := decide_eq_true c8
          clear c8
          by_cases c9 : t213 ≤ (a0.size : Int)
          · rw [if_pos c9] at H
            have c9b0 := eq_true c9
            have c9b1 : decide (t213 ≤ (a0.size : Int)) = true := decide_eq_true c9
            clear c9
            have c10b0 := eq_true (of_decide_eq_true (by first | (with_reducible assumption) | assumption) : 0 ≤ t213)
            by_cases c11 : t213 ≤ (a1.size : Int)
            · rw [if_pos c11] at H
              have c11b0 := eq_true c11
              have c11b1 : decide (t213 ≤ (a1.size : Int)) = true := decide_eq_true c11
              clear c11
              replace H := Option.bind_eq_some_iff.mp H
              obtain ⟨t215, A120, H⟩ := H
              replace H : (if t215 = true then (if 0 ≤ (wrap64 (t213 + 1)) then (if (wrap64 (t213 + 1)) ≤ (a0.size : Int) then (if 0 ≤ (wrap64 ((a1.size : Int) - (wrap64 ((wrap64 ((a0.size : Int) - t213)) - 1)))) then (if (wrap64 ((a1.size : Int) - (wrap64 ((wrap64 ((a0.size : Int) - t213)) - 1)))) ≤ (a1.size : Int) then ((tithingref01_Equal.f k (a0.extract ((wrap64 (t213 + 1)) : Int).toNat a0.size) (a1.extract ((wrap64 ((a1.size : Int) - (wrap64 ((wrap64 ((a0.size : Int) - t213)) - 1)))) : Int).toNat a1.size)).bind fun t216 => (some t216)) else (none)) else (none)) else (none)) else (none)) else (some false)) = some r := H
              have A12 := Aside0.mk A120
              clear A120
              by_cases c13 : t215 = true
              · subst c13
                have H1 : (if 0 ≤ (wrap64 (t213 + 1)) then (if (wrap64 (t213 + 1)) ≤ (a0.size : Int) then (if 0 ≤ (wrap64 ((a1.size : Int) - (wrap64 ((wrap64 ((a0.size : Int) - t213)) - 1)))) then (if (wrap64 ((a1.size : Int) - (wrap64 ((wrap64 ((a0.size : Int) - t213)) - 1)))) ≤ (a1.size : Int) then ((tithingref01_Equal.f k (a0.extract ((wrap64 (t213 + 1)) : Int).toNat a0.size) (a1.extract ((wrap64 ((a1.size : Int) - (wrap64 ((wrap64 ((a0.size : Int) - t213)) - 1)))) : Int).toNat a1.size)).bind fun t216 => (some t216)) else (none)) else (none)) else (none)) else (none)) = some r := by rw [if_pos rfl] at H; exact H
                clear H
                have H := H1
                clear H1
                obtain ⟨ji14, hji14⟩ : ∃ j_ : Int, (wrap64 (t213 + 1)) = j_ := ⟨_, rfl⟩
                replace H : (if 0 ≤ (ji14) then (if (ji14) ≤ (a0.size : Int) then (if 0 ≤ (wrap64 ((a1.size : Int) - (wrap64 ((wrap64 ((a0.size : Int) - t213)) - 1)))) then (if (wrap64 ((a1.size : Int) - (wrap64 ((wrap64 ((a0.size : Int) - t213)) - 1)))) ≤ (a1.size : Int) then ((tithingref01_Equal.f k (a0.extract ((ji14) : Int).toNat a0.size) (a1.extract ((wrap64 ((a1.size : Int) - (wrap64 ((wrap64 ((a0.size : Int) - t213)) - 1)))) : Int).toNat a1.size)).bind fun t216 => (some t216)) else (none)) else (none)) else (none)) else (none)) = some r := by first | (rw [hji14] at H; exact H) | (simp only [hji14] at H ⊢; exact H)
                (try rw [hji14] at A3)
                (try rw [hji14] at A12)
                have hji14w : (IntKind.i64.wrap (t213 + 1)) = ji14 := (i64_w _).trans hji14
                by_cases c15 : 0 ≤ (ji14)
                · rw [if_pos c15] at H
                  have c15b0 := eq_true c15
                  have c15b1 : decide (0 ≤ (ji14)) = true := decide_eq_true c15
                  clear c15
                  by_cases c16 : (ji14) ≤ (a0.size : Int)
                  · rw [if_pos c16] at H
                    have c16b0 := eq_true c16
                    have c16b1 : decide ((ji14) ≤ (a0.size : Int)) = true := decide_eq_true c16
                    clear c16
                    obtain ⟨ji17, hji17⟩ : ∃ j_ : Int, (wrap64 ((a1.size : Int) - (wrap64 ((wrap64 ((a0.size : Int) - t213)) - 1)))) = j_ := ⟨_, rfl⟩
                    replace H : (if 0 ≤ (ji17) then (if (ji17) ≤ (a1.size : Int) then ((tithingref01_Equal.f k (a0.extract ((ji14) : Int).toNat a0.size) (a1.extract ((ji17) : Int).toNat a1.size)).bind fun t216 => (some t216)) else (none)) else (none)) = some r := by first | (rw [hji17] at H; exact H) | (simp only [hji17] at H ⊢; exact H)
                    (try rw [hji17] at A3)
                    (try rw [hji17] at A12)
                    have hji17w : (IntKind.i64.wrap ((a1.size : Int) - (wrap64 ((wrap64 ((a0.size : Int) - t213)) - 1)))) = ji17 := (i64_w _).trans hji17
                    by_cases c18 : 0 ≤ (ji17)
                    · rw [if_pos c18] at H
                      have c18b0 := eq_true c18
                      have c18b1 : decide (0 ≤ (ji17)) = true := decide_eq_true c18
                      clear c18
                      by_cases c19 : (ji17) ≤ (a1.size : Int)
                      · rw [if_pos c19] at H
                        have c19b0 := eq_true c19
                        have c19b1 : decide ((ji17) ≤ (a1.size : Int)) = true := decide_eq_true c19
                        clear c19
                        replace H := Option.bind_eq_some_iff.mp H
                        obtain ⟨t216, A200, H⟩ := H
                        replace H : (some t216) = some r := H
                        have A20 := Aside0.mk A200
                        clear A200
                        obtain rfl := Option.some.inj H
                        go_enter Try.func29, Try.ntmps29
                        go_wp2_with (first | (go_at_call 41; (with_reducible refine (tithingref01_gap.calls k a0 t213 _ A3.out).mono ?_); rintro e w' ⟨rfl, ⟨nd, rfl⟩⟩; (try first | exact ⟨rfl, _, World.drewN_drewN _ _ _⟩ | exact ⟨rfl, _, Eq.trans (World.drewN_drewN _ _ _) (congrArg (World.drewN _) (Nat.add_assoc _ _ _))⟩)) | (go_at_call 21; (with_reducible refine (tithingref01_Equal.calls k (a0.extract 0 (t213 : Int).toNat) (a1.extract 0 (t213 : Int).toNat) true _ A12.out).mono ?_); rintro e w' ⟨rfl, ⟨nd, rfl⟩⟩; (try first | exact ⟨rfl, _, World.drewN_drewN _ _ _⟩ | exact ⟨rfl, _, Eq.trans (World.drewN_drewN _ _ _) (congrArg (World.drewN _) (Nat.add_assoc _ _ _))⟩)) | (go_at_call 21; (with_reducible refine (tithingref01_Equal.calls k (a0.extract ((ji14) : Int).toNat a0.size) (a1.extract ((ji17) : Int).toNat a1.size) t216 _ A20.out).mono ?_); rintro e w' ⟨rfl, ⟨nd, rfl⟩⟩; (try first | exact ⟨rfl, _, World.drewN_drewN _ _ _⟩ | exact ⟨rfl, _, Eq.trans (World.drewN_drewN _ _ _) (congrArg (World.drewN _) (Nat.add_assoc _ _ _))⟩)))
                        repeat (go_quiet (first | (go_at_call 41; (with_reducible refine (tithingref01_gap.calls k a0 t213 _ A3.out).mono ?_); rintro e w' ⟨rfl, ⟨nd, rfl⟩⟩; (try first | exact ⟨rfl, _, World.drewN_drewN _ _ _⟩ | exact ⟨rfl, _, Eq.trans (World.drewN_drewN _ _ _) (congrArg (World.drewN _) (Nat.add_assoc _ _ _))⟩)) | (go_at_call 21; (with_reducible refine (tithingref01_Equal.calls k (a0.extract 0 (t213 : Int).toNat) (a1.extract 0 (t213 : Int).toNat) true _ A12.out).mono ?_); rintro e w' ⟨rfl, ⟨nd, rfl⟩⟩; (try first | exact ⟨rfl, _, World.drewN_drewN _ _ _⟩ | exact ⟨rfl, _, Eq.trans (World.drewN_drewN _ _ _) (congrArg (World.drewN _) (Nat.add_assoc _ _ _))⟩)) | (go_at_call 21; (with_reducible refine (tithingref01_Equal.calls k (a0.extract ((ji14) : Int).toNat a0.size) (a1.extract ((ji17) : Int).toNat a1.size) t216 _ A20.out).mono ?_); rintro e w' ⟨rfl, ⟨nd, rfl⟩⟩; (try first | exact ⟨rfl, _, World.drewN_drewN _ _ _⟩ | exact ⟨rfl, _, Eq.trans (World.drewN_drewN _ _ _) (congrArg (World.drewN _) (Nat.add_assoc _ _ _))⟩))); try go_wp2_with (first | (go_at_call 41; (with_reducible refine (tithingref01_gap.calls k a0 t213 _ A3.out).mono ?_); rintro e w' ⟨rfl, ⟨nd, rfl⟩⟩; (try first | exact ⟨rfl, _, World.drewN_drewN _ _ _⟩ | exact ⟨rfl, _, Eq.trans (World.drewN_drewN _ _ _) (congrArg (World.drewN _) (Nat.add_assoc _ _ _))⟩)) | (go_at_call 21; (with_reducible refine (tithingref01_Equal.calls k (a0.extract 0 (t213 : Int).toNat) (a1.extract 0 (t213 : Int).toNat) true _ A12.out).mono ?_); rintro e w' ⟨rfl, ⟨nd, rfl⟩⟩; (try first | exact ⟨rfl, _, World.drewN_drewN _ _ _⟩ | exact ⟨rfl, _, Eq.trans (World.drewN_drewN _ _ _) (congrArg (World.drewN _) (Nat.add_assoc _ _ _))⟩)) | (go_at_call 21; (with_reducible refine (tithingref01_Equal.calls k (a0.extract ((ji14) : Int).toNat a0.size) (a1.extract ((ji17) : Int).toNat a1.size) t216 _ A20.out).mono ?_); rintro e w' ⟨rfl, ⟨nd, rfl⟩⟩; (try first | exact ⟨rfl, _, World.drewN_drewN _ _ _⟩ | exact ⟨rfl, _, Eq.trans (World.drewN_drewN _ _ _) (congrArg (World.drewN _) (Nat.add_assoc _ _ _))⟩))))
                        go_ret
                        exact ⟨by first | rfl | (simp; done) | (simp only [← hji14, ← hji17] <;> (first | rfl | simp)) | (simp [*]; done), by repeat (first | exact Drawn0.refl _ | apply Drawn0.step)⟩
                      · rw [if_neg c19] at H
                        exact absurd H (by simp)
                    · rw [if_neg c18] at H
                      exact absurd H (by simp)
                  · rw [if_neg c16] at H
                    exact absurd H (by simp)
                · rw [if_neg c15] at H
                  exact absurd H (by simp)
              · replace c13 := Bool.eq_false_iff.mpr c13
                subst c13
                have H1 : (some false) = some r := by rw [if_neg (show ¬ (false = true) by decide)] at H; exact H
                clear H
                have H := H1
                clear H1
                obtain rfl := Option.some.inj H
                go_enter Try.func29, Try.ntmps29
                go_wp2_with (first | (go_at_call 41; (with_reducible refine (tithingref01_gap.calls k a0 t213 _ A3.out).mono ?_); rintro e w' ⟨rfl, ⟨nd, rfl⟩⟩; (try first | exact ⟨rfl, _, World.drewN_drewN _ _ _⟩ | exact ⟨rfl, _, Eq.trans (World.drewN_drewN _ _ _) (congrArg (World.drewN _) (Nat.add_assoc _ _ _))⟩)) | (go_at_call 21; (with_reducible refine (tithingref01_Equal.calls k (a0.extract 0 (t213 : Int).toNat) (a1.extract 0 (t213 : Int).toNat) false _ A12.out).mono ?_); rintro e w' ⟨rfl, ⟨nd, rfl⟩⟩; (try first | exact ⟨rfl, _, World.drewN_drewN _ _ _⟩ | exact ⟨rfl, _, Eq.trans (World.drewN_drewN _ _ _) (congrArg (World.drewN _) (Nat.add_assoc _ _ _))⟩)))
                repeat (go_quiet (first | (go_at_call 41; (with_reducible refine (tithingref01_gap.calls k a0 t213 _ A3.out).mono ?_); rintro e w' ⟨rfl, ⟨nd, rfl⟩⟩; (try first | exact ⟨rfl, _, World.drewN_drewN _ _ _⟩ | exact ⟨rfl, _, Eq.trans (World.drewN_drewN _ _ _) (congrArg (World.drewN _) (Nat.add_assoc _ _ _))⟩)) | (go_at_call 21; (with_reducible refine (tithingref01_Equal.calls k (a0.extract 0 (t213 : Int).toNat) (a1.extract 0 (t213 : Int).toNat) false _ A12.out).mono ?_); rintro e w' ⟨rfl, ⟨nd, rfl⟩⟩; (try first | exact ⟨rfl, _, World.drewN_drewN _ _ _⟩ | exact ⟨rfl, _, Eq.trans (World.drewN_drewN _ _ _) (congrArg (World.drewN _) (Nat.add_assoc _ _ _))⟩))); try go_wp2_with (first | (go_at_call 41; (with_reducible refine (tithingref01_gap.calls k a0 t213 _ A3.out).mono ?_); rintro e w' ⟨rfl, ⟨nd, rfl⟩⟩; (try first | exact ⟨rfl, _, World.drewN_drewN _ _ _⟩ | exact ⟨rfl, _, Eq.trans (World.drewN_drewN _ _ _) (congrArg (World.drewN _) (Nat.add_assoc _ _ _))⟩)) | (go_at_call 21; (with_reducible refine (tithingref01_Equal.calls k (a0.extract 0 (t213 : Int).toNat) (a1.extract 0 (t213 : Int).toNat) false _ A12.out).mono ?_); rintro e w' ⟨rfl, ⟨nd, rfl⟩⟩; (try first | exact ⟨rfl, _, World.drewN_drewN _ _ _⟩ | exact ⟨rfl, _, Eq.trans (World.drewN_drewN _ _ _) (congrArg (World.drewN _) (Nat.add_assoc _ _ _))⟩))))
                go_ret
                exact ⟨by first | rfl | (simp; done) | (simp [*]; done), by repeat (first | exact Drawn0.refl _ | apply Drawn0.step)⟩
            · rw [if_neg c11] at H
              exact absurd H (by simp)
          · rw [if_neg c9] at H
            exact absurd H (by simp)
        · rw [if_neg c8] at H
          exact absurd H (by simp)
      · rw [if_neg c7] at H
        have c7b0 : decide ((wrap64 (t213 + (wrap64 ((wrap64 ((a0.size : Int) - t213)) - 1)))) ≤ (a1.size : Int)) = false := decide_eq_false c7
        clear c7
        obtain rfl := Option.some.inj H
        go_enter Try.func29, Try.ntmps29
        go_wp2_with (first | (go_at_call 41; (with_reducible refine (tithingref01_gap.calls k a0 t213 _ A3.out).mono ?_); rintro e w' ⟨rfl, ⟨nd, rfl⟩⟩; (try first | exact ⟨rfl, _, World.drewN_drewN _ _ _⟩ | exact ⟨rfl, _, Eq.trans (World.drewN_drewN _ _ _) (congrArg (World.drewN _) (Nat.add_assoc _ _ _))⟩)))
        repeat (go_quiet (first | (go_at_call 41; (with_reducible refine (tithingref01_gap.calls k a0 t213 _ A3.out).mono ?_); rintro e w' ⟨rfl, ⟨nd, rfl⟩⟩; (try first | exact ⟨rfl, _, World.drewN_drewN _ _ _⟩ | exact ⟨rfl, _, Eq.trans (World.drewN_drewN _ _ _) (congrArg (World.drewN _) (Nat.add_assoc _ _ _))⟩))); try go_wp2_with (first | (go_at_call 41; (with_reducible refine (tithingref01_gap.calls k a0 t213 _ A3.out).mono ?_); rintro e w' ⟨rfl, ⟨nd, rfl⟩⟩; (try first | exact ⟨rfl, _, World.drewN_drewN _ _ _⟩ | exact ⟨rfl, _, Eq.trans (World.drewN_drewN _ _ _) (congrArg (World.drewN _) (Nat.add_assoc _ _ _))⟩))))
        go_ret
        exact ⟨by first | rfl | (simp; done) | (simp [*]; done), by repeat (first | exact Drawn0.refl _ | apply Drawn0.step)⟩

/-! ### octet_Wild: function 30 -/
def octet_Wild.f (k : Nat) (a0 : ByteArray) : Option (Bool) := (octet_split.f k a0).bind fun bt217 => (if bt217.2.2 = true then (some true) else (some (a0.toList == ([61] : List UInt8))))
theorem octet_Wild.mono : ∀ a0 k, LeO (octet_Wild.f k a0) (octet_Wild.f (k + 1) a0) := by
  intro a0 k
  unfold octet_Wild.f
  repeat' first
      | (with_reducible exact octet_split.mono _ _)
      | (with_reducible exact LeO.refl _)
      | (with_reducible exact LeO.none _)
      | (with_reducible refine LeO.ite ?_ ?_)
      | (with_reducible refine LeO.bind ?_ (fun _ => ?_))
      | exact octet_split.mono _ _
      | exact LeO.none _
      | refine LeO.ite ?_ ?_
      | refine LeO.bind ?_ (fun _ => ?_)
set_option maxHeartbeats 8000000 in
set_option maxRecDepth 100000 in
theorem octet_Wild.calls (k : Nat) (a0 : ByteArray) (r : Bool) (w : World) (h : octet_Wild.f k a0 = some r) :
    Calls Try.prog 30 #[.string a0] w fun e w' => e = .returned (.bool r) ∧ Drawn0 w w' := by
  have H : ((octet_split.f k a0).bind fun bt217 => (if bt217.2.2 = true then (some true) else (some (a0.toList == ([61] : List UInt8))))) = some r := h
  clear h
  replace H := Option.bind_eq_some_iff.mp H
  obtain ⟨⟨t217, t218, t219⟩, A20, H⟩ := H
  replace H : (if t219 = true then (some true) else (some (a0.toList == ([61] : List UInt8)))) = some r := H
  have A2 := Aside0.mk A20
  clear A20
  by_cases c3 : t219 = true
  · subst c3
    have H1 : (some true) = some r := by rw [if_pos rfl] at H; exact H
    clear H
    have H := H1
    clear H1
    obtain rfl := Option.some.inj H
    go_enter Try.func30, Try.ntmps30
    go_wp2_with (first | ((with_reducible refine gate_callee (f := 38) rfl ?_); refine goesL_ (some 8) rfl rfl Try.func38 (by kernel_rfl) rfl #[.string a0] rfl (by (try simp only [List.map_toArray, List.map_cons, List.map_nil]); first | done | rfl | (simp only [List.length_drop, List.length_take]; rfl)) ?_; (with_reducible refine (octet_split.calls k a0 t217 t218 true _ A2.out).mono ?_); rintro e w' ⟨rfl, ⟨nd, rfl⟩⟩; refine ⟨_, rfl, ?_⟩))
    go_ret
    exact ⟨by first | rfl | (simp; done) | (simp [*]; done), by repeat (first | exact Drawn0.refl _ | apply Drawn0.step)⟩
  · replace c3 := Bool.eq_false_iff.mpr c3
    subst c3
    have H1 : (some (a0.toList == ([61] : List UInt8))) = some r := by rw [if_neg (show ¬ (false = true) by decide)] at H; exact H
    clear H
    have H := H1
    clear H1
    obtain rfl := Option.some.inj H
    go_enter Try.func30, Try.ntmps30
    go_wp2_with (first | ((with_reducible refine gate_callee (f := 38) rfl ?_); refine goesL_ (some 8) rfl rfl Try.func38 (by kernel_rfl) rfl #[.string a0] rfl (by (try simp only [List.map_toArray, List.map_cons, List.map_nil]); first | done | rfl | (simp only [List.length_drop, List.length_take]; rfl)) ?_; (with_reducible refine (octet_split.calls k a0 t217 t218 false _ A2.out).mono ?_); rintro e w' ⟨rfl, ⟨nd, rfl⟩⟩; refine ⟨_, rfl, ?_⟩))
    go_ret
    exact ⟨by first | rfl | (simp; done) | (simp [*]; done), by repeat (first | exact Drawn0.refl _ | apply Drawn0.step)⟩

/-! ### tithingref01_Wild: function 31 -/
def tithingref01_Wild.f (k : Nat) (a0 : ByteArray) : Option (Bool) := if a0.toList = ([61] : List UInt8) then (some true) else ((tithingref01_gap.f k a0).bind fun t220 => (some (decide (t220 ≥ 0))))
theorem tithingref01_Wild.mono : ∀ a0 k, LeO (tithingref01_Wild.f k a0) (tithingref01_Wild.f (k + 1) a0) := by
  intro a0 k
  unfold tithingref01_Wild.f
  repeat' first
      | (with_reducible exact tithingref01_gap.mono _ _)
      | (with_reducible exact LeO.refl _)
      | (with_reducible exact LeO.none _)
      | (with_reducible refine LeO.ite ?_ ?_)
      | (with_reducible refine LeO.bind ?_ (fun _ => ?_))
      | exact tithingref01_gap.mono _ _
      | exact LeO.none _
      | refine LeO.ite ?_ ?_
      | refine LeO.bind ?_ (fun _ => ?_)
set_option maxHeartbeats 8000000 in
set_option maxRecDepth 100000 in
theorem tithingref01_Wild.calls (k : Nat) (a0 : ByteArray) (r : Bool) (w : World) (h : tithingref01_Wild.f k a0 = some r) :
    Calls Try.prog 31 #[.string a0] w fun e w' => e = .returned (.bool r) ∧ Drawn0 w w' := by
  have H : (if a0.toList = ([61] : List UInt8) then (some true) else ((tithingref01_gap.f k a0).bind fun t220 => (some (decide (t220 ≥ 0))))) = some r := h
  clear h
  by_cases c2 : a0.toList = ([61] : List UInt8)
  · rw [if_pos c2] at H
    have c2b0 : (a0.toList == ([61] : List UInt8)) = true := beq_iff_eq.mpr c2
    have c2b1 : (a0.toList != ([61] : List UInt8)) = false := bne_eq_false_iff_eq.mpr c2
    clear c2
    obtain rfl := Option.some.inj H
    go_enter Try.func31, Try.ntmps31
    go_wp2
    go_ret
    exact ⟨by first | rfl | (simp; done) | (simp [*]; done), by repeat (first | exact Drawn0.refl _ | apply Drawn0.step)⟩
  · rw [if_neg c2] at H
    have c2b0 : (a0.toList == ([61] : List UInt8)) = false := beq_eq_false_iff_ne.mpr c2
    have c2b1 : (a0.toList != ([61] : List UInt8)) = true := bne_iff_ne.mpr c2
    replace H := Option.bind_eq_some_iff.mp H
    obtain ⟨t220, A30, H⟩ := H
    replace H : (some (decide (t220 ≥ 0))) = some r := H
    have A3 := Aside0.mk A30
    clear A30
    obtain rfl := Option.some.inj H
    go_enter Try.func31, Try.ntmps31
    go_wp2_with (first | (go_at_call 41; (with_reducible refine (tithingref01_gap.calls k a0 t220 _ A3.out).mono ?_); rintro e w' ⟨rfl, ⟨nd, rfl⟩⟩))
    go_ret
    exact ⟨by first | rfl | (simp; done) | (simp [*]; done), by repeat (first | exact Drawn0.refl _ | apply Drawn0.step)⟩

/-! ### tithinglaw01_OctetFits: function 9 -/
def tithinglaw01_OctetFits.f (k : Nat) (a0 : ByteArray) (a1 : ByteArray) : Option (Bool) := (octet_Fits.f k a0 a1).bind fun t221 => ((tithingref01_Fits.f k a0 a1).bind fun t222 => (if (t221 == t222) = true then ((octet_Wild.f k a0).bind fun t223 => ((tithingref01_Wild.f k a0).bind fun t224 => (if (t223 == t224) = true then ((tithinglaw01_First.f k).bind fun t225 => (some t225)) else (some false)))) else (some false)))
theorem tithinglaw01_OctetFits.mono : ∀ a0 a1 k, LeO (tithinglaw01_OctetFits.f k a0 a1) (tithinglaw01_OctetFits.f (k + 1) a0 a1) := by
  intro a0 a1 k
  unfold tithinglaw01_OctetFits.f
  repeat' first
      | (with_reducible exact octet_Fits.mono _ _ _)
      | (with_reducible exact octet_Wild.mono _ _)
      | (with_reducible exact tithinglaw01_First.mono _)
      | (with_reducible exact tithingref01_Fits.mono _ _ _)
      | (with_reducible exact tithingref01_Wild.mono _ _)
      | (with_reducible exact LeO.refl _)
      | (with_reducible exact LeO.none _)
      | (with_reducible refine LeO.ite ?_ ?_)
      | (with_reducible refine LeO.bind ?_ (fun _ => ?_))
      | exact octet_Fits.mono _ _ _
      | exact octet_Wild.mono _ _
      | exact tithinglaw01_First.mono _
      | exact tithingref01_Fits.mono _ _ _
      | exact tithingref01_Wild.mono _ _
      | exact LeO.none _
      | refine LeO.ite ?_ ?_
      | refine LeO.bind ?_ (fun _ => ?_)
set_option maxHeartbeats 8000000 in
set_option maxRecDepth 100000 in
theorem tithinglaw01_OctetFits.calls (k : Nat) (a0 : ByteArray) (a1 : ByteArray) (r : Bool) (w : World) (h : tithinglaw01_OctetFits.f k a0 a1 = some r) :
    Calls Try.prog 9 #[.string a0, .string a1] w fun e w' => e = .returned (.bool r) ∧ Below w.heap.size w w' := by
  have HB := Aside0.mk (Below.refl w.heap.size w)
  have H : ((octet_Fits.f k a0 a1).bind fun t221 => ((tithingref01_Fits.f k a0 a1).bind fun t222 => (if (t221 == t222) = true then ((octet_Wild.f k a0).bind fun t223 => ((tithingref01_Wild.f k a0).bind fun t224 => (if (t223 == t224) = true then ((tithinglaw01_First.f k).bind fun t225 => (some t225)) else (some false)))) else (some false)))) = some r := h
  clear h
  replace H := Option.bind_eq_some_iff.mp H
  obtain ⟨t221, A30, H⟩ := H
  replace H : ((tithingref01_Fits.f k a0 a1).bind fun t222 => (if (t221 == t222) = true then ((octet_Wild.f k a0).bind fun t223 => ((tithingref01_Wild.f k a0).bind fun t224 => (if (t223 == t224) = true then ((tithinglaw01_First.f k).bind fun t225 => (some t225)) else (some false)))) else (some false))) = some r := H
  have A3 := Aside0.mk A30
  clear A30
  replace H := Option.bind_eq_some_iff.mp H
  obtain ⟨t222, A40, H⟩ := H
  replace H : (if (t221 == t222) = true then ((octet_Wild.f k a0).bind fun t223 => ((tithingref01_Wild.f k a0).bind fun t224 => (if (t223 == t224) = true then ((tithinglaw01_First.f k).bind fun t225 => (some t225)) else (some false)))) else (some false)) = some r := H
  have A4 := Aside0.mk A40
  clear A40
  by_cases c5 : (t221 == t222) = true
  · rw [if_pos c5] at H
    have c5b0 : (t221 == t222) = true := c5
    (try (have c5b1 : decide (t221 = t222) = true := by simpa using c5))
    (try (have c5b2 : (t221 == t222) = true := by simpa using c5))
    clear c5
    replace H := Option.bind_eq_some_iff.mp H
    obtain ⟨t223, A60, H⟩ := H
    replace H : ((tithingref01_Wild.f k a0).bind fun t224 => (if (t223 == t224) = true then ((tithinglaw01_First.f k).bind fun t225 => (some t225)) else (some false))) = some r := H
    have A6 := Aside0.mk A60
    clear A60
    replace H := Option.bind_eq_some_iff.mp H
    obtain ⟨t224, A70, H⟩ := H
    replace H : (if (t223 == t224) = true then ((tithinglaw01_First.f k).bind fun t225 => (some t225)) else (some false)) = some r := H
    have A7 := Aside0.mk A70
    clear A70
    by_cases c8 : (t223 == t224) = true
    · rw [if_pos c8] at H
      have c8b0 : (t223 == t224) = true := c8
      (try (have c8b1 : decide (t223 = t224) = true := by simpa using c8))
      (try (have c8b2 : (t223 == t224) = true := by simpa using c8))
      clear c8
      replace H := Option.bind_eq_some_iff.mp H
      obtain ⟨t225, A90, H⟩ := H
      replace H : (some t225) = some r := H
      have A9 := Aside0.mk A90
      clear A90
      obtain rfl := Option.some.inj H
      go_enter Try.func9, Try.ntmps9
      go_wp2_with (first | ((with_reducible refine gate_callee (f := 28) rfl ?_); refine goesL_ (some 7) rfl rfl Try.func28 (by kernel_rfl) rfl #[.string a0, .string a1] rfl (by (try simp only [List.map_toArray, List.map_cons, List.map_nil]); first | done | rfl | (simp only [List.length_drop, List.length_take]; rfl)) ?_; (with_reducible refine (octet_Fits.calls k a0 a1 t221 _ A3.out).mono ?_); rintro e w10 ⟨rfl, hb⟩; refine ⟨_, rfl, ?_⟩; have n0_ := Aside0.mk (below_step (by repeat (first | (with_reducible first | exact HB.out | apply below_alloc | apply pw_below_drewN | apply below_drew1) | exact HB.out)) hb); clear HB; have HB := n0_; clear n0_; (try clear hb); (try clear hb2); (try clear hk); (try clear hi)) | ((with_reducible refine gate_callee (f := 29) rfl ?_); refine goesL_ (some 10) rfl rfl Try.func29 (by kernel_rfl) rfl #[.string a0, .string a1] rfl (by (try simp only [List.map_toArray, List.map_cons, List.map_nil]); first | done | rfl | (simp only [List.length_drop, List.length_take]; rfl)) ?_; (with_reducible refine (tithingref01_Fits.calls k a0 a1 t222 _ A4.out).mono ?_); rintro e w' ⟨rfl, ⟨nd, rfl⟩⟩; refine ⟨_, rfl, ?_⟩) | (go_at_call 30; (with_reducible refine (octet_Wild.calls k a0 t223 _ A6.out).mono ?_); rintro e w' ⟨rfl, ⟨nd, rfl⟩⟩) | (go_at_call 31; (with_reducible refine (tithingref01_Wild.calls k a0 t224 _ A7.out).mono ?_); rintro e w' ⟨rfl, ⟨nd, rfl⟩⟩) | (go_at_call 13; (with_reducible refine (tithinglaw01_First.calls k  t225 _ A9.out).mono ?_); rintro e w11 ⟨rfl, hb⟩; have n0_ := Aside0.mk (below_step (by repeat (first | (with_reducible first | exact HB.out | apply below_alloc | apply pw_below_drewN | apply below_drew1) | exact HB.out)) hb); clear HB; have HB := n0_; clear n0_; (try clear hb); (try clear hb2); (try clear hk); (try clear hi)))
      go_ret
      exact ⟨by first | rfl | (simp [errW_none, errW_some] <;> rfl) | (simp [*, errW_none, errW_some] <;> rfl), by repeat (first | (with_reducible first | exact HB.out | apply below_alloc | apply pw_below_drewN | apply below_drew1) | exact HB.out)⟩
    · rw [if_neg c8] at H
      have c8b0 : (t223 == t224) = false := by simpa using c8
      (try (have c8b1 : decide (t223 = t224) = false := by simpa using c8))
      (try (have c8b2 : (t223 == t224) = false := by simpa using c8))
      (try (have c8b3 : ¬ (t223 = t224) := by simpa using c8))
      clear c8
      obtain rfl := Option.some.inj H
      go_enter Try.func9, Try.ntmps9
      go_wp2_with (first | ((with_reducible refine gate_callee (f := 28) rfl ?_); refine goesL_ (some 7) rfl rfl Try.func28 (by kernel_rfl) rfl #[.string a0, .string a1] rfl (by (try simp only [List.map_toArray, List.map_cons, List.map_nil]); first | done | rfl | (simp only [List.length_drop, List.length_take]; rfl)) ?_; (with_reducible refine (octet_Fits.calls k a0 a1 t221 _ A3.out).mono ?_); rintro e w12 ⟨rfl, hb⟩; refine ⟨_, rfl, ?_⟩; have n0_ := Aside0.mk (below_step (by repeat (first | (with_reducible first | exact HB.out | apply below_alloc | apply pw_below_drewN | apply below_drew1) | exact HB.out)) hb); clear HB; have HB := n0_; clear n0_; (try clear hb); (try clear hb2); (try clear hk); (try clear hi)) | ((with_reducible refine gate_callee (f := 29) rfl ?_); refine goesL_ (some 10) rfl rfl Try.func29 (by kernel_rfl) rfl #[.string a0, .string a1] rfl (by (try simp only [List.map_toArray, List.map_cons, List.map_nil]); first | done | rfl | (simp only [List.length_drop, List.length_take]; rfl)) ?_; (with_reducible refine (tithingref01_Fits.calls k a0 a1 t222 _ A4.out).mono ?_); rintro e w' ⟨rfl, ⟨nd, rfl⟩⟩; refine ⟨_, rfl, ?_⟩) | (go_at_call 30; (with_reducible refine (octet_Wild.calls k a0 t223 _ A6.out).mono ?_); rintro e w' ⟨rfl, ⟨nd, rfl⟩⟩) | (go_at_call 31; (with_reducible refine (tithingref01_Wild.calls k a0 t224 _ A7.out).mono ?_); rintro e w' ⟨rfl, ⟨nd, rfl⟩⟩))
      go_ret
      exact ⟨by first | rfl | (simp [errW_none, errW_some] <;> rfl) | (simp [*, errW_none, errW_some] <;> rfl), by repeat (first | (with_reducible first | exact HB.out | apply below_alloc | apply pw_below_drewN | apply below_drew1) | exact HB.out)⟩
  · rw [if_neg c5] at H
    have c5b0 : (t221 == t222) = false := by simpa using c5
    (try (have c5b1 : decide (t221 = t222) = false := by simpa using c5))
    (try (have c5b2 : (t221 == t222) = false := by simpa using c5))
    (try (have c5b3 : ¬ (t221 = t222) := by simpa using c5))
    clear c5
    obtain rfl := Option.some.inj H
    go_enter Try.func9, Try.ntmps9
    go_wp2_with (first | ((with_reducible refine gate_callee (f := 28) rfl ?_); refine goesL_ (some 7) rfl rfl Try.func28 (by kernel_rfl) rfl #[.string a0, .string a1] rfl (by (try simp only [List.map_toArray, List.map_cons, List.map_nil]); first | done | rfl | (simp only [List.length_drop, List.length_take]; rfl)) ?_; (with_reducible refine (octet_Fits.calls k a0 a1 t221 _ A3.out).mono ?_); rintro e w13 ⟨rfl, hb⟩; refine ⟨_, rfl, ?_⟩; have n0_ := Aside0.mk (below_step (by repeat (first | (with_reducible first | exact HB.out | apply below_alloc | apply pw_below_drewN | apply below_drew1) | exact HB.out)) hb); clear HB; have HB := n0_; clear n0_; (try clear hb); (try clear hb2); (try clear hk); (try clear hi)) | ((with_reducible refine gate_callee (f := 29) rfl ?_); refine goesL_ (some 10) rfl rfl Try.func29 (by kernel_rfl) rfl #[.string a0, .string a1] rfl (by (try simp only [List.map_toArray, List.map_cons, List.map_nil]); first | done | rfl | (simp only [List.length_drop, List.length_take]; rfl)) ?_; (with_reducible refine (tithingref01_Fits.calls k a0 a1 t222 _ A4.out).mono ?_); rintro e w' ⟨rfl, ⟨nd, rfl⟩⟩; refine ⟨_, rfl, ?_⟩))
    go_ret
    exact ⟨by first | rfl | (simp [errW_none, errW_some] <;> rfl) | (simp [*, errW_none, errW_some] <;> rfl), by repeat (first | (with_reducible first | exact HB.out | apply below_alloc | apply pw_below_drewN | apply below_drew1) | exact HB.out)⟩

end Go.Proofs.Ytlffejjhkeaniaa.M
