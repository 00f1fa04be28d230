/- The walk through OctetOrder: whatever its texts, it comes to true. -/
import Derived.Test.YtlffejjhkeaniaaMx12
import Derived.Test.YtlffejjhkeaniaaSpecF
set_option linter.unusedVariables false
set_option linter.unusedSimpArgs false
namespace Go.Proofs.Ytlffejjhkeaniaa.OrderWalk
open Go.RowKit Go.Proofs.Ytlffejjhkeaniaa.M Go.Proofs.Ytlffejjhkeaniaa.Spec Go.Proofs.YtlffejjhkeaniaaW.PrintWords Go.Proofs.YtlffejjhkeaniaaW.PrintLast Go.Proofs.YtlffejjhkeaniaaW.PrintMore

/-- Which of the answers there may be. -/
def Can (e01 e12 e02 l01 l10 l12 l02 : Bool) : Prop :=
  (e01 = true ∧ e12 = true ∧ e02 = true ∧ l01 = false ∧ l10 = false) ∨ (e01 = true ∧ e12 = false ∧ l01 = false ∧ l10 = false) ∨
  (e01 = false ∧ l01 = true ∧ l10 = false ∧ l12 = true ∧ l02 = true) ∨ (e01 = false ∧ l01 = true ∧ l10 = false ∧ l12 = false) ∨ (e01 = false ∧ l01 = false ∧ l10 = true)
set_option maxHeartbeats 8000000 in
set_option maxRecDepth 100000 in
theorem order_walk (k : Nat) (a0 a1 a2 f1 f2 : ByteArray) (e01 e12 e02 l01 l10 l12 l02 wl ft : Bool) (w : World)
    (hF1 : octet_Fold.f a0 = some f1) (hF2 : octet_Fold.f f1 = some f2) (h00 : octet_Equal.f a0 a0 = some true) (h01 : octet_Equal.f a0 a1 = some e01) (h10 : octet_Equal.f a1 a0 = some e01)
    (h12 : octet_Equal.f a1 a2 = some e12) (h02 : octet_Equal.f a0 a2 = some e02) (g01 : octet_Less.f a0 a1 = some l01) (g10 : octet_Less.f a1 a0 = some l10) (g12 : octet_Less.f a1 a2 = some l12) (g02 : octet_Less.f a0 a2 = some l02)
    (hW : octet_Wild.f k a0 = some wl) (hT : octet_Fits.f k a0 a0 = some ft) (h1 : tithinglaw01_First.f k = some true)
    (hff : (f2.toList == f1.toList) = true) (hcan : Can e01 e12 e02 l01 l10 l12 l02) (hwt : wl = true ∨ wl = false ∧ ft = true) :
    Calls Try.prog 10 #[.string a0, .string a1, .string a2] w fun e w' => e = .returned (.bool true) ∧ Below w.heap.size w w' := by
  have HF1 := Aside0.mk hF1
  have HF2 := Aside0.mk hF2
  have H00 := Aside0.mk h00
  have H1 := Aside0.mk h1
  clear hF1 hF2 h00 h1
  rcases hcan with ⟨rfl, rfl, rfl, rfl, rfl⟩ | ⟨rfl, rfl, rfl, rfl⟩ | ⟨rfl, rfl, rfl, rfl, rfl⟩ | ⟨rfl, rfl, rfl, rfl⟩ | ⟨rfl, rfl, rfl⟩
  all_goals
    have H01 := Aside0.mk h01
    have H10 := Aside0.mk h10
    have H12 := Aside0.mk h12
    have H02 := Aside0.mk h02
    have G01 := Aside0.mk g01
    have G10 := Aside0.mk g10
    have G12 := Aside0.mk g12
    have G02 := Aside0.mk g02
    clear h01 h10 h12 h02 g01 g10 g12 g02
    rcases hwt with rfl | ⟨rfl, rfl⟩
    all_goals
      have HW := Aside0.mk hW
      have HT := Aside0.mk hT
      clear hW hT
      have HB := Aside0.mk (Below.refl w.heap.size w)
      go_enter Try.func10, Try.ntmps10
      go_wp2_with (first | (go_at_call 18; (first | with_reducible refine (octet_Fold.calls a0 f1 _ HF1.out).mono ?_ | with_reducible refine (octet_Fold.calls f1 f2 _ HF2.out).mono ?_); rintro e w1 ⟨rfl, hb⟩; have HB := Aside0.mk (below_step HB.out hb); clear hb) | (go_at_call 20; (first | with_reducible refine (octet_Equal.calls a0 a0 _ _ H00.out).mono ?_ | with_reducible refine (octet_Equal.calls a0 a1 _ _ H01.out).mono ?_ | with_reducible refine (octet_Equal.calls a1 a0 _ _ H10.out).mono ?_ | with_reducible refine (octet_Equal.calls a1 a2 _ _ H12.out).mono ?_ | with_reducible refine (octet_Equal.calls a0 a2 _ _ H02.out).mono ?_); rintro e w1 ⟨rfl, hb⟩; have HB := Aside0.mk (below_step HB.out hb); clear hb) | (go_at_call 22; (first | with_reducible refine (octet_Less.calls a0 a1 _ _ G01.out).mono ?_ | with_reducible refine (octet_Less.calls a1 a0 _ _ G10.out).mono ?_ | with_reducible refine (octet_Less.calls a1 a2 _ _ G12.out).mono ?_ | with_reducible refine (octet_Less.calls a0 a2 _ _ G02.out).mono ?_); rintro e w1 ⟨rfl, hb⟩; have HB := Aside0.mk (below_step HB.out hb); clear hb) | (go_at_call 30; with_reducible refine (octet_Wild.calls k a0 _ _ HW.out).mono ?_; rintro e w1 ⟨rfl, hb⟩; have HB := Aside0.mk (below_step HB.out hb.below); clear hb) | (go_at_call 28; with_reducible refine (octet_Fits.calls k a0 a0 _ _ HT.out).mono ?_; rintro e w1 ⟨rfl, hb⟩; have HB := Aside0.mk (below_step HB.out hb); clear hb) | (go_at_call 13; with_reducible refine (tithinglaw01_First.calls k _ _ H1.out).mono ?_; rintro e w1 ⟨rfl, hb⟩; have HB := Aside0.mk (below_step HB.out hb); clear hb))
      go_ret
      exact ⟨rfl, HB.out⟩
theorem cmpL_swap : ∀ x y : List UInt8, cmpL y x = - cmpL x y
  | [], [] => by simp [cmpL]
  | [], _ :: _ => by simp [cmpL]
  | _ :: _, [] => by simp [cmpL]
  | a :: x, b :: y => by
    simp only [cmpL]
    by_cases h1 : a < b
    · have h2 : ¬ b < a := fun h => absurd (UInt8.lt_trans h1 h) (UInt8.lt_irrefl a)
      rw [if_neg h2, if_pos h1, if_pos h1]; rfl
    · by_cases h2 : b < a
      · rw [if_pos h2, if_neg h1, if_pos h2]
      · rw [if_neg h2, if_neg h1, if_neg h1, if_neg h2]; exact cmpL_swap x y
theorem cmpL_trans : ∀ x y z : List UInt8, cmpL x y < 0 → cmpL y z < 0 → cmpL x z < 0
  | [], _, [] => fun h1 h2 => by
    rename_i y
    cases y <;> simp [cmpL] at h1 h2
  | [], _, _ :: _ => fun _ _ => by simp [cmpL]
  | _ :: _, [], _ => fun h1 _ => by simp [cmpL] at h1
  | _ :: _, _ :: _, [] => fun _ h2 => by simp [cmpL] at h2
  | a :: x, b :: y, c :: z => fun h1 h2 => by
    simp only [cmpL] at h1 h2 ⊢
    by_cases p : a < b
    · by_cases q : b < c
      · rw [if_pos (UInt8.lt_trans p q)]; omega
      · rw [if_neg q] at h2
        by_cases q' : c < b
        · rw [if_pos q'] at h2; omega
        · have : b = c := UInt8.le_antisymm (UInt8.not_lt.1 q') (UInt8.not_lt.1 q)
          subst this
          rw [if_pos p]; omega
    · rw [if_neg p] at h1
      by_cases p' : b < a
      · rw [if_pos p'] at h1; omega
      · have : a = b := UInt8.le_antisymm (UInt8.not_lt.1 p') (UInt8.not_lt.1 p)
        subst this
        rw [if_neg p'] at h1
        by_cases q : a < c
        · rw [if_pos q]; omega
        · rw [if_neg q] at h2 ⊢
          by_cases q' : c < a
          · rw [if_pos q'] at h2; omega
          · rw [if_neg q'] at h2 ⊢
            exact cmpL_trans x y z h1 h2
theorem ways (a b c : ByteArray) : Can (eqS a b) (eqS b c) (eqS a c) (lessS a b) (lessS b a) (lessS b c) (lessS a c) := by
  have hs := cmpL_swap (fs a) (fs b)
  have hz := cmpL_zero (fs a) (fs b)
  have ht := cmpL_trans (fs a) (fs b) (fs c)
  unfold Can eqS lessS ordS
  by_cases h1 : fs a = fs b
  · have z := hz.2 h1
    have l1 : decide (cmpL (fs a) (fs b) < 0) = false := decide_eq_false (by omega)
    have l2 : decide (cmpL (fs b) (fs a) < 0) = false := decide_eq_false (by omega)
    by_cases h2 : fs b = fs c
    · exact .inl ⟨decide_eq_true h1, decide_eq_true h2, decide_eq_true (h1.trans h2), l1, l2⟩
    · exact .inr (.inl ⟨decide_eq_true h1, decide_eq_false h2, l1, l2⟩)
  · have z : cmpL (fs a) (fs b) ≠ 0 := fun h => h1 (hz.1 h)
    by_cases h2 : cmpL (fs a) (fs b) < 0
    · have l2 : decide (cmpL (fs b) (fs a) < 0) = false := decide_eq_false (by omega)
      by_cases h3 : cmpL (fs b) (fs c) < 0
      · exact .inr (.inr (.inl ⟨decide_eq_false h1, decide_eq_true h2, l2, decide_eq_true h3, decide_eq_true (ht h2 h3)⟩))
      · exact .inr (.inr (.inr (.inl ⟨decide_eq_false h1, decide_eq_true h2, l2, decide_eq_false h3⟩)))
    · exact .inr (.inr (.inr (.inr ⟨decide_eq_false h1, decide_eq_false h2, decide_eq_true (by omega)⟩)))
theorem eqS_comm (a b : ByteArray) : eqS a b = eqS b a := by
  unfold eqS
  rw [Bool.eq_iff_iff, decide_eq_true_eq, decide_eq_true_eq]
  exact eq_comm
theorem order_true (a0 a1 a2 : ByteArray) (w : World) (h0 : a0.size ≤ 140737488351232) (h1 : a1.size ≤ 140737488351232) (h2 : a2.size ≤ 140737488351232) :
    Calls Try.prog 10 #[.string a0, .string a1, .string a2] w fun e w' => e = .returned (.bool true) ∧ Below w.heap.size w w' := by
  obtain ⟨r, hr, _⟩ := gap_ok a0 h0
  have hz : (foldS a0).size ≤ 140737488351232 := by rw [size_foldS]; exact h0
  refine order_walk (a0.size + 5) a0 a1 a2 (foldS a0) (foldS (foldS a0)) (eqS a0 a1) (eqS a1 a2) (eqS a0 a2) (lessS a0 a1) (lessS a1 a0) (lessS a1 a2) (lessS a0 a2) (wildS a0 r) (fitsS a0 a0 r) w
    (fold_ok _ h0) (fold_ok _ hz) ?_ (equal_ok _ _ h0 h1) ?_ (equal_ok _ _ h1 h2) (equal_ok _ _ h0 h2) (less_ok _ _ h0 h1) (less_ok _ _ h1 h0) (less_ok _ _ h1 h2) (less_ok _ _ h0 h2)
    (wild_ok a0 h0 r hr _ (by omega)) (fits_ok a0 a0 h0 h0 r hr _ (by omega)) (first_true _ (by omega)) ?_ (ways a0 a1 a2) ?_
  · rw [equal_ok _ _ h0 h0]; simp [eqS]
  · rw [equal_ok _ _ h1 h0, eqS_comm]
  · rw [toList_bs, toList_bs, bs_foldS, bs_foldS, fs_foldS]; simp
  · unfold wildS fitsS
    by_cases h61 : bs a0 = [61]
    · left; simp [h61]
    · by_cases hneg : r < 0
      · right
        rw [if_neg h61, if_pos hneg]
        have : ¬ 0 ≤ r := by omega
        simp [h61, this, eqS]
      · left
        have : 0 ≤ r := by omega
        simp [this]
end Go.Proofs.Ytlffejjhkeaniaa.OrderWalk
