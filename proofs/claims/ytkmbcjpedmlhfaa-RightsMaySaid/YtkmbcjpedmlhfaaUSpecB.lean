/- Texts: how they are folded, which are equal, which comes first: the program's and the document's functions as plain ones. -/
import Derived.Test.YtkmbcjpedmlhfaaUx8
import Derived.Test.YtkmbcjpedmlhfaaUx34
import Derived.Test.YtkmbcjpedmlhfaaAux
set_option linter.unusedVariables false
namespace Go.Proofs.Ytkmbcjpedmlhfaa.USpec
open Go.RowKit Go.Proofs.Ytkmbcjpedmlhfaa.U Go.Proofs.YtkmbcjpedmlhfaaW.PrintWords Go.Proofs.YtkmbcjpedmlhfaaW.PrintLast Go.Proofs.YtkmbcjpedmlhfaaW.PrintMore Go.Proofs.Ytkmbcjpedmlhfaa.Aux

theorem foldC_range (c : Int) (h0 : 0 ≤ c) (h1 : c ≤ 255) : 0 ≤ foldC c ∧ foldC c ≤ 255 := by
  unfold foldC
  split
  · omega
  · split <;> omega
theorem foldC_twice (c : Int) (h0 : 0 ≤ c) (h1 : c ≤ 255) : foldC (foldC c) = foldC c := by
  unfold foldC
  repeat' split
  all_goals omega
def foldU (b : UInt8) : UInt8 := UInt8.ofNat (foldC b.toNat).toNat
theorem foldU_toNat (b : UInt8) : ((foldU b).toNat : Int) = foldC b.toNat := by
  have hb := b.toNat_lt
  have := foldC_range b.toNat (by omega) (by omega)
  unfold foldU
  rw [UInt8.toNat_ofNat_of_lt' (by simp [UInt8.size]; omega)]
  omega
theorem foldU_twice (b : UInt8) : foldU (foldU b) = foldU b := by
  have hb := b.toNat_lt
  apply UInt8.toNat_inj.1
  have h1 := foldU_toNat (foldU b)
  have h2 := foldU_toNat b
  rw [h2, foldC_twice _ (by omega) (by omega)] at h1
  omega
/-- A text's bytes. -/
def bs (s : ByteArray) : List UInt8 := s.data.toList
/-- A text's bytes, folded. -/
def fs (s : ByteArray) : List UInt8 := (bs s).map foldU
theorem bs_length (s : ByteArray) : (bs s).length = s.size := data_length s
theorem fs_length (s : ByteArray) : (fs s).length = s.size := by simp [fs, bs_length]
theorem toList_bs (s : ByteArray) : s.toList = bs s := ByteArray.toList_eq s
theorem bs_foldS (s : ByteArray) : bs (foldS s) = fs s := by
  unfold bs foldS fs
  rw [strOfNums_data]
  simp only [bytesOf, List.map_map]
  rfl
theorem size_foldS (s : ByteArray) : (foldS s).size = s.size := by rw [← bs_length, bs_foldS, fs_length]
theorem fs_foldS (s : ByteArray) : fs (foldS s) = fs s := by
  unfold fs
  rw [bs_foldS]
  unfold fs
  rw [List.map_map]
  apply List.map_congr_left
  intro b _
  exact foldU_twice b
theorem fold_ok (s : ByteArray) (h : s.size ≤ 140737488351232) : octet_Fold.f s = some (foldS s) := by
  unfold octet_Fold.f
  rw [if_pos (by omega)]
theorem upper_ok (c : Int) (h0 : 0 ≤ c) (h1 : c ≤ 255) (k : Nat) (hk : 1 ≤ k) : tithingref01_Upper.f k c = some (foldC c) := by
  obtain ⟨k, rfl⟩ : ∃ m, k = m + 1 := ⟨k - 1, by omega⟩
  unfold tithingref01_Upper.f foldC
  simp only [tithingref01_Upper.j0, decide_eq_true_eq]
  repeat' split
  all_goals first | (exfalso; omega) | (congr 1; omega) | simp_all
theorem bt_bs (s : ByteArray) (n : Nat) (h : n < s.size) : ∃ b, (bs s).drop n = b :: (bs s).drop (n + 1) ∧ bt s n = (b.toNat : Int) := by
  have h' : n < (bs s).length := by rw [bs_length]; exact h
  refine ⟨(bs s)[n], List.drop_eq_getElem_cons h', ?_⟩
  simp only [bt, Int.toNat_natCast, h, dif_pos]
  rfl
/-- How two rows of bytes stand to each other. -/
def cmpL : List UInt8 → List UInt8 → Int
  | [], [] => 0
  | [], _ :: _ => -1
  | _ :: _, [] => 1
  | a :: x, b :: y => if a < b then -1 else if b < a then 1 else cmpL x y
theorem cmpL_zero : ∀ x y : List UInt8, cmpL x y = 0 ↔ x = y
  | [], [] => by simp [cmpL]
  | [], _ :: _ => by simp [cmpL]
  | _ :: _, [] => by simp [cmpL]
  | a :: x, b :: y => by
    simp only [cmpL]
    by_cases h1 : a < b
    · rw [if_pos h1]
      have : a ≠ b := by rintro rfl; exact absurd h1 (by simp)
      simp [this]
    · by_cases h2 : b < a
      · rw [if_neg h1, if_pos h2]
        have : a ≠ b := by rintro rfl; exact absurd h2 (by simp)
        simp [this]
      · rw [if_neg h1, if_neg h2, cmpL_zero x y]
        have : a = b := UInt8.le_antisymm (UInt8.not_lt.1 h2) (UInt8.not_lt.1 h1)
        simp [this]
theorem cmpL_less : ∀ x y : List UInt8, Op.bytesLess x y = decide (cmpL x y < 0)
  | [], [] => by simp [cmpL, Op.bytesLess]
  | [], _ :: _ => by simp [cmpL, Op.bytesLess]
  | _ :: _, [] => by simp [cmpL, Op.bytesLess]
  | a :: x, b :: y => by
    simp only [cmpL, Op.bytesLess]
    by_cases h1 : a < b
    · simp [h1]
    · by_cases h2 : b < a
      · have : a ≠ b := by rintro rfl; exact absurd h2 (by simp)
        simp [h1, h2, this]
      · have : a = b := UInt8.le_antisymm (UInt8.not_lt.1 h2) (UInt8.not_lt.1 h1)
        subst this
        simp only [h1, decide_false, Bool.false_or, beq_self_eq_true, Bool.true_and, if_false]
        exact cmpL_less x y
def ordS (a b : ByteArray) : Int := cmpL (fs a) (fs b)
theorem order_loop (a b : ByteArray) (ha : a.size ≤ 140737488351232) (d : Nat) : ∀ (n k : Nat), n + d = a.size → n ≤ b.size → 2 * d + 2 < k →
    tithingref01_Order.l0 k a b (n : Int) = some (cmpL ((fs a).drop n) ((fs b).drop n)) := by
  have tail : ∀ (k n : Nat), n ≤ a.size → n ≤ b.size → (n = a.size ∨ n = b.size) → tithingref01_Order.j1 (k + 1) a b (n : Int) false = some (cmpL ((fs a).drop n) ((fs b).drop n)) := by
    intro k n h1 h2 h3
    simp only [tithingref01_Order.j1]
    rw [if_neg (by decide)]
    rcases Nat.lt_trichotomy a.size b.size with h | h | h
    · rw [if_pos (by omega)]
      have : n = a.size := by omega
      rw [List.drop_eq_nil_of_le (by rw [fs_length]; omega), List.drop_eq_getElem_cons (by rw [fs_length]; omega)]
      rfl
    · rw [if_neg (by omega), if_neg (by omega), List.drop_eq_nil_of_le (by rw [fs_length]; omega), List.drop_eq_nil_of_le (by rw [fs_length]; omega)]
      rfl
    · rw [if_neg (by omega), if_pos (by omega), show (fs b).drop n = [] from List.drop_eq_nil_of_le (by rw [fs_length]; omega), List.drop_eq_getElem_cons (by rw [fs_length]; omega)]
      rfl
  induction d with
  | zero =>
    intro n k hn hb hk
    obtain ⟨k, rfl⟩ : ∃ m, k = m + 2 := ⟨k - 2, by omega⟩
    simp only [tithingref01_Order.l0]
    rw [if_neg (by omega)]
    exact tail k n (by omega) hb (.inl (by omega))
  | succ d ih =>
    intro n k hn hb hk
    obtain ⟨k, rfl⟩ : ∃ m, k = m + 2 := ⟨k - 2, by omega⟩
    simp only [tithingref01_Order.l0]
    rw [if_pos (by omega)]
    by_cases hlt : n < b.size
    · rw [decide_eq_true (by omega)]
      simp only [tithingref01_Order.j1, if_true]
      have ra := bt_range a n
      have rb := bt_range b n
      rw [if_pos (by omega), if_pos (by omega), upper_ok _ ra.1 ra.2 _ (by omega)]
      simp only [Option.bind_some]
      rw [if_pos (by omega), upper_ok _ rb.1 rb.2 _ (by omega)]
      simp only [Option.bind_some]
      obtain ⟨p, hp, ep⟩ := bt_bs a n (by omega)
      obtain ⟨q, hq, eq⟩ := bt_bs b n (by omega)
      have h1 : (fs a).drop n = foldU p :: (fs a).drop (n + 1) := by unfold fs; rw [← List.map_drop, hp, ← List.map_drop]; rfl
      have h2 : (fs b).drop n = foldU q :: (fs b).drop (n + 1) := by unfold fs; rw [← List.map_drop, hq, ← List.map_drop]; rfl
      rw [ep, eq, ← foldU_toNat, ← foldU_toNat, h1, h2]
      simp only [cmpL]
      by_cases c1 : foldU p < foldU q
      · rw [if_pos c1, if_pos (by have := UInt8.lt_iff_toNat_lt.1 c1; omega)]
      · by_cases c2 : foldU q < foldU p
        · rw [if_neg c1, if_pos c2, if_neg (by have := mt UInt8.lt_iff_toNat_lt.2 c1; omega), if_pos (by have := UInt8.lt_iff_toNat_lt.1 c2; omega)]
        · rw [if_neg c1, if_neg c2, if_neg (by have := mt UInt8.lt_iff_toNat_lt.2 c1; omega), if_neg (by have := mt UInt8.lt_iff_toNat_lt.2 c2; omega), w64 (x := (n : Int) + 1) (by omega) (by omega)]
          exact ih (n + 1) k (by omega) (by omega) (by omega)
    · rw [decide_eq_false (by omega)]
      exact tail k n (by omega) (by omega) (.inr (by omega))
theorem order_ok (a b : ByteArray) (ha : a.size ≤ 140737488351232) (k : Nat) (hk : 2 * a.size + 2 < k) : tithingref01_Order.f k a b = some (ordS a b) :=
  order_loop a b ha a.size 0 k (by omega) (by omega) hk
def eqS (a b : ByteArray) : Bool := decide (fs a = fs b)
def lessS (a b : ByteArray) : Bool := decide (ordS a b < 0)
theorem equal_ok (a b : ByteArray) (ha : a.size ≤ 140737488351232) (hb : b.size ≤ 140737488351232) : octet_Equal.f a b = some (eqS a b) := by
  unfold octet_Equal.f
  rw [fold_ok a ha, fold_ok b hb]
  simp only [Option.bind_some, toList_bs, bs_foldS]
  congr 1
  unfold eqS
  rw [Bool.eq_iff_iff]; simp
theorem equal_ref_ok (a b : ByteArray) (ha : a.size ≤ 140737488351232) (k : Nat) (hk : 2 * a.size + 2 < k) : tithingref01_Equal.f k a b = some (eqS a b) := by
  unfold tithingref01_Equal.f
  rw [order_ok a b ha k hk]
  simp only [Option.bind_some]
  congr 1
  unfold eqS ordS
  rw [Bool.eq_iff_iff]; simp [cmpL_zero]
theorem eqN_eqS (a b : ByteArray) : eqN a b = eqS a b := by
  unfold eqN eqS
  rw [toList_bs, toList_bs, bs_foldS, bs_foldS, Bool.eq_iff_iff]; simp
theorem eqS_comm (a b : ByteArray) : eqS a b = eqS b a := by
  unfold eqS; rw [Bool.eq_iff_iff, decide_eq_true_eq, decide_eq_true_eq]; exact ⟨fun h => h.symm, fun h => h.symm⟩
end Go.Proofs.Ytkmbcjpedmlhfaa.USpec
