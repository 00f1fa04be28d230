/- Plain facts on whole numbers that the proofs of this seat share: 64-bit wrapping, 16-bit turning, reading a list. -/
import Derived.RowKit
import Derived.Laws.BitsLemmas
import Derived.Test.YtkmbcjpedmlhfaaWMore
namespace Go.Proofs.Ytkmbcjpedmlhfaa.Aux
open Go.RowKit Go.Proofs.YtkmbcjpedmlhfaaW.PrintWords

theorem w64 {x : Int} (h0 : -9223372036854775808 ≤ x) (h1 : x ≤ 9223372036854775807) : wrap64 x = x := by unfold wrap64; omega
theorem u16_wrap (x : Int) : IntKind.u16.wrap x = x % 65536 := by simp [IntKind.wrap, IntKind.bits, IntKind.signed]
theorem wraps_u16 (n : Int) (h0 : 0 ≤ n) (h1 : n < 2 ^ 16) : IntKind.u16.wrap n = n := by rw [u16_wrap]; omega
/-- A number turned to the left by one bit. -/
def turn (t : Int) : Int := (t * 2) % 65536 + t / 32768
theorem turn_or (t : Int) (h0 : 0 ≤ t) (h1 : t < 65536) : Go.bits .or .u16 (IntKind.u16.wrap (t * 2)) (t / 32768) = turn t := by
  rw [u16_wrap]
  exact bits_join .u16 16 (by decide) wraps_u16 1 _ _ (by omega) (by simp only [Int.reducePow]; omega) (by simp only [Int.reducePow]; omega) (by omega) (by simp only [Int.reducePow]; omega) (by simp only [Int.reducePow]; omega)
theorem turn_range (t : Int) (h0 : 0 ≤ t) (h1 : t < 65536) : 0 ≤ turn t ∧ turn t < 65536 := by unfold turn; omega
theorem turn_inj (s t : Int) (h0 : 0 ≤ s) (h1 : s < 65536) (h2 : 0 ≤ t) (h3 : t < 65536) (h : turn s = turn t) : s = t := by
  unfold turn at h
  rcases Int.lt_or_le s 32768 with a | a <;> rcases Int.lt_or_le t 32768 with b | b
  · rw [show s / 32768 = 0 by omega, show t / 32768 = 0 by omega] at h; omega
  · rw [show s / 32768 = 0 by omega, show t / 32768 = 1 by omega] at h; omega
  · rw [show s / 32768 = 1 by omega, show t / 32768 = 0 by omega] at h; omega
  · rw [show s / 32768 = 1 by omega, show t / 32768 = 1 by omega] at h; omega
/-- One byte more. -/
def stepS (s c : Int) : Int := turn ((s + c) % 65536)
theorem stepS_range (s c : Int) : 0 ≤ stepS s c ∧ stepS s c < 65536 := turn_range _ (by omega) (by omega)
def sumFrom (s : Int) (l : List Int) : Int := l.foldl stepS s
def fin (s : Int) : Int := if s = 0 then 65535 else s
theorem sumFrom_range (l : List Int) : ∀ s, 0 ≤ s → s < 65536 → 0 ≤ sumFrom s l ∧ sumFrom s l < 65536 := by
  induction l with
  | nil => intro s h0 h1; exact ⟨h0, h1⟩
  | cons c r ih => intro s h0 h1; exact ih _ (stepS_range s c).1 (stepS_range s c).2
theorem byte_of {l : List Int} (h : ∀ x ∈ l, (Lit.int .u8 x).wf = true) {x : Int} (hx : x ∈ l) : 0 ≤ x ∧ x ≤ 255 := by
  have := h x hx
  simp [Lit.wf, IntKind.min, IntKind.max, IntKind.signed, IntKind.bits] at this
  omega
theorem rd_drop {l : List Int} {i : Int} {n : Nat} (hi : i = (n : Int)) (h : n < l.length) : l.drop n = rd l i :: l.drop (n + 1) := by
  subst hi
  rw [List.drop_eq_getElem_cons h]
  simp [rd, List.getD_eq_getElem?_getD, List.getElem?_eq_getElem h]
theorem rd_mem {l : List Int} {i : Int} (h0 : 0 ≤ i) (h : i < (l.length : Int)) : rd l i ∈ l := by
  have hn : i.toNat < l.length := by omega
  simp [rd, List.getD_eq_getElem?_getD, List.getElem?_eq_getElem hn]
end Go.Proofs.Ytkmbcjpedmlhfaa.Aux
