/- The sum of bytes: the program's sum is the document's, for each list of bytes. -/
import Derived.Test.YtlffejjhkeaniaaPOctetSumsx1
import Derived.Test.YtlffejjhkeaniaaAux
namespace Go.Proofs.Ytlffejjhkeaniaa.Pure
open Go.RowKit Go.Proofs.Ytlffejjhkeaniaa.POctetSums Go.Proofs.YtlffejjhkeaniaaW.PrintWords Go.Proofs.YtlffejjhkeaniaaW.PrintLast Go.Proofs.Ytlffejjhkeaniaa.Aux

theorem sum_loop (l : List Int) (hl : l.length ≤ 140737488351232) (hb : ∀ x ∈ l, 0 ≤ x ∧ x ≤ 255) (d : Nat) : ∀ (k n : Nat) (s : Int), 0 ≤ s → s < 65536 → n + d = l.length → d < k →
    octet_Sum.l0 k s l (l.length : Int) (n : Int) = some (fin (sumFrom s (l.drop n))) := by
  induction d with
  | zero =>
    intro k n s h0 h1 hd hk
    obtain ⟨k, rfl⟩ : ∃ m, k = m + 1 := ⟨k - 1, by omega⟩
    simp only [octet_Sum.l0]
    rw [if_neg (by omega), List.drop_eq_nil_of_le (by omega)]
    rw [show sumFrom s [] = s from rfl]
    unfold fin
    by_cases e : s = 0
    · rw [if_pos e, if_pos e]
    · rw [if_neg e, if_neg e, w64 (x := s) (by omega) (by omega)]
  | succ d ih =>
    intro k n s h0 h1 hd hk
    obtain ⟨k, rfl⟩ : ∃ m, k = m + 1 := ⟨k - 1, by omega⟩
    have hc := hb _ (rd_mem (l := l) (i := (n : Int)) (by omega) (by omega))
    have hs := stepS_range s (rd l n)
    have ht : IntKind.u16.wrap (s + IntKind.u16.wrap (rd l n)) = (s + rd l n) % 65536 := by rw [u16_wrap, u16_wrap]; omega
    simp only [octet_Sum.l0]
    rw [if_pos (by omega), if_pos (by omega), if_pos (by omega), ht, turn_or _ (by omega) (by omega), w64 (x := (n : Int) + 1) (by omega) (by omega), rd_drop rfl (by omega)]
    exact ih k (n + 1) (stepS s (rd l n)) hs.1 hs.2 (by omega) (by omega)

theorem ref_loop (l : List Int) (hl : l.length ≤ 140737488351232) (hb : ∀ x ∈ l, 0 ≤ x ∧ x ≤ 255) (d : Nat) : ∀ (k n : Nat) (s : Int), 0 ≤ s → s < 65536 → n + d = l.length → d < k →
    tithingref01_Sum.l0 k l s (n : Int) = some (fin (sumFrom s (l.drop n))) := by
  induction d with
  | zero =>
    intro k n s h0 h1 hd hk
    obtain ⟨k, rfl⟩ : ∃ m, k = m + 1 := ⟨k - 1, by omega⟩
    simp only [tithingref01_Sum.l0]
    rw [if_neg (by omega), List.drop_eq_nil_of_le (by omega)]
    rw [show sumFrom s [] = s from rfl]
    unfold fin
    by_cases e : s = 0
    · rw [if_pos e, if_pos e]
    · rw [if_neg e, if_neg e]
  | succ d ih =>
    intro k n s h0 h1 hd hk
    obtain ⟨k, rfl⟩ : ∃ m, k = m + 1 := ⟨k - 1, by omega⟩
    have hc := hb _ (rd_mem (l := l) (i := (n : Int)) (by omega) (by omega))
    have hs := stepS_range s (rd l n)
    have hm : ∀ a : Int, 0 ≤ a → Int.tmod a 65536 = a % 65536 := fun a ha => Int.tmod_eq_emod_of_nonneg ha
    have hd2 : ∀ a : Int, 0 ≤ a → Int.tdiv a 32768 = a / 32768 := fun a ha => Int.tdiv_eq_ediv_of_nonneg ha
    have e1 : wrap64 (rd l n) = rd l n := w64 (by omega) (by omega)
    have e2 : wrap64 (s + rd l n) = s + rd l n := w64 (by omega) (by omega)
    simp only [tithingref01_Sum.l0]
    rw [if_pos (by omega), if_pos (by omega), e1, e2, hm (s + rd l n) (by omega)]
    have e3 : wrap64 ((s + rd l n) % 65536 * 2) = (s + rd l n) % 65536 * 2 := w64 (by omega) (by omega)
    rw [e3, hm ((s + rd l n) % 65536 * 2) (by omega), hd2 ((s + rd l n) % 65536) (by omega)]
    have e4 : wrap64 ((s + rd l n) % 65536 / 32768) = (s + rd l n) % 65536 / 32768 := w64 (by omega) (by omega)
    rw [e4]
    have e5 : wrap64 ((s + rd l n) % 65536 * 2 % 65536 + (s + rd l n) % 65536 / 32768) = stepS s (rd l n) := w64 (by omega) (by omega)
    rw [e5, w64 (x := (n : Int) + 1) (by omega) (by omega), rd_drop rfl (by omega)]
    exact ih k (n + 1) (stepS s (rd l n)) hs.1 hs.2 (by omega) (by omega)

theorem first_true (k : Nat) (hk : 4 ≤ k) : tithinglaw01_First.f k = some true := by
  have h : tithinglaw01_First.f 4 = some true := by decide +kernel
  obtain ⟨d, rfl⟩ : ∃ d, k = 4 + d := ⟨k - 4, by omega⟩
  clear hk
  induction d with
  | zero => exact h
  | succ d ih => exact tithinglaw01_First.mono _ _ ih

theorem OctetSums : tithinglaw01_OctetSums.Pure := by
  intro l hm hl hb
  have hb' : ∀ x ∈ l, 0 ≤ x ∧ x ≤ 255 := fun x hx => byte_of hb hx
  refine ⟨l.length + 5, ?_⟩
  unfold tithinglaw01_OctetSums.f octet_Sum.f tithingref01_Sum.f
  have h1 := sum_loop l (by omega) hb' l.length (l.length + 5) 0 0 (by omega) (by omega) (by omega) (by omega)
  have h2 := ref_loop l (by omega) hb' l.length (l.length + 5) 0 0 (by omega) (by omega) (by omega) (by omega)
  simp only [Int.natCast_zero] at h1 h2
  rw [h1, h2]
  simp only [Option.bind_some, if_true]
  rw [first_true _ (by omega)]
  rfl

end Go.Proofs.Ytlffejjhkeaniaa.Pure
