/- Bytes that differ in one byte have different sums, but that both may be 65535. -/
import Derived.Test.YtlffejjhkeaniaaPOctetDifferx1
import Derived.Test.YtlffejjhkeaniaaAux
namespace Go.Proofs.Ytlffejjhkeaniaa.PureD
open Go.RowKit Go.Proofs.Ytlffejjhkeaniaa.POctetDiffer Go.Proofs.YtlffejjhkeaniaaW.PrintWords Go.Proofs.YtlffejjhkeaniaaW.PrintLast Go.Proofs.Ytlffejjhkeaniaa.Aux

theorem sum_loop (l : List Int) (hl : l.length ≤ 140737488351232) (hb : ∀ x ∈ l, 0 ≤ x ∧ x ≤ 255) (d : Nat) : ∀ (k n : Nat) (s : Int), 0 ≤ s → s < 65536 → n + d = l.length → d < k →
    octet_Sum.l0 k s l (l.length : Int) (n : Int) = some (fin (sumFrom s (l.drop n))) := by
  induction d with
  | zero =>
    intro k n s h0 h1 hd hk
    obtain ⟨k, rfl⟩ : ∃ m, k = m + 1 := ⟨k - 1, by omega⟩
    simp only [octet_Sum.l0]
    rw [if_neg (by omega), List.drop_eq_nil_of_le (by omega)]
    rw [show sumFrom s [] = s from rfl]
    unfold fin
    by_cases e : s = 0
    · rw [if_pos e, if_pos e]
    · rw [if_neg e, if_neg e, w64 (x := s) (by omega) (by omega)]
  | succ d ih =>
    intro k n s h0 h1 hd hk
    obtain ⟨k, rfl⟩ : ∃ m, k = m + 1 := ⟨k - 1, by omega⟩
    have hc := hb _ (rd_mem (l := l) (i := (n : Int)) (by omega) (by omega))
    have hs := stepS_range s (rd l n)
    have ht : IntKind.u16.wrap (s + IntKind.u16.wrap (rd l n)) = (s + rd l n) % 65536 := by rw [u16_wrap, u16_wrap]; omega
    simp only [octet_Sum.l0]
    rw [if_pos (by omega), if_pos (by omega), if_pos (by omega), ht, turn_or _ (by omega) (by omega), w64 (x := (n : Int) + 1) (by omega) (by omega), rd_drop rfl (by omega)]
    exact ih k (n + 1) (stepS s (rd l n)) hs.1 hs.2 (by omega) (by omega)

theorem first_true (k : Nat) (hk : 4 ≤ k) : tithinglaw01_First.f k = some true := by
  have h : tithinglaw01_First.f 4 = some true := by decide +kernel
  obtain ⟨d, rfl⟩ : ∃ d, k = 4 + d := ⟨k - 4, by omega⟩
  clear hk
  induction d with
  | zero => exact h
  | succ d ih => exact tithinglaw01_First.mono _ _ ih


theorem step_inj (s t c : Int) (h0 : 0 ≤ s) (h1 : s < 65536) (h2 : 0 ≤ t) (h3 : t < 65536) (h : stepS s c = stepS t c) : s = t := by
  have := turn_inj _ _ (by omega) (by omega) (by omega) (by omega) h
  omega
theorem step_inj2 (s c d : Int) (h0 : 0 ≤ c) (h1 : c ≤ 255) (h2 : 0 ≤ d) (h3 : d ≤ 255) (h : stepS s c = stepS s d) : c = d := by
  have := turn_inj _ _ (by omega) (by omega) (by omega) (by omega) h
  omega
theorem sum_inj (l : List Int) : ∀ s t : Int, 0 ≤ s → s < 65536 → 0 ≤ t → t < 65536 → sumFrom s l = sumFrom t l → s = t := by
  induction l with
  | nil => intro s t _ _ _ _ h; exact h
  | cons c r ih =>
    intro s t h0 h1 h2 h3 h
    exact step_inj s t c h0 h1 h2 h3 (ih _ _ (stepS_range s c).1 (stepS_range s c).2 (stepS_range t c).1 (stepS_range t c).2 h)
theorem sum_set (l : List Int) : ∀ (n : Nat) (s v : Int), 0 ≤ s → s < 65536 → n < l.length → 0 ≤ v → v ≤ 255 → 0 ≤ rd l n → rd l n ≤ 255 → rd l n ≠ v → sumFrom s l ≠ sumFrom s (l.set n v) := by
  induction l with
  | nil => intro n s v _ _ h; simp at h
  | cons c r ih =>
    intro n s v h0 h1 hn hv0 hv1 hr0 hr1 hne
    cases n with
    | zero =>
      have hc : rd (c :: r) ((0 : Nat) : Int) = c := rfl
      rw [hc] at hr0 hr1 hne
      intro h
      have h' := sum_inj r (stepS s c) (stepS s v) (stepS_range s c).1 (stepS_range s c).2 (stepS_range s v).1 (stepS_range s v).2 h
      exact hne (step_inj2 s c v hr0 hr1 hv0 hv1 h')
    | succ n =>
      have hc : rd (c :: r) ((n + 1 : Nat) : Int) = rd r (n : Int) := rfl
      rw [hc] at hr0 hr1 hne
      exact ih n (stepS s c) v (stepS_range s c).1 (stepS_range s c).2 (by simp at hn; omega) hv0 hv1 hr0 hr1 hne
theorem fin_ne (s t : Int) (h : s ≠ t) : fin s ≠ fin t ∨ fin s = 65535 := by
  unfold fin
  by_cases a : s = 0
  · right; rw [if_pos a]
  · by_cases b : t = 0
    · rw [if_neg a, if_pos b]; omega
    · rw [if_neg a, if_neg b]; exact .inl h

theorem core (l : List Int) (hl : l.length ≤ 140737488351232) (hb : ∀ x ∈ l, 0 ≤ x ∧ x ≤ 255) (i y : Int) (h0 : 0 ≤ i) (h1 : i < (l.length : Int)) (hy0 : 0 < y) (hy1 : y < 255) (k : Nat) (hk : l.length + 4 < k) :
    ((octet_Sum.f k l).bind fun t126 => ((octet_Sum.f k (l.set (i : Int).toNat (((rd l i) + y) % 256))).bind fun t127 => (if t126 = t127 then (if t126 = 65535 then ((tithinglaw01_First.f k).bind fun t128 => (some t128)) else (some false)) else ((tithinglaw01_First.f k).bind fun t129 => (some t129))))) = some true := by
  obtain ⟨n, rfl⟩ := Int.eq_ofNat_of_zero_le h0
  have hc := hb _ (rd_mem (l := l) h0 h1)
  have hb2 : ∀ x ∈ l.set n ((rd l n + y) % 256), 0 ≤ x ∧ x ≤ 255 := by
    intro x hx
    rcases List.mem_or_eq_of_mem_set hx with hx | rfl
    · exact hb x hx
    · omega
  have s1 := sum_loop l hl hb l.length k 0 0 (by omega) (by omega) (by omega) (by omega)
  have s2 := sum_loop (l.set n ((rd l n + y) % 256)) (by simpa using hl) hb2 l.length k 0 0 (by omega) (by omega) (by simp) (by omega)
  have hne := sum_set l n 0 ((rd l n + y) % 256) (by omega) (by omega) (by omega) (by omega) (by omega) hc.1 hc.2 (by omega)
  have hf := fin_ne _ _ hne
  unfold octet_Sum.f
  rw [Int.toNat_natCast]
  simp only [Int.natCast_zero, List.drop_zero] at s1 s2
  rw [s1, s2]
  simp only [Option.bind_some]
  rw [first_true k (by omega)]
  rcases hf with hf | hf
  · rw [if_neg hf]; rfl
  · by_cases e : fin (sumFrom 0 l) = fin (sumFrom 0 (l.set n ((rd l n + y) % 256)))
    · rw [if_pos e, if_pos hf]; rfl
    · rw [if_neg e]; rfl

theorem OctetDiffer : tithinglaw01_OctetDiffer.Pure := by
  intro l a y hm hl hb ha hy
  have hb' : ∀ x ∈ l, 0 ≤ x ∧ x ≤ 255 := fun x hx => byte_of hb hx
  have hy' : 0 ≤ y ∧ y ≤ 255 := by simpa [Lit.wf, IntKind.min, IntKind.max, IntKind.signed, IntKind.bits] using hy
  have hF : ∀ k, 4 ≤ k → tithinglaw01_OctetDiffer.j0 (k + 1) l a y true = some true := by
    intro k hk
    simp only [tithinglaw01_OctetDiffer.j0, if_true]
    rw [first_true k hk]; rfl
  refine ⟨l.length + 6 + 1, ?_⟩
  unfold tithinglaw01_OctetDiffer.f
  by_cases e1 : (l.length : Int) = 0
  · rw [if_pos e1]; exact hF _ (by omega)
  by_cases e2 : y = 0
  · rw [if_neg e1, if_pos e2]; exact hF _ (by omega)
  rw [if_neg e1, if_neg e2]
  by_cases e3 : y = 255
  · rw [show (y == 255) = true from by simp [e3]]; exact hF _ (by omega)
  rw [show (y == 255) = false from by simp [e3]]
  have hlt : 0 < (l.length : Int) := by omega
  have hm1 := Int.tmod_lt_of_pos a hlt
  have hm2 : -(l.length : Int) < Int.tmod a l.length := by
    have := Int.lt_tmod_of_pos a hlt
    exact this
  simp only [tithinglaw01_OctetDiffer.j0]
  rw [if_neg (by decide), if_neg e1]
  generalize hr : Int.tmod a (l.length : Int) = r at *
  simp only [Option.bind_some, List.nil_append, List.length_nil, Nat.zero_add]
  by_cases e4 : r < 0
  · have hw : wrap64 (r + (l.length : Int)) = r + l.length := w64 (by omega) (by omega)
    rw [if_pos e4, if_pos (by omega), hw, if_pos (by omega), if_pos (by omega)]
    exact core l (by omega) hb' _ y (by omega) (by omega) (by omega) (by omega) _ (by omega)
  · rw [if_neg e4, if_pos (by omega), if_pos (by omega), if_pos (by omega)]
    exact core l (by omega) hb' _ y (by omega) (by omega) (by omega) (by omega) _ (by omega)

end Go.Proofs.Ytlffejjhkeaniaa.PureD
namespace Go.Proofs.Ytlffejjhkeaniaa.Pure
theorem OctetDiffer : Go.Proofs.Ytlffejjhkeaniaa.POctetDiffer.tithinglaw01_OctetDiffer.Pure := Go.Proofs.Ytlffejjhkeaniaa.PureD.OctetDiffer
end Go.Proofs.Ytlffejjhkeaniaa.Pure
