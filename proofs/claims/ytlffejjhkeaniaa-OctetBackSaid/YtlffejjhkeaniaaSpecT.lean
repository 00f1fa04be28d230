/- Counted texts: the program's and the document's functions as plain ones. -/
import Derived.Test.YtlffejjhkeaniaaMx9
import Derived.Test.YtlffejjhkeaniaaSpecB
set_option linter.unusedVariables false
namespace Go.Proofs.Ytlffejjhkeaniaa.Spec
open Go.RowKit Go.Proofs.Ytlffejjhkeaniaa.M Go.Proofs.YtlffejjhkeaniaaW.PrintWords Go.Proofs.YtlffejjhkeaniaaW.PrintLast Go.Proofs.YtlffejjhkeaniaaW.PrintMore Go.Proofs.Ytlffejjhkeaniaa.Aux

def putTextS (s : ByteArray) : List Int × Int := if (s.size : Int) > 31 then ([], 2) else ((s.size : Int) :: bytesOf s, 0)
theorem putText_ok (s : ByteArray) : octet_PutText.f s = some (putTextS s) := by
  unfold octet_PutText.f putTextS
  by_cases h : (s.size : Int) > 31
  · rw [if_pos h, if_pos h]
  · rw [if_neg h, if_neg h]
    simp only [Option.bind_some, List.length_singleton]
    rw [if_pos (by omega), show (s.size : Int) % 256 = s.size by omega]
    rfl
theorem putText_ref_ok (s : ByteArray) : tithingref01_PutText.f s = some (putTextS s) := by
  unfold tithingref01_PutText.f putTextS
  by_cases h : (s.size : Int) > 31
  · rw [if_pos h, if_pos h]
  · rw [if_neg h, if_neg h, show (s.size : Int) % 256 = s.size by omega]
    rfl
def getTextS (l : List Int) (at_ : Int) : ByteArray × Int × Int :=
  if at_ < 0 ∨ at_ > l.length then (⟨#[]⟩, 0, 2) else if at_ = l.length then (⟨#[]⟩, 0, 6) else if rd l at_ > 31 then (⟨#[]⟩, 0, 3)
  else if (l.length : Int) - (at_ + 1) < rd l at_ then (⟨#[]⟩, 0, 6) else (strOfNums ((l.drop (at_ + 1).toNat).take (rd l at_).toNat), at_ + 1 + rd l at_, 0)
theorem getS_one (l : List Int) (at_ : Int) : getS l at_ 1 = if at_ < 0 ∨ at_ > l.length then (0, 0, 2) else if at_ = l.length then (0, 0, 6) else (rd l at_, at_ + 1, 0) := by
  unfold getS
  have hw : Wd 1 := .inl rfl
  by_cases h : at_ < 0 ∨ at_ > l.length
  · rw [if_pos (.inr h), if_pos h]
  · rw [if_neg (fun x => x.elim (fun y => y hw) h), if_neg h]
    by_cases e : at_ = l.length
    · rw [if_pos (by omega), if_pos e]
    · rw [if_neg (by omega), if_neg e]
      have h2 : l.drop at_.toNat = rd l at_ :: l.drop (at_.toNat + 1) := rd_drop (by omega) (by omega)
      rw [h2]
      simp [val]
theorem getText_ok (l : List Int) (at_ : Int) (hl : l.length ≤ 140737488351232) (hb : ∀ x ∈ l, 0 ≤ x ∧ x ≤ 255) (h0 : -9223372036854775808 ≤ at_) (h1 : at_ ≤ 9223372036854775807) (k : Nat) (hk : 8 ≤ k) :
    octet_GetText.f k l at_ = some (getTextS l at_) := by
  unfold octet_GetText.f getTextS
  rw [get_ok l at_ 1 hl hb h0 h1 k hk, getS_one]
  simp only [Option.bind_some]
  by_cases h : at_ < 0 ∨ at_ > l.length
  · rw [if_pos h, if_pos h]; rfl
  · rw [if_neg h, if_neg h]
    by_cases e : at_ = l.length
    · rw [if_pos e, if_pos e]; rfl
    · rw [if_neg e, if_neg e]
      dsimp only
      have hc := hb _ (rd_mem (l := l) (i := at_) (by omega) (by omega))
      rw [if_pos rfl]
      by_cases h31 : rd l at_ > 31
      · rw [if_pos h31, if_pos h31]
      · rw [if_neg h31, if_neg h31, w64 (x := (l.length : Int) - (at_ + 1)) (by omega) (by omega)]
        by_cases hs : (l.length : Int) - (at_ + 1) < rd l at_
        · rw [if_pos hs, if_pos hs]
        · rw [if_neg hs, if_neg hs, w64 (x := at_ + 1 + rd l at_) (by omega) (by omega), if_pos (by omega), if_pos (by omega), if_pos (by omega)]
          rw [List.drop_take]
          congr 4
          omega
theorem getText_ref_ok (l : List Int) (at_ : Int) (hl : l.length ≤ 140737488351232) (hb : ∀ x ∈ l, 0 ≤ x ∧ x ≤ 255) (h0 : -9223372036854775808 ≤ at_) (h1 : at_ ≤ 9223372036854775807) (k : Nat) (hk : 8 ≤ k) :
    tithingref01_GetText.f k l at_ = some (getTextS l at_) := by
  obtain ⟨m, rfl⟩ : ∃ m, k = m + 1 := ⟨k - 1, by omega⟩
  unfold tithingref01_GetText.f getTextS
  have bad : tithingref01_GetText.j0 (m + 1) l at_ true = some (⟨#[]⟩, 0, 2) := by simp only [tithingref01_GetText.j0, if_true]
  by_cases ha : at_ < 0
  · rw [if_pos ha, if_pos (.inl ha), bad]
  · rw [if_neg ha]
    by_cases hb2 : at_ > l.length
    · rw [decide_eq_true hb2, bad, if_pos (.inr hb2)]
    · rw [decide_eq_false hb2, if_neg (fun h => h.elim ha hb2)]
      simp only [tithingref01_GetText.j0]
      rw [if_neg (by decide)]
      by_cases e : at_ = l.length
      · rw [if_pos e, if_pos e]
      · rw [if_neg e, if_neg e, if_pos (by omega), if_pos (by omega)]
        have hc := hb _ (rd_mem (l := l) (i := at_) (by omega) (by omega))
        rw [w64 (x := rd l at_) (by omega) (by omega)]
        by_cases h31 : rd l at_ > 31
        · rw [if_pos h31, if_pos h31]
        · rw [if_neg h31, if_neg h31, w64 (x := (l.length : Int) - at_) (by omega) (by omega), w64 (x := (l.length : Int) - at_ - 1) (by omega) (by omega), w64 (x := at_ + 1) (by omega) (by omega)]
          by_cases hs : (l.length : Int) - (at_ + 1) < rd l at_
          · rw [if_pos hs, if_pos (by omega)]
          · rw [if_neg hs, if_neg (by omega), if_pos (by omega), w64 (x := at_ + 1 + rd l at_) (by omega) (by omega), if_pos (by omega), if_pos (by omega)]
            rw [List.drop_take]
            congr 4
            omega
end Go.Proofs.Ytlffejjhkeaniaa.Spec
