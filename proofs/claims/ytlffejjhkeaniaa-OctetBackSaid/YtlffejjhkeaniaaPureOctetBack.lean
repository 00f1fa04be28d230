/- Numbers and texts are read back, at any offset, with any bytes behind (at most 10000 bytes around). -/
import Derived.Test.YtlffejjhkeaniaaMx10
import Derived.Test.YtlffejjhkeaniaaSpecT
set_option linter.unusedVariables false
namespace Go.Proofs.Ytlffejjhkeaniaa.Pure
open Go.RowKit Go.Proofs.Ytlffejjhkeaniaa.M Go.Proofs.YtlffejjhkeaniaaW.PrintWords Go.Proofs.YtlffejjhkeaniaaW.PrintLast Go.Proofs.YtlffejjhkeaniaaW.PrintMore Go.Proofs.Ytlffejjhkeaniaa.Spec Go.Proofs.Ytlffejjhkeaniaa.Aux

theorem digits_length (n v : Int) (hw : Wd n) : ((digits n v).length : Int) = n := by
  unfold digits
  rcases hw with rfl | rfl | rfl <;> rfl
theorem digits_val (n v : Int) (hw : Wd n) (h0 : 0 ≤ v) (h1 : v < top n) : val (digits n v) = v ∧ ∀ x ∈ digits n v, 0 ≤ x ∧ x ≤ 255 := by
  unfold digits top val at *
  rcases hw with rfl | rfl | rfl
  · simp at h1 ⊢; omega
  · simp at h1 ⊢; omega
  · simp at h1 ⊢; omega
theorem put_two (n v : Int) : (putS n v = (digits n v, 0) ∧ Wd n ∧ 0 ≤ v ∧ v < top n) ∨ putS n v = ([], 2) := by
  unfold putS
  by_cases h : Wd n ∧ 0 ≤ v ∧ v < top n
  · rw [if_pos h]; exact .inl ⟨rfl, h⟩
  · rw [if_neg h]; exact .inr rfl
theorem take_mid (a x b : List Int) (n : Nat) (h : x.length = n) : ((a ++ x ++ b).drop a.length).take n = x := by
  rw [List.append_assoc, List.drop_left, ← h, List.take_left]
theorem get_back (a b : List Int) (n v : Int) (hw : Wd n) (h0 : 0 ≤ v) (h1 : v < top n) : getS (a ++ digits n v ++ b) (a.length : Int) n = (v, a.length + n, 0) := by
  have hl := digits_length n v hw
  unfold getS
  rw [if_neg (by simp [hw]; omega), if_neg (by simp; omega), Int.toNat_natCast, take_mid a _ b _ (by omega), (digits_val n v hw h0 h1).1]
theorem text_two (s : ByteArray) : (putTextS s = ((s.size : Int) :: bytesOf s, 0) ∧ s.size ≤ 31) ∨ putTextS s = ([], 2) := by
  unfold putTextS
  by_cases h : (s.size : Int) > 31
  · rw [if_pos h]; exact .inr rfl
  · rw [if_neg h]; exact .inl ⟨rfl, by omega⟩
theorem bytes_range (s : ByteArray) : ∀ x ∈ bytesOf s, 0 ≤ x ∧ x ≤ 255 := by
  intro x hx
  unfold bytesOf at hx
  obtain ⟨b, _, rfl⟩ := List.mem_map.1 hx
  have := b.toNat_lt
  omega
theorem strOf_bytes (s : ByteArray) : strOfNums (bytesOf s) = s := by
  apply ByteArray.ext
  apply Array.ext'
  show (strOfNums (bytesOf s)).data.toList = _
  rw [strOfNums_data]
  unfold bytesOf
  rw [List.map_map]
  have : ((fun n : Int => UInt8.ofNat n.toNat) ∘ fun b : UInt8 => (b.toNat : Int)) = id := by
    funext b
    simp
  rw [this, List.map_id]
theorem text_back (a b : List Int) (s : ByteArray) (hs : s.size ≤ 31) : getTextS (a ++ ((s.size : Int) :: bytesOf s) ++ b) (a.length : Int) = (s, (a.length : Int) + 1 + s.size, 0) := by
  have hl : (bytesOf s).length = s.size := bytesOf_length s
  have hr : rd (a ++ ((s.size : Int) :: bytesOf s) ++ b) (a.length : Int) = s.size := by
    simp [rd, List.getD_eq_getElem?_getD]
  have hlen : (((a ++ ((s.size : Int) :: bytesOf s) ++ b).length : Nat) : Int) = a.length + 1 + s.size + b.length := by simp [hl]; omega
  unfold getTextS
  rw [if_neg (by omega), if_neg (by omega), hr, if_neg (by omega), if_neg (by omega)]
  have e : ((a ++ ((s.size : Int) :: bytesOf s) ++ b).drop ((a.length : Int) + 1).toNat).take (s.size : Int).toNat = bytesOf s := by
    have := take_mid (a ++ [(s.size : Int)]) (bytesOf s) b s.size hl
    simp only [List.append_assoc, List.cons_append, List.nil_append, List.length_append, List.length_singleton] at this ⊢
    rw [show ((a.length : Int) + 1).toNat = a.length + 1 by omega, Int.toNat_natCast]
    exact this
  rw [e, strOf_bytes]

theorem OctetBack (a0_0 : Int) (a0_1 : Int) (a0_2 : Int) (a1 : ByteArray) (l2_0 : List Int) (l2_1 : List Int) (w0_0 : (Lit.int .i64 a0_0).wf = true) (w0_1 : (Lit.int .i64 a0_1).wf = true) (w0_2 : (Lit.int .i64 a0_2).wf = true) (w1 : a1.size ≤ 140737488351232) (w2_0 : l2_0.length * 1 ≤ 140737488351232 ∧ l2_0.length ≤ maxLen ∧ ∀ x3_ ∈ l2_0, (Lit.int .u8 x3_).wf = true) (w2_1 : l2_1.length * 1 ≤ 140737488351232 ∧ l2_1.length ≤ maxLen ∧ ∀ x4_ ∈ l2_1, (Lit.int .u8 x4_).wf = true) : ∃ k, tithinglaw01_OctetBack.f k a0_0 a0_1 a0_2 a1 l2_0 l2_1 = some true := by
  obtain ⟨f1, _, f3⟩ := w2_0
  obtain ⟨b1, _, b3⟩ := w2_1
  have hbf : ∀ x ∈ l2_0, 0 ≤ x ∧ x ≤ 255 := fun x hx => byte_of f3 hx
  have hbb : ∀ x ∈ l2_1, 0 ≤ x ∧ x ≤ 255 := fun x hx => byte_of b3 hx
  have v := i64_of w0_1
  have hfirst : ∀ k, 4 ≤ k → ((tithinglaw01_First.f k).bind fun t => some t) = some true := fun k hk => by rw [first_true k hk]; rfl
  -- behind the numbers
  have hj2 : ∀ k, 4 ≤ k → tithinglaw01_OctetBack.j2 (k + 1) false = some true := fun k hk => by
    simp only [tithinglaw01_OctetBack.j2]
    rw [if_neg (by decide)]
    exact hfirst k hk
  refine ⟨30, ?_⟩
  unfold tithinglaw01_OctetBack.f
  rw [w64 (x := (l2_0.length : Int) + l2_1.length) (by omega) (by omega)]
  by_cases hlen : (l2_0.length : Int) + l2_1.length > 10000
  · rw [if_pos hlen]; exact hfirst _ (by omega)
  rw [if_neg hlen, put_ok _ _ v.1 v.2 _ (by omega), Option.bind_some, putText_ok, Option.bind_some]
  -- behind the texts
  have hj1 : ∀ k, 20 ≤ k → tithinglaw01_OctetBack.j1 (k + 1) a1 l2_0 l2_1 (putTextS a1).1 (putTextS a1).2 = some true := fun k hk => by
    simp only [tithinglaw01_OctetBack.j1]
    rcases text_two a1 with ⟨ht, hs⟩ | ht
    · have hz : (((a1.size : Int) :: bytesOf a1).length : Nat) = a1.size + 1 := by simp [bytesOf_length]
      rw [ht, if_pos rfl, Option.bind_some, if_pos (by simp; omega), Option.bind_some, if_pos (by rw [hz]; simp; omega), Option.bind_some, if_pos (by rw [List.length_append, List.length_append, hz]; simp; omega)]
      rw [List.nil_append, getText_ok _ _ (by rw [List.length_append, List.length_append, hz]; omega) (by
        intro x hx
        simp only [List.mem_append, List.mem_cons] at hx
        rcases hx with (hx | hx | hx) | hx
        · exact hbf x hx
        · omega
        · exact bytes_range a1 x hx
        · exact hbb x hx) (by omega) (by omega) _ (by omega), Option.bind_some, text_back _ _ _ hs, if_pos rfl, if_pos rfl]
      rw [w64 (x := (l2_0.length : Int) + 1) (by omega) (by omega), w64 (x := (l2_0.length : Int) + 1 + a1.size) (by omega) (by omega), show ((l2_0.length : Int) + 1 + a1.size != (l2_0.length : Int) + 1 + a1.size) = false by simp]
      obtain ⟨k, rfl⟩ : ∃ m, k = m + 1 := ⟨k - 1, by omega⟩
      exact hj2 k (by omega)
    · rw [ht, if_neg (by decide)]
      exact hfirst k (by omega)
  have hj0 : ∀ k, 21 ≤ k → tithinglaw01_OctetBack.j0 (k + 1) a1 l2_0 l2_1 (putTextS a1).1 (putTextS a1).2 false = some true := fun k hk => by
    simp only [tithinglaw01_OctetBack.j0]
    rw [if_neg (by decide)]
    obtain ⟨k, rfl⟩ : ∃ m, k = m + 1 := ⟨k - 1, by omega⟩
    exact hj1 k (by omega)
  rcases put_two a0_0 a0_1 with ⟨hp, hw, h0, h1⟩ | hp
  · have hl := digits_length a0_0 a0_1 hw
    have hn : 1 ≤ a0_0 ∧ a0_0 ≤ 4 := by rcases hw with rfl | rfl | rfl <;> omega
    rw [hp, if_pos rfl, Option.bind_some, if_pos (by simp; omega), Option.bind_some, if_pos (by simp; omega), Option.bind_some, if_pos (by simp; omega)]
    rw [List.nil_append, get_ok _ _ _ (by simp; omega) (by
        intro x hx
        simp only [List.mem_append] at hx
        rcases hx with (hx | hx) | hx
        · exact hbf x hx
        · exact (digits_val a0_0 a0_1 hw h0 h1).2 x hx
        · exact hbb x hx) (by omega) (by omega) _ (by omega), Option.bind_some, get_back _ _ _ _ hw h0 h1, if_pos rfl, if_pos rfl, w64 (x := (l2_0.length : Int) + a0_0) (by omega) (by omega), if_pos rfl]
    rw [show (((digits a0_0 a0_1).length : Int) != a0_0) = false by simp [hl]]
    exact hj0 29 (by omega)
  · rw [hp, if_neg (by decide)]
    exact hj1 29 (by omega)

end Go.Proofs.Ytlffejjhkeaniaa.Pure
