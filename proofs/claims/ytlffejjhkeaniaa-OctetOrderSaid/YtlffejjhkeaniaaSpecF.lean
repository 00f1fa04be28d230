/- Patterns: which texts they fit, and which are wild: the program's and the document's functions agree. -/
import Derived.Test.YtlffejjhkeaniaaMx12
import Derived.Test.YtlffejjhkeaniaaSpecB
set_option linter.unusedVariables false
namespace Go.Proofs.Ytlffejjhkeaniaa.Spec
open Go.RowKit Go.Proofs.Ytlffejjhkeaniaa.M Go.Proofs.YtlffejjhkeaniaaW.PrintWords Go.Proofs.YtlffejjhkeaniaaW.PrintLast Go.Proofs.YtlffejjhkeaniaaW.PrintMore Go.Proofs.Ytlffejjhkeaniaa.Aux

/-- Where the only byte 197 of a text stands, or -1. -/
def IsGap (s : ByteArray) (r : Int) : Prop :=
  (0 ≤ r ∧ r < s.size ∧ bt s r = 197 ∧ ∀ j : Int, 0 ≤ j → j < s.size → j ≠ r → bt s j ≠ 197) ∨
  (r = -1 ∧ ∀ j : Int, 0 ≤ j → j < s.size → bt s j = 197 → ∃ i : Int, 0 ≤ i ∧ i < s.size ∧ i ≠ j ∧ bt s i = 197)
theorem IsGap.unique {s : ByteArray} {r q : Int} (h1 : IsGap s r) (h2 : IsGap s q) : r = q := by
  rcases h1 with ⟨a0, a1, a2, a3⟩ | ⟨a0, a1⟩ <;> rcases h2 with ⟨b0, b1, b2, b3⟩ | ⟨b0, b1⟩
  · refine Classical.byContradiction fun h => ?_
    exact b3 r a0 a1 h a2
  · obtain ⟨i, i0, i1, i2, i3⟩ := b1 r a0 a1 a2
    exact absurd i3 (a3 i i0 i1 i2)
  · obtain ⟨i, i0, i1, i2, i3⟩ := a1 q b0 b1 b2
    exact absurd i3 (b3 i i0 i1 i2)
  · omega
theorem gap_loop (s : ByteArray) (hs : s.size ≤ 140737488351232) (d : Nat) : ∀ (n k : Nat) (x : Int), n + d = s.size → d + 1 < k →
    (0 ≤ x ∧ x < n ∧ bt s x = 197 ∧ (∀ j : Int, 0 ≤ j → j < n → j ≠ x → bt s j ≠ 197) ∨ x = -1 ∧ ∀ j : Int, 0 ≤ j → j < n → bt s j ≠ 197) →
    ∃ r, tithingref01_gap.l0 k s x (n : Int) = some r ∧ IsGap s r := by
  induction d with
  | zero =>
    intro n k x hn hk hx
    obtain ⟨k, rfl⟩ : ∃ m, k = m + 1 := ⟨k - 1, by omega⟩
    simp only [tithingref01_gap.l0]
    rw [if_neg (by omega)]
    refine ⟨x, rfl, ?_⟩
    rcases hx with ⟨a0, a1, a2, a3⟩ | ⟨a0, a1⟩
    · exact .inl ⟨a0, by omega, a2, fun j h0 h1 h2 => a3 j h0 (by omega) h2⟩
    · exact .inr ⟨a0, fun j h0 h1 h2 => absurd h2 (a1 j h0 (by omega))⟩
  | succ d ih =>
    intro n k x hn hk hx
    obtain ⟨k, rfl⟩ : ∃ m, k = m + 1 := ⟨k - 1, by omega⟩
    simp only [tithingref01_gap.l0]
    rw [if_pos (by omega), if_pos (by omega), w64 (x := (n : Int) + 1) (by omega) (by omega)]
    by_cases hc : bt s n = 197
    · rw [if_pos hc]
      rcases hx with ⟨a0, a1, a2, a3⟩ | ⟨a0, a1⟩
      · rw [if_pos a0]
        refine ⟨-1, rfl, .inr ⟨rfl, fun j h0 h1 h2 => ?_⟩⟩
        by_cases e : j = n
        · exact ⟨x, a0, by omega, by omega, a2⟩
        · exact ⟨n, by omega, by omega, fun h => e h.symm, hc⟩
      · rw [if_neg (by omega)]
        refine ih (n + 1) k n (by omega) (by omega) (.inl ⟨by omega, by omega, hc, fun j h0 h1 h2 => a1 j h0 (by omega)⟩)
    · rw [if_neg hc]
      refine ih (n + 1) k x (by omega) (by omega) ?_
      rcases hx with ⟨a0, a1, a2, a3⟩ | ⟨a0, a1⟩
      · refine .inl ⟨a0, by omega, a2, fun j h0 h1 h2 => ?_⟩
        by_cases e : j = n
        · subst e; exact hc
        · exact a3 j h0 (by omega) h2
      · refine .inr ⟨a0, fun j h0 h1 => ?_⟩
        by_cases e : j = n
        · subst e; exact hc
        · exact a1 j h0 (by omega)
theorem gap_ok (s : ByteArray) (hs : s.size ≤ 140737488351232) : ∃ r, IsGap s r ∧ ∀ k, s.size + 1 < k → tithingref01_gap.f k s = some r := by
  obtain ⟨r, h, hg⟩ := gap_loop s hs s.size 0 (s.size + 2) (-1) (by omega) (by omega) (.inr ⟨rfl, fun j h0 h1 => by omega⟩)
  refine ⟨r, hg, fun k hk => ?_⟩
  obtain ⟨r', h', hg'⟩ := gap_loop s hs s.size 0 k (-1) (by omega) (by omega) (.inr ⟨rfl, fun j h0 h1 => by omega⟩)
  rw [hg.unique hg']
  exact h'
theorem last_loop (s : ByteArray) (hs : s.size ≤ 140737488351232) : ∀ (n k : Nat), n ≤ s.size → n < k →
    ∃ r, bytealg_LastIndexByteString.l0 k s 197 ((n : Int) - 1) = some r ∧ ((r = -1 ∧ ∀ j : Int, 0 ≤ j → j < n → bt s j ≠ 197) ∨ (0 ≤ r ∧ r < n ∧ bt s r = 197 ∧ ∀ j : Int, r < j → j < n → bt s j ≠ 197)) := by
  intro n
  induction n with
  | zero =>
    intro k hn hk
    obtain ⟨k, rfl⟩ : ∃ m, k = m + 1 := ⟨k - 1, by omega⟩
    simp only [bytealg_LastIndexByteString.l0]
    rw [if_neg (by omega)]
    exact ⟨-1, rfl, .inl ⟨rfl, fun j h0 h1 => by omega⟩⟩
  | succ n ih =>
    intro k hn hk
    obtain ⟨k, rfl⟩ : ∃ m, k = m + 1 := ⟨k - 1, by omega⟩
    simp only [bytealg_LastIndexByteString.l0]
    rw [show ((n + 1 : Nat) : Int) - 1 = n by omega, if_pos (by omega), if_pos (by omega), if_pos (by omega)]
    by_cases hc : bt s n = 197
    · rw [if_pos hc]
      exact ⟨n, rfl, .inr ⟨by omega, by omega, hc, fun j h0 h1 => by omega⟩⟩
    · rw [if_neg hc, w64 (x := (n : Int) - 1) (by omega) (by omega)]
      obtain ⟨r, hr, h⟩ := ih k (by omega) (by omega)
      refine ⟨r, hr, ?_⟩
      rcases h with ⟨a0, a1⟩ | ⟨a0, a1, a2, a3⟩
      · refine .inl ⟨a0, fun j h0 h1 => ?_⟩
        by_cases e : j = n
        · subst e; exact hc
        · exact a1 j h0 (by omega)
      · refine .inr ⟨a0, by omega, a2, fun j h0 h1 => ?_⟩
        by_cases e : j = n
        · subst e; exact hc
        · exact a3 j h0 (by omega)
theorem index_spec (l : List UInt8) : (Lib.indexByte l 197 = -1 ∧ ∀ j, j < l.length → l.getD j 0 ≠ 197) ∨ (∃ n : Nat, Lib.indexByte l 197 = n ∧ n < l.length ∧ l.getD n 0 = 197 ∧ ∀ j, j < n → l.getD j 0 ≠ 197) := by
  induction l with
  | nil => exact .inl ⟨rfl, fun j h => by simp at h⟩
  | cons b l ih =>
    simp only [Lib.indexByte]
    by_cases e : b = 197
    · rw [if_pos (by simp [e])]
      exact .inr ⟨0, rfl, by simp, by simpa using e, fun j h => by omega⟩
    · rw [if_neg (by simp [e])]
      rcases ih with ⟨h1, h2⟩ | ⟨n, h1, h2, h3, h4⟩
      · rw [h1]
        refine .inl ⟨rfl, fun j hj => ?_⟩
        cases j with
        | zero => simpa using e
        | succ j => simpa using h2 j (by simpa using hj)
      · rw [h1, if_neg (by simp)]
        refine .inr ⟨n + 1, by omega, by simp; omega, by simpa using h3, fun j hj => ?_⟩
        cases j with
        | zero => simpa using e
        | succ j => simpa using h4 j (by omega)
theorem bt_getD (s : ByteArray) (n : Nat) (h : n < s.size) : bt s n = (((bs s).getD n 0).toNat : Int) := by
  obtain ⟨b, h1, h2⟩ := bt_bs s n h
  rw [h2]
  have h' : n < (bs s).length := by rw [bs_length]; exact h
  rw [List.drop_eq_getElem_cons h'] at h1
  have := (List.cons.inj h1).1
  rw [List.getD_eq_getElem?_getD, List.getElem?_eq_getElem h', this]
  rfl
theorem is197 (b : UInt8) : (b.toNat : Int) = 197 ↔ b = 197 := by
  constructor
  · intro h
    apply UInt8.toNat_inj.1
    have : (197 : UInt8).toNat = 197 := rfl
    omega
  · rintro rfl; rfl
/-- What split tells. -/
def splitS (s : ByteArray) (r : Int) : ByteArray × ByteArray × Bool := if r < 0 then (⟨#[]⟩, ⟨#[]⟩, false) else (s.extract 0 r.toNat, s.extract (r + 1).toNat s.size, true)
theorem split_ok (s : ByteArray) (hs : s.size ≤ 140737488351232) (r : Int) (hr : IsGap s r) (k : Nat) (hk : s.size < k) : octet_split.f k s = some (splitS s r) := by
  unfold octet_split.f strings_IndexByte.f strings_LastIndexByte.f bytealg_LastIndexByteString.f
  simp only [Option.bind_some]
  obtain ⟨q, hq, hq2⟩ := last_loop s hs s.size k (Nat.le_refl _) hk
  rw [w64 (x := (s.size : Int) - 1) (by omega) (by omega), hq]
  simp only [Option.bind_some]
  have hn : (197 : Int).toNat.toUInt8 = 197 := rfl
  rw [hn]
  have key : ∀ j : Nat, j < s.size → (bt s j = 197 ↔ (bs s).getD j 0 = 197) := fun j hj => by rw [bt_getD s j hj, is197]
  rcases index_spec (bs s) with ⟨h1, h2⟩ | ⟨n, h1, h2, h3, h4⟩
  · have e : Lib.indexByte s.data.toList 197 = -1 := h1
    rw [e, if_pos (by omega)]
    have : r = -1 := by
      rcases hr with ⟨a0, a1, a2, a3⟩ | ⟨a0, _⟩
      · exfalso
        obtain ⟨m, rfl⟩ := Int.eq_ofNat_of_zero_le a0
        exact h2 m (by rw [bs_length]; omega) ((key m (by omega)).1 a2)
      · exact a0
    unfold splitS
    rw [if_pos (by omega)]
  · have e : Lib.indexByte s.data.toList 197 = n := h1
    rw [bs_length] at h2
    have hn197 : bt s n = 197 := (key n h2).2 h3
    rw [e, if_neg (by omega)]
    rcases hq2 with ⟨a0, a1⟩ | ⟨a0, a1, a2, a3⟩
    · exact absurd hn197 (a1 n (by omega) (by omega))
    · by_cases eq : q = n
      · have hg : IsGap s n := .inl ⟨by omega, by omega, hn197, fun j h0 hj hne hb => by
          obtain ⟨m, rfl⟩ := Int.eq_ofNat_of_zero_le h0
          rcases Nat.lt_trichotomy m n with h | h | h
          · exact h4 m h ((key m (by omega)).1 hb)
          · exact hne (by omega)
          · exact a3 m (by omega) (by omega) hb⟩
        have := hr.unique hg
        subst this
        unfold splitS
        rw [if_pos eq, if_pos (by omega), if_pos (by omega), w64 (x := (n : Int) + 1) (by omega) (by omega), if_pos (by omega), if_pos (by omega), if_neg (by omega)]
      · rw [if_neg eq]
        have : r = -1 := by
          refine hr.unique (.inr ⟨rfl, fun j h0 hj hb => ?_⟩)
          by_cases e2 : j = q
          · exact ⟨n, by omega, by omega, fun h => eq (by omega), hn197⟩
          · exact ⟨q, a0, a1, fun h => e2 h.symm, a2⟩
        unfold splitS
        rw [if_pos (by omega)]
theorem bs_extract (s : ByteArray) (a b : Nat) : bs (s.extract a b) = ((bs s).take b).drop a := by
  unfold bs
  rw [ByteArray.data_extract]
  simp [List.drop_take]
theorem fs_extract (s : ByteArray) (a b : Nat) : fs (s.extract a b) = ((fs s).take b).drop a := by
  unfold fs
  rw [bs_extract, List.map_drop, List.map_take]
def fitsS (p s : ByteArray) (r : Int) : Bool :=
  if bs p = [61] then true else if r < 0 then eqS p s else
  decide ((s.size : Int) ≥ r + (p.size - r - 1)) && (decide ((fs p).take r.toNat = (fs s).take r.toNat) && decide ((fs p).drop (r.toNat + 1) = (fs s).drop (s.size - (p.size - r.toNat - 1))))
theorem fits_ok (p s : ByteArray) (hp : p.size ≤ 140737488351232) (hs : s.size ≤ 140737488351232) (r : Int) (hr : IsGap p r) (k : Nat) (hk : p.size < k) : octet_Fits.f k p s = some (fitsS p s r) := by
  unfold octet_Fits.f fitsS
  rw [toList_bs]
  by_cases h61 : bs p = [61]
  · rw [if_pos h61, if_pos h61]
  · rw [if_neg h61, if_neg h61, split_ok p hp r hr k hk, Option.bind_some]
    unfold splitS
    by_cases h : r < 0
    · rw [if_pos h, if_pos h, equal_ok p s hp hs]
      rfl
    · rw [if_neg h, if_neg h]
      obtain ⟨n, rfl⟩ := Int.eq_ofNat_of_zero_le (show 0 ≤ r by omega)
      have hn : n < p.size := by rcases hr with ⟨a0, a1, _⟩ | ⟨a0, _⟩ <;> omega
      have z1 : (p.extract 0 (n : Int).toNat).size = n := by rw [← bs_length, bs_extract]; simp [bs_length]; omega
      have z2 : (p.extract ((n : Int) + 1).toNat p.size).size = p.size - n - 1 := by rw [← bs_length, bs_extract]; simp [bs_length]; omega
      have f1 : fs (p.extract 0 (n : Int).toNat) = (fs p).take n := by rw [fs_extract, Int.toNat_natCast, List.drop_zero]
      have f2 : fs (p.extract ((n : Int) + 1).toNat p.size) = (fs p).drop (n + 1) := by
        rw [fs_extract, List.take_of_length_le (by rw [fs_length]; omega), show ((n : Int) + 1).toNat = n + 1 by omega]
      generalize p.extract 0 (n : Int).toNat = fr at *
      generalize p.extract ((n : Int) + 1).toNat p.size = bh at *
      rw [if_pos rfl, fold_ok s hs, Option.bind_some, size_foldS]
      show (if (s.size : Int) ≥ wrap64 ((fr.size : Int) + (bh.size : Int)) then (octet_Fold.f fr).bind fun t209 => (strings_HasPrefix.f (foldS s) t209).bind fun t210 => if t210 = true then (octet_Fold.f bh).bind fun t211 => (strings_HasSuffix.f (foldS s) t211).bind fun t212 => some t212 else some false else some false) = _
      rw [z1, z2, w64 (x := (n : Int) + ((p.size - n - 1 : Nat) : Int)) (by omega) (by omega), Int.toNat_natCast]
      by_cases h3 : (s.size : Int) ≥ (n : Int) + ((p.size - n - 1 : Nat) : Int)
      · rw [if_pos h3, decide_eq_true (p := (s.size : Int) ≥ (n : Int) + ((p.size : Int) - n - 1)) (by omega), fold_ok fr (by omega), Option.bind_some]
        have hpre : strings_HasPrefix.f (foldS s) (foldS fr) = some (decide ((fs p).take n = (fs s).take n)) := by
          unfold strings_HasPrefix.f stringslite_HasPrefix.f
          rw [size_foldS, size_foldS, z1, if_pos (by omega), if_pos (by omega), if_pos (by omega), Option.bind_some, toList_bs, toList_bs, bs_foldS, bs_extract, bs_foldS, f1, Int.toNat_natCast, List.drop_zero]
          congr 1
          rw [Bool.eq_iff_iff, beq_iff_eq, decide_eq_true_eq]
          exact eq_comm
        rw [hpre, Option.bind_some]
        by_cases h4 : (fs p).take n = (fs s).take n
        · rw [decide_eq_true h4, if_pos rfl, fold_ok bh (by omega), Option.bind_some]
          have hsuf : strings_HasSuffix.f (foldS s) (foldS bh) = some (decide ((fs p).drop (n + 1) = (fs s).drop (s.size - (p.size - n - 1)))) := by
            unfold strings_HasSuffix.f stringslite_HasSuffix.f
            rw [size_foldS, size_foldS, z2, w64 (x := (s.size : Int) - ((p.size - n - 1 : Nat) : Int)) (by omega) (by omega), if_pos (by omega), if_pos (by omega), if_pos (by omega), Option.bind_some, toList_bs, toList_bs, bs_foldS, bs_extract, bs_foldS, f2]
            have t1 : ((s.size : Int) - ((p.size - n - 1 : Nat) : Int)).toNat = s.size - (p.size - n - 1) := by omega
            rw [t1, List.take_of_length_le (by rw [fs_length]; omega)]
            congr 1
            rw [Bool.eq_iff_iff, beq_iff_eq, decide_eq_true_eq]
            exact eq_comm
          rw [hsuf, Option.bind_some, Bool.true_and, Bool.true_and]
        · rw [decide_eq_false h4, if_neg (by decide), Bool.false_and, Bool.and_false]
      · rw [if_neg h3, decide_eq_false (p := (s.size : Int) ≥ (n : Int) + ((p.size : Int) - n - 1)) (by omega), Bool.false_and]
theorem fits_ref_ok (p s : ByteArray) (hp : p.size ≤ 140737488351232) (hs : s.size ≤ 140737488351232) (r : Int) (hr : IsGap p r) (k : Nat) (hk : 2 * p.size + 2 < k) : tithingref01_Fits.f k p s = some (fitsS p s r) := by
  unfold tithingref01_Fits.f fitsS
  obtain ⟨r', hr', hf⟩ := gap_ok p hp
  rw [hf k (by omega), hr.unique hr']
  have hr2 := hr'
  clear hf hr
  simp only [Option.bind_some]
  rw [toList_bs]
  by_cases h61 : bs p = [61]
  · rw [if_pos h61, if_pos h61]
  · rw [if_neg h61, if_neg h61]
    by_cases h : r' < 0
    · rw [if_pos h, if_pos h, equal_ref_ok p s hp _ hk]
      rfl
    · rw [if_neg h, if_neg h]
      obtain ⟨n, rfl⟩ := Int.eq_ofNat_of_zero_le (show 0 ≤ r' by omega)
      have hn : n < p.size := by rcases hr2 with ⟨a0, a1, _⟩ | ⟨a0, _⟩ <;> omega
      have z1 : (p.extract 0 (n : Int).toNat).size = n := by rw [← bs_length, bs_extract]; simp [bs_length]; omega
      have z2 : (p.extract ((n : Int) + 1).toNat p.size).size = p.size - n - 1 := by rw [← bs_length, bs_extract]; simp [bs_length]; omega
      rw [w64 (x := (p.size : Int) - n) (by omega) (by omega), w64 (x := (p.size : Int) - n - 1) (by omega) (by omega), w64 (x := (n : Int) + ((p.size : Int) - n - 1)) (by omega) (by omega)]
      by_cases h3 : (s.size : Int) ≥ (n : Int) + ((p.size : Int) - n - 1)
      · rw [if_pos h3, decide_eq_true h3, if_pos (by omega), if_pos (by omega), if_pos (by omega), equal_ref_ok _ _ (by omega) _ (by omega)]
        simp only [Option.bind_some, eqS, fs_extract, Int.toNat_natCast, List.drop_zero, decide_eq_true_eq, Bool.true_and]
        by_cases h4 : (fs p).take n = (fs s).take n
        · rw [if_pos h4, decide_eq_true h4, w64 (x := (n : Int) + 1) (by omega) (by omega), if_pos (by omega), if_pos (by omega), w64 (x := (s.size : Int) - _) (by omega) (by omega), if_pos (by omega), if_pos (by omega), equal_ref_ok _ _ (by omega) _ (by omega)]
          simp only [Option.bind_some, eqS, fs_extract, Bool.true_and]
          congr 1
          have t1 : ((s.size : Int) - ((p.size : Int) - n - 1)).toNat = s.size - (p.size - n - 1) := by omega
          have t2 : ((n : Int) + 1).toNat = n + 1 := by omega
          rw [t1, t2, List.take_of_length_le (by rw [fs_length]; omega), List.take_of_length_le (by rw [fs_length]; omega)]
        · rw [if_neg h4, decide_eq_false h4]
          rfl
      · rw [if_neg h3, decide_eq_false h3]
        rfl
def wildS (p : ByteArray) (r : Int) : Bool := decide (bs p = [61]) || decide (0 ≤ r)
theorem wild_ok (p : ByteArray) (hp : p.size ≤ 140737488351232) (r : Int) (hr : IsGap p r) (k : Nat) (hk : p.size < k) : octet_Wild.f k p = some (wildS p r) := by
  unfold octet_Wild.f wildS
  rw [split_ok p hp r hr k hk, toList_bs]
  simp only [Option.bind_some]
  unfold splitS
  by_cases h : r < 0
  · rw [if_pos h, decide_eq_false (show ¬ 0 ≤ r by omega)]
    simp
    rw [Bool.eq_iff_iff]; simp
  · rw [if_neg h, decide_eq_true (show 0 ≤ r by omega)]
    simp
theorem wild_ref_ok (p : ByteArray) (hp : p.size ≤ 140737488351232) (r : Int) (hr : IsGap p r) (k : Nat) (hk : p.size + 1 < k) : tithingref01_Wild.f k p = some (wildS p r) := by
  unfold tithingref01_Wild.f wildS
  obtain ⟨r', hr', hf⟩ := gap_ok p hp
  rw [hf k hk, hr.unique hr', toList_bs]
  by_cases h61 : bs p = [61]
  · rw [if_pos h61]; simp [h61]
  · rw [if_neg h61]; simp [h61]
end Go.Proofs.Ytlffejjhkeaniaa.Spec
