/- The program's tables of spans are the document's. -/
import Derived.Test.YtngnddnbhlbjbaaVE
namespace Go.Proofs.Ytngnddnbhlbjbaa.V
open Go Go.Proofs.YtngnddnbhlbjbaaV
set_option linter.unusedVariables false
set_option linter.unusedSimpArgs false
theorem isSp_iff (s : Sp) : isSp s = true ↔ 1 ≤ s.by' ∧ 0 ≤ s.from' ∧ s.from' ≤ 2147483647 ∧ (s.many = -1 ∨ 1 ≤ s.many ∧ s.many ≤ 2147483647) := by
  unfold isSp inB
  simp only [Bool.and_eq_true, Bool.or_eq_true, decide_eq_true_eq]
  omega
theorem behindS_of {s : Sp} (h : isSp s = true) : behindS s = if s.many = -1 then 1099511627776 else s.from' + s.many := by
  rw [isSp_iff] at h
  unfold behindS
  split
  · rfl
  · rw [IntKind.wrap_i64]; omega
theorem behindS_gt {s : Sp} (h : isSp s = true) : s.from' < behindS s := by
  rw [behindS_of h]
  rw [isSp_iff] at h
  split <;> omega
theorem meetS_iff (a b : Sp) : meetS a b = true ↔ a.from' < behindS a ∧ a.from' < behindS b ∧ b.from' < behindS a ∧ b.from' < behindS b := by
  unfold meetS
  simp only [decide_eq_true_eq]
  rw [Int.max_def, Int.min_def]
  split <;> split <;> omega
theorem meetS_comm (a b : Sp) : meetS a b = meetS b a := by
  rw [Bool.eq_iff_iff, meetS_iff, meetS_iff]
  constructor <;> (rintro ⟨h1, h2, h3, h4⟩; exact ⟨h4, h3, h2, h1⟩)
theorem spAt_mem {l : List Sp} {k : Nat} (h : k < l.length) : spAt l k ∈ l := List.mem_of_getElem? (spAt_get h)
theorem mem_spAt {l : List Sp} {x : Sp} (h : x ∈ l) : ∃ k, k < l.length ∧ spAt l k = x := by
  obtain ⟨k, hk, rfl⟩ := List.getElem_of_mem h
  refine ⟨k, hk, ?_⟩
  have := spAt_get hk
  rw [List.getElem?_eq_getElem hk] at this
  simp only [Option.some.injEq] at this
  exact this.symm
/-- What the program asks of a table. -/
structure Ok (l : List Sp) : Prop where mk ::
  len : l.length ≤ 60
  sp : ∀ k, k < l.length → isSp (spAt l k) = true
  next : ∀ k, k + 1 < l.length → behindS (spAt l k) ≤ (spAt l (k + 1)).from'
theorem Ok.after {l : List Sp} (h : Ok l) : ∀ {k j : Nat}, j < k → k < l.length → behindS (spAt l j) ≤ (spAt l k).from'
  | 0, j, hj, _ => by omega
  | k + 1, j, hj, hk => by
    rcases Nat.lt_or_ge j k with h1 | h1
    · have h2 := h.after h1 (by omega)
      have h3 := h.next k hk
      have h4 := behindS_gt (h.sp k (by omega))
      omega
    · obtain rfl : j = k := by omega
      exact h.next j hk
theorem Ok.lt {l : List Sp} (h : Ok l) {k j : Nat} (hj : j < k) (hk : k < l.length) : (spAt l j).from' < (spAt l k).from' := by
  have h1 := h.after hj hk
  have h2 := behindS_gt (h.sp j (by omega))
  omega
theorem validS_iff (l : List Sp) : validS l = true ↔ Ok l := by
  unfold validS
  rw [Bool.and_eq_true, List.all_eq_true, decide_eq_true_eq]
  constructor
  · rintro ⟨h1, h2⟩
    refine ⟨h2, fun k hk => ?_, fun k hk => ?_⟩
    · have := h1 k (List.mem_range.2 hk)
      unfold okAt at this
      rw [Bool.and_eq_true] at this
      exact this.1
    · have h3 := h1 (k + 1) (List.mem_range.2 hk)
      have h4 := h1 k (List.mem_range.2 (by omega))
      unfold okAt at h3 h4
      simp only [Bool.and_eq_true, Bool.or_eq_true, decide_eq_true_eq, Nat.add_sub_cancel, Bool.not_eq_true'] at h3 h4
      obtain ⟨h5, h6⟩ := h3
      have h6 : (spAt l k).from' < (spAt l (k + 1)).from' ∧ meetS (spAt l k) (spAt l (k + 1)) = false := by
        rcases h6 with h | h
        · omega
        · exact h
      have h7 := h6.2
      rw [Bool.eq_false_iff, Ne, meetS_iff] at h7
      have h8 := behindS_gt h5
      have h9 := behindS_gt h4.1
      omega
  · intro h
    refine ⟨fun k hk => ?_, h.len⟩
    have hk := List.mem_range.1 hk
    unfold okAt
    simp only [Bool.and_eq_true, Bool.or_eq_true, decide_eq_true_eq, Bool.not_eq_true']
    refine ⟨h.sp k hk, ?_⟩
    cases k with
    | zero => exact .inl rfl
    | succ k =>
      refine .inr ⟨h.lt (by omega) hk, ?_⟩
      rw [Nat.add_sub_cancel, Bool.eq_false_iff, Ne, meetS_iff]
      have := h.next k hk
      omega
theorem Ok.mem {l : List Sp} (h : Ok l) {x : Sp} (hx : x ∈ l) : isSp x = true := by
  obtain ⟨k, hk, rfl⟩ := mem_spAt hx
  exact h.sp k hk
theorem any_congr {l : List Sp} {p q : Sp → Bool} (h : ∀ x ∈ l, p x = q x) : l.any p = l.any q := by
  rw [Bool.eq_iff_iff, List.any_eq_true, List.any_eq_true]
  constructor <;> (rintro ⟨x, hx, hp⟩; exact ⟨x, hx, by first | rwa [← h x hx] | rwa [h x hx]⟩)
/-- What holds where a span may be locked. -/
theorem lockE_zero {l : List Sp} {s : Sp} (h : lockE l s = 0) : Ok l ∧ isSp s = true ∧ (∀ x ∈ l, meetS s x = false) ∧ l.length ≠ 60 := by
  unfold lockE at h
  split at h
  · rename_i h1
    rw [Bool.and_eq_true, validS_iff] at h1
    split at h
    · omega
    split at h
    · omega
    rename_i h2
    split at h
    · omega
    rename_i h3
    refine ⟨h1.1, h1.2, fun x hx => ?_, h3⟩
    have h2 : l.any (meetS s) = false := by simpa using h2
    rw [List.any_eq_false] at h2
    simpa using h2 x hx
  · omega
theorem posS_spec (l : List Sp) (s : Sp) : posS l s ≤ l.length ∧ (∀ j, j < posS l s → (spAt l j).from' < s.from') ∧ (posS l s < l.length → ¬ (spAt l (posS l s)).from' < s.from') := by
  have key : ∀ m, m ≤ l.length → (∀ j, j < m → (spAt l j).from' < s.from') ∨ ∃ k, k < m ∧ (∀ j, j < k → (spAt l j).from' < s.from') ∧ ¬ (spAt l k).from' < s.from' := by
    intro m
    induction m with
    | zero => intro _; exact .inl fun j hj => by omega
    | succ m ih =>
      intro hm
      rcases ih (by omega) with h | ⟨k, h1, h2, h3⟩
      · by_cases hx : (spAt l m).from' < s.from'
        · refine .inl fun j hj => ?_
          rcases Nat.lt_or_ge j m with h1 | h1
          · exact h j h1
          · obtain rfl : j = m := by omega
            exact hx
        · exact .inr ⟨m, by omega, h, hx⟩
      · exact .inr ⟨k, by omega, h2, h3⟩
  rcases key l.length (Nat.le_refl _) with h | ⟨k, h1, h2, h3⟩
  · have e := posS_at (l := l) (s := s) (Nat.le_refl _) h (fun h => by omega)
    rw [e]
    exact ⟨Nat.le_refl _, h, fun h => by omega⟩
  · have e := posS_at (l := l) (s := s) (by omega) h2 (fun _ => h3)
    rw [e]
    exact ⟨by omega, h2, fun _ => h3⟩
theorem take_succ_at {l : List Sp} {k : Nat} (h : k < l.length) : l.take (k + 1) = l.take k ++ [spAt l k] := by rw [List.take_add_one, spAt_get h]; rfl
theorem spEq_iff (a b : Sp) : spEq a b = true ↔ a = b := by
  unfold spEq
  cases a; cases b
  simp
instance : DecidableEq Sp := fun a b => decidable_of_iff (spEq a b = true) (spEq_iff a b)
theorem Ok.inj {l : List Sp} (h : Ok l) {j k : Nat} (hj : j < l.length) (hk : k < l.length) (e : spAt l j = spAt l k) : j = k := by
  rcases Nat.lt_trichotomy j k with h1 | h1 | h1
  · have := h.lt h1 hk; rw [e] at this; omega
  · exact h1
  · have := h.lt h1 hj; rw [e] at this; omega
theorem filter_one {l : List Sp} (h : Ok l) {k : Nat} (hk : k < l.length) {s : Sp} (e : spAt l k = s) : l.filter (fun x => !spEq x s) = l.take k ++ l.drop (k + 1) := by
  have e1 : l = l.take k ++ spAt l k :: l.drop (k + 1) := by rw [← drop_at hk, List.take_append_drop]
  conv => lhs; rw [e1]
  rw [List.filter_append, List.filter_cons]
  have hs : spEq (spAt l k) s = true := (spEq_iff _ _).2 e
  rw [hs]
  simp only [Bool.not_true, Bool.false_eq_true, if_false]
  have f1 : (l.take k).filter (fun x => !spEq x s) = l.take k := by
    rw [List.filter_eq_self]
    intro a ha
    obtain ⟨j, hj, rfl⟩ := List.getElem_of_mem ha
    rw [List.length_take] at hj
    rw [List.getElem_take]
    have h2 := spAt_get (l := l) (k := j) (by omega)
    rw [List.getElem?_eq_getElem (by omega)] at h2
    simp only [Option.some.injEq] at h2
    rw [h2, Bool.not_eq_true', Bool.eq_false_iff, Ne, spEq_iff]
    intro h3
    have := h.inj (by omega) hk (h3.trans e.symm)
    omega
  have f2 : (l.drop (k + 1)).filter (fun x => !spEq x s) = l.drop (k + 1) := by
    rw [List.filter_eq_self]
    intro a ha
    obtain ⟨j, hj, rfl⟩ := List.getElem_of_mem ha
    rw [List.length_drop] at hj
    rw [List.getElem_drop]
    have h2 := spAt_get (l := l) (k := k + 1 + j) (by omega)
    rw [List.getElem?_eq_getElem (by omega)] at h2
    simp only [Option.some.injEq] at h2
    rw [h2, Bool.not_eq_true', Bool.eq_false_iff, Ne, spEq_iff]
    intro h3
    have := h.inj (by omega) hk (h3.trans e.symm)
    omega
  rw [f1, f2]
theorem filter_none {l : List Sp} {s : Sp} (h : idxS (spEq s) l = -1) : l.filter (fun x => !spEq x s) = l := by
  have := idxS_none h
  have e : (fun x => !spEq x s) = fun x => !spEq s x := funext fun x => by
    rw [show spEq x s = spEq s x from by rw [Bool.eq_iff_iff, spEq_iff, spEq_iff]; exact ⟨Eq.symm, Eq.symm⟩]
  rw [e]; exact this
theorem bes_comm (a c : Md) : besS a c = besS c a := by unfold besS; rw [Bool.and_comm]
end Go.Proofs.Ytngnddnbhlbjbaa.V
