/- Users, rights, who has what: the program's and the document's functions as plain ones. -/
import Derived.Test.YtkmbcjpedmlhfaaMx15
import Derived.Test.YtkmbcjpedmlhfaaSpecB
set_option linter.unusedVariables false
namespace Go.Proofs.Ytkmbcjpedmlhfaa.Spec
open Go.RowKit Go.Proofs.Ytkmbcjpedmlhfaa.M Go.Proofs.YtkmbcjpedmlhfaaW.PrintWords Go.Proofs.YtkmbcjpedmlhfaaW.PrintLast Go.Proofs.YtkmbcjpedmlhfaaW.PrintMore Go.Proofs.Ytkmbcjpedmlhfaa.Aux

/-- More rounds tell the same. -/
theorem up {α : Type} {f : Nat → Option α} {r : α} (hm : ∀ k, LeO (f k) (f (k + 1))) {m k : Nat} (h : f m = some r) (hk : m ≤ k) : f k = some r := by
  obtain ⟨d, rfl⟩ : ∃ d, k = m + d := ⟨k - m, by omega⟩
  clear hk
  induction d with
  | zero => exact h
  | succ d ih => exact hm _ _ ih

def groupsOk (l : List Int) : Bool := decide (∀ i : Nat, i < l.length → 1 ≤ rd l i ∧ (0 < i → rd l ((i : Int) - 1) < rd l i))
def isUserS (u : S37) : Bool := groupsOk u.f3 && decide (1 ≤ u.f0 ∧ 1 ≤ u.f1.size ∧ u.f1.size ≤ 31 ∧ 0 ≤ u.f2 ∧ u.f2 ≤ 2147483647 ∧ u.f3.length ≤ 10)
def userAt (l : List S37) (i : Nat) : Bool := isUserS (rd_T37 l i) && (!(decide (0 < i) && decide ((rd_T37 l i).f0 ≤ (rd_T37 l ((i : Int) - 1)).f0)) && !((l.take i).any fun v => eqS (rd_T37 l i).f1 v.f1))
def validS (l : List S37) : Bool := decide (∀ i : Nat, i < l.length → userAt l i = true) && decide (l.length ≤ 20)
theorem isUser_loop (a0 : Int) (a1 : ByteArray) (a2 : Int) (l : List Int) (hl : l.length ≤ 9223372036854775807) (d : Nat) : ∀ (i k : Nat), i + d = l.length → d < k → (∀ j : Nat, j < i → 1 ≤ rd l j ∧ (0 < j → rd l ((j : Int) - 1) < rd l j)) →
    rights_isUser.l0 k l (l.length : Int) (i : Int) a0 a1 a2 l = some (groupsOk l && decide (1 ≤ a0 ∧ 1 ≤ a1.size ∧ a1.size ≤ 31 ∧ 0 ≤ a2 ∧ a2 ≤ 2147483647 ∧ l.length ≤ 10)) := by
  induction d with
  | zero =>
    intro i k hi hk hj
    obtain ⟨k, rfl⟩ : ∃ m, k = m + 1 := ⟨k - 1, by omega⟩
    have hg : groupsOk l = true := decide_eq_true (fun j h => hj j (by omega))
    simp only [rights_isUser.l0]
    rw [if_neg (by omega), hg, Bool.true_and]
    unfold rights_within.f
    by_cases h1 : a0 ≥ 1
    · rw [if_pos h1]
      by_cases h2 : (a1.size : Int) ≥ 1
      · rw [if_pos h2, Option.bind_some]
        by_cases h3 : (a1.size : Int) ≤ 31
        · rw [decide_eq_true h3, if_pos rfl]
          by_cases h4 : a2 ≥ 0
          · rw [if_pos h4, Option.bind_some]
            by_cases h5 : a2 ≤ 2147483647
            · rw [decide_eq_true h5, if_pos rfl]
              congr 1
              rw [Bool.eq_iff_iff, decide_eq_true_eq, decide_eq_true_eq]
              omega
            · rw [decide_eq_false h5, if_neg (by decide), decide_eq_false (by omega)]
          · rw [if_neg h4, Option.bind_some, if_neg (by decide), decide_eq_false (by omega)]
        · rw [decide_eq_false h3, if_neg (by decide), decide_eq_false (by omega)]
      · rw [if_neg h2, Option.bind_some, if_neg (by decide), decide_eq_false (by omega)]
    · rw [if_neg h1, decide_eq_false (by omega)]
  | succ d ih =>
    intro i k hi hk hj
    obtain ⟨k, rfl⟩ : ∃ m, k = m + 1 := ⟨k - 1, by omega⟩
    have bad : ∀ (_ : ¬ (1 ≤ rd l i ∧ (0 < i → rd l ((i : Int) - 1) < rd l i))), groupsOk l = false := fun h => decide_eq_false (fun hh => h (hh i (by omega)))
    have w1 : wrap64 ((i : Int) + 1) = ((i + 1 : Nat) : Int) := by unfold wrap64; omega
    simp only [rights_isUser.l0]
    rw [if_pos (by omega), if_pos (by omega), if_pos (by omega)]
    by_cases h1 : rd l i < 1
    · rw [if_pos h1, bad (by omega), Bool.false_and]
    · rw [if_neg h1]
      by_cases h2 : (i : Int) > 0
      · have w2 : wrap64 ((i : Int) - 1) = (i : Int) - 1 := by unfold wrap64; omega
        rw [if_pos h2, w2, if_pos (by omega), if_pos (by omega)]
        by_cases h3 : rd l i ≤ rd l ((i : Int) - 1)
        · rw [if_pos h3, bad (by omega), Bool.false_and]
        · rw [if_neg h3, w1]
          refine ih (i + 1) k (by omega) (by omega) (fun j h => ?_)
          by_cases e : j = i
          · subst e; exact ⟨by omega, fun _ => by omega⟩
          · exact hj j (by omega)
      · rw [if_neg h2, w1]
        refine ih (i + 1) k (by omega) (by omega) (fun j h => ?_)
        by_cases e : j = i
        · subst e; exact ⟨by omega, fun _ => by omega⟩
        · exact hj j (by omega)
theorem isUser_ok (u : S37) (hl : u.f3.length ≤ 9223372036854775807) : rights_isUser.f (u.f3.length + 1) u.f0 u.f1 u.f2 u.f3 = some (isUserS u) :=
  isUser_loop u.f0 u.f1 u.f2 u.f3 hl u.f3.length 0 _ (by omega) (by omega) (fun j h => by omega)

/-- What is told of the users of a list: sizes. -/
def FewU (l : List S37) : Prop := l.length ≤ 60 ∧ ∀ u ∈ l, u.f3.length ≤ 40 ∧ u.f1.size ≤ 140737488351232
theorem rdT_mem (l : List S37) (i : Nat) (h : i < l.length) : rd_T37 l (i : Int) ∈ l := by
  unfold rd_T37
  rw [Int.toNat_natCast, List.getD_eq_getElem?_getD, List.getElem?_eq_getElem h]
  exact List.getElem_mem h
theorem containsN_ok (l : List S37) (nm : ByteArray) (h : ∀ u ∈ l, u.f1.size ≤ 140737488351232) (hn : nm.size ≤ 140737488351232) : containsN.f l nm = some (l.any fun v => eqS nm v.f1) := by
  unfold containsN.f
  rw [if_pos]
  · congr 2
    funext v
    exact eqN_eqS _ _
  · rw [Bool.and_eq_true, List.all_eq_true, decide_eq_true_eq]
    exact ⟨fun u hu => decide_eq_true (by have := h u hu; omega), by omega⟩
theorem not_valid {l : List S37} {i : Nat} (hi : i < l.length) (h : userAt l i = false) : validS l = false := by
  unfold validS
  rw [decide_eq_false (fun hh => by rw [hh i hi] at h; exact absurd h (by decide)), Bool.false_and]

theorem valid_loop (l : List S37) (hf : FewU l) (d : Nat) : ∀ (i k : Nat), i + d = l.length → 2 * d + 50 < k → (∀ j : Nat, j < i → userAt l j = true) →
    rights_ValidUsers.l0 k l l (l.length : Int) (i : Int) = some (validS l) := by
  induction d with
  | zero =>
    intro i k hi hk hj
    obtain ⟨k, rfl⟩ : ∃ m, k = m + 1 := ⟨k - 1, by omega⟩
    simp only [rights_ValidUsers.l0]
    rw [if_neg (by omega)]
    unfold validS
    rw [decide_eq_true (fun j h => hj j (by omega)), Bool.true_and]
    congr 1
    rw [Bool.eq_iff_iff, decide_eq_true_eq, decide_eq_true_eq]
    omega
  | succ d ih =>
    intro i k hi hk hj
    have hl := hf.1
    obtain ⟨k, rfl⟩ : ∃ m, k = m + 2 := ⟨k - 2, by omega⟩
    have hm := hf.2 _ (rdT_mem l i (by omega))
    have hU : rights_isUser.f (k + 1) (rd_T37 l i).f0 (rd_T37 l i).f1 (rd_T37 l i).f2 (rd_T37 l i).f3 = some (isUserS (rd_T37 l i)) :=
      up (fun k => rights_isUser.mono _ _ _ _ k) (isUser_ok (rd_T37 l i) (by omega)) (by omega)
    simp only [rights_ValidUsers.l0]
    rw [if_pos (by omega), if_pos (by omega), if_pos (by omega), hU, Option.bind_some]
    by_cases h1 : isUserS (rd_T37 l i) = true
    case neg =>
      rw [if_neg h1]
      simp only [rights_ValidUsers.j1]
      rw [if_pos trivial, not_valid (i := i) (by omega) (by unfold userAt; rw [eq_false_of_ne_true h1, Bool.false_and])]
    rw [if_pos h1]
    have hC : containsN.f (l.take ((i : Int)).toNat) (rd_T37 l i).f1 = some ((l.take i).any fun v => eqS (rd_T37 l i).f1 v.f1) := by
      rw [Int.toNat_natCast]
      exact containsN_ok _ _ (fun u hu => (hf.2 u (List.mem_of_mem_take hu)).2) hm.2
    have w1 : wrap64 ((i : Int) + 1) = ((i + 1 : Nat) : Int) := by unfold wrap64; omega
    have hj1 : ∀ b : Bool, (decide (0 < i) && decide ((rd_T37 l i).f0 ≤ (rd_T37 l ((i : Int) - 1)).f0)) = b →
        rights_ValidUsers.j1 (k + 1) l (i : Int) l (l.length : Int) (i : Int) b (rd_T37 l i).f0 (rd_T37 l i).f1 (rd_T37 l i).f2 (rd_T37 l i).f3 = some (validS l) := by
      intro b hb
      simp only [rights_ValidUsers.j1]
      cases b
      · rw [if_neg (by decide), if_pos (by omega), if_pos (by omega), hC, Option.bind_some]
        by_cases h3 : ((l.take i).any fun v => eqS (rd_T37 l i).f1 v.f1) = true
        · rw [if_pos h3, not_valid (i := i) (by omega) (by unfold userAt; rw [h1, hb, h3]; rfl)]
        · rw [if_neg h3, w1]
          refine ih (i + 1) k (by omega) (by omega) (fun j h => ?_)
          by_cases e : j = i
          · subst e; unfold userAt; rw [h1, hb, eq_false_of_ne_true h3]; rfl
          · exact hj j (by omega)
      · rw [if_pos rfl, not_valid (i := i) (by omega) (by unfold userAt; rw [h1, hb]; rfl)]
    by_cases h2 : (i : Int) > 0
    · have w2 : wrap64 ((i : Int) - 1) = (i : Int) - 1 := by unfold wrap64; omega
      rw [if_pos h2, w2, if_pos (by omega), if_pos (by omega)]
      exact hj1 _ (by rw [decide_eq_true (by omega : 0 < i), Bool.true_and])
    · rw [if_neg h2]
      exact hj1 _ (by rw [decide_eq_false (by omega : ¬ 0 < i), Bool.false_and])
theorem valid_ok (l : List S37) (hf : FewU l) (k : Nat) (hk : 200 ≤ k) : rights_ValidUsers.f k l = some (validS l) :=
  valid_loop l hf l.length 0 k (by omega) (by have := hf.1; omega) (fun j h => by omega)

theorem vref_groups (l : List S37) (i : Int) (x0 : Int) (x1 : ByteArray) (x2 : Int) (g : List Int) (hl : g.length ≤ 40) (d : Nat) : ∀ (n k : Nat), n + d = g.length → (∀ j : Nat, j < n → 1 ≤ rd g j ∧ (0 < j → rd g ((j : Int) - 1) < rd g j)) →
    tithingref21_ValidUsers.l1 (k + d + 1) l i (n : Int) x0 x1 x2 g = if groupsOk g = true then tithingref21_ValidUsers.l2 k l i 0 x0 x1 x2 g else some false := by
  induction d with
  | zero =>
    intro n k hn hj
    simp only [tithingref21_ValidUsers.l1]
    have hg : groupsOk g = true := decide_eq_true (fun j h => hj j (by omega))
    rw [if_neg (by omega), if_pos hg]
  | succ d ih =>
    intro n k hn hj
    have bad : ∀ (_ : ¬ (1 ≤ rd g n ∧ (0 < n → rd g ((n : Int) - 1) < rd g n))), groupsOk g = false := fun h => decide_eq_false (fun hh => h (hh n (by omega)))
    have w1 : wrap64 ((n : Int) + 1) = ((n + 1 : Nat) : Int) := by unfold wrap64; omega
    rw [show k + (d + 1) + 1 = (k + d + 1) + 1 from by omega]
    simp only [tithingref21_ValidUsers.l1]
    have next : (∀ j : Nat, j < n + 1 → 1 ≤ rd g j ∧ (0 < j → rd g ((j : Int) - 1) < rd g j)) → tithingref21_ValidUsers.l1 (k + d + 1) l i (wrap64 ((n : Int) + 1)) x0 x1 x2 g = if groupsOk g = true then tithingref21_ValidUsers.l2 k l i 0 x0 x1 x2 g else some false := fun h => by
      rw [w1]; exact ih (n + 1) k (by omega) h
    rw [if_pos (by omega), if_pos (by omega)]
    by_cases h1 : rd g n < 1
    · rw [if_pos h1, bad (by omega), if_neg (by decide)]
    · rw [if_neg h1]
      by_cases h2 : (n : Int) > 0
      · have w2 : wrap64 ((n : Int) - 1) = (n : Int) - 1 := by unfold wrap64; omega
        rw [if_pos h2, w2, if_pos (by omega), if_pos (by omega)]
        by_cases h3 : rd g ((n : Int) - 1) ≥ rd g n
        · rw [if_pos h3, bad (by omega), if_neg (by decide)]
        · rw [if_neg h3]
          refine next (fun j h => ?_)
          by_cases e : j = n
          · subst e; exact ⟨by omega, fun _ => by omega⟩
          · exact hj j (by omega)
      · rw [if_neg h2]
        refine next (fun j h => ?_)
        by_cases e : j = n
        · subst e; exact ⟨by omega, fun _ => by omega⟩
        · exact hj j (by omega)
theorem take_any_succ (l : List S37) (n : Nat) (h : n < l.length) (p : S37 → Bool) : (l.take (n + 1)).any p = ((l.take n).any p || p (rd_T37 l n)) := by
  rw [List.take_add_one, List.any_append, List.getElem?_eq_getElem h]
  unfold rd_T37
  rw [Int.toNat_natCast, List.getD_eq_getElem?_getD, List.getElem?_eq_getElem h]
  simp
theorem vref_names (l : List S37) (hl : l.length ≤ 60) (i : Nat) (hi : i ≤ l.length) (x0 : Int) (x1 : ByteArray) (x2 : Int) (g : List Int) (hs : ∀ j : Nat, j < i → (rd_T37 l j).f1.size ≤ 31) (d : Nat) : ∀ (n k : Nat), n + d = i → 65 ≤ k → (l.take n).any (fun v => eqS x1 v.f1) = false →
    tithingref21_ValidUsers.l2 (k + d + 1) l (i : Int) (n : Int) x0 x1 x2 g = if (l.take i).any (fun v => eqS x1 v.f1) = true then some false else tithingref21_ValidUsers.l0 k l (wrap64 ((i : Int) + 1)) := by
  induction d with
  | zero =>
    intro n k hn hk hj
    obtain rfl : n = i := by omega
    simp only [tithingref21_ValidUsers.l2]
    rw [if_neg (by omega), hj, if_neg (by decide)]
  | succ d ih =>
    intro n k hn hk hj
    have w1 : wrap64 ((n : Int) + 1) = ((n + 1 : Nat) : Int) := by unfold wrap64; omega
    rw [show k + (d + 1) + 1 = (k + d + 1) + 1 from by omega]
    simp only [tithingref21_ValidUsers.l2]
    rw [if_pos (by omega), if_pos (by omega), if_pos (by omega), equal_ref_ok _ _ (by have := hs n (by omega); omega) _ (by have := hs n (by omega); omega), Option.bind_some]
    by_cases h : eqS (rd_T37 l n).f1 x1 = true
    · have hA : (l.take i).any (fun v => eqS x1 v.f1) = true := by
        rw [List.any_eq_true]
        refine ⟨rd_T37 l n, ?_, by rw [eqS_comm]; exact h⟩
        unfold rd_T37
        rw [Int.toNat_natCast, List.getD_eq_getElem?_getD, List.getElem?_eq_getElem (by omega : n < l.length)]
        exact List.mem_take_iff_getElem.2 ⟨n, by omega, rfl⟩
      rw [if_pos h, if_pos hA]
    · rw [if_neg h, w1]
      exact ih (n + 1) k (by omega) hk (by rw [take_any_succ l n (by omega), hj, eqS_comm, eq_false_of_ne_true h]; rfl)
theorem vref_loop (l : List S37) (hf : FewU l) (d : Nat) : ∀ (i k : Nat), i + d = l.length → 200 * d + 100 < k → (∀ j : Nat, j < i → userAt l j = true) →
    tithingref21_ValidUsers.l0 k l (i : Int) = some (validS l) := by
  induction d with
  | zero =>
    intro i k hi hk hj
    obtain ⟨k, rfl⟩ : ∃ m, k = m + 1 := ⟨k - 1, by omega⟩
    simp only [tithingref21_ValidUsers.l0]
    rw [if_neg (by omega)]
    unfold validS
    rw [decide_eq_true (fun j h => hj j (by omega)), Bool.true_and]
    congr 1
    rw [Bool.eq_iff_iff, decide_eq_true_eq, decide_eq_true_eq]
    omega
  | succ d ih =>
    intro i k hi hk hj
    have hl := hf.1
    have hm := hf.2 _ (rdT_mem l i (by omega))
    obtain ⟨k, rfl⟩ : ∃ m, k = ((m + i + 1) + (rd_T37 l i).f3.length + 1) + 2 := ⟨k - 4 - i - (rd_T37 l i).f3.length, by omega⟩
    have hU : userAt l i = (isUserS (rd_T37 l i) && (!(decide (0 < i) && decide ((rd_T37 l i).f0 ≤ (rd_T37 l ((i : Int) - 1)).f0)) && !((l.take i).any fun v => eqS (rd_T37 l i).f1 v.f1))) := rfl
    have hbad : ∀ K, (isUserS (rd_T37 l i) = false ∨ (decide (0 < i) && decide ((rd_T37 l i).f0 ≤ (rd_T37 l ((i : Int) - 1)).f0)) = true) → tithingref21_ValidUsers.j1 (K + 1) l (i : Int) true (rd_T37 l i).f0 (rd_T37 l i).f1 (rd_T37 l i).f2 (rd_T37 l i).f3 = some (validS l) := by
      intro K h
      simp only [tithingref21_ValidUsers.j1]
      rw [if_pos trivial, not_valid (i := i) (by omega) (by rw [hU]; rcases h with h | h <;> rw [h] <;> simp)]
    have hS : ∀ j : Nat, j < i → (rd_T37 l j).f1.size ≤ 31 := fun j h => by
      have := hj j h
      unfold userAt isUserS at this
      rw [Bool.and_eq_true, Bool.and_eq_true, decide_eq_true_eq] at this
      exact this.1.2.2.2.1
    have hgood : (1 ≤ (rd_T37 l i).f0 ∧ 1 ≤ (rd_T37 l i).f1.size ∧ (rd_T37 l i).f1.size ≤ 31 ∧ 0 ≤ (rd_T37 l i).f2 ∧ (rd_T37 l i).f2 ≤ 2147483647) → (decide (0 < i) && decide ((rd_T37 l i).f0 ≤ (rd_T37 l ((i : Int) - 1)).f0)) = false →
        tithingref21_ValidUsers.j1 (((k + i + 1) + (rd_T37 l i).f3.length + 1) + 1) l (i : Int) (decide (((rd_T37 l i).f3.length : Int) > 10)) (rd_T37 l i).f0 (rd_T37 l i).f1 (rd_T37 l i).f2 (rd_T37 l i).f3 = some (validS l) := by
      intro h hp
      by_cases h10 : ((rd_T37 l i).f3.length : Int) > 10
      · rw [decide_eq_true h10]
        exact hbad _ (.inl (by unfold isUserS; rw [decide_eq_false (by omega), Bool.and_false]))
      · rw [decide_eq_false h10]
        simp only [tithingref21_ValidUsers.j1]
        rw [if_neg (by decide)]
        have hG := vref_groups l (i : Int) (rd_T37 l i).f0 (rd_T37 l i).f1 (rd_T37 l i).f2 (rd_T37 l i).f3 (by omega) (rd_T37 l i).f3.length 0 (k + i + 1) (by omega) (fun j h => by omega)
        rw [show ((0 : Nat) : Int) = 0 from rfl] at hG
        rw [hG]
        by_cases hg : groupsOk (rd_T37 l i).f3 = true
        case neg => rw [if_neg hg, not_valid (i := i) (by omega) (by rw [hU]; unfold isUserS; rw [eq_false_of_ne_true hg]; simp)]
        have hIs : isUserS (rd_T37 l i) = true := by unfold isUserS; rw [hg, decide_eq_true (by omega)]; rfl
        rw [if_pos hg]
        have hN := vref_names l hl i (by omega) (rd_T37 l i).f0 (rd_T37 l i).f1 (rd_T37 l i).f2 (rd_T37 l i).f3 hS i 0 k (by omega) (by omega) (by simp)
        rw [show ((0 : Nat) : Int) = 0 from rfl] at hN
        rw [hN]
        by_cases hA : ((l.take i).any fun v => eqS (rd_T37 l i).f1 v.f1) = true
        · rw [if_pos hA, not_valid (i := i) (by omega) (by rw [hU, hA]; simp)]
        · rw [if_neg hA, show wrap64 ((i : Int) + 1) = ((i + 1 : Nat) : Int) from by unfold wrap64; omega]
          refine ih (i + 1) k (by omega) (by omega) (fun j h => ?_)
          by_cases e : j = i
          · subst e; rw [hU, hIs, hp, eq_false_of_ne_true hA]; rfl
          · exact hj j (by omega)
    generalize ((k + i + 1) + (rd_T37 l i).f3.length + 1) = K at *
    have noU : ¬ (1 ≤ (rd_T37 l i).f0 ∧ 1 ≤ (rd_T37 l i).f1.size ∧ (rd_T37 l i).f1.size ≤ 31 ∧ 0 ≤ (rd_T37 l i).f2 ∧ (rd_T37 l i).f2 ≤ 2147483647) → isUserS (rd_T37 l i) = false := fun h => by
      unfold isUserS; rw [decide_eq_false (by omega), Bool.and_false]
    simp only [tithingref21_ValidUsers.l0]
    rw [if_pos (by omega), if_pos (by omega)]
    by_cases c0 : (rd_T37 l i).f0 < 1
    · rw [if_pos c0]; exact hbad K (.inl (noU (by omega)))
    rw [if_neg c0]
    have rest : (decide (0 < i) && decide ((rd_T37 l i).f0 ≤ (rd_T37 l ((i : Int) - 1)).f0)) = false →
        (if (((rd_T37 l i).f1).size : Int) < 1 then (tithingref21_ValidUsers.j1 (K + 1) l (i : Int) true ((rd_T37 l i).f0) ((rd_T37 l i).f1) ((rd_T37 l i).f2) ((rd_T37 l i).f3)) else (if (((rd_T37 l i).f1).size : Int) > 31 then (tithingref21_ValidUsers.j1 (K + 1) l (i : Int) true ((rd_T37 l i).f0) ((rd_T37 l i).f1) ((rd_T37 l i).f2) ((rd_T37 l i).f3)) else (if ((rd_T37 l i).f2) < 0 then (tithingref21_ValidUsers.j1 (K + 1) l (i : Int) true ((rd_T37 l i).f0) ((rd_T37 l i).f1) ((rd_T37 l i).f2) ((rd_T37 l i).f3)) else (if ((rd_T37 l i).f2) > 2147483647 then (tithingref21_ValidUsers.j1 (K + 1) l (i : Int) true ((rd_T37 l i).f0) ((rd_T37 l i).f1) ((rd_T37 l i).f2) ((rd_T37 l i).f3)) else (tithingref21_ValidUsers.j1 (K + 1) l (i : Int) (decide ((((rd_T37 l i).f3).length : Int) > 10)) ((rd_T37 l i).f0) ((rd_T37 l i).f1) ((rd_T37 l i).f2) ((rd_T37 l i).f3)))))) = some (validS l) := by
      intro hp
      by_cases c1 : (((rd_T37 l i).f1).size : Int) < 1
      · rw [if_pos c1]; exact hbad K (.inl (noU (by omega)))
      rw [if_neg c1]
      by_cases c2 : (((rd_T37 l i).f1).size : Int) > 31
      · rw [if_pos c2]; exact hbad K (.inl (noU (by omega)))
      rw [if_neg c2]
      by_cases c3 : ((rd_T37 l i).f2) < 0
      · rw [if_pos c3]; exact hbad K (.inl (noU (by omega)))
      rw [if_neg c3]
      by_cases c4 : ((rd_T37 l i).f2) > 2147483647
      · rw [if_pos c4]; exact hbad K (.inl (noU (by omega)))
      rw [if_neg c4]
      exact hgood (by omega) hp
    by_cases h2 : (i : Int) > 0
    · have w2 : wrap64 ((i : Int) - 1) = (i : Int) - 1 := by unfold wrap64; omega
      rw [if_pos h2, w2, if_pos (by omega), if_pos (by omega)]
      by_cases h3 : (rd_T37 l ((i : Int) - 1)).f0 ≥ (rd_T37 l i).f0
      · rw [if_pos h3]; exact hbad K (.inr (by rw [decide_eq_true (by omega : 0 < i), decide_eq_true h3]; rfl))
      · rw [if_neg h3]
        exact rest (by rw [decide_eq_false (fun h => h3 h), Bool.and_false])
    · rw [if_neg h2]
      exact rest (by rw [decide_eq_false (by omega : ¬ 0 < i), Bool.false_and])
theorem valid_ref_ok (l : List S37) (hf : FewU l) (k : Nat) (hk : 12200 ≤ k) : tithingref21_ValidUsers.f k l = some (validS l) :=
  vref_loop l hf l.length 0 k (by omega) (by have := hf.1; omega) (fun j h => by omega)
end Go.Proofs.Ytkmbcjpedmlhfaa.Spec
