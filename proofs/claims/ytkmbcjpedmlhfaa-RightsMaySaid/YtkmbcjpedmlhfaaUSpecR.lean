/- Users, rights, ways: the document's functions as plain ones. -/
import Derived.Test.YtkmbcjpedmlhfaaUx27
import Derived.Test.YtkmbcjpedmlhfaaUx38
import Derived.Test.YtkmbcjpedmlhfaaUSpecI
set_option linter.unusedVariables false
namespace Go.Proofs.Ytkmbcjpedmlhfaa.USpec
open Go.RowKit Go.Proofs.Ytkmbcjpedmlhfaa.U Go.Proofs.YtkmbcjpedmlhfaaW.PrintWords Go.Proofs.YtkmbcjpedmlhfaaW.PrintLast Go.Proofs.YtkmbcjpedmlhfaaW.PrintMore Go.Proofs.Ytkmbcjpedmlhfaa.Aux

theorem vref_groups (l : List S37) (i : Int) (x0 : Int) (x1 : ByteArray) (x2 : Int) (g : List Int) (hl : g.length ≤ 40) (d : Nat) : ∀ (n k : Nat), n + d = g.length → (∀ j : Nat, j < n → 1 ≤ rd g j ∧ (0 < j → rd g ((j : Int) - 1) < rd g j)) →
    tithingref21_ValidUsers.l1 (k + d + 1) l i (n : Int) x0 x1 x2 g = if groupsOk g = true then tithingref21_ValidUsers.l2 k l i 0 x0 x1 x2 g else some false := by
  induction d with
  | zero =>
    intro n k hn hj
    simp only [tithingref21_ValidUsers.l1]
    have hg : groupsOk g = true := decide_eq_true (fun j h => hj j (by omega))
    rw [if_neg (by omega), if_pos hg]
  | succ d ih =>
    intro n k hn hj
    have bad : ∀ (_ : ¬ (1 ≤ rd g n ∧ (0 < n → rd g ((n : Int) - 1) < rd g n))), groupsOk g = false := fun h => decide_eq_false (fun hh => h (hh n (by omega)))
    have w1 : wrap64 ((n : Int) + 1) = ((n + 1 : Nat) : Int) := by unfold wrap64; omega
    rw [show k + (d + 1) + 1 = (k + d + 1) + 1 from by omega]
    simp only [tithingref21_ValidUsers.l1]
    have next : (∀ j : Nat, j < n + 1 → 1 ≤ rd g j ∧ (0 < j → rd g ((j : Int) - 1) < rd g j)) → tithingref21_ValidUsers.l1 (k + d + 1) l i (wrap64 ((n : Int) + 1)) x0 x1 x2 g = if groupsOk g = true then tithingref21_ValidUsers.l2 k l i 0 x0 x1 x2 g else some false := fun h => by
      rw [w1]; exact ih (n + 1) k (by omega) h
    rw [if_pos (by omega), if_pos (by omega)]
    by_cases h1 : rd g n < 1
    · rw [if_pos h1, bad (by omega), if_neg (by decide)]
    · rw [if_neg h1]
      by_cases h2 : (n : Int) > 0
      · have w2 : wrap64 ((n : Int) - 1) = (n : Int) - 1 := by unfold wrap64; omega
        rw [if_pos h2, w2, if_pos (by omega), if_pos (by omega)]
        by_cases h3 : rd g ((n : Int) - 1) ≥ rd g n
        · rw [if_pos h3, bad (by omega), if_neg (by decide)]
        · rw [if_neg h3]
          refine next (fun j h => ?_)
          by_cases e : j = n
          · subst e; exact ⟨by omega, fun _ => by omega⟩
          · exact hj j (by omega)
      · rw [if_neg h2]
        refine next (fun j h => ?_)
        by_cases e : j = n
        · subst e; exact ⟨by omega, fun _ => by omega⟩
        · exact hj j (by omega)
theorem take_any_succ (l : List S37) (n : Nat) (h : n < l.length) (p : S37 → Bool) : (l.take (n + 1)).any p = ((l.take n).any p || p (rd_T37 l n)) := by
  rw [List.take_add_one, List.any_append, List.getElem?_eq_getElem h]
  unfold rd_T37
  rw [Int.toNat_natCast, List.getD_eq_getElem?_getD, List.getElem?_eq_getElem h]
  simp
theorem vref_names (l : List S37) (hl : l.length ≤ 60) (i : Nat) (hi : i ≤ l.length) (x0 : Int) (x1 : ByteArray) (x2 : Int) (g : List Int) (hs : ∀ j : Nat, j < i → (rd_T37 l j).f1.size ≤ 31) (d : Nat) : ∀ (n k : Nat), n + d = i → 65 ≤ k → (l.take n).any (fun v => eqS x1 v.f1) = false →
    tithingref21_ValidUsers.l2 (k + d + 1) l (i : Int) (n : Int) x0 x1 x2 g = if (l.take i).any (fun v => eqS x1 v.f1) = true then some false else tithingref21_ValidUsers.l0 k l (wrap64 ((i : Int) + 1)) := by
  induction d with
  | zero =>
    intro n k hn hk hj
    obtain rfl : n = i := by omega
    simp only [tithingref21_ValidUsers.l2]
    rw [if_neg (by omega), hj, if_neg (by decide)]
  | succ d ih =>
    intro n k hn hk hj
    have w1 : wrap64 ((n : Int) + 1) = ((n + 1 : Nat) : Int) := by unfold wrap64; omega
    rw [show k + (d + 1) + 1 = (k + d + 1) + 1 from by omega]
    simp only [tithingref21_ValidUsers.l2]
    rw [if_pos (by omega), if_pos (by omega), if_pos (by omega), equal_ref_ok _ _ (by have := hs n (by omega); omega) _ (by have := hs n (by omega); omega), Option.bind_some]
    by_cases h : eqS (rd_T37 l n).f1 x1 = true
    · have hA : (l.take i).any (fun v => eqS x1 v.f1) = true := by
        rw [List.any_eq_true]
        refine ⟨rd_T37 l n, ?_, by rw [eqS_comm]; exact h⟩
        unfold rd_T37
        rw [Int.toNat_natCast, List.getD_eq_getElem?_getD, List.getElem?_eq_getElem (by omega : n < l.length)]
        exact List.mem_take_iff_getElem.2 ⟨n, by omega, rfl⟩
      rw [if_pos h, if_pos hA]
    · rw [if_neg h, w1]
      exact ih (n + 1) k (by omega) hk (by rw [take_any_succ l n (by omega), hj, eqS_comm, eq_false_of_ne_true h]; rfl)
theorem vref_loop (l : List S37) (hf : FewU l) (d : Nat) : ∀ (i k : Nat), i + d = l.length → 200 * d + 100 < k → (∀ j : Nat, j < i → userAt l j = true) →
    tithingref21_ValidUsers.l0 k l (i : Int) = some (validS l) := by
  induction d with
  | zero =>
    intro i k hi hk hj
    obtain ⟨k, rfl⟩ : ∃ m, k = m + 1 := ⟨k - 1, by omega⟩
    simp only [tithingref21_ValidUsers.l0]
    rw [if_neg (by omega)]
    unfold validS
    rw [decide_eq_true (fun j h => hj j (by omega)), Bool.true_and]
    congr 1
    rw [Bool.eq_iff_iff, decide_eq_true_eq, decide_eq_true_eq]
    omega
  | succ d ih =>
    intro i k hi hk hj
    have hl := hf.1
    have hm := hf.2 _ (rdT_mem l i (by omega))
    obtain ⟨k, rfl⟩ : ∃ m, k = ((m + i + 1) + (rd_T37 l i).f3.length + 1) + 2 := ⟨k - 4 - i - (rd_T37 l i).f3.length, by omega⟩
    have hU : userAt l i = (isUserS (rd_T37 l i) && (!(decide (0 < i) && decide ((rd_T37 l i).f0 ≤ (rd_T37 l ((i : Int) - 1)).f0)) && !((l.take i).any fun v => eqS (rd_T37 l i).f1 v.f1))) := rfl
    have hbad : ∀ K, (isUserS (rd_T37 l i) = false ∨ (decide (0 < i) && decide ((rd_T37 l i).f0 ≤ (rd_T37 l ((i : Int) - 1)).f0)) = true) → tithingref21_ValidUsers.j1 (K + 1) l (i : Int) true (rd_T37 l i).f0 (rd_T37 l i).f1 (rd_T37 l i).f2 (rd_T37 l i).f3 = some (validS l) := by
      intro K h
      simp only [tithingref21_ValidUsers.j1]
      rw [if_pos trivial, not_valid (i := i) (by omega) (by rw [hU]; rcases h with h | h <;> rw [h] <;> simp)]
    have hS : ∀ j : Nat, j < i → (rd_T37 l j).f1.size ≤ 31 := fun j h => by
      have := hj j h
      unfold userAt isUserS at this
      rw [Bool.and_eq_true, Bool.and_eq_true, decide_eq_true_eq] at this
      exact this.1.2.2.2.1
    have hgood : (1 ≤ (rd_T37 l i).f0 ∧ 1 ≤ (rd_T37 l i).f1.size ∧ (rd_T37 l i).f1.size ≤ 31 ∧ 0 ≤ (rd_T37 l i).f2 ∧ (rd_T37 l i).f2 ≤ 2147483647) → (decide (0 < i) && decide ((rd_T37 l i).f0 ≤ (rd_T37 l ((i : Int) - 1)).f0)) = false →
        tithingref21_ValidUsers.j1 (((k + i + 1) + (rd_T37 l i).f3.length + 1) + 1) l (i : Int) (decide (((rd_T37 l i).f3.length : Int) > 10)) (rd_T37 l i).f0 (rd_T37 l i).f1 (rd_T37 l i).f2 (rd_T37 l i).f3 = some (validS l) := by
      intro h hp
      by_cases h10 : ((rd_T37 l i).f3.length : Int) > 10
      · rw [decide_eq_true h10]
        exact hbad _ (.inl (by unfold isUserS; rw [decide_eq_false (by omega), Bool.and_false]))
      · rw [decide_eq_false h10]
        simp only [tithingref21_ValidUsers.j1]
        rw [if_neg (by decide)]
        have hG := vref_groups l (i : Int) (rd_T37 l i).f0 (rd_T37 l i).f1 (rd_T37 l i).f2 (rd_T37 l i).f3 (by omega) (rd_T37 l i).f3.length 0 (k + i + 1) (by omega) (fun j h => by omega)
        rw [show ((0 : Nat) : Int) = 0 from rfl] at hG
        rw [hG]
        by_cases hg : groupsOk (rd_T37 l i).f3 = true
        case neg => rw [if_neg hg, not_valid (i := i) (by omega) (by rw [hU]; unfold isUserS; rw [eq_false_of_ne_true hg]; simp)]
        have hIs : isUserS (rd_T37 l i) = true := by unfold isUserS; rw [hg, decide_eq_true (by omega)]; rfl
        rw [if_pos hg]
        have hN := vref_names l hl i (by omega) (rd_T37 l i).f0 (rd_T37 l i).f1 (rd_T37 l i).f2 (rd_T37 l i).f3 hS i 0 k (by omega) (by omega) (by simp)
        rw [show ((0 : Nat) : Int) = 0 from rfl] at hN
        rw [hN]
        by_cases hA : ((l.take i).any fun v => eqS (rd_T37 l i).f1 v.f1) = true
        · rw [if_pos hA, not_valid (i := i) (by omega) (by rw [hU, hA]; simp)]
        · rw [if_neg hA, show wrap64 ((i : Int) + 1) = ((i + 1 : Nat) : Int) from by unfold wrap64; omega]
          refine ih (i + 1) k (by omega) (by omega) (fun j h => ?_)
          by_cases e : j = i
          · subst e; rw [hU, hIs, hp, eq_false_of_ne_true hA]; rfl
          · exact hj j (by omega)
    generalize ((k + i + 1) + (rd_T37 l i).f3.length + 1) = K at *
    have noU : ¬ (1 ≤ (rd_T37 l i).f0 ∧ 1 ≤ (rd_T37 l i).f1.size ∧ (rd_T37 l i).f1.size ≤ 31 ∧ 0 ≤ (rd_T37 l i).f2 ∧ (rd_T37 l i).f2 ≤ 2147483647) → isUserS (rd_T37 l i) = false := fun h => by
      unfold isUserS; rw [decide_eq_false (by omega), Bool.and_false]
    simp only [tithingref21_ValidUsers.l0]
    rw [if_pos (by omega), if_pos (by omega)]
    by_cases c0 : (rd_T37 l i).f0 < 1
    · rw [if_pos c0]; exact hbad K (.inl (noU (by omega)))
    rw [if_neg c0]
    have rest : (decide (0 < i) && decide ((rd_T37 l i).f0 ≤ (rd_T37 l ((i : Int) - 1)).f0)) = false →
        (if (((rd_T37 l i).f1).size : Int) < 1 then (tithingref21_ValidUsers.j1 (K + 1) l (i : Int) true ((rd_T37 l i).f0) ((rd_T37 l i).f1) ((rd_T37 l i).f2) ((rd_T37 l i).f3)) else (if (((rd_T37 l i).f1).size : Int) > 31 then (tithingref21_ValidUsers.j1 (K + 1) l (i : Int) true ((rd_T37 l i).f0) ((rd_T37 l i).f1) ((rd_T37 l i).f2) ((rd_T37 l i).f3)) else (if ((rd_T37 l i).f2) < 0 then (tithingref21_ValidUsers.j1 (K + 1) l (i : Int) true ((rd_T37 l i).f0) ((rd_T37 l i).f1) ((rd_T37 l i).f2) ((rd_T37 l i).f3)) else (if ((rd_T37 l i).f2) > 2147483647 then (tithingref21_ValidUsers.j1 (K + 1) l (i : Int) true ((rd_T37 l i).f0) ((rd_T37 l i).f1) ((rd_T37 l i).f2) ((rd_T37 l i).f3)) else (tithingref21_ValidUsers.j1 (K + 1) l (i : Int) (decide ((((rd_T37 l i).f3).length : Int) > 10)) ((rd_T37 l i).f0) ((rd_T37 l i).f1) ((rd_T37 l i).f2) ((rd_T37 l i).f3)))))) = some (validS l) := by
      intro hp
      by_cases c1 : (((rd_T37 l i).f1).size : Int) < 1
      · rw [if_pos c1]; exact hbad K (.inl (noU (by omega)))
      rw [if_neg c1]
      by_cases c2 : (((rd_T37 l i).f1).size : Int) > 31
      · rw [if_pos c2]; exact hbad K (.inl (noU (by omega)))
      rw [if_neg c2]
      by_cases c3 : ((rd_T37 l i).f2) < 0
      · rw [if_pos c3]; exact hbad K (.inl (noU (by omega)))
      rw [if_neg c3]
      by_cases c4 : ((rd_T37 l i).f2) > 2147483647
      · rw [if_pos c4]; exact hbad K (.inl (noU (by omega)))
      rw [if_neg c4]
      exact hgood (by omega) hp
    by_cases h2 : (i : Int) > 0
    · have w2 : wrap64 ((i : Int) - 1) = (i : Int) - 1 := by unfold wrap64; omega
      rw [if_pos h2, w2, if_pos (by omega), if_pos (by omega)]
      by_cases h3 : (rd_T37 l ((i : Int) - 1)).f0 ≥ (rd_T37 l i).f0
      · rw [if_pos h3]; exact hbad K (.inr (by rw [decide_eq_true (by omega : 0 < i), decide_eq_true h3]; rfl))
      · rw [if_neg h3]
        exact rest (by rw [decide_eq_false (fun h => h3 h), Bool.and_false])
    · rw [if_neg h2]
      exact rest (by rw [decide_eq_false (by omega : ¬ 0 < i), Bool.false_and])
theorem valid_ref_ok (l : List S37) (hf : FewU l) (k : Nat) (hk : 12200 ≤ k) : tithingref21_ValidUsers.f k l = some (validS l) :=
  vref_loop l hf l.length 0 k (by omega) (by have := hf.1; omega) (fun j h => by omega)
theorem groups_loop (l : List S37) (u : Int) (hu : u ≠ 0) (hl : l.length ≤ 60) (d : Nat) : ∀ (i k : Nat), i + d = l.length → d < k → (∀ j : Nat, j < i → (rd_T37 l j).f0 ≠ u) →
    tithingref21_groups.l0 k l u (i : Int) = some (grS l u) := by
  have rdE : ∀ (j : Nat) (hj : j < l.length), rd_T37 l (j : Int) = l[j] := fun j hj => by
    unfold rd_T37
    rw [Int.toNat_natCast, List.getD_eq_getElem?_getD, List.getElem?_eq_getElem hj]; rfl
  induction d with
  | zero =>
    intro i k hi hk hj
    obtain ⟨k, rfl⟩ : ∃ m, k = m + 1 := ⟨k - 1, by omega⟩
    simp only [tithingref21_groups.l0]
    have hn : ix37 (fun v => v.f0 == u) l = -1 := by
      unfold ix37
      rw [List.findIdx?_eq_none_iff.2 (fun x hx => by
        obtain ⟨j, hj', rfl⟩ := List.getElem_of_mem hx
        have := hj j (by omega)
        rw [rdE j hj'] at this
        exact beq_false_of_ne this)]
    unfold grS
    rw [if_neg (by omega), if_neg hu, hn]
    rfl
  | succ d ih =>
    intro i k hi hk hj
    obtain ⟨k, rfl⟩ : ∃ m, k = m + 1 := ⟨k - 1, by omega⟩
    simp only [tithingref21_groups.l0]
    rw [if_pos (by omega), if_pos (by omega)]
    by_cases h : (rd_T37 l i).f0 = u
    · have hn : ix37 (fun v => v.f0 == u) l = (i : Int) := by
        unfold ix37
        rw [List.findIdx?_eq_some_iff_getElem.2 ⟨(by omega : i < l.length), (by rw [← rdE i (by omega), h]; exact beq_self_eq_true u), fun j hj' => by
          have := hj j hj'
          rw [rdE j (by omega)] at this
          rw [beq_false_of_ne this]; decide⟩]
      unfold grS
      rw [if_pos h, if_neg hu, hn, if_neg (by omega)]
    · rw [if_neg h, show wrap64 ((i : Int) + 1) = ((i + 1 : Nat) : Int) from by unfold wrap64; omega]
      refine ih (i + 1) k (by omega) (by omega) (fun j h' => ?_)
      by_cases e : j = i
      · subst e; exact h
      · exact hj j (by omega)
theorem groups_ref_ok (l : List S37) (u : Int) (hl : l.length ≤ 60) (k : Nat) (hk : 61 ≤ k) : tithingref21_groups.f k l u = some (grS l u) := by
  unfold tithingref21_groups.f
  by_cases hu : u = 0
  · rw [if_pos hu]; unfold grS; rw [if_pos hu]
  · rw [if_neg hu]
    exact groups_loop l u hu hl l.length 0 k (by omega) (by omega) (fun j h => by omega)
theorem bits_ok (n : Int) : tithingref21_bits.f n = some (decide (0 ≤ n ∧ n ≤ 7)) := by
  unfold tithingref21_bits.f
  by_cases h : n ≥ 0
  · rw [if_pos h]; congr 1; rw [Bool.eq_iff_iff, decide_eq_true_eq, decide_eq_true_eq]; omega
  · rw [if_neg h, decide_eq_false (by omega)]
theorem validR_ref_ok (a b c d e : Int) (f : Bool) : tithingref21_Valid.f a b c d e f = some (validR a b c d e) := by
  unfold tithingref21_Valid.f validR
  rw [bits_ok, bits_ok, bits_ok]
  simp only [Option.bind_some, decide_eq_true_eq]
  repeat' split
  all_goals first | (rw [decide_eq_false (by omega)]) | (congr 1; rw [Bool.eq_iff_iff, decide_eq_true_eq, decide_eq_true_eq]; omega)

def bitT (b v : Int) : Bool := (Int.tmod (wrap64 (Int.tdiv v b)) 2 == 1)
theorem any_loop (L : List Int) (hl : L.length ≤ 100) (n b : Int) (hb : b ≠ 0) (d : Nat) : ∀ (i k : Nat), i + d = L.length → 
    tithingref21_has.l2 (k + d + 1) L n b ((L.take i).any (bitT b)) (i : Int) = if L.any (bitT b) = true then tithingref21_has.l1 k L (wrap64 (n + b)) (wrap64 (b * 2)) else tithingref21_has.l1 k L n (wrap64 (b * 2)) := by
  induction d with
  | zero =>
    intro i k hi
    simp only [tithingref21_has.l2]
    rw [if_neg (by omega), List.take_of_length_le (by omega)]
  | succ d ih =>
    intro i k hi
    rw [show k + (d + 1) + 1 = (k + d + 1) + 1 from by omega]
    have hrd : rd L (i : Int) = L[i]'(by omega) := by
      unfold rd
      rw [Int.toNat_natCast, List.getD_eq_getElem?_getD, List.getElem?_eq_getElem (by omega)]; rfl
    have hn := ih (i + 1) k (by omega)
    rw [List.take_add_one, List.getElem?_eq_getElem (by omega : i < L.length), List.any_append] at hn
    have hw : wrap64 ((i : Int) + 1) = ((i + 1 : Nat) : Int) := by unfold wrap64; omega
    simp only [tithingref21_has.l2]
    rw [if_pos (by omega), hw]
    by_cases h : (L.take i).any (bitT b) = true
    · rw [h] at hn ⊢
      rw [if_pos rfl]
      rw [Bool.true_or] at hn
      exact hn
    · rw [eq_false_of_ne_true h] at hn ⊢
      rw [if_neg (by decide), if_pos (by omega), if_neg hb, hrd]
      rw [Bool.false_or] at hn
      simp only [List.any_cons, List.any_nil, Option.toList_some, Bool.or_false] at hn
      exact hn
theorem bit_loop (L : List Int) (hl : L.length ≤ 100) (n b : Int) (hb : b ≠ 0) (h4 : b ≤ 4) (k : Nat) :
    tithingref21_has.l1 (k + L.length + 2) L n b = tithingref21_has.l1 k L (if L.any (bitT b) = true then wrap64 (n + b) else n) (wrap64 (b * 2)) := by
  have h := any_loop L hl n b hb L.length 0 k (by omega)
  rw [show k + L.length + 2 = (k + L.length + 1) + 1 from rfl]
  simp only [tithingref21_has.l1]
  rw [if_pos h4]
  rw [show (L.take 0).any (bitT b) = false from rfl, show ((0 : Nat) : Int) = 0 from rfl] at h
  rw [h]
  split <;> rfl
def sum3 (a b c : Bool) : Int :=
  let n := if a = true then wrap64 (0 + 1) else 0
  let m := if b = true then wrap64 (n + 2) else n
  if c = true then wrap64 (m + 4) else m
theorem bits_all (L : List Int) (hl : L.length ≤ 100) (k : Nat) (hk : 400 ≤ k) : tithingref21_has.l1 k L 0 1 = some (sum3 (L.any (bitT 1)) (L.any (bitT 2)) (L.any (bitT 4))) := by
  obtain ⟨k, rfl⟩ : ∃ m, k = (((m + 1) + L.length + 2) + L.length + 2) + L.length + 2 := ⟨k - 7 - 3 * L.length, by omega⟩
  rw [bit_loop L hl 0 1 (by decide) (by decide), show wrap64 (1 * 2) = 2 from by decide +kernel,
    bit_loop L hl _ 2 (by decide) (by decide), show wrap64 (2 * 2) = 4 from by decide +kernel,
    bit_loop L hl _ 4 (by decide) (by decide), show wrap64 (4 * 2) = 8 from by decide +kernel]
  simp only [tithingref21_has.l1]
  rw [if_neg (by decide)]
  rfl
theorem add_loop (g : List Int) (hg : g.length ≤ 40) (own grp fo fg fa : Int) (bl : Bool) (d : Nat) : ∀ (i k : Nat) (L : List Int), i + d = g.length → L.length ≤ 2 + i → 
    ∃ M : List Int, tithingref21_has.l0 (k + d + 1) g L (i : Int) own grp fo fg fa bl = tithingref21_has.l1 k M 0 1 ∧ M.length ≤ L.length + d ∧ ∀ p : Int → Bool, M.any p = (L.any p || (decide (grp ∈ g.drop i) && p fg)) := by
  induction d with
  | zero =>
    intro i k L hi hL
    refine ⟨L, ?_, by omega, fun p => ?_⟩
    · simp only [tithingref21_has.l0]
      rw [if_neg (by omega)]
    · rw [List.drop_of_length_le (by omega)]; simp
  | succ d ih =>
    intro i k L hi hL
    rw [show k + (d + 1) + 1 = (k + d + 1) + 1 from by omega]
    have hrd : rd g (i : Int) = g[i]'(by omega) := by
      unfold rd
      rw [Int.toNat_natCast, List.getD_eq_getElem?_getD, List.getElem?_eq_getElem (by omega)]; rfl
    have hw : wrap64 ((i : Int) + 1) = ((i + 1 : Nat) : Int) := by unfold wrap64; omega
    simp only [tithingref21_has.l0]
    rw [if_pos (by omega), if_pos (by omega), hw, hrd]
    by_cases h : g[i]'(by omega) = grp
    · rw [if_pos h, if_pos (by omega)]
      obtain ⟨M, e, hl, hp⟩ := ih (i + 1) k (L ++ [fg]) (by omega) (by simp; omega)
      refine ⟨M, e, by simp at hl; omega, fun p => ?_⟩
      rw [hp p, List.drop_eq_getElem_cons (by omega : i < g.length), List.any_append]
      simp only [List.any_cons, List.any_nil, Bool.or_false, List.mem_cons, h, true_or, decide_true, Bool.true_and]
      cases L.any p <;> cases p fg <;> simp
    · rw [if_neg h]
      obtain ⟨M, e, hl, hp⟩ := ih (i + 1) k L (by omega) (by omega)
      refine ⟨M, e, by omega, fun p => ?_⟩
      have h' : ¬ grp = g[i]'(by omega) := fun e => h e.symm
      have hd : decide (grp ∈ g.drop i) = decide (grp ∈ g.drop (i + 1)) := by
        rw [Bool.eq_iff_iff, decide_eq_true_eq, decide_eq_true_eq, List.drop_eq_getElem_cons (by omega : i < g.length), List.mem_cons]
        exact ⟨fun hh => hh.resolve_left h', fun hh => .inr hh⟩
      rw [hp p, hd]
theorem or_all : ∀ a b c : Fin 8, ∀ o g : Bool,
    sum3 ((bitT 1 a.val || (o && bitT 1 b.val)) || (g && bitT 1 c.val)) ((bitT 2 a.val || (o && bitT 2 b.val)) || (g && bitT 2 c.val)) ((bitT 4 a.val || (o && bitT 4 b.val)) || (g && bitT 4 c.val)) =
      (if g = true then or2 (if o = true then or2 a.val b.val else a.val) c.val else (if o = true then or2 a.val b.val else a.val)) := by decide +kernel
theorem has_ref_ok (u : Int) (g : List Int) (hg : g.length ≤ 40) (own grp fo fg fa : Int) (bl : Bool) (hv : validR own grp fo fg fa = true) (k : Nat) (hk : 600 ≤ k) :
    tithingref21_has.f k u g own grp fo fg fa bl = some (hasS u g own grp fo fg fa) := by
  unfold validR at hv
  rw [decide_eq_true_eq] at hv
  obtain ⟨k, rfl⟩ : ∃ m, k = ((m + g.length + 1) + 1) + 1 := ⟨k - 3 - g.length, by omega⟩
  have hO : ∀ o : Bool, tithingref21_has.j0 (((k + g.length + 1) + 1) + 1) g [fa] o own grp fo fg fa bl = some (andS g grp (if o = true then or2 fa fo else fa) fg) := by
    intro o
    have step : ∀ L : List Int, L.length ≤ 2 → (∀ p : Int → Bool, L.any p = (p fa || (o && p fo))) → tithingref21_has.j1 ((k + g.length + 1) + 1) g L own grp fo fg fa bl = some (andS g grp (if o = true then or2 fa fo else fa) fg) := by
      intro L hL hp
      obtain ⟨M, e, hl, hq⟩ := add_loop g hg own grp fo fg fa bl g.length 0 k L (by omega) (by omega)
      simp only [tithingref21_has.j1]
      rw [show ((0 : Nat) : Int) = 0 from rfl] at e
      rw [e, bits_all M (by omega) k (by omega), hq, hq, hq, hp, hp, hp, List.drop_zero]
      have hA := or_all ⟨fa.toNat, by omega⟩ ⟨fo.toNat, by omega⟩ ⟨fg.toNat, by omega⟩ o (decide (grp ∈ g))
      simp only [Int.toNat_of_nonneg hv.2.2.1.1, Int.toNat_of_nonneg hv.2.2.2.1.1, Int.toNat_of_nonneg hv.2.2.2.2.1, decide_eq_true_eq] at hA
      rw [hA]
      rfl
    simp only [tithingref21_has.j0]
    cases o
    · rw [if_neg (by decide)]
      exact step [fa] (by simp) (fun p => by simp)
    · rw [if_pos rfl, if_pos (by simp)]
      exact step ([fa] ++ [fo]) (by simp) (fun p => by simp)
  unfold tithingref21_has.f hasS
  rw [Option.bind_some]
  by_cases h : own = u
  · rw [if_pos h, hO, if_pos rfl, if_pos (.inr h)]
  · rw [if_neg h, hO]
    by_cases e : own = 0
    · rw [if_pos (show (own == 0) = true from beq_iff_eq.2 e), if_pos (.inl e)]
    · rw [if_neg (show ¬ (own == 0) = true from fun hh => e (beq_iff_eq.1 hh)), if_neg (show ¬ (own = 0 ∨ own = u) from by omega)]

theorem isWay_loop (w : List S24) (hl : w.length ≤ 200) (d : Nat) : ∀ (i k : Nat), i + d = w.length → d < k → (w.take i).all vR = true →
    tithingref21_isWay.l0 k w (i : Int) = some (isWayS w) := by
  induction d with
  | zero =>
    intro i k hi hk hj
    obtain ⟨k, rfl⟩ : ∃ m, k = m + 1 := ⟨k - 1, by omega⟩
    simp only [tithingref21_isWay.l0]
    rw [List.take_of_length_le (by omega)] at hj
    unfold isWayS
    rw [if_neg (by omega), hj, Bool.and_true]
    by_cases h : (w.length : Int) ≥ 1
    · rw [if_pos h]
      congr 1
      rw [Bool.eq_iff_iff, decide_eq_true_eq, decide_eq_true_eq]
      omega
    · rw [if_neg h, decide_eq_false (by omega)]
  | succ d ih =>
    intro i k hi hk hj
    obtain ⟨k, rfl⟩ : ∃ m, k = m + 1 := ⟨k - 1, by omega⟩
    simp only [tithingref21_isWay.l0]
    rw [if_pos (by omega), if_pos (by omega), validR_ref_ok, Option.bind_some, rdW w i (by omega), show validR (w[i]'(by omega)).f0 (w[i]'(by omega)).f1 (w[i]'(by omega)).f2 (w[i]'(by omega)).f3 (w[i]'(by omega)).f4 = vR (w[i]'(by omega)) from rfl]
    by_cases h : vR (w[i]'(by omega)) = true
    · rw [if_pos h, show wrap64 ((i : Int) + 1) = ((i + 1 : Nat) : Int) from by unfold wrap64; omega]
      refine ih (i + 1) k (by omega) (by omega) ?_
      rw [List.take_add_one, List.getElem?_eq_getElem (by omega : i < w.length), List.all_append, hj, Bool.true_and]
      simp only [Option.toList_some, List.all_cons, List.all_nil, Bool.and_true]
      exact h
    · rw [if_neg h]
      unfold isWayS
      rw [show w.all vR = false from ?_, Bool.and_false]
      rw [← Bool.not_eq_true, List.all_eq_true]
      exact fun hh => h (hh _ (List.getElem_mem _))
theorem isWay_ref_ok (w : List S24) (hl : w.length ≤ 200) (k : Nat) (hk : 201 ≤ k) : tithingref21_isWay.f k w = some (isWayS w) :=
  isWay_loop w hl w.length 0 k (by omega) (by omega) (by simp)

theorem eff_loop (w : List S24) (hl : w.length ≤ 200) (d : Nat) : ∀ (j k : Nat), j + d = w.length → d < k → (∀ y ∈ effUp w j, y.2.f5 = true) →
    tithingref21_effective.l0 k w ((w.length : Int) - 1 - j) = rights_effective.f w := by
  induction d with
  | zero =>
    intro j k hi hk hj
    obtain ⟨k, rfl⟩ : ∃ m, k = m + 1 := ⟨k - 1, by omega⟩
    obtain rfl : j = w.length := by omega
    simp only [tithingref21_effective.l0]
    unfold rights_effective.f
    rw [if_neg (by omega), effS_none w hj]
    rfl
  | succ d ih =>
    intro j k hi hk hj
    obtain ⟨k, rfl⟩ : ∃ m, k = m + 1 := ⟨k - 1, by omega⟩
    simp only [tithingref21_effective.l0]
    rw [if_pos (by omega), if_pos (by omega), if_pos (by omega)]
    have hE : (effNo w j).2 = rd_T24 w ((w.length : Int) - 1 - j) := rfl
    by_cases h : (rd_T24 w ((w.length : Int) - 1 - j)).f5 = true
    · rw [if_pos h, show wrap64 ((w.length : Int) - 1 - j - 1) = (w.length : Int) - 1 - ((j + 1 : Nat) : Int) from by unfold wrap64; omega]
      refine ih (j + 1) k (by omega) (by omega) (fun y hy => ?_)
      rw [effUp_succ, List.mem_append] at hy
      rcases hy with hy | hy
      · exact hj y hy
      · rw [List.mem_singleton.1 hy, hE]; exact h
    · rw [if_neg h]
      unfold rights_effective.f
      rw [effS_some w j (by omega) hj (by rw [hE]; exact eq_false_of_ne_true h), hE]
theorem eff_ref_ok (w : List S24) (hl : w.length ≤ 200) (k : Nat) (hk : 201 ≤ k) : tithingref21_effective.f k w = rights_effective.f w := by
  unfold tithingref21_effective.f
  have h := eff_loop w hl w.length 0 k (by omega) (by omega) (by simp [effUp])
  rw [show wrap64 ((w.length : Int) - 1) = (w.length : Int) - 1 - ((0 : Nat) : Int) from by unfold wrap64; omega]
  exact h
theorem at_ref_loop (u : Int) (g : List Int) (hg : g.length ≤ 40) (w : List S24) (hw : ∀ r ∈ w, vR r = true) (hl : w.length ≤ 60) (d : Nat) : ∀ (i k : Nat), i + d = w.length → d + 700 < k → 1 ≤ i → (∀ n : Nat, n < i → 1 ≤ n → 4 ≤ hasR u g (effS (w.take n))) →
    tithingref21_At.l0 k u w g (i : Int) = some (walkS u g w, 0) := by
  induction d with
  | zero =>
    intro i k hi hk h1 hj
    obtain ⟨k, rfl⟩ : ∃ m, k = m + 1 := ⟨k - 1, by omega⟩
    obtain rfl : i = w.length := by omega
    simp only [tithingref21_At.l0]
    rw [if_neg (by omega), eff_ref_ok w (by omega) _ (by omega)]
    simp only [rights_effective.f, Option.bind_some]
    rw [has_ref_ok u g hg _ _ _ _ _ _ (effS_valid w hw) _ (by omega), Option.bind_some]
    unfold walkS goS
    rw [decide_eq_true hj, if_pos rfl]
    rfl
  | succ d ih =>
    intro i k hi hk h1 hj
    obtain ⟨k, rfl⟩ : ∃ m, k = m + 1 := ⟨k - 1, by omega⟩
    have hv := effS_valid (w.take i) (fun r hr => hw r (List.mem_of_mem_take hr))
    simp only [tithingref21_At.l0]
    rw [if_pos (by omega), if_pos (by omega), if_pos (by omega), eff_ref_ok _ (by rw [List.length_take]; omega) _ (by omega)]
    simp only [rights_effective.f, Option.bind_some, Int.toNat_natCast]
    rw [has_ref_ok u g hg _ _ _ _ _ _ hv _ (by omega), Option.bind_some]
    have hin := hasR_in u g (effS (w.take i)) hv
    have ht := (and4_in _ hin).2
    unfold hasR at ht
    by_cases h : 4 ≤ hasR u g (effS (w.take i))
    · rw [if_neg (fun e => (ht.1 e) h), show wrap64 ((i : Int) + 1) = ((i + 1 : Nat) : Int) from by unfold wrap64; omega]
      refine ih (i + 1) k (by omega) (by omega) (by omega) (fun n hn hn1 => ?_)
      by_cases e : n = i
      · subst e; exact h
      · exact hj n (by omega) hn1
    · rw [if_pos (ht.2 h), goS_false (by omega) h1 h]
theorem At_ref_ok (l : List S37) (hf : FewU l) (u : Int) (w : List S24) (hl : w.length ≤ 200) (k : Nat) (hk : 12300 ≤ k) : tithingref21_At.f k l u w = some (AtS l u w) := by
  obtain ⟨k, rfl⟩ : ∃ m, k = m + 1 := ⟨k - 1, by omega⟩
  unfold tithingref21_At.f AtS askedS
  rw [valid_ref_ok l hf _ (by omega), Option.bind_some, isWay_ref_ok w hl _ (by omega), Option.bind_some]
  simp only [tithingref21_At.j0]
  cases hV : validS l
  · rw [if_neg (by decide), if_pos trivial]; rfl
  · rw [if_pos rfl]
    cases hR : isWayS w
    · rw [if_pos (by decide)]; rfl
    · rw [if_neg (by decide), groups_ref_ok l u hf.1 _ (by omega), Option.bind_some]
      cases hG : (grS l u).2
      · rw [if_neg (by decide)]; rfl
      · obtain ⟨hl, hw⟩ := isWayS_out hR
        rw [if_pos rfl]
        exact at_ref_loop u _ (grS_few hf u) w hw hl.2 (w.length - 1) 1 k (by omega) (by omega) (by omega) (fun n h1 h2 => by omega)

end Go.Proofs.Ytkmbcjpedmlhfaa.USpec
