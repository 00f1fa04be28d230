/- Users, rights, ways: the program's functions as plain ones. -/
import Derived.Test.YtkmbcjpedmlhfaaUx2
import Derived.Test.YtkmbcjpedmlhfaaUx17
import Derived.Test.YtkmbcjpedmlhfaaUx24
import Derived.Test.YtkmbcjpedmlhfaaUSpecB
set_option linter.unusedVariables false
namespace Go.Proofs.Ytkmbcjpedmlhfaa.USpec
open Go.RowKit Go.Proofs.Ytkmbcjpedmlhfaa.U Go.Proofs.YtkmbcjpedmlhfaaW.PrintWords Go.Proofs.YtkmbcjpedmlhfaaW.PrintLast Go.Proofs.YtkmbcjpedmlhfaaW.PrintMore Go.Proofs.Ytkmbcjpedmlhfaa.Aux


/-- More rounds tell the same. -/
theorem up {α : Type} {f : Nat → Option α} {r : α} (hm : ∀ k, LeO (f k) (f (k + 1))) {m k : Nat} (h : f m = some r) (hk : m ≤ k) : f k = some r := by
  obtain ⟨d, rfl⟩ : ∃ d, k = m + d := ⟨k - m, by omega⟩
  clear hk
  induction d with
  | zero => exact h
  | succ d ih => exact hm _ _ ih

def groupsOk (l : List Int) : Bool := decide (∀ i : Nat, i < l.length → 1 ≤ rd l i ∧ (0 < i → rd l ((i : Int) - 1) < rd l i))
def isUserS (u : S37) : Bool := groupsOk u.f3 && decide (1 ≤ u.f0 ∧ 1 ≤ u.f1.size ∧ u.f1.size ≤ 31 ∧ 0 ≤ u.f2 ∧ u.f2 ≤ 2147483647 ∧ u.f3.length ≤ 10)
def userAt (l : List S37) (i : Nat) : Bool := isUserS (rd_T37 l i) && (!(decide (0 < i) && decide ((rd_T37 l i).f0 ≤ (rd_T37 l ((i : Int) - 1)).f0)) && !((l.take i).any fun v => eqS (rd_T37 l i).f1 v.f1))
def validS (l : List S37) : Bool := decide (∀ i : Nat, i < l.length → userAt l i = true) && decide (l.length ≤ 20)
theorem isUser_loop (a0 : Int) (a1 : ByteArray) (a2 : Int) (l : List Int) (hl : l.length ≤ 9223372036854775807) (d : Nat) : ∀ (i k : Nat), i + d = l.length → d < k → (∀ j : Nat, j < i → 1 ≤ rd l j ∧ (0 < j → rd l ((j : Int) - 1) < rd l j)) →
    rights_isUser.l0 k l (l.length : Int) (i : Int) a0 a1 a2 l = some (groupsOk l && decide (1 ≤ a0 ∧ 1 ≤ a1.size ∧ a1.size ≤ 31 ∧ 0 ≤ a2 ∧ a2 ≤ 2147483647 ∧ l.length ≤ 10)) := by
  induction d with
  | zero =>
    intro i k hi hk hj
    obtain ⟨k, rfl⟩ : ∃ m, k = m + 1 := ⟨k - 1, by omega⟩
    have hg : groupsOk l = true := decide_eq_true (fun j h => hj j (by omega))
    simp only [rights_isUser.l0]
    rw [if_neg (by omega), hg, Bool.true_and]
    unfold rights_within.f
    by_cases h1 : a0 ≥ 1
    · rw [if_pos h1]
      by_cases h2 : (a1.size : Int) ≥ 1
      · rw [if_pos h2, Option.bind_some]
        by_cases h3 : (a1.size : Int) ≤ 31
        · rw [decide_eq_true h3, if_pos rfl]
          by_cases h4 : a2 ≥ 0
          · rw [if_pos h4, Option.bind_some]
            by_cases h5 : a2 ≤ 2147483647
            · rw [decide_eq_true h5, if_pos rfl]
              congr 1
              rw [Bool.eq_iff_iff, decide_eq_true_eq, decide_eq_true_eq]
              omega
            · rw [decide_eq_false h5, if_neg (by decide), decide_eq_false (by omega)]
          · rw [if_neg h4, Option.bind_some, if_neg (by decide), decide_eq_false (by omega)]
        · rw [decide_eq_false h3, if_neg (by decide), decide_eq_false (by omega)]
      · rw [if_neg h2, Option.bind_some, if_neg (by decide), decide_eq_false (by omega)]
    · rw [if_neg h1, decide_eq_false (by omega)]
  | succ d ih =>
    intro i k hi hk hj
    obtain ⟨k, rfl⟩ : ∃ m, k = m + 1 := ⟨k - 1, by omega⟩
    have bad : ∀ (_ : ¬ (1 ≤ rd l i ∧ (0 < i → rd l ((i : Int) - 1) < rd l i))), groupsOk l = false := fun h => decide_eq_false (fun hh => h (hh i (by omega)))
    have w1 : wrap64 ((i : Int) + 1) = ((i + 1 : Nat) : Int) := by unfold wrap64; omega
    simp only [rights_isUser.l0]
    rw [if_pos (by omega), if_pos (by omega), if_pos (by omega)]
    by_cases h1 : rd l i < 1
    · rw [if_pos h1, bad (by omega), Bool.false_and]
    · rw [if_neg h1]
      by_cases h2 : (i : Int) > 0
      · have w2 : wrap64 ((i : Int) - 1) = (i : Int) - 1 := by unfold wrap64; omega
        rw [if_pos h2, w2, if_pos (by omega), if_pos (by omega)]
        by_cases h3 : rd l i ≤ rd l ((i : Int) - 1)
        · rw [if_pos h3, bad (by omega), Bool.false_and]
        · rw [if_neg h3, w1]
          refine ih (i + 1) k (by omega) (by omega) (fun j h => ?_)
          by_cases e : j = i
          · subst e; exact ⟨by omega, fun _ => by omega⟩
          · exact hj j (by omega)
      · rw [if_neg h2, w1]
        refine ih (i + 1) k (by omega) (by omega) (fun j h => ?_)
        by_cases e : j = i
        · subst e; exact ⟨by omega, fun _ => by omega⟩
        · exact hj j (by omega)
theorem isUser_ok (u : S37) (hl : u.f3.length ≤ 9223372036854775807) : rights_isUser.f (u.f3.length + 1) u.f0 u.f1 u.f2 u.f3 = some (isUserS u) :=
  isUser_loop u.f0 u.f1 u.f2 u.f3 hl u.f3.length 0 _ (by omega) (by omega) (fun j h => by omega)

/-- What is told of the users of a list: sizes. -/
def FewU (l : List S37) : Prop := l.length ≤ 60 ∧ ∀ u ∈ l, u.f3.length ≤ 40 ∧ u.f1.size ≤ 140737488351232
theorem rdT_mem (l : List S37) (i : Nat) (h : i < l.length) : rd_T37 l (i : Int) ∈ l := by
  unfold rd_T37
  rw [Int.toNat_natCast, List.getD_eq_getElem?_getD, List.getElem?_eq_getElem h]
  exact List.getElem_mem h
theorem containsN_ok (l : List S37) (nm : ByteArray) (h : ∀ u ∈ l, u.f1.size ≤ 140737488351232) (hn : nm.size ≤ 140737488351232) : containsN.f l nm = some (l.any fun v => eqS nm v.f1) := by
  unfold containsN.f
  rw [if_pos]
  · congr 2
    funext v
    exact eqN_eqS _ _
  · rw [Bool.and_eq_true, List.all_eq_true, decide_eq_true_eq]
    exact ⟨fun u hu => decide_eq_true (by have := h u hu; omega), by omega⟩
theorem not_valid {l : List S37} {i : Nat} (hi : i < l.length) (h : userAt l i = false) : validS l = false := by
  unfold validS
  rw [decide_eq_false (fun hh => by rw [hh i hi] at h; exact absurd h (by decide)), Bool.false_and]

theorem valid_loop (l : List S37) (hf : FewU l) (d : Nat) : ∀ (i k : Nat), i + d = l.length → 2 * d + 50 < k → (∀ j : Nat, j < i → userAt l j = true) →
    rights_ValidUsers.l0 k l l (l.length : Int) (i : Int) = some (validS l) := by
  induction d with
  | zero =>
    intro i k hi hk hj
    obtain ⟨k, rfl⟩ : ∃ m, k = m + 1 := ⟨k - 1, by omega⟩
    simp only [rights_ValidUsers.l0]
    rw [if_neg (by omega)]
    unfold validS
    rw [decide_eq_true (fun j h => hj j (by omega)), Bool.true_and]
    congr 1
    rw [Bool.eq_iff_iff, decide_eq_true_eq, decide_eq_true_eq]
    omega
  | succ d ih =>
    intro i k hi hk hj
    have hl := hf.1
    obtain ⟨k, rfl⟩ : ∃ m, k = m + 2 := ⟨k - 2, by omega⟩
    have hm := hf.2 _ (rdT_mem l i (by omega))
    have hU : rights_isUser.f (k + 1) (rd_T37 l i).f0 (rd_T37 l i).f1 (rd_T37 l i).f2 (rd_T37 l i).f3 = some (isUserS (rd_T37 l i)) :=
      up (fun k => rights_isUser.mono _ _ _ _ k) (isUser_ok (rd_T37 l i) (by omega)) (by omega)
    simp only [rights_ValidUsers.l0]
    rw [if_pos (by omega), if_pos (by omega), if_pos (by omega), hU, Option.bind_some]
    by_cases h1 : isUserS (rd_T37 l i) = true
    case neg =>
      rw [if_neg h1]
      simp only [rights_ValidUsers.j1]
      rw [if_pos trivial, not_valid (i := i) (by omega) (by unfold userAt; rw [eq_false_of_ne_true h1, Bool.false_and])]
    rw [if_pos h1]
    have hC : containsN.f (l.take ((i : Int)).toNat) (rd_T37 l i).f1 = some ((l.take i).any fun v => eqS (rd_T37 l i).f1 v.f1) := by
      rw [Int.toNat_natCast]
      exact containsN_ok _ _ (fun u hu => (hf.2 u (List.mem_of_mem_take hu)).2) hm.2
    have w1 : wrap64 ((i : Int) + 1) = ((i + 1 : Nat) : Int) := by unfold wrap64; omega
    have hj1 : ∀ b : Bool, (decide (0 < i) && decide ((rd_T37 l i).f0 ≤ (rd_T37 l ((i : Int) - 1)).f0)) = b →
        rights_ValidUsers.j1 (k + 1) l (i : Int) l (l.length : Int) (i : Int) b (rd_T37 l i).f0 (rd_T37 l i).f1 (rd_T37 l i).f2 (rd_T37 l i).f3 = some (validS l) := by
      intro b hb
      simp only [rights_ValidUsers.j1]
      cases b
      · rw [if_neg (by decide), if_pos (by omega), if_pos (by omega), hC, Option.bind_some]
        by_cases h3 : ((l.take i).any fun v => eqS (rd_T37 l i).f1 v.f1) = true
        · rw [if_pos h3, not_valid (i := i) (by omega) (by unfold userAt; rw [h1, hb, h3]; rfl)]
        · rw [if_neg h3, w1]
          refine ih (i + 1) k (by omega) (by omega) (fun j h => ?_)
          by_cases e : j = i
          · subst e; unfold userAt; rw [h1, hb, eq_false_of_ne_true h3]; rfl
          · exact hj j (by omega)
      · rw [if_pos rfl, not_valid (i := i) (by omega) (by unfold userAt; rw [h1, hb]; rfl)]
    by_cases h2 : (i : Int) > 0
    · have w2 : wrap64 ((i : Int) - 1) = (i : Int) - 1 := by unfold wrap64; omega
      rw [if_pos h2, w2, if_pos (by omega), if_pos (by omega)]
      exact hj1 _ (by rw [decide_eq_true (by omega : 0 < i), Bool.true_and])
    · rw [if_neg h2]
      exact hj1 _ (by rw [decide_eq_false (by omega : ¬ 0 < i), Bool.false_and])
theorem valid_ok (l : List S37) (hf : FewU l) (k : Nat) (hk : 200 ≤ k) : rights_ValidUsers.f k l = some (validS l) :=
  valid_loop l hf l.length 0 k (by omega) (by have := hf.1; omega) (fun j h => by omega)


theorem first_true (k : Nat) (hk : 20 ≤ k) : tithinglaw21_First.f k = some true :=
  up (fun k => tithinglaw21_First.mono k) (show tithinglaw21_First.f 20 = some true by decide +kernel) hk

def fewS (l : List S37) (y : List S24) : Bool := decide (∀ i : Nat, i < l.length → (rd_T37 l i).f3.length ≤ 40) && (decide (l.length ≤ 60) && decide (y.length ≤ 100))
theorem few_loop (l : List S37) (y : List S24) (hl : l.length ≤ 9223372036854775806) (d : Nat) : ∀ (i k : Nat), i + d = l.length → d < k → (∀ j : Nat, j < i → (rd_T37 l j).f3.length ≤ 40) →
    tithinglaw21_few.l0 k l y (i : Int) = some (fewS l y) := by
  induction d with
  | zero =>
    intro i k hi hk hj
    obtain ⟨k, rfl⟩ : ∃ m, k = m + 1 := ⟨k - 1, by omega⟩
    simp only [tithinglaw21_few.l0]
    unfold fewS
    rw [if_neg (by omega), decide_eq_true (fun j h => hj j (by omega)), Bool.true_and]
    by_cases h : (l.length : Int) ≤ 60
    · rw [if_pos h, decide_eq_true (by omega : l.length ≤ 60), Bool.true_and]
      congr 1
      rw [Bool.eq_iff_iff, decide_eq_true_eq, decide_eq_true_eq]
      omega
    · rw [if_neg h, decide_eq_false (by omega : ¬ l.length ≤ 60), Bool.false_and]
  | succ d ih =>
    intro i k hi hk hj
    obtain ⟨k, rfl⟩ : ∃ m, k = m + 1 := ⟨k - 1, by omega⟩
    simp only [tithinglaw21_few.l0]
    rw [if_pos (by omega), if_pos (by omega)]
    by_cases h : ((rd_T37 l i).f3.length : Int) > 40
    · rw [if_pos h]
      unfold fewS
      rw [decide_eq_false (fun hh => by have := hh i (by omega); omega), Bool.false_and]
    · rw [if_neg h, show wrap64 ((i : Int) + 1) = ((i + 1 : Nat) : Int) from by unfold wrap64; omega]
      refine ih (i + 1) k (by omega) (by omega) (fun j h' => ?_)
      by_cases e : j = i
      · subst e; omega
      · exact hj j (by omega)
theorem few_ok (l : List S37) (y : List S24) (hl : l.length ≤ 9223372036854775806) (k : Nat) (hk : l.length < k) : tithinglaw21_few.f k l y = some (fewS l y) :=
  few_loop l y hl l.length 0 k (by omega) hk (fun j h => by omega)
theorem few_out {l : List S37} {y : List S24} (h : fewS l y = true) (hs : ∀ u ∈ l, u.f1.size ≤ 140737488351232) : FewU l ∧ y.length ≤ 100 := by
  unfold fewS at h
  rw [Bool.and_eq_true, Bool.and_eq_true, decide_eq_true_eq, decide_eq_true_eq, decide_eq_true_eq] at h
  refine ⟨⟨h.2.1, fun u hu => ⟨?_, hs u hu⟩⟩, h.2.2⟩
  obtain ⟨i, hi, rfl⟩ := List.getElem_of_mem hu
  have := h.1 i hi
  unfold rd_T37 at this
  rwa [Int.toNat_natCast, List.getD_eq_getElem?_getD, List.getElem?_eq_getElem hi] at this

def grS (l : List S37) (u : Int) : List Int × Bool := if u = 0 then ([], true) else if ix37 (fun v => v.f0 == u) l < 0 then ([], false) else ((rd_T37 l (ix37 (fun v => v.f0 == u) l)).f3, true)
theorem groups_ok (l : List S37) (u : Int) : rights_groups.f l u = some (grS l u) := by
  unfold rights_groups.f grS
  split
  · rfl
  · split <;> rfl
theorem grS_few {l : List S37} (hf : FewU l) (u : Int) : (grS l u).1.length ≤ 40 := by
  unfold grS
  split
  · exact Nat.zero_le _
  · split
    · exact Nat.zero_le _
    · rename_i h1 h2
      rcases ix37_range (fun v => v.f0 == u) l with h | h
      · omega
      · have := rdT_mem l (ix37 (fun v => v.f0 == u) l).toNat (by omega)
        rw [Int.toNat_of_nonneg h.1] at this
        exact (hf.2 _ this).1

theorem index_loop (l : List Int) (v : Int) (hl : l.length ≤ 9223372036854775806) (d : Nat) : ∀ (i k : Nat), i + d = l.length → d < k → v ∉ l.take i →
    ∃ r, slices_Index_int_int.l0 k l v (l.length : Int) (i : Int) = some r ∧ (0 ≤ r ↔ v ∈ l) := by
  induction d with
  | zero =>
    intro i k hi hk hj
    obtain ⟨k, rfl⟩ : ∃ m, k = m + 1 := ⟨k - 1, by omega⟩
    simp only [slices_Index_int_int.l0]
    rw [if_neg (by omega)]
    rw [List.take_of_length_le (by omega)] at hj
    exact ⟨_, rfl, by constructor <;> intro h <;> first | omega | exact absurd h hj⟩
  | succ d ih =>
    intro i k hi hk hj
    obtain ⟨k, rfl⟩ : ∃ m, k = m + 1 := ⟨k - 1, by omega⟩
    have hrd : rd l (i : Int) = l[i]'(by omega) := by
      unfold rd
      rw [Int.toNat_natCast, List.getD_eq_getElem?_getD, List.getElem?_eq_getElem (by omega)]; rfl
    simp only [slices_Index_int_int.l0]
    rw [if_pos (by omega), if_pos (by omega), if_pos (by omega)]
    by_cases h : v = rd l i
    · rw [if_pos h]
      exact ⟨_, rfl, by constructor <;> intro _ <;> first | omega | exact (by rw [h, hrd]; exact List.getElem_mem _)⟩
    · rw [if_neg h, show wrap64 ((i : Int) + 1) = ((i + 1 : Nat) : Int) from by unfold wrap64; omega]
      refine ih (i + 1) k (by omega) (by omega) (fun hm => ?_)
      rw [List.take_add_one, List.getElem?_eq_getElem (by omega : i < l.length), List.mem_append] at hm
      rw [hrd] at h
      rcases hm with hm | hm
      · exact hj hm
      · exact h (by simpa using hm)
theorem contains_ok (l : List Int) (v : Int) (hl : l.length ≤ 40) (k : Nat) (hk : 41 ≤ k) : slices_Contains_int_int.f k l v = some (decide (v ∈ l)) := by
  obtain ⟨r, hr, hi⟩ := index_loop l v (by omega) l.length 0 k (by omega) (by omega) (by simp)
  unfold slices_Contains_int_int.f slices_Index_int_int.f
  rw [show ((0 : Nat) : Int) = 0 from rfl] at hr
  rw [hr, Option.bind_some]
  congr 1
  rw [Bool.eq_iff_iff, decide_eq_true_eq, decide_eq_true_eq]
  exact hi

def validR (a b c d e : Int) : Bool := decide (0 ≤ a ∧ 0 ≤ b ∧ (0 ≤ c ∧ c ≤ 7) ∧ (0 ≤ d ∧ d ≤ 7) ∧ (0 ≤ e ∧ e ≤ 7))
theorem within_ok (n a b : Int) : rights_within.f n a b = some (decide (a ≤ n ∧ n ≤ b)) := by
  unfold rights_within.f
  by_cases h : n ≥ a
  · rw [if_pos h]; congr 1; rw [Bool.eq_iff_iff, decide_eq_true_eq, decide_eq_true_eq]; omega
  · rw [if_neg h, decide_eq_false (by omega)]
theorem validR_ok (a b c d e : Int) (f : Bool) : rights_Valid.f a b c d e f = some (validR a b c d e) := by
  unfold rights_Valid.f validR
  rw [within_ok, within_ok, within_ok]
  simp only [Option.bind_some, decide_eq_true_eq]
  repeat' split
  all_goals first | (rw [decide_eq_false (by omega)]) | (congr 1; rw [Bool.eq_iff_iff, decide_eq_true_eq, decide_eq_true_eq]; omega)
def or2 (x y : Int) : Int := Go.bits .or .i64 x y
def andS (g : List Int) (grp x fg : Int) : Int := if grp ∈ g then or2 x fg else x
/-- What a user with these groups has. -/
def hasS (u : Int) (g : List Int) (own grp fo fg fa : Int) : Int := andS g grp (if own = 0 ∨ own = u then or2 fa fo else fa) fg
theorem has_ok (l : List S37) (hf : FewU l) (u own grp fo fg fa : Int) (bl : Bool) (k : Nat) (hk : 50 ≤ k) : rights_has.f k l u own grp fo fg fa bl = some (hasS u (grS l u).1 own grp fo fg fa) := by
  obtain ⟨k, rfl⟩ : ∃ m, k = m + 2 := ⟨k - 2, by omega⟩
  have h1 : ∀ x : Int, rights_has.j1 (k + 1) l u x own grp fo fg fa bl = some (andS (grS l u).1 grp x fg) := by
    intro x
    unfold andS
    simp only [rights_has.j1]
    rw [groups_ok, Option.bind_some, contains_ok _ _ (grS_few hf u) _ (by omega), Option.bind_some]
    by_cases h : grp ∈ (grS l u).1
    · rw [decide_eq_true h, if_pos rfl, if_pos h]; rfl
    · rw [decide_eq_false h, if_neg (by decide), if_neg h]
  have h0 : ∀ b : Bool, rights_has.j0 (k + 2) l u fa b own grp fo fg fa bl = some (andS (grS l u).1 grp (if b = true then or2 fa fo else fa) fg) := by
    intro b
    simp only [rights_has.j0]
    cases b
    · rw [if_neg (by decide), h1, if_neg (by decide)]
    · rw [if_pos rfl, h1, if_pos rfl]; rfl
  unfold rights_has.f hasS
  by_cases h : own = 0
  · rw [if_pos h, h0, if_pos rfl, if_pos (.inl h)]
  · rw [if_neg h, h0]
    by_cases e : own = u
    · rw [if_pos (show (own == u) = true from beq_iff_eq.2 e), if_pos (.inr e)]
    · rw [if_neg (show ¬ (own == u) = true from fun hh => e (beq_iff_eq.1 hh)), if_neg (show ¬ (own = 0 ∨ own = u) from by omega)]

/-- What is asked for: 0, or the error. -/
def askedS (l : List S37) (right : Bool) (u : Int) : Int := if (validS l && right) = true then (if (grS l u).2 = true then 0 else 5) else 2
theorem asked_ok (l : List S37) (hf : FewU l) (right : Bool) (u : Int) (k : Nat) (hk : 200 ≤ k) : rights_asked.f k l right u = some (askedS l right u) := by
  obtain ⟨k, rfl⟩ : ∃ m, k = m + 1 := ⟨k - 1, by omega⟩
  unfold rights_asked.f askedS
  rw [valid_ok l hf _ (by omega), Option.bind_some]
  simp only [rights_asked.j0]
  cases validS l
  · rw [if_neg (by decide), if_pos trivial]; rfl
  · rw [if_pos rfl]
    cases right
    · rw [if_pos (by decide)]; rfl
    · rw [if_neg (by decide), groups_ok, Option.bind_some]
      cases (grS l u).2 <;> rfl
def HasS (l : List S37) (u own grp fo fg fa : Int) : Int × Int := if askedS l (validR own grp fo fg fa) u = 0 then (hasS u (grS l u).1 own grp fo fg fa, 0) else (0, askedS l (validR own grp fo fg fa) u)
theorem Has_ok (l : List S37) (hf : FewU l) (u own grp fo fg fa : Int) (bl : Bool) (k : Nat) (hk : 200 ≤ k) : rights_Has.f k l u own grp fo fg fa bl = some (HasS l u own grp fo fg fa) := by
  unfold rights_Has.f HasS
  rw [validR_ok, Option.bind_some, asked_ok l hf _ u k hk, Option.bind_some]
  by_cases h : askedS l (validR own grp fo fg fa) u = 0
  · rw [if_pos h, if_pos h, has_ok l hf _ _ _ _ _ _ _ _ (by omega), Option.bind_some]
  · rw [if_neg h, if_neg h]

def vR (r : S24) : Bool := validR r.f0 r.f1 r.f2 r.f3 r.f4
theorem badR_eq (r : S24) : badR r = !vR r := by
  unfold badR vR
  rw [validR_ok]
  rfl
def isWayS (w : List S24) : Bool := decide (1 ≤ w.length ∧ w.length ≤ 60) && w.all vR
theorem isWay_ok (w : List S24) : rights_isWay.f w = some (isWayS w) := by
  unfold rights_isWay.f anyBad.f isWayS
  rw [within_ok, Option.bind_some, Option.bind_some]
  have hA : (!(w.any badR)) = w.all vR := by
    rw [List.all_eq_not_any_not]
    congr 2
    funext r
    exact badR_eq r
  by_cases h : (1 : Int) ≤ (w.length : Int) ∧ (w.length : Int) ≤ 60
  · rw [decide_eq_true h, if_pos rfl, decide_eq_true (by omega), hA, Bool.true_and]
  · rw [decide_eq_false h, if_neg (by decide), decide_eq_false (by omega), Bool.false_and]
theorem rdW (w : List S24) (j : Nat) (h : j < w.length) : rd_T24 w (j : Int) = w[j] := by
  unfold rd_T24
  rw [Int.toNat_natCast, List.getD_eq_getElem?_getD, List.getElem?_eq_getElem h]; rfl
theorem effS_valid (w : List S24) (h : ∀ r ∈ w, vR r = true) : vR (effS w) = true := by
  unfold effS
  cases hf : w.reverse.find? (fun r => !r.f5) with
  | none => rfl
  | some r => exact h r (List.mem_reverse.1 (List.mem_of_find?_eq_some hf))

/-- What a user with these groups has in these rights. -/
def hasR (u : Int) (g : List Int) (r : S24) : Int := hasS u g r.f0 r.f1 r.f2 r.f3 r.f4
theorem or2_range : ∀ a b : Fin 8, 0 ≤ or2 a.val b.val ∧ or2 a.val b.val ≤ 7 := by decide +kernel
theorem or2_in (a b : Int) (h : 0 ≤ a ∧ a ≤ 7) (k : 0 ≤ b ∧ b ≤ 7) : 0 ≤ or2 a b ∧ or2 a b ≤ 7 := by
  have := or2_range ⟨a.toNat, by omega⟩ ⟨b.toNat, by omega⟩
  simpa only [Int.toNat_of_nonneg h.1, Int.toNat_of_nonneg k.1] using this
theorem hasR_in (u : Int) (g : List Int) (r : S24) (hv : vR r = true) : 0 ≤ hasR u g r ∧ hasR u g r ≤ 7 := by
  unfold vR validR at hv
  rw [decide_eq_true_eq] at hv
  obtain ⟨_, _, h2, h3, h4⟩ := hv
  unfold hasR hasS andS
  have hx : 0 ≤ (if r.f0 = 0 ∨ r.f0 = u then or2 r.f4 r.f2 else r.f4) ∧ (if r.f0 = 0 ∨ r.f0 = u then or2 r.f4 r.f2 else r.f4) ≤ 7 := by
    split
    · exact or2_in _ _ h4 h2
    · exact h4
  split
  · exact or2_in _ _ hx h3
  · exact hx
def goS (u : Int) (g : List Int) (w : List S24) : Bool := decide (∀ n : Nat, n < w.length → 1 ≤ n → 4 ≤ hasR u g (effS (w.take n)))
def walkS (u : Int) (g : List Int) (w : List S24) : Int := if goS u g w = true then hasR u g (effS w) else 0
theorem and4 : ∀ t : Fin 8, (Go.bits .and .i64 (t.val : Int) 4 = 0 ↔ ¬ 4 ≤ t.val) ∧ (wrap64 (Int.tdiv (t.val : Int) 4) = 0 ↔ ¬ 4 ≤ t.val) := by decide +kernel
theorem and4_in (t : Int) (h : 0 ≤ t ∧ t ≤ 7) : (Go.bits .and .i64 t 4 = 0 ↔ ¬ 4 ≤ t) ∧ (wrap64 (Int.tdiv t 4) = 0 ↔ ¬ 4 ≤ t) := by
  have := and4 ⟨t.toNat, by omega⟩
  simp only [Int.toNat_of_nonneg h.1] at this
  refine ⟨this.1.trans ?_, this.2.trans ?_⟩ <;> omega
theorem goS_false {u : Int} {g : List Int} {w : List S24} {n : Nat} (hn : n < w.length) (h1 : 1 ≤ n) (h : ¬ 4 ≤ hasR u g (effS (w.take n))) : walkS u g w = 0 := by
  unfold walkS goS
  rw [decide_eq_false (fun hh => h (hh n hn h1)), if_neg (by decide)]
theorem at_loop (l : List S37) (hf : FewU l) (u : Int) (w : List S24) (hw : ∀ r ∈ w, vR r = true) (hl : w.length ≤ 60) (d : Nat) : ∀ (i k : Nat), i + d = w.length → d + 60 < k → 1 ≤ i → (∀ n : Nat, n < i → 1 ≤ n → 4 ≤ hasR u (grS l u).1 (effS (w.take n))) →
    rights_At.l0 k l u w (i : Int) = some (walkS u (grS l u).1 w, 0) := by
  induction d with
  | zero =>
    intro i k hi hk h1 hj
    obtain ⟨k, rfl⟩ : ∃ m, k = m + 1 := ⟨k - 1, by omega⟩
    obtain rfl : i = w.length := by omega
    simp only [rights_At.l0, rights_effective.f]
    rw [if_neg (by omega), Option.bind_some]
    simp only []
    rw [has_ok l hf _ _ _ _ _ _ _ _ (by omega), Option.bind_some]
    unfold walkS goS
    rw [decide_eq_true hj, if_pos rfl]
    rfl
  | succ d ih =>
    intro i k hi hk h1 hj
    obtain ⟨k, rfl⟩ : ∃ m, k = m + 1 := ⟨k - 1, by omega⟩
    simp only [rights_At.l0, rights_effective.f]
    rw [if_pos (by omega), if_pos (by omega), if_pos (by omega), Option.bind_some]
    simp only []
    rw [has_ok l hf _ _ _ _ _ _ _ _ (by omega), Option.bind_some, Int.toNat_natCast]
    have hin := hasR_in u (grS l u).1 (effS (w.take i)) (effS_valid _ (fun r hr => hw r (List.mem_of_mem_take hr)))
    have ht := (and4_in _ hin).1
    unfold hasR at ht
    by_cases h : 4 ≤ hasR u (grS l u).1 (effS (w.take i))
    · rw [if_neg (fun e => (ht.1 e) h), show wrap64 ((i : Int) + 1) = ((i + 1 : Nat) : Int) from by unfold wrap64; omega]
      refine ih (i + 1) k (by omega) (by omega) (by omega) (fun n hn hn1 => ?_)
      by_cases e : n = i
      · subst e; exact h
      · exact hj n (by omega) hn1
    · rw [if_pos (ht.2 h), goS_false (by omega) h1 h]
theorem isWayS_out {w : List S24} (h : isWayS w = true) : (1 ≤ w.length ∧ w.length ≤ 60) ∧ ∀ r ∈ w, vR r = true := by
  unfold isWayS at h
  rw [Bool.and_eq_true, decide_eq_true_eq, List.all_eq_true] at h
  exact h
/-- What a user has at the end of a way; the error. -/
def AtS (l : List S37) (u : Int) (w : List S24) : Int × Int := if askedS l (isWayS w) u = 0 then (walkS u (grS l u).1 w, 0) else (0, askedS l (isWayS w) u)
theorem asked_way {l : List S37} {w : List S24} {u : Int} (h : askedS l (isWayS w) u = 0) : isWayS w = true := by
  unfold askedS at h
  cases hw : isWayS w
  · rw [hw, Bool.and_false, if_neg (by decide)] at h; exact absurd h (by decide)
  · rfl
theorem At_ok (l : List S37) (hf : FewU l) (u : Int) (w : List S24) (k : Nat) (hk : 300 ≤ k) : rights_At.f k l u w = some (AtS l u w) := by
  unfold rights_At.f AtS
  rw [isWay_ok, Option.bind_some, asked_ok l hf _ u k (by omega), Option.bind_some]
  by_cases h : askedS l (isWayS w) u = 0
  · obtain ⟨hl, hw⟩ := isWayS_out (asked_way h)
    rw [if_pos h, if_pos h]
    exact at_loop l hf u w hw hl.2 (w.length - 1) 1 k (by omega) (by omega) (by omega) (fun n h1 h2 => by omega)
  · rw [if_neg h, if_neg h]
end Go.Proofs.Ytkmbcjpedmlhfaa.USpec
