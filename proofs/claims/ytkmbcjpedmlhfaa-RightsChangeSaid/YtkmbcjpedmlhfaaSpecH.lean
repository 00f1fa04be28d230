/- Who is there, what they have: the program's and the document's functions as plain ones. -/
import Derived.Test.YtkmbcjpedmlhfaaMx13
import Derived.Test.YtkmbcjpedmlhfaaSpecU
set_option linter.unusedVariables false
namespace Go.Proofs.Ytkmbcjpedmlhfaa.Spec
open Go.RowKit Go.Proofs.Ytkmbcjpedmlhfaa.M Go.Proofs.YtkmbcjpedmlhfaaW.PrintWords Go.Proofs.YtkmbcjpedmlhfaaW.PrintLast Go.Proofs.YtkmbcjpedmlhfaaW.PrintMore Go.Proofs.Ytkmbcjpedmlhfaa.Aux

theorem first_true (k : Nat) (hk : 20 ≤ k) : tithinglaw21_First.f k = some true :=
  up (fun k => tithinglaw21_First.mono k) (show tithinglaw21_First.f 20 = some true by decide +kernel) hk

def fewS (l : List S37) (y : List S24) : Bool := decide (∀ i : Nat, i < l.length → (rd_T37 l i).f3.length ≤ 40) && (decide (l.length ≤ 60) && decide (y.length ≤ 100))
theorem few_loop (l : List S37) (y : List S24) (hl : l.length ≤ 9223372036854775806) (d : Nat) : ∀ (i k : Nat), i + d = l.length → d < k → (∀ j : Nat, j < i → (rd_T37 l j).f3.length ≤ 40) →
    tithinglaw21_few.l0 k l y (i : Int) = some (fewS l y) := by
  induction d with
  | zero =>
    intro i k hi hk hj
    obtain ⟨k, rfl⟩ : ∃ m, k = m + 1 := ⟨k - 1, by omega⟩
    simp only [tithinglaw21_few.l0]
    unfold fewS
    rw [if_neg (by omega), decide_eq_true (fun j h => hj j (by omega)), Bool.true_and]
    by_cases h : (l.length : Int) ≤ 60
    · rw [if_pos h, decide_eq_true (by omega : l.length ≤ 60), Bool.true_and]
      congr 1
      rw [Bool.eq_iff_iff, decide_eq_true_eq, decide_eq_true_eq]
      omega
    · rw [if_neg h, decide_eq_false (by omega : ¬ l.length ≤ 60), Bool.false_and]
  | succ d ih =>
    intro i k hi hk hj
    obtain ⟨k, rfl⟩ : ∃ m, k = m + 1 := ⟨k - 1, by omega⟩
    simp only [tithinglaw21_few.l0]
    rw [if_pos (by omega), if_pos (by omega)]
    by_cases h : ((rd_T37 l i).f3.length : Int) > 40
    · rw [if_pos h]
      unfold fewS
      rw [decide_eq_false (fun hh => by have := hh i (by omega); omega), Bool.false_and]
    · rw [if_neg h, show wrap64 ((i : Int) + 1) = ((i + 1 : Nat) : Int) from by unfold wrap64; omega]
      refine ih (i + 1) k (by omega) (by omega) (fun j h' => ?_)
      by_cases e : j = i
      · subst e; omega
      · exact hj j (by omega)
theorem few_ok (l : List S37) (y : List S24) (hl : l.length ≤ 9223372036854775806) (k : Nat) (hk : l.length < k) : tithinglaw21_few.f k l y = some (fewS l y) :=
  few_loop l y hl l.length 0 k (by omega) hk (fun j h => by omega)
theorem few_out {l : List S37} {y : List S24} (h : fewS l y = true) (hs : ∀ u ∈ l, u.f1.size ≤ 140737488351232) : FewU l ∧ y.length ≤ 100 := by
  unfold fewS at h
  rw [Bool.and_eq_true, Bool.and_eq_true, decide_eq_true_eq, decide_eq_true_eq, decide_eq_true_eq] at h
  refine ⟨⟨h.2.1, fun u hu => ⟨?_, hs u hu⟩⟩, h.2.2⟩
  obtain ⟨i, hi, rfl⟩ := List.getElem_of_mem hu
  have := h.1 i hi
  unfold rd_T37 at this
  rwa [Int.toNat_natCast, List.getD_eq_getElem?_getD, List.getElem?_eq_getElem hi] at this

def grS (l : List S37) (u : Int) : List Int × Bool := if u = 0 then ([], true) else if ix37 (fun v => v.f0 == u) l < 0 then ([], false) else ((rd_T37 l (ix37 (fun v => v.f0 == u) l)).f3, true)
theorem groups_ok (l : List S37) (u : Int) : rights_groups.f l u = some (grS l u) := by
  unfold rights_groups.f grS
  split
  · rfl
  · split <;> rfl
theorem groups_loop (l : List S37) (u : Int) (hu : u ≠ 0) (hl : l.length ≤ 60) (d : Nat) : ∀ (i k : Nat), i + d = l.length → d < k → (∀ j : Nat, j < i → (rd_T37 l j).f0 ≠ u) →
    tithingref21_groups.l0 k l u (i : Int) = some (grS l u) := by
  have rdE : ∀ (j : Nat) (hj : j < l.length), rd_T37 l (j : Int) = l[j] := fun j hj => by
    unfold rd_T37
    rw [Int.toNat_natCast, List.getD_eq_getElem?_getD, List.getElem?_eq_getElem hj]; rfl
  induction d with
  | zero =>
    intro i k hi hk hj
    obtain ⟨k, rfl⟩ : ∃ m, k = m + 1 := ⟨k - 1, by omega⟩
    simp only [tithingref21_groups.l0]
    have hn : ix37 (fun v => v.f0 == u) l = -1 := by
      unfold ix37
      rw [List.findIdx?_eq_none_iff.2 (fun x hx => by
        obtain ⟨j, hj', rfl⟩ := List.getElem_of_mem hx
        have := hj j (by omega)
        rw [rdE j hj'] at this
        exact beq_false_of_ne this)]
    unfold grS
    rw [if_neg (by omega), if_neg hu, hn]
    rfl
  | succ d ih =>
    intro i k hi hk hj
    obtain ⟨k, rfl⟩ : ∃ m, k = m + 1 := ⟨k - 1, by omega⟩
    simp only [tithingref21_groups.l0]
    rw [if_pos (by omega), if_pos (by omega)]
    by_cases h : (rd_T37 l i).f0 = u
    · have hn : ix37 (fun v => v.f0 == u) l = (i : Int) := by
        unfold ix37
        rw [List.findIdx?_eq_some_iff_getElem.2 ⟨(by omega : i < l.length), (by rw [← rdE i (by omega), h]; exact beq_self_eq_true u), fun j hj' => by
          have := hj j hj'
          rw [rdE j (by omega)] at this
          rw [beq_false_of_ne this]; decide⟩]
      unfold grS
      rw [if_pos h, if_neg hu, hn, if_neg (by omega)]
    · rw [if_neg h, show wrap64 ((i : Int) + 1) = ((i + 1 : Nat) : Int) from by unfold wrap64; omega]
      refine ih (i + 1) k (by omega) (by omega) (fun j h' => ?_)
      by_cases e : j = i
      · subst e; exact h
      · exact hj j (by omega)
theorem groups_ref_ok (l : List S37) (u : Int) (hl : l.length ≤ 60) (k : Nat) (hk : 61 ≤ k) : tithingref21_groups.f k l u = some (grS l u) := by
  unfold tithingref21_groups.f
  by_cases hu : u = 0
  · rw [if_pos hu]; unfold grS; rw [if_pos hu]
  · rw [if_neg hu]
    exact groups_loop l u hu hl l.length 0 k (by omega) (by omega) (fun j h => by omega)
theorem grS_few {l : List S37} (hf : FewU l) (u : Int) : (grS l u).1.length ≤ 40 := by
  unfold grS
  split
  · exact Nat.zero_le _
  · split
    · exact Nat.zero_le _
    · rename_i h1 h2
      rcases ix37_range (fun v => v.f0 == u) l with h | h
      · omega
      · have := rdT_mem l (ix37 (fun v => v.f0 == u) l).toNat (by omega)
        rw [Int.toNat_of_nonneg h.1] at this
        exact (hf.2 _ this).1

theorem index_loop (l : List Int) (v : Int) (hl : l.length ≤ 9223372036854775806) (d : Nat) : ∀ (i k : Nat), i + d = l.length → d < k → v ∉ l.take i →
    ∃ r, slices_Index_int_int.l0 k l v (l.length : Int) (i : Int) = some r ∧ (0 ≤ r ↔ v ∈ l) := by
  induction d with
  | zero =>
    intro i k hi hk hj
    obtain ⟨k, rfl⟩ : ∃ m, k = m + 1 := ⟨k - 1, by omega⟩
    simp only [slices_Index_int_int.l0]
    rw [if_neg (by omega)]
    rw [List.take_of_length_le (by omega)] at hj
    exact ⟨_, rfl, by constructor <;> intro h <;> first | omega | exact absurd h hj⟩
  | succ d ih =>
    intro i k hi hk hj
    obtain ⟨k, rfl⟩ : ∃ m, k = m + 1 := ⟨k - 1, by omega⟩
    have hrd : rd l (i : Int) = l[i]'(by omega) := by
      unfold rd
      rw [Int.toNat_natCast, List.getD_eq_getElem?_getD, List.getElem?_eq_getElem (by omega)]; rfl
    simp only [slices_Index_int_int.l0]
    rw [if_pos (by omega), if_pos (by omega), if_pos (by omega)]
    by_cases h : v = rd l i
    · rw [if_pos h]
      exact ⟨_, rfl, by constructor <;> intro _ <;> first | omega | exact (by rw [h, hrd]; exact List.getElem_mem _)⟩
    · rw [if_neg h, show wrap64 ((i : Int) + 1) = ((i + 1 : Nat) : Int) from by unfold wrap64; omega]
      refine ih (i + 1) k (by omega) (by omega) (fun hm => ?_)
      rw [List.take_add_one, List.getElem?_eq_getElem (by omega : i < l.length), List.mem_append] at hm
      rw [hrd] at h
      rcases hm with hm | hm
      · exact hj hm
      · exact h (by simpa using hm)
theorem contains_ok (l : List Int) (v : Int) (hl : l.length ≤ 40) (k : Nat) (hk : 41 ≤ k) : slices_Contains_int_int.f k l v = some (decide (v ∈ l)) := by
  obtain ⟨r, hr, hi⟩ := index_loop l v (by omega) l.length 0 k (by omega) (by omega) (by simp)
  unfold slices_Contains_int_int.f slices_Index_int_int.f
  rw [show ((0 : Nat) : Int) = 0 from rfl] at hr
  rw [hr, Option.bind_some]
  congr 1
  rw [Bool.eq_iff_iff, decide_eq_true_eq, decide_eq_true_eq]
  exact hi

def validR (a b c d e : Int) : Bool := decide (0 ≤ a ∧ 0 ≤ b ∧ (0 ≤ c ∧ c ≤ 7) ∧ (0 ≤ d ∧ d ≤ 7) ∧ (0 ≤ e ∧ e ≤ 7))
theorem within_ok (n a b : Int) : rights_within.f n a b = some (decide (a ≤ n ∧ n ≤ b)) := by
  unfold rights_within.f
  by_cases h : n ≥ a
  · rw [if_pos h]; congr 1; rw [Bool.eq_iff_iff, decide_eq_true_eq, decide_eq_true_eq]; omega
  · rw [if_neg h, decide_eq_false (by omega)]
theorem bits_ok (n : Int) : tithingref21_bits.f n = some (decide (0 ≤ n ∧ n ≤ 7)) := by
  unfold tithingref21_bits.f
  by_cases h : n ≥ 0
  · rw [if_pos h]; congr 1; rw [Bool.eq_iff_iff, decide_eq_true_eq, decide_eq_true_eq]; omega
  · rw [if_neg h, decide_eq_false (by omega)]
theorem validR_ok (a b c d e : Int) (f : Bool) : rights_Valid.f a b c d e f = some (validR a b c d e) := by
  unfold rights_Valid.f validR
  rw [within_ok, within_ok, within_ok]
  simp only [Option.bind_some, decide_eq_true_eq]
  repeat' split
  all_goals first | (rw [decide_eq_false (by omega)]) | (congr 1; rw [Bool.eq_iff_iff, decide_eq_true_eq, decide_eq_true_eq]; omega)
theorem validR_ref_ok (a b c d e : Int) (f : Bool) : tithingref21_Valid.f a b c d e f = some (validR a b c d e) := by
  unfold tithingref21_Valid.f validR
  rw [bits_ok, bits_ok, bits_ok]
  simp only [Option.bind_some, decide_eq_true_eq]
  repeat' split
  all_goals first | (rw [decide_eq_false (by omega)]) | (congr 1; rw [Bool.eq_iff_iff, decide_eq_true_eq, decide_eq_true_eq]; omega)

def or2 (x y : Int) : Int := Go.bits .or .i64 x y
def andS (g : List Int) (grp x fg : Int) : Int := if grp ∈ g then or2 x fg else x
/-- What a user with these groups has. -/
def hasS (u : Int) (g : List Int) (own grp fo fg fa : Int) : Int := andS g grp (if own = 0 ∨ own = u then or2 fa fo else fa) fg
theorem has_ok (l : List S37) (hf : FewU l) (u own grp fo fg fa : Int) (bl : Bool) (k : Nat) (hk : 50 ≤ k) : rights_has.f k l u own grp fo fg fa bl = some (hasS u (grS l u).1 own grp fo fg fa) := by
  obtain ⟨k, rfl⟩ : ∃ m, k = m + 2 := ⟨k - 2, by omega⟩
  have h1 : ∀ x : Int, rights_has.j1 (k + 1) l u x own grp fo fg fa bl = some (andS (grS l u).1 grp x fg) := by
    intro x
    unfold andS
    simp only [rights_has.j1]
    rw [groups_ok, Option.bind_some, contains_ok _ _ (grS_few hf u) _ (by omega), Option.bind_some]
    by_cases h : grp ∈ (grS l u).1
    · rw [decide_eq_true h, if_pos rfl, if_pos h]; rfl
    · rw [decide_eq_false h, if_neg (by decide), if_neg h]
  have h0 : ∀ b : Bool, rights_has.j0 (k + 2) l u fa b own grp fo fg fa bl = some (andS (grS l u).1 grp (if b = true then or2 fa fo else fa) fg) := by
    intro b
    simp only [rights_has.j0]
    cases b
    · rw [if_neg (by decide), h1, if_neg (by decide)]
    · rw [if_pos rfl, h1, if_pos rfl]; rfl
  unfold rights_has.f hasS
  by_cases h : own = 0
  · rw [if_pos h, h0, if_pos rfl, if_pos (.inl h)]
  · rw [if_neg h, h0]
    by_cases e : own = u
    · rw [if_pos (show (own == u) = true from beq_iff_eq.2 e), if_pos (.inr e)]
    · rw [if_neg (show ¬ (own == u) = true from fun hh => e (beq_iff_eq.1 hh)), if_neg (show ¬ (own = 0 ∨ own = u) from by omega)]

def bitT (b v : Int) : Bool := (Int.tmod (wrap64 (Int.tdiv v b)) 2 == 1)
theorem any_loop (L : List Int) (hl : L.length ≤ 100) (n b : Int) (hb : b ≠ 0) (d : Nat) : ∀ (i k : Nat), i + d = L.length → 
    tithingref21_has.l2 (k + d + 1) L n b ((L.take i).any (bitT b)) (i : Int) = if L.any (bitT b) = true then tithingref21_has.l1 k L (wrap64 (n + b)) (wrap64 (b * 2)) else tithingref21_has.l1 k L n (wrap64 (b * 2)) := by
  induction d with
  | zero =>
    intro i k hi
    simp only [tithingref21_has.l2]
    rw [if_neg (by omega), List.take_of_length_le (by omega)]
  | succ d ih =>
    intro i k hi
    rw [show k + (d + 1) + 1 = (k + d + 1) + 1 from by omega]
    have hrd : rd L (i : Int) = L[i]'(by omega) := by
      unfold rd
      rw [Int.toNat_natCast, List.getD_eq_getElem?_getD, List.getElem?_eq_getElem (by omega)]; rfl
    have hn := ih (i + 1) k (by omega)
    rw [List.take_add_one, List.getElem?_eq_getElem (by omega : i < L.length), List.any_append] at hn
    have hw : wrap64 ((i : Int) + 1) = ((i + 1 : Nat) : Int) := by unfold wrap64; omega
    simp only [tithingref21_has.l2]
    rw [if_pos (by omega), hw]
    by_cases h : (L.take i).any (bitT b) = true
    · rw [h] at hn ⊢
      rw [if_pos rfl]
      rw [Bool.true_or] at hn
      exact hn
    · rw [eq_false_of_ne_true h] at hn ⊢
      rw [if_neg (by decide), if_pos (by omega), if_neg hb, hrd]
      rw [Bool.false_or] at hn
      simp only [List.any_cons, List.any_nil, Option.toList_some, Bool.or_false] at hn
      exact hn
theorem bit_loop (L : List Int) (hl : L.length ≤ 100) (n b : Int) (hb : b ≠ 0) (h4 : b ≤ 4) (k : Nat) :
    tithingref21_has.l1 (k + L.length + 2) L n b = tithingref21_has.l1 k L (if L.any (bitT b) = true then wrap64 (n + b) else n) (wrap64 (b * 2)) := by
  have h := any_loop L hl n b hb L.length 0 k (by omega)
  rw [show k + L.length + 2 = (k + L.length + 1) + 1 from rfl]
  simp only [tithingref21_has.l1]
  rw [if_pos h4]
  rw [show (L.take 0).any (bitT b) = false from rfl, show ((0 : Nat) : Int) = 0 from rfl] at h
  rw [h]
  split <;> rfl
def sum3 (a b c : Bool) : Int :=
  let n := if a = true then wrap64 (0 + 1) else 0
  let m := if b = true then wrap64 (n + 2) else n
  if c = true then wrap64 (m + 4) else m
theorem bits_all (L : List Int) (hl : L.length ≤ 100) (k : Nat) (hk : 400 ≤ k) : tithingref21_has.l1 k L 0 1 = some (sum3 (L.any (bitT 1)) (L.any (bitT 2)) (L.any (bitT 4))) := by
  obtain ⟨k, rfl⟩ : ∃ m, k = (((m + 1) + L.length + 2) + L.length + 2) + L.length + 2 := ⟨k - 7 - 3 * L.length, by omega⟩
  rw [bit_loop L hl 0 1 (by decide) (by decide), show wrap64 (1 * 2) = 2 from by decide +kernel,
    bit_loop L hl _ 2 (by decide) (by decide), show wrap64 (2 * 2) = 4 from by decide +kernel,
    bit_loop L hl _ 4 (by decide) (by decide), show wrap64 (4 * 2) = 8 from by decide +kernel]
  simp only [tithingref21_has.l1]
  rw [if_neg (by decide)]
  rfl
theorem add_loop (g : List Int) (hg : g.length ≤ 40) (own grp fo fg fa : Int) (bl : Bool) (d : Nat) : ∀ (i k : Nat) (L : List Int), i + d = g.length → L.length ≤ 2 + i → 
    ∃ M : List Int, tithingref21_has.l0 (k + d + 1) g L (i : Int) own grp fo fg fa bl = tithingref21_has.l1 k M 0 1 ∧ M.length ≤ L.length + d ∧ ∀ p : Int → Bool, M.any p = (L.any p || (decide (grp ∈ g.drop i) && p fg)) := by
  induction d with
  | zero =>
    intro i k L hi hL
    refine ⟨L, ?_, by omega, fun p => ?_⟩
    · simp only [tithingref21_has.l0]
      rw [if_neg (by omega)]
    · rw [List.drop_of_length_le (by omega)]; simp
  | succ d ih =>
    intro i k L hi hL
    rw [show k + (d + 1) + 1 = (k + d + 1) + 1 from by omega]
    have hrd : rd g (i : Int) = g[i]'(by omega) := by
      unfold rd
      rw [Int.toNat_natCast, List.getD_eq_getElem?_getD, List.getElem?_eq_getElem (by omega)]; rfl
    have hw : wrap64 ((i : Int) + 1) = ((i + 1 : Nat) : Int) := by unfold wrap64; omega
    simp only [tithingref21_has.l0]
    rw [if_pos (by omega), if_pos (by omega), hw, hrd]
    by_cases h : g[i]'(by omega) = grp
    · rw [if_pos h, if_pos (by omega)]
      obtain ⟨M, e, hl, hp⟩ := ih (i + 1) k (L ++ [fg]) (by omega) (by simp; omega)
      refine ⟨M, e, by simp at hl; omega, fun p => ?_⟩
      rw [hp p, List.drop_eq_getElem_cons (by omega : i < g.length), List.any_append]
      simp only [List.any_cons, List.any_nil, Bool.or_false, List.mem_cons, h, true_or, decide_true, Bool.true_and]
      cases L.any p <;> cases p fg <;> simp
    · rw [if_neg h]
      obtain ⟨M, e, hl, hp⟩ := ih (i + 1) k L (by omega) (by omega)
      refine ⟨M, e, by omega, fun p => ?_⟩
      have h' : ¬ grp = g[i]'(by omega) := fun e => h e.symm
      have hd : decide (grp ∈ g.drop i) = decide (grp ∈ g.drop (i + 1)) := by
        rw [Bool.eq_iff_iff, decide_eq_true_eq, decide_eq_true_eq, List.drop_eq_getElem_cons (by omega : i < g.length), List.mem_cons]
        exact ⟨fun hh => hh.resolve_left h', fun hh => .inr hh⟩
      rw [hp p, hd]
theorem or_all : ∀ a b c : Fin 8, ∀ o g : Bool,
    sum3 ((bitT 1 a.val || (o && bitT 1 b.val)) || (g && bitT 1 c.val)) ((bitT 2 a.val || (o && bitT 2 b.val)) || (g && bitT 2 c.val)) ((bitT 4 a.val || (o && bitT 4 b.val)) || (g && bitT 4 c.val)) =
      (if g = true then or2 (if o = true then or2 a.val b.val else a.val) c.val else (if o = true then or2 a.val b.val else a.val)) := by decide +kernel
theorem has_ref_ok (u : Int) (g : List Int) (hg : g.length ≤ 40) (own grp fo fg fa : Int) (bl : Bool) (hv : validR own grp fo fg fa = true) (k : Nat) (hk : 600 ≤ k) :
    tithingref21_has.f k u g own grp fo fg fa bl = some (hasS u g own grp fo fg fa) := by
  unfold validR at hv
  rw [decide_eq_true_eq] at hv
  obtain ⟨k, rfl⟩ : ∃ m, k = ((m + g.length + 1) + 1) + 1 := ⟨k - 3 - g.length, by omega⟩
  have hO : ∀ o : Bool, tithingref21_has.j0 (((k + g.length + 1) + 1) + 1) g [fa] o own grp fo fg fa bl = some (andS g grp (if o = true then or2 fa fo else fa) fg) := by
    intro o
    have step : ∀ L : List Int, L.length ≤ 2 → (∀ p : Int → Bool, L.any p = (p fa || (o && p fo))) → tithingref21_has.j1 ((k + g.length + 1) + 1) g L own grp fo fg fa bl = some (andS g grp (if o = true then or2 fa fo else fa) fg) := by
      intro L hL hp
      obtain ⟨M, e, hl, hq⟩ := add_loop g hg own grp fo fg fa bl g.length 0 k L (by omega) (by omega)
      simp only [tithingref21_has.j1]
      rw [show ((0 : Nat) : Int) = 0 from rfl] at e
      rw [e, bits_all M (by omega) k (by omega), hq, hq, hq, hp, hp, hp, List.drop_zero]
      have hA := or_all ⟨fa.toNat, by omega⟩ ⟨fo.toNat, by omega⟩ ⟨fg.toNat, by omega⟩ o (decide (grp ∈ g))
      simp only [Int.toNat_of_nonneg hv.2.2.1.1, Int.toNat_of_nonneg hv.2.2.2.1.1, Int.toNat_of_nonneg hv.2.2.2.2.1, decide_eq_true_eq] at hA
      rw [hA]
      rfl
    simp only [tithingref21_has.j0]
    cases o
    · rw [if_neg (by decide)]
      exact step [fa] (by simp) (fun p => by simp)
    · rw [if_pos rfl, if_pos (by simp)]
      exact step ([fa] ++ [fo]) (by simp) (fun p => by simp)
  unfold tithingref21_has.f hasS
  rw [Option.bind_some]
  by_cases h : own = u
  · rw [if_pos h, hO, if_pos rfl, if_pos (.inr h)]
  · rw [if_neg h, hO]
    by_cases e : own = 0
    · rw [if_pos (show (own == 0) = true from beq_iff_eq.2 e), if_pos (.inl e)]
    · rw [if_neg (show ¬ (own == 0) = true from fun hh => e (beq_iff_eq.1 hh)), if_neg (show ¬ (own = 0 ∨ own = u) from by omega)]

/-- What is asked for: 0, or the error. -/
def askedS (l : List S37) (right : Bool) (u : Int) : Int := if (validS l && right) = true then (if (grS l u).2 = true then 0 else 5) else 2
theorem asked_ok (l : List S37) (hf : FewU l) (right : Bool) (u : Int) (k : Nat) (hk : 200 ≤ k) : rights_asked.f k l right u = some (askedS l right u) := by
  obtain ⟨k, rfl⟩ : ∃ m, k = m + 1 := ⟨k - 1, by omega⟩
  unfold rights_asked.f askedS
  rw [valid_ok l hf _ (by omega), Option.bind_some]
  simp only [rights_asked.j0]
  cases validS l
  · rw [if_neg (by decide), if_pos trivial]; rfl
  · rw [if_pos rfl]
    cases right
    · rw [if_pos (by decide)]; rfl
    · rw [if_neg (by decide), groups_ok, Option.bind_some]
      cases (grS l u).2 <;> rfl
def HasS (l : List S37) (u own grp fo fg fa : Int) : Int × Int := if askedS l (validR own grp fo fg fa) u = 0 then (hasS u (grS l u).1 own grp fo fg fa, 0) else (0, askedS l (validR own grp fo fg fa) u)
theorem Has_ok (l : List S37) (hf : FewU l) (u own grp fo fg fa : Int) (bl : Bool) (k : Nat) (hk : 200 ≤ k) : rights_Has.f k l u own grp fo fg fa bl = some (HasS l u own grp fo fg fa) := by
  unfold rights_Has.f HasS
  rw [validR_ok, Option.bind_some, asked_ok l hf _ u k hk, Option.bind_some]
  by_cases h : askedS l (validR own grp fo fg fa) u = 0
  · rw [if_pos h, if_pos h, has_ok l hf _ _ _ _ _ _ _ _ (by omega), Option.bind_some]
  · rw [if_neg h, if_neg h]
theorem Has_ref_ok (l : List S37) (hf : FewU l) (u own grp fo fg fa : Int) (bl : Bool) (k : Nat) (hk : 12200 ≤ k) : tithingref21_Has.f k l u own grp fo fg fa bl = some (HasS l u own grp fo fg fa) := by
  obtain ⟨k, rfl⟩ : ∃ m, k = m + 1 := ⟨k - 1, by omega⟩
  unfold tithingref21_Has.f HasS askedS
  rw [valid_ref_ok l hf _ (by omega), Option.bind_some, validR_ref_ok, Option.bind_some]
  simp only [tithingref21_Has.j0]
  cases hV : validS l
  · rw [if_neg (by decide), if_pos trivial]; rfl
  · rw [if_pos rfl]
    cases hR : validR own grp fo fg fa
    · rw [if_pos (by decide)]; rfl
    · rw [if_neg (by decide), groups_ref_ok l u hf.1 _ (by omega), Option.bind_some]
      cases hG : (grS l u).2
      · rw [if_neg (by decide)]; rfl
      · rw [if_pos rfl, has_ref_ok u _ (grS_few hf u) _ _ _ _ _ _ hR _ (by omega)]
        rfl
end Go.Proofs.Ytkmbcjpedmlhfaa.Spec
