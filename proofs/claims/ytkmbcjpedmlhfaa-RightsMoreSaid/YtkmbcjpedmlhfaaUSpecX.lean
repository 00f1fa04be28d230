/- More bits are never less. -/
import Derived.Test.YtkmbcjpedmlhfaaUSpecM
set_option linter.unusedVariables false
namespace Go.Proofs.Ytkmbcjpedmlhfaa.USpec
open Go.RowKit Go.Proofs.Ytkmbcjpedmlhfaa.U Go.Proofs.YtkmbcjpedmlhfaaW.PrintWords Go.Proofs.YtkmbcjpedmlhfaaW.PrintLast Go.Proofs.YtkmbcjpedmlhfaaW.PrintMore Go.Proofs.Ytkmbcjpedmlhfaa.Aux

def In7 (x : Int) : Prop := 0 ≤ x ∧ x ≤ 7
theorem fin_or2_idem : ∀ a : Fin 8, or2 a.val a.val = a.val ∧ or2 0 a.val = a.val := by decide +kernel
theorem fin_or2_sub : ∀ a b : Fin 8, or2 a.val (or2 a.val b.val) = or2 a.val b.val := by decide +kernel
theorem fin_or2_mono : ∀ a a' c c' : Fin 8, or2 a.val a'.val = a'.val → or2 c.val c'.val = c'.val → or2 (or2 a.val c.val) (or2 a'.val c'.val) = or2 a'.val c'.val := by decide +kernel
theorem fin_and_mono : ∀ h h' t : Fin 8, or2 h.val h'.val = h'.val → Go.bits .and .i64 (h.val : Int) t.val = t.val → Go.bits .and .i64 (h'.val : Int) t.val = t.val := by decide +kernel
theorem fin_ge4 : ∀ h h' : Fin 8, or2 h.val h'.val = h'.val → 4 ≤ (h.val : Int) → 4 ≤ (h'.val : Int) := by decide +kernel
theorem fin7 {x : Int} (h : In7 x) : ∃ a : Fin 8, x = (a.val : Int) := ⟨⟨x.toNat, by have := h.1; have := h.2; omega⟩, by have := h.1; simp only []; omega⟩
theorem or2_idem {x : Int} (h : In7 x) : or2 x x = x := by obtain ⟨a, rfl⟩ := fin7 h; exact (fin_or2_idem a).1
theorem or2_zero {x : Int} (h : In7 x) : or2 0 x = x := by obtain ⟨a, rfl⟩ := fin7 h; exact (fin_or2_idem a).2
theorem or2_sub {x y : Int} (h : In7 x) (k : In7 y) : or2 x (or2 x y) = or2 x y := by obtain ⟨a, rfl⟩ := fin7 h; obtain ⟨b, rfl⟩ := fin7 k; exact fin_or2_sub a b
theorem or2_mono {a a' c c' : Int} (h1 : In7 a) (h2 : In7 a') (h3 : In7 c) (h4 : In7 c') (h : or2 a a' = a') (k : or2 c c' = c') : or2 (or2 a c) (or2 a' c') = or2 a' c' := by
  obtain ⟨a, rfl⟩ := fin7 h1; obtain ⟨a', rfl⟩ := fin7 h2; obtain ⟨c, rfl⟩ := fin7 h3; obtain ⟨c', rfl⟩ := fin7 h4; exact fin_or2_mono a a' c c' h k
theorem and_mono {a a' t : Int} (h1 : In7 a) (h2 : In7 a') (h3 : In7 t) (h : or2 a a' = a') (k : Go.bits .and .i64 a t = t) : Go.bits .and .i64 a' t = t := by
  obtain ⟨a, rfl⟩ := fin7 h1; obtain ⟨a', rfl⟩ := fin7 h2; obtain ⟨t, rfl⟩ := fin7 h3; exact fin_and_mono a a' t h k
theorem ge4_mono {a a' : Int} (h1 : In7 a) (h2 : In7 a') (h : or2 a a' = a') (k : 4 ≤ a) : 4 ≤ a' := by
  obtain ⟨a, rfl⟩ := fin7 h1; obtain ⟨a', rfl⟩ := fin7 h2; exact fin_ge4 a a' h k

/-- The second rights have the bits of the first, and the rest is the same. -/
structure LeR (a b : S24) : Prop where
  h0 : a.f0 = b.f0
  h1 : a.f1 = b.f1
  h3 : a.f3 = b.f3
  h5 : a.f5 = b.f5
  h2 : or2 a.f2 b.f2 = b.f2
  h4 : or2 a.f4 b.f4 = b.f4
theorem vR_out {r : S24} (h : vR r = true) : In7 r.f2 ∧ In7 r.f3 ∧ In7 r.f4 := by
  unfold vR validR at h
  rw [decide_eq_true_eq] at h
  exact ⟨h.2.2.1, h.2.2.2.1, h.2.2.2.2⟩
theorem LeR.refl {r : S24} (h : vR r = true) : LeR r r := ⟨rfl, rfl, rfl, rfl, or2_idem (vR_out h).1, or2_idem (vR_out h).2.2⟩
theorem hasR_mono (u : Int) (g : List Int) {a b : S24} (ha : vR a = true) (hb : vR b = true) (h : LeR a b) : or2 (hasR u g a) (hasR u g b) = hasR u g b := by
  obtain ⟨a2, a3, a4⟩ := vR_out ha
  obtain ⟨b2, b3, b4⟩ := vR_out hb
  unfold hasR hasS andS
  rw [h.h0, h.h1, h.h3]
  have hx : In7 (if b.f0 = 0 ∨ b.f0 = u then or2 a.f4 a.f2 else a.f4) ∧ In7 (if b.f0 = 0 ∨ b.f0 = u then or2 b.f4 b.f2 else b.f4) ∧ or2 (if b.f0 = 0 ∨ b.f0 = u then or2 a.f4 a.f2 else a.f4) (if b.f0 = 0 ∨ b.f0 = u then or2 b.f4 b.f2 else b.f4) = (if b.f0 = 0 ∨ b.f0 = u then or2 b.f4 b.f2 else b.f4) := by
    split
    · exact ⟨or2_in _ _ a4 a2, or2_in _ _ b4 b2, or2_mono a4 b4 a2 b2 h.h4 h.h2⟩
    · exact ⟨a4, b4, h.h4⟩
  split
  · exact or2_mono hx.1 hx.2.1 b3 b3 hx.2.2 (or2_idem b3)
  · exact hx.2.2
structure LeW (v w : List S24) : Prop where
  len : v.length = w.length
  at_ : ∀ j (h : j < v.length) (k : j < w.length), LeR v[j] w[j]
theorem LeW.take {v w : List S24} (h : LeW v w) (n : Nat) : LeW (v.take n) (w.take n) := by
  refine ⟨by rw [List.length_take, List.length_take, h.len], fun j hj hk => ?_⟩
  rw [List.getElem_take, List.getElem_take]
  exact h.at_ j _ _
theorem effS_mono {v w : List S24} (h : LeW v w) (hv : ∀ r ∈ v, vR r = true) : LeR (effS v) (effS w) := by
  have rev : ∀ j (hj : j < v.reverse.length) (hk : j < w.reverse.length), LeR v.reverse[j] w.reverse[j] := fun j hj hk => by
    have hl := h.len
    rw [List.length_reverse] at hj hk
    have := h.at_ (v.length - 1 - j) (by omega) (by omega)
    rw [List.getElem_reverse, List.getElem_reverse]
    simpa only [hl] using this
  have hl : v.reverse.length = w.reverse.length := by rw [List.length_reverse, List.length_reverse, h.len]
  unfold effS
  cases hf : v.reverse.find? (fun r => !r.f5) with
  | none =>
    rw [List.find?_eq_none] at hf
    rw [List.find?_eq_none.2 (fun x hx => by
      obtain ⟨j, hj, rfl⟩ := List.getElem_of_mem hx
      rw [← (rev j (by omega) hj).h5]
      exact hf _ (List.getElem_mem _))]
    exact LeR.refl (by decide)
  | some r =>
    obtain ⟨hp, i, hi, rfl, hmin⟩ := List.find?_eq_some_iff_getElem.1 hf
    have hw : w.reverse.find? (fun r => !r.f5) = some (w.reverse[i]'(by omega)) := List.find?_eq_some_iff_getElem.2 ⟨by rw [← (rev i hi (by omega)).h5]; exact hp, i, by omega, rfl, fun j hj => by
      rw [← (rev j (by omega) (by omega)).h5]
      exact hmin j hj⟩
    rw [hw]
    exact rev i hi (by omega)
theorem walkS_in (u : Int) (g : List Int) (w : List S24) (hw : ∀ r ∈ w, vR r = true) : In7 (walkS u g w) := by
  unfold walkS
  split
  · exact hasR_in u g _ (effS_valid w hw)
  · exact ⟨by decide, by decide⟩
theorem walkS_mono (u : Int) (g : List Int) {v w : List S24} (h : LeW v w) (hv : ∀ r ∈ v, vR r = true) (hw : ∀ r ∈ w, vR r = true) : or2 (walkS u g v) (walkS u g w) = walkS u g w := by
  have ht : ∀ n, or2 (hasR u g (effS (v.take n))) (hasR u g (effS (w.take n))) = hasR u g (effS (w.take n)) ∧ In7 (hasR u g (effS (v.take n))) ∧ In7 (hasR u g (effS (w.take n))) := fun n => by
    have h1 := effS_valid (v.take n) (fun r hr => hv r (List.mem_of_mem_take hr))
    have h2 := effS_valid (w.take n) (fun r hr => hw r (List.mem_of_mem_take hr))
    exact ⟨hasR_mono u g h1 h2 (effS_mono (h.take n) (fun r hr => hv r (List.mem_of_mem_take hr))), hasR_in u g _ h1, hasR_in u g _ h2⟩
  by_cases hg : goS u g v = true
  · have hg2 : goS u g w = true := by
      unfold goS at hg ⊢
      rw [decide_eq_true_eq] at hg ⊢
      exact fun n hn h1 => ge4_mono (ht n).2.1 (ht n).2.2 (ht n).1 (hg n (by rw [h.len]; exact hn) h1)
    unfold walkS
    rw [if_pos hg, if_pos hg2]
    exact hasR_mono u g (effS_valid v hv) (effS_valid w hw) (effS_mono h hv)
  · have : walkS u g v = 0 := by unfold walkS; rw [if_neg hg]
    rw [this]
    exact or2_zero (walkS_in u g w hw)
theorem MayS_mono (l : List S37) (u : Int) (a : ByteArray) {v w : List S24} (h : LeW v w) (hw : isWayS w = true) (h1 : (MayS l u a v).2 = 0) (h2 : (MayS l u a v).1 = true) : MayS l u a w = (true, 0) := by
  unfold MayS at h1 h2 ⊢
  by_cases hn : (needsS a).2.2 = 0
  case neg => rw [if_neg hn] at h2; exact absurd h2 Bool.false_ne_true
  rw [if_pos hn] at h1 h2 ⊢
  by_cases hA : (AtS l u v).2 = 0
  case neg => rw [if_neg hA] at h2; exact absurd h2 Bool.false_ne_true
  rw [if_pos hA] at h2
  have h2' : Go.bits .and .i64 (AtS l u v).1 (needsS a).1 = (needsS a).1 := beq_iff_eq.1 h2
  have hk : askedS l (isWayS v) u = 0 := by
    unfold AtS at hA
    by_cases e : askedS l (isWayS v) u = 0
    · exact e
    · rw [if_neg e] at hA; exact hA
  have hwv := asked_way hk
  have hkw : askedS l (isWayS w) u = 0 := by rw [hw, ← hwv]; exact hk
  have ev : AtS l u v = (walkS u (grS l u).1 v, 0) := by unfold AtS; rw [if_pos hk]
  have ew : AtS l u w = (walkS u (grS l u).1 w, 0) := by unfold AtS; rw [if_pos hkw]
  rw [ev] at h2'
  rw [ew, if_pos rfl]
  have := and_mono (walkS_in u (grS l u).1 v (isWayS_out hwv).2) (walkS_in u (grS l u).1 w (isWayS_out hw).2) (needs_err a).2 (walkS_mono u (grS l u).1 h (isWayS_out hwv).2 (isWayS_out hw).2) h2'
  rw [show (Go.bits .and .i64 (walkS u (grS l u).1 w, (0 : Int)).1 (needsS a).1 == (needsS a).1) = true from beq_iff_eq.2 this]
theorem MayS_way {l : List S37} {u : Int} {a : ByteArray} {v : List S24} (h1 : (MayS l u a v).2 = 0) (h2 : (MayS l u a v).1 = true) : isWayS v = true := by
  unfold MayS at h1 h2
  by_cases hn : (needsS a).2.2 = 0
  case neg => rw [if_neg hn] at h2; exact absurd h2 Bool.false_ne_true
  rw [if_pos hn] at h1 h2
  by_cases hA : (AtS l u v).2 = 0
  case neg => rw [if_neg hA] at h2; exact absurd h2 Bool.false_ne_true
  unfold AtS at hA
  by_cases e : askedS l (isWayS v) u = 0
  · exact asked_way e
  · rw [if_neg e] at hA; exact absurd hA e
theorem rd_set (v : List S24) (i : Nat) (hi : i < v.length) (x : S24) : rd_T24 (v.set i x) (i : Int) = x := by
  unfold rd_T24
  rw [Int.toNat_natCast, List.getD_eq_getElem?_getD, List.getElem?_set_self hi]
  rfl
/-- The way with more bits at one place. -/
def moreR (r : S24) (s t : Int) : S24 := ⟨r.f0, r.f1, or2 r.f2 s, r.f3, or2 r.f4 t, r.f5⟩
theorem more_le {v : List S24} (hv : isWayS v = true) (i : Nat) (hi : i < v.length) (s t : Int) (hs : In7 s) (ht : In7 t) : LeW v (v.set i (moreR (rd_T24 v i) s t)) ∧ isWayS (v.set i (moreR (rd_T24 v i) s t)) = true := by
  obtain ⟨hl, hr⟩ := isWayS_out hv
  have hrd : rd_T24 v (i : Int) = v[i] := by
    unfold rd_T24
    rw [Int.toNat_natCast, List.getD_eq_getElem?_getD, List.getElem?_eq_getElem hi]; rfl
  rw [hrd]
  have hvi := hr v[i] (List.getElem_mem hi)
  obtain ⟨a2, a3, a4⟩ := vR_out hvi
  refine ⟨⟨by rw [List.length_set], fun j h k => ?_⟩, ?_⟩
  · rw [List.getElem_set]
    by_cases e : i = j
    · subst e
      rw [if_pos rfl]
      exact ⟨rfl, rfl, rfl, rfl, or2_sub a2 hs, or2_sub a4 ht⟩
    · rw [if_neg e]
      exact LeR.refl (hr _ (List.getElem_mem _))
  · unfold isWayS
    rw [List.length_set, decide_eq_true hl, Bool.true_and, List.all_eq_true]
    intro x hx
    rcases List.mem_or_eq_of_mem_set hx with h | h
    · exact hr x h
    · subst h
      unfold vR validR at hvi ⊢
      rw [decide_eq_true_eq] at hvi ⊢
      exact ⟨hvi.1, hvi.2.1, or2_in _ _ a2 hs, a3, or2_in _ _ a4 ht⟩
end Go.Proofs.Ytkmbcjpedmlhfaa.USpec
