/- Deeds keep it true who has each byte. -/
import Derived.Test.YtngnddnbhlbjbaaVT
namespace Go.Proofs.Ytngnddnbhlbjbaa.V
open Go Go.Proofs.YtngnddnbhlbjbaaV
set_option linter.unusedVariables false
set_option linter.unusedSimpArgs false
theorem own_nocov {l : List Sp} {n : Int} (h : ∀ x ∈ l, covS x n = false) : ownK l n l.length = 0 := ownK_none (Nat.le_refl _) fun j hj => h _ (spAt_mem hj)
theorem own_cov {l : List Sp} (hok : Ok l) {x : Sp} (hx : x ∈ l) {n : Int} (hn : n ≤ 2147483647) (hc : covS x n = true) : ownK l n l.length = x.by' := by
  obtain ⟨k, hk, rfl⟩ := mem_spAt hx
  unfold ownK
  rw [List.take_length]
  cases hf : l.find? (fun s => covS s n) with
  | none =>
    rw [List.find?_eq_none] at hf
    exact absurd hc (hf _ hx)
  | some y =>
    have hy := List.find?_some hf
    obtain ⟨j, hj, rfl⟩ := mem_spAt (List.mem_of_find?_eq_some hf)
    have := hok.cov hn hj hk hy hc
    subst this; rfl
/-- What has the same spans over a byte has the same owner. -/
theorem own_same {l m : List Sp} (hl : Ok l) (hm : Ok m) {n : Int} (hn : n ≤ 2147483647) (h : ∀ x, covS x n = true → (x ∈ l ↔ x ∈ m)) : ownK m n m.length = ownK l n l.length := by
  by_cases hx : ∃ x ∈ l, covS x n = true
  · obtain ⟨x, h1, h2⟩ := hx
    rw [own_cov hl h1 hn h2, own_cov hm ((h x h2).1 h1) hn h2]
  · have h0 : ∀ x ∈ l, covS x n = false := fun x hxl => by
      rw [Bool.eq_false_iff]; exact fun hc => hx ⟨x, hxl, hc⟩
    rw [own_nocov h0, own_nocov fun x hxm => by
      rw [Bool.eq_false_iff]
      intro hc
      have := h0 x ((h x hc).2 hxm)
      rw [this] at hc; cases hc]
/-- A span that the law takes. -/
structure Take (s : Sp) : Prop where mk ::
  by' : 1 ≤ s.by'
  lo : 0 ≤ s.from'
  hi : s.from' ≤ 40
  many : s.many = -1 ∨ 1 ≤ s.many ∧ s.many ≤ 40
theorem Take.sp {s : Sp} (h : Take s) : isSp s = true := by
  rw [isSp_iff]
  have := h.by'; have := h.lo; have := h.hi; have := h.many
  omega
/-- The byte that a place stands for. -/
def byteAt (i : Nat) : Int := if i < 41 then i else 1000000
theorem Take.fill {s : Sp} (h : Take s) {i : Nat} (hi : i < 42) : (s.from'.toNat ≤ i ∧ i < 42 ∧ fillC s i = true) ↔ covS s (byteAt i) = true := by
  have h1 := h.lo; have h2 := h.hi; have h3 := h.many
  have e : IntKind.i64.wrap (s.from' + s.many) = s.from' + s.many := by rw [IntKind.wrap_i64]; omega
  unfold fillC covS byteAt
  rw [e]
  simp only [Bool.and_eq_true, Bool.or_eq_true, decide_eq_true_eq]
  split <;> omega
theorem owned_iff {l : List Sp} {o : List Int} : Owned l o ↔ ∀ i : Nat, i < 42 → oAt o i = ownK l (byteAt i) l.length := by
  unfold Owned byteAt
  constructor
  · rintro ⟨h1, h2⟩ i hi
    by_cases h : i < 41
    · rw [if_pos h]; exact h1 i h
    · obtain rfl : i = 41 := by omega
      rw [if_neg h]; exact h2
  · intro h
    refine ⟨fun i hi => ?_, ?_⟩
    · have := h i (by omega)
      rwa [if_pos hi] at this
    · have := h 41 (by omega)
      rwa [if_neg (by omega)] at this
theorem byteAt_le (i : Nat) : byteAt i ≤ 2147483647 := by unfold byteAt; split <;> omega
theorem fill_at {o : List Int} {s : Sp} {v : Int} (h : Take s) {i : Nat} (hi : i < 42) (ho : o.length = 42) : oAt (fillK o s v s.from'.toNat 42) i = if covS s (byteAt i) = true then v else oAt o i := by
  have hg := oAt_get (o := o) (k := i) (by omega)
  have hg2 := oAt_get (o := fillK o s v s.from'.toNat 42) (k := i) (by rw [fillK_len]; omega)
  have := h.fill hi
  have e1 : (fillK o s v s.from'.toNat 42)[i]? = some (if s.from'.toNat ≤ i ∧ i < 42 ∧ fillC s i = true then v else oAt o i) := by
    unfold fillK
    rw [List.getElem?_mapIdx, hg]; rfl
  rw [e1] at hg2
  simp only [Option.some.injEq] at hg2
  rw [← hg2]
  simp only [this]
theorem clr_at {o : List Int} {v : Int} {i : Nat} (hi : i < 42) (ho : o.length = 42) : oAt (clrO o v) i = if oAt o i = v then 0 else oAt o i := by
  have hg := oAt_get (o := o) (k := i) (by omega)
  have hg2 := oAt_get (o := clrO o v) (k := i) (by simp [clrO]; omega)
  have e1 : (clrO o v)[i]? = some (if oAt o i = v then 0 else oAt o i) := by
    unfold clrO
    rw [List.getElem?_map, hg]; rfl
  rw [e1] at hg2
  simp only [Option.some.injEq] at hg2
  exact hg2.symm
theorem deedO_len {l : List Sp} {o : List Int} {s : Sp} {d : Int} (ho : o.length = 42) : (deedO l o s d).length = 42 := by
  unfold deedO
  split <;> (try split) <;> (try split) <;> first | exact ho | (rw [fillK_len]; exact ho) | (unfold clrO; rw [List.length_map]; exact ho)
theorem mem_lockL {l : List Sp} {s : Sp} (h : lockE l s = 0) (x : Sp) : x ∈ lockL l s ↔ x = s ∨ x ∈ l := by
  rw [(lock_ok h).2, List.mem_append, List.mem_cons]
  have : x ∈ l ↔ x ∈ l.take (posS l s) ∨ x ∈ l.drop (posS l s) := by
    conv => lhs; rw [← List.take_append_drop (posS l s) l]
    rw [List.mem_append]
  rw [this]
  constructor
  · rintro (h | h | h)
    · exact .inr (.inl h)
    · exact .inl h
    · exact .inr (.inr h)
  · rintro (h | h | h)
    · exact .inr (.inl h)
    · exact .inl h
    · exact .inr (.inr h)
theorem unl_spec {l : List Sp} {s : Sp} (hok : Ok l) (h : unlE l s = 0) : s ∈ l ∧ unlL l s = l.filter (fun x => !spEq x s) := by
  have h' := h
  unfold unlE at h
  split at h
  · rename_i h1
    rcases idxS_range (spEq s) l with e | ⟨k, hk, e, hp⟩
    · rw [e] at h; simp at h
    · have hs : spAt l k = s := ((spEq_iff _ _).1 hp).symm
      refine ⟨hs ▸ spAt_mem hk, ?_⟩
      rw [filter_one hok hk hs]
      unfold unlL
      rw [if_pos h', e]; rfl
  · omega
/-- A deed keeps it. -/
theorem deed_keeps {l : List Sp} {o : List Int} (hok : Ok l) (ho : o.length = 42) (hown : Owned l o) {s : Sp} (hs : Take s) (d : Int) : Ok (deedL l s d) ∧ Owned (deedL l s d) (deedO l o s d) := by
  rw [owned_iff] at hown
  have hsame : Ok l ∧ Owned l o := ⟨hok, owned_iff.2 hown⟩
  unfold deedL deedO
  by_cases h4 : d = 4
  · rw [if_pos h4, if_pos h4]
    by_cases he : unlE l s = 0
    · rw [if_pos he, if_pos he]
      obtain ⟨hsl, e⟩ := unl_spec hok he
      have hok' : Ok (unlL l s) := by rw [e]; exact hok.filter _
      have hmem : ∀ x, x ∈ unlL l s ↔ x ∈ l ∧ x ≠ s := fun x => by
        rw [e, List.mem_filter, Bool.not_eq_true', Bool.eq_false_iff, Ne, spEq_iff]
      refine ⟨hok', owned_iff.2 fun i hi => ?_⟩
      rw [fill_at hs hi ho]
      by_cases hc : covS s (byteAt i) = true
      · rw [if_pos hc, own_nocov fun x hx => ?_]
        obtain ⟨hxl, hne⟩ := (hmem x).1 hx
        rw [Bool.eq_false_iff]
        intro hcx
        obtain ⟨j, hj, rfl⟩ := mem_spAt hxl
        obtain ⟨k, hk, rfl⟩ := mem_spAt hsl
        exact hne (by rw [hok.cov (byteAt_le i) hj hk hcx hc])
      · rw [if_neg hc, hown i hi]
        refine (own_same hok hok' (byteAt_le i) fun x hx => ?_).symm
        rw [hmem]
        exact ⟨fun h => ⟨h, fun e => hc (e ▸ hx)⟩, fun h => h.1⟩
    · rw [if_neg he, if_neg he]; exact hsame
  · rw [if_neg h4, if_neg h4]
    by_cases h5 : d = 5
    · rw [if_pos h5, if_pos h5]
      by_cases he : dropE l s.by' = 0
      · rw [if_pos he, if_pos he]
        have hk : (validS l && decide (1 ≤ s.by')) = true := by rw [Bool.and_eq_true, validS_iff, decide_eq_true_eq]; exact ⟨hok, hs.by'⟩
        have e : dropL l s.by' = l.filter (fun x => !decide (x.by' = s.by')) := by unfold dropL; rw [if_pos hk]
        have hok' : Ok (dropL l s.by') := by rw [e]; exact hok.filter _
        have hmem : ∀ x, x ∈ dropL l s.by' ↔ x ∈ l ∧ x.by' ≠ s.by' := fun x => by rw [e, List.mem_filter]; simp
        refine ⟨hok', owned_iff.2 fun i hi => ?_⟩
        rw [clr_at hi ho, hown i hi]
        by_cases hx : ∃ x ∈ l, covS x (byteAt i) = true
        · obtain ⟨x, h1, h2⟩ := hx
          rw [own_cov hok h1 (byteAt_le i) h2]
          by_cases hb : x.by' = s.by'
          · rw [if_pos hb, own_nocov fun y hy => ?_]
            obtain ⟨hyl, hne⟩ := (hmem y).1 hy
            rw [Bool.eq_false_iff]
            intro hcy
            obtain ⟨j, hj, rfl⟩ := mem_spAt hyl
            obtain ⟨k, hk, rfl⟩ := mem_spAt h1
            exact hne (by rw [hok.cov (byteAt_le i) hj hk hcy h2]; exact hb)
          · rw [if_neg hb, own_cov hok' ((hmem x).2 ⟨h1, hb⟩) (byteAt_le i) h2]
        · have h0 : ∀ x ∈ l, covS x (byteAt i) = false := fun x hxl => by
            rw [Bool.eq_false_iff]; exact fun hc => hx ⟨x, hxl, hc⟩
          rw [own_nocov h0, own_nocov fun x hxm => h0 x ((hmem x).1 hxm).1]
          split <;> rfl
      · rw [if_neg he, if_neg he]; exact hsame
    · rw [if_neg h5, if_neg h5]
      by_cases he : lockE l s = 0
      · rw [if_pos he, if_pos he]
        have hok' := (lock_ok he).1
        refine ⟨hok', owned_iff.2 fun i hi => ?_⟩
        rw [fill_at hs hi ho]
        by_cases hc : covS s (byteAt i) = true
        · rw [if_pos hc, own_cov hok' ((mem_lockL he s).2 (.inl rfl)) (byteAt_le i) hc]
        · rw [if_neg hc, hown i hi]
          refine (own_same hok hok' (byteAt_le i) fun x hx => ?_).symm
          rw [mem_lockL he]
          exact ⟨.inr, fun h => h.resolve_left fun e => hc (e ▸ hx)⟩
      · rw [if_neg he, if_neg he]; exact hsame
end Go.Proofs.Ytngnddnbhlbjbaa.V
