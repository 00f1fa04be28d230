/- The bytes of a head, whole and torn. -/
import Derived.Test.YtkeapkmjkmbdpaaVRR
namespace Go.Proofs.Ytkeapkmjkmbdpaa.V
open Go Go.Proofs.YtkeapkmjkmbdpaaV
set_option linter.unusedVariables false
set_option linter.unusedSimpArgs false
set_option maxHeartbeats 1000000
set_option maxRecDepth 4000
theorem ext_atD {α : Type} [Inhabited α] {xs ys : List α} (hl : xs.length = ys.length) (h : ∀ j, j < xs.length → atD xs j = atD ys j) : xs = ys := by
  apply List.ext_getElem?
  intro i
  rcases Nat.lt_or_ge i xs.length with hi | hi
  · rw [atD_get hi, atD_get (by omega), h i hi]
  · rw [List.getElem?_eq_none hi, List.getElem?_eq_none (by omega)]
theorem atD_app1 {α : Type} [Inhabited α] {a b : List α} {j : Nat} (h : j < a.length) : atD (a ++ b) j = atD a j := atD_of (by rw [List.getElem?_append_left h, atD_get h])
theorem atD_app2 {α : Type} [Inhabited α] {a b : List α} {j : Nat} (h : a.length ≤ j) : atD (a ++ b) j = atD b (j - a.length) := by
  unfold atD
  rw [List.getD_eq_getElem?_getD, List.getD_eq_getElem?_getD, List.getElem?_append_right h]
theorem atD_take {α : Type} [Inhabited α] {a : List α} {j t : Nat} (h : j < t) : atD (a.take t) j = atD a j := by
  unfold atD
  rw [List.getD_eq_getElem?_getD, List.getD_eq_getElem?_getD, List.getElem?_take_of_lt h]
theorem atD_drop {α : Type} [Inhabited α] {a : List α} {j t : Nat} : atD (a.drop t) j = atD a (t + j) := by
  unfold atD
  rw [List.getD_eq_getElem?_getD, List.getD_eq_getElem?_getD, List.getElem?_drop]
theorem atD_set_eq {α : Type} [Inhabited α] {a : List α} {i : Nat} {x : α} (h : i < a.length) : atD (a.set i x) i = x := atD_of (List.getElem?_set_self h)
theorem atD_set_ne {α : Type} [Inhabited α] {a : List α} {i j : Nat} {x : α} (h : i ≠ j) : atD (a.set i x) j = atD a j := by
  unfold atD
  rw [List.getD_eq_getElem?_getD, List.getD_eq_getElem?_getD, List.getElem?_set_ne h]
theorem set_atD {α : Type} [Inhabited α] {a : List α} {i : Nat} (h : i < a.length) : a.set i (atD a i) = a := ext_atD (by simp) fun j hj => by
  rcases Nat.decEq i j with hn | rfl
  · exact atD_set_ne hn
  · exact atD_set_eq h
/-- A torn block. -/
def tornB (a z : By) (t : Nat) : By := a.take t ++ z.drop t
theorem torn_at {a z : By} {t j : Nat} (ha : a.length = 256) (hz : z.length = 256) (ht : t ≤ 256) : atD (tornB a z t) j = if j < t then atD a j else atD z j := by
  unfold tornB
  have hl : (a.take t).length = t := by rw [List.length_take]; omega
  split
  · rename_i h
    rw [atD_app1 (by omega), atD_take h]
  · rename_i h
    rw [atD_app2 (by omega), hl, atD_drop]
    congr 1
    omega
theorem tornB_len {a z : By} {t : Nat} (ha : a.length = 256) (hz : z.length = 256) (ht : t ≤ 256) : (tornB a z t).length = 256 := by
  unfold tornB
  rw [List.length_append, List.length_take, List.length_drop]
  omega
theorem torn_zero {a z : By} : tornB a z 0 = z := by unfold tornB; simp
theorem zero_at (j : Nat) : atD zeroB j = 0 := by
  unfold atD zeroB fullB
  rw [List.getD_eq_getElem?_getD, List.getElem?_replicate]
  split <;> rfl
theorem num_at {p r : By} {x : Nat} (hx : x < 65536) : num (p ++ (two x ++ r)) p.length = x := by
  have h0 : atD (p ++ (two x ++ r)) p.length = UInt8.ofNat (x / 256) := by
    rw [atD_app2 (Nat.le_refl _), Nat.sub_self]; rfl
  have h1 : atD (p ++ (two x ++ r)) (p.length + 1) = UInt8.ofNat (x % 256) := by
    rw [atD_app2 (Nat.le_add_right _ 1), Nat.add_sub_cancel_left]; rfl
  unfold num
  rw [h0, h1]
  simp only [UInt8.toNat_ofNat']
  omega
def tgB (ws : Ws) : By := ws.flatMap fun x => two x.1.toNat
theorem tgB_len (ws : Ws) : (tgB ws).length = 2 * ws.length := by
  unfold tgB
  induction ws with
  | nil => rfl
  | cons x r ih => rw [List.flatMap_cons, List.length_append, ih, two_len, List.length_cons]; omega
theorem preB_eq (ws : Ws) : preB ws = markB ++ (two ws.length ++ tgB ws) := by unfold preB tgB; rw [List.append_assoc]
theorem preB_len (ws : Ws) : (preB ws).length = 6 + 2 * ws.length := by
  rw [preB_eq, List.length_append, List.length_append, tgB_len, two_len]
  show 4 + _ = _
  omega
def sumB (ws : Ws) : Nat := sumN (datS ws ++ preB ws)
/-- The whole head. -/
def hdB (ws : Ws) : By := padB (headB ws)
theorem hdB_len (ws : Ws) : (hdB ws).length = 256 := padB_len _
theorem hdB_eq {ws : Ws} (h : ws.length ≤ 40) : hdB ws = preB ws ++ (two (sumB ws) ++ List.replicate (248 - 2 * ws.length) 0) := by
  unfold hdB padB
  have hl := headB_len (ws := ws)
  rw [hl, List.take_of_length_le (by omega)]
  unfold headB
  rw [List.append_assoc]
  have e : 256 - (8 + 2 * ws.length) = 248 - 2 * ws.length := by omega
  rw [e]
  rfl
theorem hdB_mark {ws : Ws} (h : ws.length ≤ 40) : (hdB ws).take 4 = markB := by
  rw [hdB_eq h, preB_eq]
  rfl
theorem hdB_num {ws : Ws} (h : ws.length ≤ 40) : num (hdB ws) 4 = ws.length := by
  rw [hdB_eq h, preB_eq, List.append_assoc, List.append_assoc]
  exact num_at (p := markB) (by omega)
theorem hdB_pre {ws : Ws} (h : ws.length ≤ 40) : (hdB ws).take (6 + 2 * ws.length) = preB ws := by
  rw [hdB_eq h, List.take_append_of_le_length (by rw [preB_len]; exact Nat.le_refl _), List.take_of_length_le (by rw [preB_len]; exact Nat.le_refl _)]
theorem hdB_sum {ws : Ws} (h : ws.length ≤ 40) : num (hdB ws) (6 + 2 * ws.length) = sumB ws := by
  rw [hdB_eq h, ← preB_len ws]
  exact num_at (sumN_lt _)
theorem hdB_rest {ws : Ws} (h : ws.length ≤ 40) {j : Nat} (hj : 8 + 2 * ws.length ≤ j) : atD (hdB ws) j = 0 := by
  rw [hdB_eq h, atD_app2 (by rw [preB_len]; omega), atD_app2 (by rw [preB_len, two_len]; omega)]
  unfold atD
  rw [List.getD_eq_getElem?_getD, List.getElem?_replicate]
  split <;> rfl
theorem hdB_low {ws : Ws} (h : ws.length ≤ 40) : atD (hdB ws) (7 + 2 * ws.length) = UInt8.ofNat (sumB ws % 256) := by
  rw [hdB_eq h, atD_app2 (by rw [preB_len]; omega), atD_app1 (by rw [preB_len, two_len]; omega), preB_len]
  have e : 7 + 2 * ws.length - (6 + 2 * ws.length) = 1 := by omega
  rw [e]
  rfl
theorem hdB_high {ws : Ws} (h : ws.length ≤ 40) : atD (hdB ws) (6 + 2 * ws.length) = UInt8.ofNat (sumB ws / 256) := by
  rw [hdB_eq h, atD_app2 (by rw [preB_len]; omega), atD_app1 (by rw [preB_len, two_len]; omega), preB_len, Nat.sub_self]
  rfl
theorem hdB_tgt {ws : Ws} (h : ws.length ≤ 40) (hr : ∀ x ∈ ws, 0 ≤ x.1 ∧ x.1 < 65536) {i : Nat} (hi : i < ws.length) : tgtAt (hdB ws) i = (atD ws i).1 := by
  have hx := hr _ (atD_mem hi)
  have hsp : ws = ws.take i ++ (atD ws i :: ws.drop (i + 1)) := by
    rw [← Go.Proofs.YtkeapkmjkmbdpaaV.drop_atD hi, List.take_append_drop]
  have ht : tgB ws = tgB (ws.take i) ++ (two (atD ws i).1.toNat ++ tgB (ws.drop (i + 1))) := by
    have e := congrArg tgB hsp
    refine e.trans ?_
    unfold tgB
    rw [List.flatMap_append, List.flatMap_cons]
  have hl : (markB ++ (two ws.length ++ tgB (ws.take i))).length = 6 + 2 * i := by
    rw [List.length_append, List.length_append, tgB_len, two_len, List.length_take]
    show 4 + _ = _
    omega
  have e : hdB ws = (markB ++ (two ws.length ++ tgB (ws.take i))) ++ (two (atD ws i).1.toNat ++ (tgB (ws.drop (i + 1)) ++ (two (sumB ws) ++ List.replicate (248 - 2 * ws.length) 0))) := by
    rw [hdB_eq h, preB_eq, ht]
    simp only [List.append_assoc]
  unfold tgtAt
  rw [e, ← hl, num_at (by omega)]
  omega
theorem hdB_tgts {ws : Ws} (h : ws.length ≤ 40) (hr : ∀ x ∈ ws, 0 ≤ x.1 ∧ x.1 < 65536) : tgts (hdB ws) ws.length = ws.map (·.1) := by
  refine List.ext_getElem? fun i => ?_
  rcases Nat.lt_or_ge i ws.length with hi | hi
  · rw [tgts_at hi, hdB_tgt h hr hi, List.getElem?_map, atD_get hi]; rfl
  · rw [List.getElem?_eq_none (by rw [tgts_len]; exact hi), List.getElem?_eq_none (by rw [List.length_map]; exact hi)]
theorem asked_zero {home : Nat} {ws : Ws} (h : asked home ws = 0) : (∀ x ∈ ws, 0 ≤ x.1 ∧ x.1 < home ∧ x.2.length = 256) ∧ (ws.map (·.1)).Nodup ∧ ws.length ≤ 40 := by
  unfold asked at h
  split at h
  · rename_i h1
    split at h
    · cases h
    · exact ⟨h1.1, h1.2, by omega⟩
  · cases h
theorem hdB_ok {home : Nat} {ws : Ws} (h : asked home ws = 0) (h0 : ws ≠ []) (hh : home ≤ 300) : headOk (hdB ws) home := by
  obtain ⟨h1, h2, h3⟩ := asked_zero h
  have hn : 1 ≤ ws.length := List.length_pos_iff.2 h0
  have hr : ∀ x ∈ ws, 0 ≤ x.1 ∧ x.1 < 65536 := fun x hx => by have := h1 x hx; omega
  unfold headOk
  rw [hdB_num h3, hdB_tgts h3 hr]
  refine ⟨hdB_len ws, hdB_mark h3, hn, h3, fun x hx => ?_, h2, ?_⟩
  · obtain ⟨y, hy, rfl⟩ := List.mem_map.1 hx
    exact (h1 y hy).2.1
  · rw [List.all_eq_true]
    intro x hx
    obtain ⟨j, hj, rfl⟩ := mem_atD hx
    rw [atD_drop, hdB_rest h3 (by omega)]
    rfl
/-- A head that is torn is whole, or no right one. -/
theorem torn_head {home : Nat} {ws W : Ws} (h : asked home ws = 0) {t : Nat} (ht : t ≤ 256) (hok : headOk (tornB (hdB ws) zeroB t) home) (hs : sumOk (tornB (hdB ws) zeroB t) W)
    (hW : num (tornB (hdB ws) zeroB t) 4 = ws.length → datS W = datS ws) : tornB (hdB ws) zeroB t = hdB ws := by
  obtain ⟨h1, h2, h3⟩ := asked_zero h
  have hat := fun j => torn_at (t := t) (j := j) (hdB_len ws) zeroB_len ht
  obtain ⟨tb, htb⟩ : ∃ tb, tornB (hdB ws) zeroB t = tb := ⟨_, rfl⟩
  have hbl : tb.length = 256 := by rw [← htb]; exact tornB_len (hdB_len ws) zeroB_len ht
  rw [htb] at hok hs hW hat ⊢
  simp only [zero_at] at hat
  have hn1 := hok.2.2.1
  have ht6 : 6 ≤ t := by
    refine Decidable.byContradiction fun hlt => ?_
    have e5 : atD tb 5 = 0 := by rw [hat, if_neg (by omega)]
    have e4 : (atD tb 4).toNat = 0 := by
      rw [hat]
      split
      · have e := hdB_num h3
        have hb := (atD (hdB ws) 5).toNat_lt
        unfold num at e
        omega
      · rfl
    unfold num at hn1
    rw [e4, e5] at hn1
    exact absurd hn1 (by decide)
  have hnum : num tb 4 = ws.length := by
    have e := hdB_num h3
    unfold num at e ⊢
    rw [hat, hat, if_pos (by omega), if_pos (by omega)]
    exact e
  have hd := hW hnum
  unfold sumOk atS at hs
  rw [hnum, hd] at hs
  have ht7 : 7 + 2 * ws.length ≤ t := by
    refine Decidable.byContradiction fun hlt => ?_
    have := sumN_pos (datS ws ++ tb.take (6 + 2 * ws.length))
    rw [hs] at this
    unfold num at this
    rw [hat, hat, if_neg (by omega), if_neg (by omega)] at this
    exact absurd this (by decide)
  have hpre : tb.take (6 + 2 * ws.length) = preB ws := by
    rw [← hdB_pre h3]
    refine ext_atD (by rw [List.length_take, List.length_take, hbl, hdB_len]) fun j hj => ?_
    rw [List.length_take] at hj
    rw [atD_take (by omega), atD_take (by omega), hat, if_pos (by omega)]
  rw [hpre] at hs
  refine ext_atD (by rw [hbl, hdB_len]) fun j hj => ?_
  rw [hat]
  split
  · rfl
  · rename_i hj2
    rcases Nat.lt_or_ge j (8 + 2 * ws.length) with hj3 | hj3
    · obtain rfl : j = 7 + 2 * ws.length := by omega
      have hsb : sumB ws = num tb (6 + 2 * ws.length) := hs
      unfold num at hsb
      rw [hat, hat, if_pos (by omega), if_neg (by omega), hdB_high h3] at hsb
      rw [hdB_low h3]
      have : sumB ws % 256 = 0 := by
        have e : (0 : UInt8).toNat = 0 := rfl
        rw [e] at hsb
        omega
      rw [this]
      rfl
    · exact (hdB_rest h3 hj3).symm
end Go.Proofs.Ytkeapkmjkmbdpaa.V
