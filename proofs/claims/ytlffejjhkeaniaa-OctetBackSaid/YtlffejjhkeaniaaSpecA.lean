/- What numbers' bytes are, and what is read of bytes: the program's and the document's functions as plain ones. -/
import Derived.Test.YtlffejjhkeaniaaMx5
import Derived.Test.YtlffejjhkeaniaaAux
namespace Go.Proofs.Ytlffejjhkeaniaa.Spec
open Go.RowKit Go.Proofs.Ytlffejjhkeaniaa.M Go.Proofs.YtlffejjhkeaniaaW.PrintWords Go.Proofs.YtlffejjhkeaniaaW.PrintLast Go.Proofs.YtlffejjhkeaniaaW.PrintMore Go.Proofs.Ytlffejjhkeaniaa.Aux

theorem first_true (k : Nat) (hk : 4 ≤ k) : tithinglaw01_First.f k = some true := by
  have h : tithinglaw01_First.f 4 = some true := by decide +kernel
  obtain ⟨d, rfl⟩ : ∃ d, k = 4 + d := ⟨k - 4, by omega⟩
  clear hk
  induction d with
  | zero => exact h
  | succ d ih => exact tithinglaw01_First.mono _ _ ih

def Wd (n : Int) : Prop := n = 1 ∨ n = 2 ∨ n = 4
instance (n : Int) : Decidable (Wd n) := by unfold Wd; infer_instance
theorem width_ok (n : Int) : octet_isWidth.f n = some (decide (Wd n)) := by
  unfold octet_isWidth.f Wd
  by_cases a : n = 1
  · simp [a]
  · by_cases b : n = 2
    · simp [b]
    · simp only [a, b, if_false, false_or]; rfl
theorem size_ok (n : Int) : tithingref01_IsSize.f n = some (decide (Wd n)) := width_ok n
/-- 256 to the n-th. -/
def top (n : Int) : Int := if n = 1 then 256 else if n = 2 then 65536 else 4294967296
def digits (n v : Int) : List Int := if n = 1 then [v] else if n = 2 then [v / 256, v % 256] else [v / 16777216, v / 65536 % 256, v / 256 % 256, v % 256]
def putS (n v : Int) : List Int × Int := if Wd n ∧ 0 ≤ v ∧ v < top n then (digits n v, 0) else ([], 2)

theorem put_ok (n v : Int) (h0 : -9223372036854775808 ≤ v) (h1 : v ≤ 9223372036854775807) (k : Nat) (hk : 8 ≤ k) : octet_Put.f k n v = some (putS n v) := by
  obtain ⟨m, rfl⟩ : ∃ m, k = m + 8 := ⟨k - 8, by omega⟩
  unfold octet_Put.f
  rw [width_ok]
  simp only [Option.bind_some, decide_eq_true_eq]
  by_cases hw : Wd n
  · rw [if_pos hw]
    by_cases hv : v < 0
    · rw [if_pos hv]
      simp only [octet_Put.j0, if_true]
      unfold putS
      rw [if_neg (by omega)]
    · rw [if_neg hv]
      rcases hw with rfl | rfl | rfl
      · rw [if_pos (by decide +kernel)]
        have e : shl .i64 1 (wrap64 (8 * 1)) = 256 := by decide +kernel
        rw [e]
        by_cases h : v ≥ 256
        · simp only [octet_Put.j0, h, decide_true, if_true]
          unfold putS; rw [if_neg (by simp [top]; omega)]
        · have z : shr .i64 v 0 = v := by simp [shr]
          simp [octet_Put.j0, octet_Put.l0, h, wrap64, z, putS, top, digits, Wd]
          rw [if_pos (by omega)]
          simp; omega
      · rw [if_pos (by decide +kernel)]
        have e : shl .i64 1 (wrap64 (8 * 2)) = 65536 := by decide +kernel
        rw [e]
        by_cases h : v ≥ 65536
        · simp only [octet_Put.j0, h, decide_true, if_true]
          unfold putS; rw [if_neg (by simp [top]; omega)]
        · have z : shr .i64 v 0 = v := by simp [shr]
          have z8 : shr .i64 v 8 = v / 256 := by simp [shr, IntKind.bits]
          simp [octet_Put.j0, octet_Put.l0, h, wrap64, z, z8, putS, top, digits, Wd]
          rw [if_pos (by omega)]
          simp; omega
      · rw [if_pos (by decide +kernel)]
        have e : shl .i64 1 (wrap64 (8 * 4)) = 4294967296 := by decide +kernel
        rw [e]
        by_cases h : v ≥ 4294967296
        · simp only [octet_Put.j0, h, decide_true, if_true]
          unfold putS; rw [if_neg (by simp [top]; omega)]
        · have z : shr .i64 v 0 = v := by simp [shr]
          have z8 : shr .i64 v 8 = v / 256 := by simp [shr, IntKind.bits]
          have z16 : shr .i64 v 16 = v / 65536 := by simp [shr, IntKind.bits]
          have z24 : shr .i64 v 24 = v / 16777216 := by simp [shr, IntKind.bits]
          simp [octet_Put.j0, octet_Put.l0, h, wrap64, z, z8, z16, z24, putS, top, digits, Wd]
          rw [if_pos (by omega)]
          simp; omega
  · rw [if_neg hw]
    simp only [octet_Put.j0, if_true]
    unfold putS; rw [if_neg (by simp [hw])]
theorem wr_0 : wrap64 0 = 0 := by decide +kernel
theorem wr_1 : wrap64 1 = 1 := by decide +kernel
theorem wr_2 : wrap64 2 = 2 := by decide +kernel
theorem wr_3 : wrap64 3 = 3 := by decide +kernel
theorem wr_m1 : wrap64 (-1) = -1 := by decide +kernel
theorem power0 (m : Nat) : tithingref01_power.f (m + 5) 0 = some 1 := by simp [tithingref01_power.f, tithingref01_power.l0]
theorem power1 (m : Nat) : tithingref01_power.f (m + 5) 1 = some 256 := by simp [tithingref01_power.f, tithingref01_power.l0, wrap64]
theorem power2 (m : Nat) : tithingref01_power.f (m + 5) 2 = some 65536 := by simp [tithingref01_power.f, tithingref01_power.l0, wrap64]
theorem power3 (m : Nat) : tithingref01_power.f (m + 5) 3 = some 16777216 := by simp [tithingref01_power.f, tithingref01_power.l0, wrap64]
theorem power4 (m : Nat) : tithingref01_power.f (m + 5) 4 = some 4294967296 := by simp [tithingref01_power.f, tithingref01_power.l0, wrap64]

theorem put_ref_ok (n v : Int) (h0 : -9223372036854775808 ≤ v) (h1 : v ≤ 9223372036854775807) (k : Nat) (hk : 16 ≤ k) : tithingref01_Put.f k n v = some (putS n v) := by
  obtain ⟨m, rfl⟩ : ∃ m, k = m + 16 := ⟨k - 16, by omega⟩
  unfold tithingref01_Put.f
  rw [size_ok]
  simp only [Option.bind_some, decide_eq_true_eq]
  by_cases hw : Wd n
  · rw [if_pos hw]
    by_cases hv : v < 0
    · rw [if_pos hv]
      simp only [tithingref01_Put.j0, if_true]
      unfold putS
      rw [if_neg (by omega)]
    · rw [if_neg hv]
      have hv0 : 0 ≤ v := by omega
      have q : ∀ c : Int, Int.tdiv v c = v / c := fun c => Int.tdiv_eq_ediv_of_nonneg hv0
      rcases hw with rfl | rfl | rfl
      · rw [show m + 16 = (m + 11) + 5 from rfl, power1]
        simp only [Option.bind_some]
        by_cases h : v ≥ 256
        · simp only [tithingref01_Put.j0, h, decide_true, if_true]
          unfold putS; rw [if_neg (by simp [top]; omega)]
        · have p0 := power0 (m + 9)
          rw [show m + 9 + 5 = m + 14 from rfl] at p0
          have e0 : (wrap64 (v / 1)).tmod 256 % 256 = v := by rw [Int.ediv_one, w64 (by omega) (by omega), Int.tmod_eq_emod_of_nonneg hv0]; omega
          simp [tithingref01_Put.j0, tithingref01_Put.l0, h, p0, q, putS, top, digits, Wd, wr_0, wr_m1]
          rw [if_pos (by omega)]
          simp at e0
          simp [e0]
      · rw [show m + 16 = (m + 11) + 5 from rfl, power2]
        simp only [Option.bind_some]
        by_cases h : v ≥ 65536
        · simp only [tithingref01_Put.j0, h, decide_true, if_true]
          unfold putS; rw [if_neg (by simp [top]; omega)]
        · have p1 := power1 (m + 9)
          rw [show m + 9 + 5 = m + 14 from rfl] at p1
          have p0 := power0 (m + 8)
          rw [show m + 8 + 5 = m + 13 from rfl] at p0
          have e1 : (wrap64 (v / 256)).tmod 256 % 256 = v / 256 := by rw [w64 (by omega) (by omega), Int.tmod_eq_emod_of_nonneg (by omega)]; omega
          have e0 : (wrap64 v).tmod 256 % 256 = v % 256 := by rw [w64 (by omega) (by omega), Int.tmod_eq_emod_of_nonneg (by omega)]; omega
          simp [tithingref01_Put.j0, tithingref01_Put.l0, h, p0, p1, q, putS, top, digits, Wd, wr_0, wr_m1, wr_1]
          rw [if_pos (by omega)]
          simp [e0, e1]
      · rw [show m + 16 = (m + 11) + 5 from rfl, power4]
        simp only [Option.bind_some]
        by_cases h : v ≥ 4294967296
        · simp only [tithingref01_Put.j0, h, decide_true, if_true]
          unfold putS; rw [if_neg (by simp [top]; omega)]
        · have p3 := power3 (m + 9)
          rw [show m + 9 + 5 = m + 14 from rfl] at p3
          have p2 := power2 (m + 8)
          rw [show m + 8 + 5 = m + 13 from rfl] at p2
          have p1 := power1 (m + 7)
          rw [show m + 7 + 5 = m + 12 from rfl] at p1
          have p0 := power0 (m + 6)
          rw [show m + 6 + 5 = m + 11 from rfl] at p0
          have e3 : (wrap64 (v / 16777216)).tmod 256 % 256 = v / 16777216 := by rw [w64 (by omega) (by omega), Int.tmod_eq_emod_of_nonneg (by omega)]; omega
          have e2 : (wrap64 (v / 65536)).tmod 256 % 256 = v / 65536 % 256 := by rw [w64 (by omega) (by omega), Int.tmod_eq_emod_of_nonneg (by omega)]; omega
          have e1 : (wrap64 (v / 256)).tmod 256 % 256 = v / 256 % 256 := by rw [w64 (by omega) (by omega), Int.tmod_eq_emod_of_nonneg (by omega)]; omega
          have e0 : (wrap64 v).tmod 256 % 256 = v % 256 := by rw [w64 (by omega) (by omega), Int.tmod_eq_emod_of_nonneg (by omega)]; omega
          simp [tithingref01_Put.j0, tithingref01_Put.l0, h, p0, p1, p2, p3, q, putS, top, digits, Wd, wr_0, wr_m1, wr_1, wr_2, wr_3]
          rw [if_pos (by omega)]
          simp [e0, e1, e2, e3]
  · rw [if_neg hw]
    simp only [tithingref01_Put.j0, if_true]
    unfold putS; rw [if_neg (by simp [hw])]

/-- The number that bytes are. -/
def val (l : List Int) : Int := l.foldl (fun v c => v * 256 + c) 0
def valFrom (v : Int) (l : List Int) : Int := l.foldl (fun v c => v * 256 + c) v
def getS (l : List Int) (at_ n : Int) : Int × Int × Int :=
  if ¬ Wd n ∨ at_ < 0 ∨ at_ > l.length then (0, 0, 2) else if (l.length : Int) - at_ < n then (0, 0, 6) else (val ((l.drop at_.toNat).take n.toNat), at_ + n, 0)
theorem bits_byte (v c : Int) (h0 : 0 ≤ v) (h1 : v < 36028797018963968) (h2 : 0 ≤ c) (h3 : c ≤ 255) : Go.bits .or .i64 (wrap64 (v * 256)) (wrap64 c) = v * 256 + c := by
  rw [w64 (x := v * 256) (by omega) (by omega), w64 (x := c) (by omega) (by omega)]
  refine bits_join .i64 63 (by decide) (fun n a b => ?_) 8 _ _ (by omega) (by simp only [Int.reducePow]; omega) (by simp only [Int.reducePow]; omega) h2 (by simp only [Int.reducePow]; omega) (by simp only [Int.reducePow]; omega)
  simp only [Int.reducePow] at b
  rw [IntKind.wrap_i64]; omega
theorem get_loop (at_ n : Int) (l : List Int) (hl : l.length ≤ 4) (hb : ∀ x ∈ l, 0 ≤ x ∧ x ≤ 255) (d : Nat) : ∀ (i k : Nat) (v : Int), i + d = l.length → d < k → 0 ≤ v → v < 256 ^ i →
    octet_Get.l0 k at_ n v l (l.length : Int) (i : Int) = some (valFrom v (l.drop i), wrap64 (at_ + n), 0) := by
  induction d with
  | zero =>
    intro i k v hi hk h0 h1
    obtain ⟨k, rfl⟩ : ∃ m, k = m + 1 := ⟨k - 1, by omega⟩
    simp only [octet_Get.l0]
    rw [if_neg (by omega), List.drop_eq_nil_of_le (by omega)]; rfl
  | succ d ih =>
    intro i k v hi hk h0 h1
    obtain ⟨k, rfl⟩ : ∃ m, k = m + 1 := ⟨k - 1, by omega⟩
    have hc := hb _ (rd_mem (l := l) (i := (i : Int)) (by omega) (by omega))
    have hi3 : i ≤ 3 := by omega
    have hp : (256 : Int) ^ i ≤ 16777216 := by
      match i, hi3 with
      | 0, _ => decide
      | 1, _ => decide
      | 2, _ => decide
      | 3, _ => decide
    have hv : v * 256 + rd l i < 256 ^ (i + 1) := by rw [Int.pow_succ]; omega
    simp only [octet_Get.l0]
    rw [if_pos (by omega), if_pos (by omega), if_pos (by omega), bits_byte _ _ h0 (by omega) hc.1 hc.2, w64 (x := (i : Int) + 1) (by omega) (by omega), rd_drop rfl (by omega)]
    exact ih (i + 1) k _ (by omega) (by omega) (by omega) hv
theorem get_ok (l : List Int) (at_ n : Int) (hl : l.length ≤ 140737488351232) (hb : ∀ x ∈ l, 0 ≤ x ∧ x ≤ 255) (h0 : -9223372036854775808 ≤ at_) (h1 : at_ ≤ 9223372036854775807) (k : Nat) (hk : 8 ≤ k) :
    octet_Get.f k l at_ n = some (getS l at_ n) := by
  obtain ⟨m, rfl⟩ : ∃ m, k = m + 8 := ⟨k - 8, by omega⟩
  unfold octet_Get.f getS
  rw [width_ok]
  simp only [Option.bind_some, decide_eq_true_eq]
  have bad : octet_Get.j0 (m + 8) l at_ n 0 true = some (0, 0, 2) := by simp only [octet_Get.j0, if_true]
  by_cases hw : Wd n
  · rw [if_pos hw]
    by_cases ha : at_ < 0
    · rw [if_pos ha, bad, if_pos (by omega)]
    · rw [if_neg ha]
      by_cases hb2 : at_ > l.length
      · rw [decide_eq_true hb2, bad, if_pos (by omega)]
      · rw [decide_eq_false hb2, if_neg (fun h => h.elim (fun h => h hw) (fun h => h.elim ha hb2))]
        have hn : 1 ≤ n ∧ n ≤ 4 := by rcases hw with rfl | rfl | rfl <;> omega
        simp only [octet_Get.j0]
        rw [if_neg (by decide), w64 (x := (l.length : Int) - at_) (by omega) (by omega)]
        by_cases hs : (l.length : Int) - at_ < n
        · rw [if_pos hs, if_pos hs]
        · rw [if_neg hs, if_neg hs, w64 (x := at_ + n) (by omega) (by omega), if_pos (by omega), if_pos (by omega), if_pos (by omega)]
          simp only [Option.bind_some]
          have ht : (l.take (at_ + n).toNat).drop at_.toNat = (l.drop at_.toNat).take n.toNat := by
            rw [List.drop_take]; congr 1; omega
          rw [ht]
          have hlen : ((l.drop at_.toNat).take n.toNat).length = n.toNat := by simp; omega
          have := get_loop at_ n ((l.drop at_.toNat).take n.toNat) (by omega) (fun x hx => hb x (List.mem_of_mem_drop (List.mem_of_mem_take hx))) n.toNat 0 (m + 7) 0 (by omega) (by omega) (by omega) (by simp)
          rw [w64 (x := at_ + n) (by omega) (by omega)] at this
          exact this
  · rw [if_neg hw, bad, if_pos (by simp [hw])]
theorem get_ref_loop (l : List Int) (at_ n : Int) (hn : n ≤ 4) (ha : 0 ≤ at_) (hl : l.length ≤ 140737488351232) (hs : at_ + n ≤ l.length) (hb : ∀ x ∈ l, 0 ≤ x ∧ x ≤ 255) (d : Nat) : ∀ (i k : Nat) (v : Int), (i : Int) + d = n → d < k → 0 ≤ v → v < 256 ^ i →
    tithingref01_Get.l0 k l at_ n v (i : Int) = some (valFrom v ((l.drop (at_.toNat + i)).take d), at_ + n, 0) := by
  induction d with
  | zero =>
    intro i k v hi hk h0 h1
    obtain ⟨k, rfl⟩ : ∃ m, k = m + 1 := ⟨k - 1, by omega⟩
    simp only [tithingref01_Get.l0]
    rw [if_neg (by omega), w64 (x := at_ + n) (by omega) (by omega)]
    rfl
  | succ d ih =>
    intro i k v hi hk h0 h1
    obtain ⟨k, rfl⟩ : ∃ m, k = m + 1 := ⟨k - 1, by omega⟩
    have e : wrap64 (at_ + (i : Int)) = ((at_.toNat + i : Nat) : Int) := by rw [w64 (by omega) (by omega)]; omega
    have hc := hb _ (rd_mem (l := l) (i := ((at_.toNat + i : Nat) : Int)) (by omega) (by omega))
    have hi3 : i ≤ 3 := by omega
    have hp : (256 : Int) ^ i ≤ 16777216 := by
      match i, hi3 with
      | 0, _ => decide
      | 1, _ => decide
      | 2, _ => decide
      | 3, _ => decide
    have hv : v * 256 + rd l ((at_.toNat + i : Nat) : Int) < 256 ^ (i + 1) := by rw [Int.pow_succ]; omega
    simp only [tithingref01_Get.l0]
    rw [if_pos (by omega), e, if_pos (by omega), if_pos (by omega)]
    rw [w64 (x := rd l _) (by omega) (by omega), w64 (x := v * 256) (by omega) (by omega), w64 (x := v * 256 + _) (by omega) (by omega), w64 (x := (i : Int) + 1) (by omega) (by omega)]
    rw [rd_drop (n := at_.toNat + i) rfl (by omega), List.take_succ_cons]
    exact ih (i + 1) k _ (by omega) (by omega) (by omega) hv
theorem get_ref_ok (l : List Int) (at_ n : Int) (hl : l.length ≤ 140737488351232) (hb : ∀ x ∈ l, 0 ≤ x ∧ x ≤ 255) (h0 : -9223372036854775808 ≤ at_) (h1 : at_ ≤ 9223372036854775807) (k : Nat) (hk : 8 ≤ k) :
    tithingref01_Get.f k l at_ n = some (getS l at_ n) := by
  obtain ⟨m, rfl⟩ : ∃ m, k = m + 8 := ⟨k - 8, by omega⟩
  unfold tithingref01_Get.f getS
  rw [size_ok]
  simp only [Option.bind_some, decide_eq_true_eq]
  have bad : tithingref01_Get.j0 (m + 8) l at_ n true = some (0, 0, 2) := by simp only [tithingref01_Get.j0, if_true]
  by_cases hw : Wd n
  · rw [if_pos hw]
    by_cases ha : at_ < 0
    · rw [if_pos ha, bad, if_pos (by omega)]
    · rw [if_neg ha]
      by_cases hb2 : at_ > l.length
      · rw [decide_eq_true hb2, bad, if_pos (by omega)]
      · rw [decide_eq_false hb2, if_neg (fun h => h.elim (fun h => h hw) (fun h => h.elim ha hb2))]
        have hn : 1 ≤ n ∧ n ≤ 4 := by rcases hw with rfl | rfl | rfl <;> omega
        simp only [tithingref01_Get.j0]
        rw [if_neg (by decide), w64 (x := (l.length : Int) - at_) (by omega) (by omega)]
        by_cases hs : (l.length : Int) - at_ < n
        · rw [if_pos hs, if_pos hs]
        · rw [if_neg hs, if_neg hs]
          have := get_ref_loop l at_ n (by omega) (by omega) hl (by omega) hb n.toNat 0 (m + 7) 0 (by omega) (by omega) (by omega) (by simp)
          exact this
  · rw [if_neg hw, bad, if_pos (by simp [hw])]
theorem i64_of {x : Int} (h : (Lit.int .i64 x).wf = true) : -9223372036854775808 ≤ x ∧ x ≤ 9223372036854775807 := by
  simpa [Lit.wf, IntKind.min, IntKind.max, IntKind.signed, IntKind.bits] using h
end Go.Proofs.Ytlffejjhkeaniaa.Spec
