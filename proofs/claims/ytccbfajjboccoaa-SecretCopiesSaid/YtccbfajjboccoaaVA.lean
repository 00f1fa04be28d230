/- The cipher of a number: both texts compute one function. -/
import Derived.Test.YtccbfajjboccoaaVcHead
namespace Go.Proofs.Ytccbfajjboccoaa.V
open Go Go.Proofs.YtccbfajjboccoaaV
set_option linter.unusedVariables false
set_option linter.unusedSimpArgs false
set_option maxHeartbeats 1000000
attribute [local irreducible] IntKind.wrap
variable {I : Imm} {w : World} {L : List Asn}
/-- A number of 32 bits turned to the left. -/
def rotN (n k : Nat) : Nat := n * 2 ^ k % 2 ^ 32 + n / 2 ^ (32 - k)
def mixN (k i n : Nat) : Nat :=
  let a := (n + k + i * 2654435769) % 2 ^ 32
  let b := a ^^^ rotN a 7
  rotN (b * 2246822519 % 2 ^ 32) 11
def rndN (x k : Nat) : Nat → Nat
  | 0 => x
  | i + 1 => mixN k i (rndN x k i)
def cphN (x k : Nat) : Nat := rndN x k 8
theorem rot_lt {n k : Nat} (h : n < 2 ^ 32) (hk : k ≤ 32) : rotN n k < 2 ^ 32 := by
  unfold rotN
  have h1 : n * 2 ^ k % 2 ^ 32 = n % 2 ^ (32 - k) * 2 ^ k := by
    have : (2 : Nat) ^ 32 = 2 ^ (32 - k) * 2 ^ k := by rw [← Nat.pow_add]; congr 1; omega
    rw [this, Nat.mul_mod_mul_right]
  have h2 : n % 2 ^ (32 - k) + 1 ≤ 2 ^ (32 - k) := Nat.mod_lt _ (Nat.two_pow_pos _)
  have h3 : n / 2 ^ (32 - k) < 2 ^ k := by
    rw [Nat.div_lt_iff_lt_mul (Nat.two_pow_pos _), ← Nat.pow_add]
    rwa [show k + (32 - k) = 32 by omega]
  have h4 : (n % 2 ^ (32 - k) + 1) * 2 ^ k ≤ 2 ^ (32 - k) * 2 ^ k := Nat.mul_le_mul_right _ h2
  rw [← Nat.pow_add, show 32 - k + k = 32 by omega, Nat.add_mul] at h4
  omega
theorem rot_or {n k : Nat} (h : n < 2 ^ 32) (hk : k ≤ 32) : (n * 2 ^ k % 2 ^ 32) ||| (n / 2 ^ (32 - k)) = rotN n k := by
  unfold rotN
  have h1 : n * 2 ^ k % 2 ^ 32 = (n % 2 ^ (32 - k)) <<< k := by
    have : (2 : Nat) ^ 32 = 2 ^ (32 - k) * 2 ^ k := by rw [← Nat.pow_add]; congr 1; omega
    rw [this, Nat.mul_mod_mul_right, Nat.shiftLeft_eq]
  have h3 : n / 2 ^ (32 - k) < 2 ^ k := by
    rw [Nat.div_lt_iff_lt_mul (Nat.two_pow_pos _), ← Nat.pow_add]
    rwa [show k + (32 - k) = 32 by omega]
  rw [h1]
  exact (Nat.shiftLeft_add_eq_or_of_lt h3 _).symm
theorem mix_lt {k i n : Nat} : mixN k i n < 2 ^ 32 := rot_lt (Nat.mod_lt _ (by decide)) (by decide)
theorem rnd_lt {x k : Nat} (h : x < 2 ^ 32) : ∀ i, rndN x k i < 2 ^ 32
  | 0 => h
  | _ + 1 => mix_lt
theorem cph_lt {x k : Nat} (h : x < 2 ^ 32) : cphN x k < 2 ^ 32 := rnd_lt h 8
theorem bv_nat {m a : Nat} (h : a < 2 ^ m) : (BitVec.ofInt m (a : Int)).toNat = a := by
  rw [BitVec.toNat_ofInt]
  have : ((a : Int) % ((2 ^ m : Nat) : Int)) = ((a % 2 ^ m : Nat) : Int) := by simp
  rw [this, Int.toNat_natCast, Nat.mod_eq_of_lt h]
theorem wu32 {n : Nat} : IntKind.u32.wrap (n : Int) = ((n % 2 ^ 32 : Nat) : Int) := by rw [wrap_u32]; simp
theorem wi64 {n : Nat} (h : n < 2 ^ 63) : IntKind.i64.wrap (n : Int) = (n : Int) := wrap_i64 (by omega) (by omega)
theorem wrap_u64 (x : Int) : IntKind.u64.wrap x = x % 18446744073709551616 := by
  have e1 : (2 : Int) ^ 64 = 18446744073709551616 := by decide
  unfold IntKind.wrap
  simp only [IntKind.signed, IntKind.bits, e1, Bool.false_and, Bool.false_eq_true, if_false]
theorem wu64 {n : Nat} (h : n < 2 ^ 64) : IntKind.u64.wrap (n : Int) = (n : Int) := by rw [wrap_u64]; omega
theorem Rot_any (H : Holds I w L) {n k : Nat} (hn : n < 2 ^ 32) (hk : k ≤ 31) : Rets Try.prog F_math_bits_RotateLeft32 #[.int .u32 n, .int .i64 k] w fun u w' => u = .int .u32 (rotN n k : Nat) ∧ Holds I w' L := by
  have h1 : IntKind.u64.wrap (BitVec.ofInt IntKind.u64.bits (IntKind.u64.wrap (k : Int)) &&& BitVec.ofInt IntKind.u64.bits 31).toNat = (k : Int) := by
    rw [wu64 (n := k) (by omega), BitVec.toNat_and]
    show IntKind.u64.wrap (((BitVec.ofInt 64 (k : Int)).toNat &&& (BitVec.ofInt 64 ((31 : Nat) : Int)).toNat : Nat) : Int) = _
    rw [bv_nat (by omega), bv_nat (by decide), Nat.and_two_pow_sub_one_eq_mod k 5, wu64 (by omega)]
    omega
  have h2 : IntKind.u64.wrap (32 - (k : Int)) = ((32 - k : Nat) : Int) := by rw [wrap_u64]; omega
  have h3 : IntKind.u32.wrap ((n : Int) * 2 ^ (min k IntKind.u32.bits)) = ((n * 2 ^ k % 2 ^ 32 : Nat) : Int) := by
    rw [show min k IntKind.u32.bits = k from Nat.min_eq_left (by show k ≤ 32; omega), show ((n : Int) * 2 ^ k) = ((n * 2 ^ k : Nat) : Int) by simp, wu32]
  have h4 : Int.fdiv (n : Int) (2 ^ (min (32 - k) IntKind.u32.bits)) = ((n / 2 ^ (32 - k) : Nat) : Int) := by
    rw [show min (32 - k) IntKind.u32.bits = 32 - k from Nat.min_eq_left (by show 32 - k ≤ 32; omega), show ((2 : Int) ^ (32 - k)) = ((2 ^ (32 - k) : Nat) : Int) by simp]
    rw [Int.fdiv_eq_ediv_of_nonneg _ (Int.natCast_nonneg _)]; rfl
  have h5 : IntKind.u32.wrap ((BitVec.ofInt IntKind.u32.bits ((n * 2 ^ k % 2 ^ 32 : Nat) : Int) ||| BitVec.ofInt IntKind.u32.bits ((n / 2 ^ (32 - k) : Nat) : Int)).toNat : Int) = ((rotN n k : Nat) : Int) := by
    rw [BitVec.toNat_or]
    show IntKind.u32.wrap (((BitVec.ofInt 32 ((n * 2 ^ k % 2 ^ 32 : Nat) : Int)).toNat ||| (BitVec.ofInt 32 ((n / 2 ^ (32 - k) : Nat) : Int)).toNat : Nat) : Int) = _
    rw [bv_nat (Nat.mod_lt _ (by decide)), bv_nat (Nat.lt_of_le_of_lt (Nat.div_le_self _ _) hn), rot_or hn (by omega), wu32, Nat.mod_eq_of_lt (rot_lt hn (by omega))]
  refine ok_math_bits_RotateLeft32.rets rfl ?_
  repeat' (first
    | rw [h1]
    | rw [h2]
    | rw [h3]
    | rw [h4]
    | rw [h5]
    | (show VcL _ _ _ _ _ _ _ _; first
      | refine VcL.pures tabOk rfl ?_
      | refine VcL.nil ?_
      | (show VcL _ _ _ _ (⟨_, .binOp _ _ _ _ _, _, _, _, _⟩ :: _) _ _ _; first
      | refine VcL.shl rfl rfl (by first | assumption | rfl) rfl rfl rfl ?_
      | refine VcL.shr rfl rfl (by rfl) rfl rfl rfl ?_))
    | (show Vc _ _ _ _ _ _; first
      | refine Vc.seq ?_
      | refine Vc.region ?_
      | refine Vc.ret ?_)
    | (show KSeq _ _ _ _ _ _ _; refine KSeq.normal ?_)
    | (show KEnd _ _ _ _ _ _; refine KEnd.mk (Or.inr rfl) ⟨_, (ResL.tmp rfl ResL.nil), ?_⟩))
  exact ⟨rfl, H⟩
theorem cipherP_any (H : Holds I w L) {x k : Nat} (hx : x < 2 ^ 32) (hk : k < 2 ^ 32) : Rets Try.prog F_secret_cipher #[.int .i64 x, .int .i64 k] w fun u w' => u = .int .i64 (cphN x k : Nat) ∧ Holds I w' L := by
  have h1 : IntKind.u32.wrap (x : Int) = x := by rw [wu32, Nat.mod_eq_of_lt hx]
  have h2 : IntKind.u32.wrap (k : Int) = k := by rw [wu32, Nat.mod_eq_of_lt hk]
  have h3 : IntKind.i64.wrap ((rndN x k 8 : Nat) : Int) = ((cphN x k : Nat) : Int) := wi64 (Nat.lt_trans (cph_lt hx) (by decide))
  refine ok_secret_cipher.rets rfl ?_
  repeat' (first
    | rw [h1]
    | rw [h2]
    | (show VcL _ _ _ _ _ _ _ _; first
      | refine VcL.pures tabOk rfl ?_
      | refine VcL.nil ?_)
    | (show Vc _ _ _ _ _ _; first
      | refine Vc.seq ?_
      | refine Vc.region ?_
      | refine Vc.block ?_)
    | (show KSeq _ _ _ _ _ _ _; refine KSeq.normal ?_))
  refine Vc.loopS [(6, _)] (fun i : Nat => [(5, .int .u32 (rndN x k i : Nat)), (12, .int .u32 i)]) (fun i w => Holds I w L ∧ i ≤ 8) (fun i _ => 8 - i) 0 ⟨rfl, rfl, trivial⟩ ⟨rfl, trivial⟩ ⟨H, by omega⟩ ?_
  rintro i w ⟨H, hi⟩
  by_cases hlt : i < 8
  · have hn := rnd_lt (k := k) hx i
    obtain ⟨m, hm⟩ : ∃ m, rndN x k i = m := ⟨_, rfl⟩
    rw [hm] at hn ⊢
    have ha : (m + k + i * 2654435769) % 2 ^ 32 < 2 ^ 32 := Nat.mod_lt _ (by decide)
    have e1 : IntKind.u32.wrap ((m : Int) + IntKind.u32.wrap ((k : Int) + IntKind.u32.wrap ((i : Int) * 2654435769))) = (((m + k + i * 2654435769) % 2 ^ 32 : Nat) : Int) := by rw [wrap_u32, wrap_u32, wrap_u32]; omega
    have e4 : IntKind.u32.wrap ((i : Int) + 1) = ((i + 1 : Nat) : Int) := by rw [wrap_u32]; omega
    generalize hae : (m + k + i * 2654435769) % 2 ^ 32 = a at ha e1
    have e2 : IntKind.u32.wrap ((BitVec.ofInt IntKind.u32.bits (a : Int) ^^^ BitVec.ofInt IntKind.u32.bits ((rotN a 7 : Nat) : Int)).toNat : Int) = ((a ^^^ rotN a 7 : Nat) : Int) := by
      rw [BitVec.toNat_xor]
      show IntKind.u32.wrap (((BitVec.ofInt 32 (a : Int)).toNat ^^^ (BitVec.ofInt 32 ((rotN a 7 : Nat) : Int)).toNat : Nat) : Int) = _
      rw [bv_nat ha, bv_nat (rot_lt ha (by decide)), wu32, Nat.mod_eq_of_lt (Nat.xor_lt_two_pow ha (rot_lt ha (by decide)))]
    have hb : (a ^^^ rotN a 7) * 2246822519 % 2 ^ 32 < 2 ^ 32 := Nat.mod_lt _ (by decide)
    have e3 : IntKind.u32.wrap (((a ^^^ rotN a 7 : Nat) : Int) * 2246822519) = (((a ^^^ rotN a 7) * 2246822519 % 2 ^ 32 : Nat) : Int) := by rw [wrap_u32]; omega
    generalize hbe : (a ^^^ rotN a 7) * 2246822519 % 2 ^ 32 = b0 at hb e3
    repeat' (first
      | rw [e1]
      | rw [e2]
      | rw [e3]
      | rw [e4]
      | (show VcL _ _ _ _ _ _ _ _; first
      | refine VcL.pures tabOk rfl ?_
      | refine VcL.nil ?_
      | (show VcL _ _ _ _ (⟨_, .call ⟨.value (.func F_math_bits_RotateLeft32), _, _⟩, _, _, _, _⟩ :: _) _ _ _; (refine VcL.callF ok_math_bits_RotateLeft32 rfl rfl rfl rfl (Rets.mono (Rot_any (k := 7) H ha (by decide)) ?_); rintro _ w ⟨rfl, H⟩))
      | (show VcL _ _ _ _ (⟨_, .call ⟨.value (.func F_math_bits_RotateLeft32), _, _⟩, _, _, _, _⟩ :: _) _ _ _; (refine VcL.callF ok_math_bits_RotateLeft32 rfl rfl rfl rfl (Rets.mono (Rot_any (k := 11) H hb (by decide)) ?_); rintro _ w ⟨rfl, H⟩)))
      | (show Vc _ _ _ _ _ _; first
      | refine Vc.seq ?_
      | refine Vc.region ?_
      | refine Vc.skip ?_
      | refine Vc.block ?_
      | (refine Vc.cond rfl (fun h => ?_) (fun h => ?_) <;> first | (exfalso; simp only [decide_eq_true_eq, decide_eq_false_iff_not] at h; omega) | (with_reducible have hp := of_decide_eq_true h)))
      | (show KSeq _ _ _ _ _ _ _; refine KSeq.normal ?_)
      | (show KBlock _ _ _ _ _; refine KBlock.normal ?_))
    refine KLoop.again (i + 1) ⟨?_, rfl, trivial⟩ ⟨rfl, trivial⟩ ⟨H, by omega⟩ (by omega)
    show _ = some (Value.int .u32 ((mixN k i (rndN x k i) : Nat) : Int))
    unfold mixN
    dsimp only
    rw [hm, hae, hbe]
    rfl
  · obtain rfl : i = 8 := by omega
    repeat' (first
      | rw [h3]
      | (show VcL _ _ _ _ _ _ _ _; first
      | refine VcL.pures tabOk rfl ?_
      | refine VcL.nil ?_)
      | (show Vc _ _ _ _ _ _; first
      | refine Vc.seq ?_
      | refine Vc.region ?_
      | refine Vc.condF rfl ?_
      | refine Vc.ret ?_
      | refine Vc.exit ?_)
      | (show KSeq _ _ _ _ _ _ _; first
      | refine KSeq.normal ?_
      | refine KSeq.exit ?_)
      | (show KBlock _ _ _ _ _; refine KBlock.here ?_)
      | refine KLoop.exit ?_
      | (show KEnd _ _ _ _ _ _; refine KEnd.mk (Or.inr rfl) ⟨_, (ResL.tmp rfl ResL.nil), ?_⟩))
    exact ⟨rfl, H⟩
theorem turned_any (H : Holds I w L) {n k : Nat} (hn : n < 2 ^ 32) (hk : k ≤ 31) : Rets Try.prog F_tithingref24_turned #[.int .i64 n, .int .i64 k] w fun u w' => u = .int .i64 (rotN n k : Nat) ∧ Holds I w' L := by
  have hp : (2 : Nat) ^ k ≤ 2 ^ 31 := Nat.pow_le_pow_right (by decide) hk
  have hnk : n * 2 ^ k < 2 ^ 63 := by
    have : n * 2 ^ k ≤ n * 2 ^ 31 := Nat.mul_le_mul_left _ hp
    omega
  have h2 : IntKind.i64.wrap (32 - (k : Int)) = ((32 - k : Nat) : Int) := by rw [wrap_i64 (by omega) (by omega)]; omega
  have h3 : Int.tmod (IntKind.i64.wrap ((n : Int) * 2 ^ (min k IntKind.i64.bits))) (Int.ofNat (4294967295 + 1)) = ((n * 2 ^ k % 2 ^ 32 : Nat) : Int) := by
    show Int.tmod _ 4294967296 = _
    rw [show min k IntKind.i64.bits = k from Nat.min_eq_left (by show k ≤ 64; omega), show ((n : Int) * 2 ^ k) = ((n * 2 ^ k : Nat) : Int) by simp, wi64 hnk]
    rw [Int.tmod_eq_emod_of_nonneg (by omega)]; omega
  have h4 : Int.fdiv (n : Int) (2 ^ (min (32 - k) IntKind.i64.bits)) = ((n / 2 ^ (32 - k) : Nat) : Int) := by
    rw [show min (32 - k) IntKind.i64.bits = 32 - k from Nat.min_eq_left (by show 32 - k ≤ 64; omega), show ((2 : Int) ^ (32 - k)) = ((2 ^ (32 - k) : Nat) : Int) by simp]
    rw [Int.fdiv_eq_ediv_of_nonneg _ (Int.natCast_nonneg _)]; rfl
  have h5 : IntKind.i64.wrap (((n * 2 ^ k % 2 ^ 32 : Nat) : Int) + ((n / 2 ^ (32 - k) : Nat) : Int)) = ((rotN n k : Nat) : Int) := by
    have := rot_lt hn (show k ≤ 32 by omega)
    rw [← Int.natCast_add]
    exact wi64 (Nat.lt_trans this (by decide))
  refine ok_tithingref24_turned.rets rfl ?_
  repeat' (first
    | rw [h2]
    | rw [h3]
    | rw [h4]
    | rw [h5]
    | (show VcL _ _ _ _ _ _ _ _; first
      | refine VcL.pures tabOk rfl ?_
      | refine VcL.nil ?_)
    | (show VcD _ _ _ _ _ _ _ _ _; first
      | refine VcD.pures tabOk rfl ?_
      | refine VcD.done ?_
      | (show VcD _ _ _ _ _ (.pure _ _) _ _ _; first
      | refine VcD.shl rfl rfl rfl (by first | assumption | rfl) rfl rfl rfl ?_
      | refine VcD.shr rfl rfl rfl (by rfl) rfl rfl rfl ?_))
    | (show Vc _ _ _ _ _ _; first
      | refine Vc.seq ?_
      | refine Vc.region ?_
      | refine Vc.ret ?_
      | refine Vc.drawnH (id := 1) H (.pure 0 (.pure 1 (.pure 2 (.pure 3 (.pure 4 (.pure 5 (.pure 6 (.pure 7 (.pure 8 (.pure 9 .done)))))))))) mixed (by kernel_rfl) (fun w H => ?_))
    | (show KSeq _ _ _ _ _ _ _; refine KSeq.normal ?_)
    | (show KEnd _ _ _ _ _ _; refine KEnd.mk (Or.inr rfl) ⟨_, (ResL.tmp rfl ResL.nil), ?_⟩))
  exact ⟨rfl, H⟩
theorem cipherR_any (H : Holds I w L) {x k : Nat} (hx : x < 2 ^ 32) (hk : k < 2 ^ 32) : Rets Try.prog F_tithingref24_cipher #[.int .i64 x, .int .i64 k] w fun u w' => u = .int .i64 (cphN x k : Nat) ∧ Holds I w' L := by
  refine ok_tithingref24_cipher.rets rfl ?_
  repeat' (first
    | (show VcL _ _ _ _ _ _ _ _; first
      | refine VcL.pures tabOk rfl ?_
      | refine VcL.nil ?_)
    | (show Vc _ _ _ _ _ _; first
      | refine Vc.seq ?_
      | refine Vc.region ?_
      | refine Vc.block ?_)
    | (show KSeq _ _ _ _ _ _ _; refine KSeq.normal ?_))
  refine Vc.loopS [(1, _)] (fun i : Nat => [(0, .int .i64 (rndN x k i : Nat)), (5, .int .i64 i)]) (fun i w => Holds I w L ∧ i ≤ 8) (fun i _ => 8 - i) 0 ⟨rfl, rfl, trivial⟩ ⟨rfl, trivial⟩ ⟨H, by omega⟩ ?_
  rintro i w ⟨H, hi⟩
  by_cases hlt : i < 8
  · have hn := rnd_lt (k := k) hx i
    obtain ⟨m, hm⟩ : ∃ m, rndN x k i = m := ⟨_, rfl⟩
    rw [hm] at hn ⊢
    have ha : (m + k + i * 2654435769) % 2 ^ 32 < 2 ^ 32 := Nat.mod_lt _ (by decide)
    have e1 : Int.tmod (IntKind.i64.wrap (IntKind.i64.wrap ((m : Int) + (k : Int)) + IntKind.i64.wrap ((i : Int) * 2654435769))) (Int.ofNat (4294967295 + 1)) = (((m + k + i * 2654435769) % 2 ^ 32 : Nat) : Int) := by
      show Int.tmod _ 4294967296 = _
      rw [wrap_i64 (x := (m : Int) + (k : Int)) (by omega) (by omega), wrap_i64 (x := (i : Int) * 2654435769) (by omega) (by omega), wrap_i64 (by omega) (by omega), Int.tmod_eq_emod_of_nonneg (by omega)]; omega
    generalize hae : (m + k + i * 2654435769) % 2 ^ 32 = a at ha e1
    have hr := rot_lt ha (show 7 ≤ 32 by decide)
    have hxl := Nat.xor_lt_two_pow ha hr
    have e2 : IntKind.i64.wrap ((BitVec.ofInt IntKind.i64.bits (a : Int) ^^^ BitVec.ofInt IntKind.i64.bits ((rotN a 7 : Nat) : Int)).toNat : Int) = ((a ^^^ rotN a 7 : Nat) : Int) := by
      rw [BitVec.toNat_xor]
      show IntKind.i64.wrap (((BitVec.ofInt 64 (a : Int)).toNat ^^^ (BitVec.ofInt 64 ((rotN a 7 : Nat) : Int)).toNat : Nat) : Int) = _
      rw [bv_nat (Nat.lt_trans ha (by decide)), bv_nat (Nat.lt_trans hr (by decide)), wi64 (Nat.lt_trans hxl (by decide))]
    have hb : (a ^^^ rotN a 7) * 2246822519 % 2 ^ 32 < 2 ^ 32 := Nat.mod_lt _ (by decide)
    have e3 : IntKind.i64.wrap (Int.tmod (IntKind.u64.wrap (IntKind.u64.wrap ((a ^^^ rotN a 7 : Nat) : Int) * 2246822519)) (Int.ofNat (4294967295 + 1))) = (((a ^^^ rotN a 7) * 2246822519 % 2 ^ 32 : Nat) : Int) := by
      show IntKind.i64.wrap (Int.tmod _ 4294967296) = _
      generalize a ^^^ rotN a 7 = c at hxl
      rw [wu64 (Nat.lt_trans hxl (by decide)), wrap_u64, Int.tmod_eq_emod_of_nonneg (by omega), wrap_i64 (by omega) (by omega)]
      omega
    generalize hbe : (a ^^^ rotN a 7) * 2246822519 % 2 ^ 32 = b0 at hb e3
    repeat' (first
      | rw [e1]
      | rw [e2]
      | rw [e3]
      | (show VcL _ _ _ _ _ _ _ _; first
      | refine VcL.pures tabOk rfl ?_
      | refine VcL.nil ?_
      | (show VcL _ _ _ _ (⟨_, .call ⟨.value (.func F_tithingref24_turned), _, _⟩, _, _, _, _⟩ :: _) _ _ _; (refine VcL.callF ok_tithingref24_turned rfl rfl rfl rfl (Rets.mono (turned_any (k := 7) H ha (by decide)) ?_); rintro _ w ⟨rfl, H⟩))
      | (show VcL _ _ _ _ (⟨_, .call ⟨.value (.func F_tithingref24_turned), _, _⟩, _, _, _, _⟩ :: _) _ _ _; (refine VcL.callF ok_tithingref24_turned rfl rfl rfl rfl (Rets.mono (turned_any (k := 11) H hb (by decide)) ?_); rintro _ w ⟨rfl, H⟩)))
      | (show Vc _ _ _ _ _ _; first
      | refine Vc.seq ?_
      | refine Vc.region ?_
      | refine Vc.skip ?_
      | refine Vc.block ?_
      | (refine Vc.cond rfl (fun h => ?_) (fun h => ?_) <;> first | (exfalso; simp only [decide_eq_true_eq, decide_eq_false_iff_not] at h; omega) | (with_reducible have hp := of_decide_eq_true h)))
      | (show KSeq _ _ _ _ _ _ _; refine KSeq.normal ?_)
      | (show KBlock _ _ _ _ _; refine KBlock.normal ?_))
    refine KLoop.again (i + 1) ⟨?_, got_succ rfl (by omega), trivial⟩ ⟨rfl, trivial⟩ ⟨H, by omega⟩ (by omega)
    show _ = some (Value.int .i64 ((mixN k i (rndN x k i) : Nat) : Int))
    unfold mixN
    dsimp only
    rw [hm, hae, hbe]
    rfl
  · obtain rfl : i = 8 := by omega
    repeat' (first
      | (show VcL _ _ _ _ _ _ _ _; first
      | refine VcL.pures tabOk rfl ?_
      | refine VcL.nil ?_)
      | (show Vc _ _ _ _ _ _; first
      | refine Vc.seq ?_
      | refine Vc.region ?_
      | refine Vc.condF rfl ?_
      | refine Vc.ret ?_
      | refine Vc.exit ?_)
      | (show KSeq _ _ _ _ _ _ _; first
      | refine KSeq.normal ?_
      | refine KSeq.exit ?_)
      | (show KBlock _ _ _ _ _; refine KBlock.here ?_)
      | refine KLoop.exit ?_
      | (show KEnd _ _ _ _ _ _; refine KEnd.mk (Or.inr rfl) ⟨_, (ResL.tmp rfl ResL.nil), ?_⟩))
    exact ⟨rfl, H⟩
/-- What a number of 32 bits is. -/
def is32 (x : Int) : Bool := decide (0 ≤ x) && decide (x ≤ 4294967295)
def is31 (x : Int) : Bool := decide (0 ≤ x) && decide (x ≤ 2147483647)
theorem is32_nat {x : Int} (h : is32 x = true) : ∃ n : Nat, x = n ∧ n < 2 ^ 32 := by
  unfold is32 at h
  simp only [Bool.and_eq_true, decide_eq_true_eq] at h
  exact ⟨x.toNat, by omega, by omega⟩
theorem is31_nat {x : Int} (h : is31 x = true) : ∃ n : Nat, x = n ∧ n < 2 ^ 31 := by
  unfold is31 at h
  simp only [Bool.and_eq_true, decide_eq_true_eq] at h
  exact ⟨x.toNat, by omega, by omega⟩
theorem withinS_any (H : Holds I w L) (n a b : Int) : Rets Try.prog F_secret_within #[.int .i64 n, .int .i64 a, .int .i64 b] w fun u w' => u = .bool (decide (a ≤ n) && decide (n ≤ b)) ∧ Holds I w' L := by
  refine ok_secret_within.rets rfl ?_
  repeat' (first
    | (show VcL _ _ _ _ _ _ _ _; first
      | refine VcL.pures tabOk rfl ?_
      | refine VcL.nil ?_
      | (refine VcL.guard rfl rfl rfl rfl (fun h => ?_) (fun h => ?_) <;> first | (with_reducible have hp := of_decide_eq_true h) | (with_reducible have hp := of_decide_eq_false h)))
    | (show Vc _ _ _ _ _ _; first
      | refine Vc.seq ?_
      | refine Vc.region ?_
      | refine Vc.ret ?_)
    | (show KSeq _ _ _ _ _ _ _; refine KSeq.normal ?_)
    | (show KEnd _ _ _ _ _ _; refine KEnd.mk (Or.inr rfl) ⟨_, (ResL.tmp rfl ResL.nil), ?_⟩))
  all_goals (refine ⟨?_, H⟩; simp_all [resVal] <;> omega)
theorem isNumber_any (H : Holds I w L) (n : Int) : Rets Try.prog F_tithingref24_isNumber #[.int .i64 n] w fun u w' => u = .bool (is32 n) ∧ Holds I w' L := by
  refine ok_tithingref24_isNumber.rets rfl ?_
  repeat' (first
    | (show VcL _ _ _ _ _ _ _ _; first
      | refine VcL.pures tabOk rfl ?_
      | refine VcL.nil ?_
      | (refine VcL.guard rfl rfl rfl rfl (fun h => ?_) (fun h => ?_) <;> first | (with_reducible have hp := of_decide_eq_true h) | (with_reducible have hp := of_decide_eq_false h)))
    | (show Vc _ _ _ _ _ _; first
      | refine Vc.seq ?_
      | refine Vc.region ?_
      | refine Vc.ret ?_)
    | (show KSeq _ _ _ _ _ _ _; refine KSeq.normal ?_)
    | (show KEnd _ _ _ _ _ _; refine KEnd.mk (Or.inr rfl) ⟨_, (ResL.tmp rfl ResL.nil), ?_⟩))
  all_goals (refine ⟨?_, H⟩; unfold is32; simp_all [resVal] <;> omega)
theorem isSecret_any (H : Holds I w L) (n : Int) : Rets Try.prog F_tithingref24_isSecret #[.int .i64 n] w fun u w' => u = .bool (is31 n) ∧ Holds I w' L := by
  refine ok_tithingref24_isSecret.rets rfl ?_
  repeat' (first
    | (show VcL _ _ _ _ _ _ _ _; first
      | refine VcL.pures tabOk rfl ?_
      | refine VcL.nil ?_
      | (refine VcL.guard rfl rfl rfl rfl (fun h => ?_) (fun h => ?_) <;> first | (with_reducible have hp := of_decide_eq_true h) | (with_reducible have hp := of_decide_eq_false h)))
    | (show Vc _ _ _ _ _ _; first
      | refine Vc.seq ?_
      | refine Vc.region ?_
      | refine Vc.ret ?_)
    | (show KSeq _ _ _ _ _ _ _; refine KSeq.normal ?_)
    | (show KEnd _ _ _ _ _ _; refine KEnd.mk (Or.inr rfl) ⟨_, (ResL.tmp rfl ResL.nil), ?_⟩))
  all_goals (refine ⟨?_, H⟩; unfold is31; simp_all [resVal] <;> omega)
def cphV (x k : Int) : Int := ((cphN x.toNat k.toNat : Nat) : Int)
def turnK (k : Int) : Int := ((k.toNat ^^^ 1515870810 : Nat) : Int)
def cipA (ok : Bool) (x k : Int) : Value := if ok then .tuple #[.int .i64 (cphV x k), .int .i64 0] else .tuple #[.int .i64 0, .int .i64 2]
theorem xor31 {n : Nat} (h : n < 2 ^ 31) : IntKind.i64.wrap ((BitVec.ofInt IntKind.i64.bits (n : Int) ^^^ BitVec.ofInt IntKind.i64.bits 1515870810).toNat : Int) = ((n ^^^ 1515870810 : Nat) : Int) ∧ n ^^^ 1515870810 < 2 ^ 32 := by
  have hx : n ^^^ 1515870810 < 2 ^ 31 := Nat.xor_lt_two_pow h (by decide)
  refine ⟨?_, Nat.lt_trans hx (by decide)⟩
  rw [BitVec.toNat_xor]
  show IntKind.i64.wrap (((BitVec.ofInt 64 (n : Int)).toNat ^^^ (BitVec.ofInt 64 ((1515870810 : Nat) : Int)).toNat : Nat) : Int) = _
  rw [bv_nat (Nat.lt_trans h (by decide)), bv_nat (by decide), wi64 (Nat.lt_trans hx (by decide))]
theorem CipherP_any (H : Holds I w L) (x k : Int) : Rets Try.prog F_secret_Cipher #[.int .i64 x, .int .i64 k] w fun u w' => u = cipA (is32 x && is32 k) x k ∧ Holds I w' L := by
  by_cases hk : (is32 x && is32 k) = true
  · have hk' := hk
    rw [Bool.and_eq_true] at hk'
    obtain ⟨n, rfl, hn⟩ := is32_nat hk'.1
    obtain ⟨m, rfl, hm⟩ := is32_nat hk'.2
    refine ok_secret_Cipher.rets rfl ?_
    repeat' (first
      | (show VcL _ _ _ _ _ _ _ _; first
      | refine VcL.pures tabOk rfl ?_
      | refine VcL.nil ?_
      | (show VcL _ _ _ _ (⟨_, .call ⟨.value (.func F_secret_within), _, _⟩, _, _, _, _⟩ :: _) _ _ _; (refine VcL.callF ok_secret_within rfl rfl rfl rfl (Rets.mono (withinS_any H _ _ _) ?_); rintro _ w ⟨rfl, H⟩))
      | (show VcL _ _ _ _ (⟨_, .call ⟨.value (.func F_secret_cipher), _, _⟩, _, _, _, _⟩ :: _) _ _ _; (refine VcL.callF ok_secret_cipher rfl rfl rfl rfl (Rets.mono (cipherP_any H hn hm) ?_); rintro _ w ⟨rfl, H⟩))
      | (refine VcL.guard rfl rfl rfl rfl (fun h => ?_) (fun h => ?_) <;> skip))
      | (show Vc _ _ _ _ _ _; first
      | refine Vc.seq ?_
      | refine Vc.region ?_
      | refine Vc.condT rfl ?_
      | refine Vc.ret ?_
      | refine Vc.skip ?_
      | (refine Vc.cond rfl (fun h => ?_) (fun h => ?_) <;> skip))
      | (show KSeq _ _ _ _ _ _ _; first
      | refine KSeq.normal ?_
      | refine KSeq.ret ?_)
      | (show KEnd _ _ _ _ _ _; refine KEnd.mk (Or.inr rfl) ⟨_, (ResL.tmp rfl (ResL.tmp rfl ResL.nil)), ?_⟩))
    all_goals first
      | (unfold cipA; rw [if_pos hk]; exact ⟨rfl, H⟩)
      | (exfalso; simp_all [is32, is31])
  ·
    refine ok_secret_Cipher.rets rfl ?_
    repeat' (first
      | (show VcL _ _ _ _ _ _ _ _; first
      | refine VcL.pures tabOk rfl ?_
      | refine VcL.nil ?_
      | (show VcL _ _ _ _ (⟨_, .call ⟨.value (.func F_secret_within), _, _⟩, _, _, _, _⟩ :: _) _ _ _; (refine VcL.callF ok_secret_within rfl rfl rfl rfl (Rets.mono (withinS_any H _ _ _) ?_); rintro _ w ⟨rfl, H⟩))
      | (refine VcL.guard rfl rfl rfl rfl (fun h => ?_) (fun h => ?_) <;> skip))
      | (show Vc _ _ _ _ _ _; first
      | refine Vc.seq ?_
      | refine Vc.region ?_
      | refine Vc.condT rfl ?_
      | refine Vc.ret ?_
      | refine Vc.skip ?_
      | (refine Vc.cond rfl (fun h => ?_) (fun h => ?_) <;> skip))
      | (show KSeq _ _ _ _ _ _ _; first
      | refine KSeq.normal ?_
      | refine KSeq.ret ?_)
      | (show KEnd _ _ _ _ _ _; refine KEnd.mk (Or.inr rfl) ⟨_, (ResL.tmp rfl (ResL.tmp rfl ResL.nil)), ?_⟩))
    all_goals first
      | (unfold cipA; rw [if_neg hk]; exact ⟨rfl, H⟩)
      | (exfalso; apply hk; unfold is32 is31; simp_all)
      | (exfalso; apply hk; unfold is32; simp_all)
      | (exfalso; apply hk; simp_all)
theorem AnswerP_any (H : Holds I w L) (x k : Int) : Rets Try.prog F_secret_Answer #[.int .i64 x, .int .i64 k] w fun u w' => u = cipA (is32 x && is31 k) x k ∧ Holds I w' L := by
  by_cases hk : (is32 x && is31 k) = true
  · have hk' := hk
    rw [Bool.and_eq_true] at hk'
    obtain ⟨n, rfl, hn⟩ := is32_nat hk'.1
    obtain ⟨m, rfl, hm⟩ := is31_nat hk'.2
    refine ok_secret_Answer.rets rfl ?_
    repeat' (first
      | (show VcL _ _ _ _ _ _ _ _; first
      | refine VcL.pures tabOk rfl ?_
      | refine VcL.nil ?_
      | (show VcL _ _ _ _ (⟨_, .call ⟨.value (.func F_secret_within), _, _⟩, _, _, _, _⟩ :: _) _ _ _; (refine VcL.callF ok_secret_within rfl rfl rfl rfl (Rets.mono (withinS_any H _ _ _) ?_); rintro _ w ⟨rfl, H⟩))
      | (show VcL _ _ _ _ (⟨_, .call ⟨.value (.func F_secret_cipher), _, _⟩, _, _, _, _⟩ :: _) _ _ _; (refine VcL.callF ok_secret_cipher rfl rfl rfl rfl (Rets.mono (cipherP_any H hn (Nat.lt_trans hm (by decide))) ?_); rintro _ w ⟨rfl, H⟩))
      | (refine VcL.guard rfl rfl rfl rfl (fun h => ?_) (fun h => ?_) <;> skip))
      | (show Vc _ _ _ _ _ _; first
      | refine Vc.seq ?_
      | refine Vc.region ?_
      | refine Vc.condT rfl ?_
      | refine Vc.ret ?_
      | refine Vc.skip ?_
      | (refine Vc.cond rfl (fun h => ?_) (fun h => ?_) <;> skip))
      | (show KSeq _ _ _ _ _ _ _; first
      | refine KSeq.normal ?_
      | refine KSeq.ret ?_)
      | (show KEnd _ _ _ _ _ _; refine KEnd.mk (Or.inr rfl) ⟨_, (ResL.tmp rfl (ResL.tmp rfl ResL.nil)), ?_⟩))
    all_goals first
      | (unfold cipA; rw [if_pos hk]; exact ⟨rfl, H⟩)
      | (exfalso; simp_all [is32, is31])
  ·
    refine ok_secret_Answer.rets rfl ?_
    repeat' (first
      | (show VcL _ _ _ _ _ _ _ _; first
      | refine VcL.pures tabOk rfl ?_
      | refine VcL.nil ?_
      | (show VcL _ _ _ _ (⟨_, .call ⟨.value (.func F_secret_within), _, _⟩, _, _, _, _⟩ :: _) _ _ _; (refine VcL.callF ok_secret_within rfl rfl rfl rfl (Rets.mono (withinS_any H _ _ _) ?_); rintro _ w ⟨rfl, H⟩))
      | (refine VcL.guard rfl rfl rfl rfl (fun h => ?_) (fun h => ?_) <;> skip))
      | (show Vc _ _ _ _ _ _; first
      | refine Vc.seq ?_
      | refine Vc.region ?_
      | refine Vc.condT rfl ?_
      | refine Vc.ret ?_
      | refine Vc.skip ?_
      | (refine Vc.cond rfl (fun h => ?_) (fun h => ?_) <;> skip))
      | (show KSeq _ _ _ _ _ _ _; first
      | refine KSeq.normal ?_
      | refine KSeq.ret ?_)
      | (show KEnd _ _ _ _ _ _; refine KEnd.mk (Or.inr rfl) ⟨_, (ResL.tmp rfl (ResL.tmp rfl ResL.nil)), ?_⟩))
    all_goals first
      | (unfold cipA; rw [if_neg hk]; exact ⟨rfl, H⟩)
      | (exfalso; apply hk; unfold is32 is31; simp_all)
      | (exfalso; apply hk; unfold is32; simp_all)
      | (exfalso; apply hk; simp_all)
theorem BackP_any (H : Holds I w L) (x k : Int) : Rets Try.prog F_secret_Back #[.int .i64 x, .int .i64 k] w fun u w' => u = cipA (is32 x && is31 k) x (turnK k) ∧ Holds I w' L := by
  by_cases hk : (is32 x && is31 k) = true
  · have hk' := hk
    rw [Bool.and_eq_true] at hk'
    obtain ⟨n, rfl, hn⟩ := is32_nat hk'.1
    obtain ⟨m, rfl, hm⟩ := is31_nat hk'.2
    have hx := xor31 hm
    refine ok_secret_Back.rets rfl ?_
    repeat' (first
      | rw [hx.1]
      | (show VcL _ _ _ _ _ _ _ _; first
      | refine VcL.pures tabOk rfl ?_
      | refine VcL.nil ?_
      | (show VcL _ _ _ _ (⟨_, .call ⟨.value (.func F_secret_within), _, _⟩, _, _, _, _⟩ :: _) _ _ _; (refine VcL.callF ok_secret_within rfl rfl rfl rfl (Rets.mono (withinS_any H _ _ _) ?_); rintro _ w ⟨rfl, H⟩))
      | (show VcL _ _ _ _ (⟨_, .call ⟨.value (.func F_secret_cipher), _, _⟩, _, _, _, _⟩ :: _) _ _ _; (refine VcL.callF ok_secret_cipher rfl rfl rfl rfl (Rets.mono (cipherP_any H hn hx.2) ?_); rintro _ w ⟨rfl, H⟩))
      | (refine VcL.guard rfl rfl rfl rfl (fun h => ?_) (fun h => ?_) <;> skip))
      | (show Vc _ _ _ _ _ _; first
      | refine Vc.seq ?_
      | refine Vc.region ?_
      | refine Vc.condT rfl ?_
      | refine Vc.ret ?_
      | refine Vc.skip ?_
      | (refine Vc.cond rfl (fun h => ?_) (fun h => ?_) <;> skip))
      | (show KSeq _ _ _ _ _ _ _; first
      | refine KSeq.normal ?_
      | refine KSeq.ret ?_)
      | (show KEnd _ _ _ _ _ _; refine KEnd.mk (Or.inr rfl) ⟨_, (ResL.tmp rfl (ResL.tmp rfl ResL.nil)), ?_⟩))
    all_goals first
      | (unfold cipA; rw [if_pos hk]; exact ⟨rfl, H⟩)
      | (exfalso; simp_all [is32, is31])
  ·
    refine ok_secret_Back.rets rfl ?_
    repeat' (first
      | (show VcL _ _ _ _ _ _ _ _; first
      | refine VcL.pures tabOk rfl ?_
      | refine VcL.nil ?_
      | (show VcL _ _ _ _ (⟨_, .call ⟨.value (.func F_secret_within), _, _⟩, _, _, _, _⟩ :: _) _ _ _; (refine VcL.callF ok_secret_within rfl rfl rfl rfl (Rets.mono (withinS_any H _ _ _) ?_); rintro _ w ⟨rfl, H⟩))
      | (refine VcL.guard rfl rfl rfl rfl (fun h => ?_) (fun h => ?_) <;> skip))
      | (show Vc _ _ _ _ _ _; first
      | refine Vc.seq ?_
      | refine Vc.region ?_
      | refine Vc.condT rfl ?_
      | refine Vc.ret ?_
      | refine Vc.skip ?_
      | (refine Vc.cond rfl (fun h => ?_) (fun h => ?_) <;> skip))
      | (show KSeq _ _ _ _ _ _ _; first
      | refine KSeq.normal ?_
      | refine KSeq.ret ?_)
      | (show KEnd _ _ _ _ _ _; refine KEnd.mk (Or.inr rfl) ⟨_, (ResL.tmp rfl (ResL.tmp rfl ResL.nil)), ?_⟩))
    all_goals first
      | (unfold cipA; rw [if_neg hk]; exact ⟨rfl, H⟩)
      | (exfalso; apply hk; unfold is32 is31; simp_all)
      | (exfalso; apply hk; unfold is32; simp_all)
      | (exfalso; apply hk; simp_all)
theorem CipherR_any (H : Holds I w L) (x k : Int) : Rets Try.prog F_tithingref24_Cipher #[.int .i64 x, .int .i64 k] w fun u w' => u = cipA (is32 x && is32 k) x k ∧ Holds I w' L := by
  by_cases hk : (is32 x && is32 k) = true
  · have hk' := hk
    rw [Bool.and_eq_true] at hk'
    obtain ⟨n, rfl, hn⟩ := is32_nat hk'.1
    obtain ⟨m, rfl, hm⟩ := is32_nat hk'.2
    refine ok_tithingref24_Cipher.rets rfl ?_
    repeat' (first
      | (show VcL _ _ _ _ _ _ _ _; first
      | refine VcL.pures tabOk rfl ?_
      | refine VcL.nil ?_
      | (show VcL _ _ _ _ (⟨_, .call ⟨.value (.func F_tithingref24_isNumber), _, _⟩, _, _, _, _⟩ :: _) _ _ _; (refine VcL.callF ok_tithingref24_isNumber rfl rfl rfl rfl (Rets.mono (isNumber_any H _) ?_); rintro _ w ⟨rfl, H⟩))
      | (show VcL _ _ _ _ (⟨_, .call ⟨.value (.func F_tithingref24_cipher), _, _⟩, _, _, _, _⟩ :: _) _ _ _; (refine VcL.callF ok_tithingref24_cipher rfl rfl rfl rfl (Rets.mono (cipherR_any H hn hm) ?_); rintro _ w ⟨rfl, H⟩))
      | (refine VcL.guard rfl rfl rfl rfl (fun h => ?_) (fun h => ?_) <;> skip))
      | (show Vc _ _ _ _ _ _; first
      | refine Vc.seq ?_
      | refine Vc.region ?_
      | refine Vc.condT rfl ?_
      | refine Vc.ret ?_
      | refine Vc.skip ?_
      | (refine Vc.cond rfl (fun h => ?_) (fun h => ?_) <;> skip))
      | (show KSeq _ _ _ _ _ _ _; first
      | refine KSeq.normal ?_
      | refine KSeq.ret ?_)
      | (show KEnd _ _ _ _ _ _; refine KEnd.mk (Or.inr rfl) ⟨_, (ResL.tmp rfl (ResL.tmp rfl ResL.nil)), ?_⟩))
    all_goals first
      | (unfold cipA; rw [if_pos hk]; exact ⟨rfl, H⟩)
      | (exfalso; simp_all [is32, is31])
  ·
    refine ok_tithingref24_Cipher.rets rfl ?_
    repeat' (first
      | (show VcL _ _ _ _ _ _ _ _; first
      | refine VcL.pures tabOk rfl ?_
      | refine VcL.nil ?_
      | (show VcL _ _ _ _ (⟨_, .call ⟨.value (.func F_tithingref24_isNumber), _, _⟩, _, _, _, _⟩ :: _) _ _ _; (refine VcL.callF ok_tithingref24_isNumber rfl rfl rfl rfl (Rets.mono (isNumber_any H _) ?_); rintro _ w ⟨rfl, H⟩))
      | (refine VcL.guard rfl rfl rfl rfl (fun h => ?_) (fun h => ?_) <;> skip))
      | (show Vc _ _ _ _ _ _; first
      | refine Vc.seq ?_
      | refine Vc.region ?_
      | refine Vc.condT rfl ?_
      | refine Vc.ret ?_
      | refine Vc.skip ?_
      | (refine Vc.cond rfl (fun h => ?_) (fun h => ?_) <;> skip))
      | (show KSeq _ _ _ _ _ _ _; first
      | refine KSeq.normal ?_
      | refine KSeq.ret ?_)
      | (show KEnd _ _ _ _ _ _; refine KEnd.mk (Or.inr rfl) ⟨_, (ResL.tmp rfl (ResL.tmp rfl ResL.nil)), ?_⟩))
    all_goals first
      | (unfold cipA; rw [if_neg hk]; exact ⟨rfl, H⟩)
      | (exfalso; apply hk; unfold is32 is31; simp_all)
      | (exfalso; apply hk; unfold is32; simp_all)
      | (exfalso; apply hk; simp_all)
theorem AnswerR_any (H : Holds I w L) (x k : Int) : Rets Try.prog F_tithingref24_Answer #[.int .i64 x, .int .i64 k] w fun u w' => u = cipA (is32 x && is31 k) x k ∧ Holds I w' L := by
  by_cases hk : (is32 x && is31 k) = true
  · have hk' := hk
    rw [Bool.and_eq_true] at hk'
    obtain ⟨n, rfl, hn⟩ := is32_nat hk'.1
    obtain ⟨m, rfl, hm⟩ := is31_nat hk'.2
    refine ok_tithingref24_Answer.rets rfl ?_
    repeat' (first
      | (show VcL _ _ _ _ _ _ _ _; first
      | refine VcL.pures tabOk rfl ?_
      | refine VcL.nil ?_
      | (show VcL _ _ _ _ (⟨_, .call ⟨.value (.func F_tithingref24_isNumber), _, _⟩, _, _, _, _⟩ :: _) _ _ _; (refine VcL.callF ok_tithingref24_isNumber rfl rfl rfl rfl (Rets.mono (isNumber_any H _) ?_); rintro _ w ⟨rfl, H⟩))
      | (show VcL _ _ _ _ (⟨_, .call ⟨.value (.func F_tithingref24_isSecret), _, _⟩, _, _, _, _⟩ :: _) _ _ _; (refine VcL.callF ok_tithingref24_isSecret rfl rfl rfl rfl (Rets.mono (isSecret_any H _) ?_); rintro _ w ⟨rfl, H⟩))
      | (show VcL _ _ _ _ (⟨_, .call ⟨.value (.func F_tithingref24_cipher), _, _⟩, _, _, _, _⟩ :: _) _ _ _; (refine VcL.callF ok_tithingref24_cipher rfl rfl rfl rfl (Rets.mono (cipherR_any H hn (Nat.lt_trans hm (by decide))) ?_); rintro _ w ⟨rfl, H⟩))
      | (refine VcL.guard rfl rfl rfl rfl (fun h => ?_) (fun h => ?_) <;> skip))
      | (show Vc _ _ _ _ _ _; first
      | refine Vc.seq ?_
      | refine Vc.region ?_
      | refine Vc.condT rfl ?_
      | refine Vc.ret ?_
      | refine Vc.skip ?_
      | (refine Vc.cond rfl (fun h => ?_) (fun h => ?_) <;> skip))
      | (show KSeq _ _ _ _ _ _ _; first
      | refine KSeq.normal ?_
      | refine KSeq.ret ?_)
      | (show KEnd _ _ _ _ _ _; refine KEnd.mk (Or.inr rfl) ⟨_, (ResL.tmp rfl (ResL.tmp rfl ResL.nil)), ?_⟩))
    all_goals first
      | (unfold cipA; rw [if_pos hk]; exact ⟨rfl, H⟩)
      | (exfalso; simp_all [is32, is31])
  ·
    refine ok_tithingref24_Answer.rets rfl ?_
    repeat' (first
      | (show VcL _ _ _ _ _ _ _ _; first
      | refine VcL.pures tabOk rfl ?_
      | refine VcL.nil ?_
      | (show VcL _ _ _ _ (⟨_, .call ⟨.value (.func F_tithingref24_isNumber), _, _⟩, _, _, _, _⟩ :: _) _ _ _; (refine VcL.callF ok_tithingref24_isNumber rfl rfl rfl rfl (Rets.mono (isNumber_any H _) ?_); rintro _ w ⟨rfl, H⟩))
      | (show VcL _ _ _ _ (⟨_, .call ⟨.value (.func F_tithingref24_isSecret), _, _⟩, _, _, _, _⟩ :: _) _ _ _; (refine VcL.callF ok_tithingref24_isSecret rfl rfl rfl rfl (Rets.mono (isSecret_any H _) ?_); rintro _ w ⟨rfl, H⟩))
      | (refine VcL.guard rfl rfl rfl rfl (fun h => ?_) (fun h => ?_) <;> skip))
      | (show Vc _ _ _ _ _ _; first
      | refine Vc.seq ?_
      | refine Vc.region ?_
      | refine Vc.condT rfl ?_
      | refine Vc.ret ?_
      | refine Vc.skip ?_
      | (refine Vc.cond rfl (fun h => ?_) (fun h => ?_) <;> skip))
      | (show KSeq _ _ _ _ _ _ _; first
      | refine KSeq.normal ?_
      | refine KSeq.ret ?_)
      | (show KEnd _ _ _ _ _ _; refine KEnd.mk (Or.inr rfl) ⟨_, (ResL.tmp rfl (ResL.tmp rfl ResL.nil)), ?_⟩))
    all_goals first
      | (unfold cipA; rw [if_neg hk]; exact ⟨rfl, H⟩)
      | (exfalso; apply hk; unfold is32 is31; simp_all)
      | (exfalso; apply hk; unfold is32; simp_all)
      | (exfalso; apply hk; simp_all)
theorem BackR_any (H : Holds I w L) (x k : Int) : Rets Try.prog F_tithingref24_Back #[.int .i64 x, .int .i64 k] w fun u w' => u = cipA (is32 x && is31 k) x (turnK k) ∧ Holds I w' L := by
  by_cases hk : (is32 x && is31 k) = true
  · have hk' := hk
    rw [Bool.and_eq_true] at hk'
    obtain ⟨n, rfl, hn⟩ := is32_nat hk'.1
    obtain ⟨m, rfl, hm⟩ := is31_nat hk'.2
    have hx := xor31 hm
    refine ok_tithingref24_Back.rets rfl ?_
    repeat' (first
      | rw [hx.1]
      | (show VcL _ _ _ _ _ _ _ _; first
      | refine VcL.pures tabOk rfl ?_
      | refine VcL.nil ?_
      | (show VcL _ _ _ _ (⟨_, .call ⟨.value (.func F_tithingref24_isNumber), _, _⟩, _, _, _, _⟩ :: _) _ _ _; (refine VcL.callF ok_tithingref24_isNumber rfl rfl rfl rfl (Rets.mono (isNumber_any H _) ?_); rintro _ w ⟨rfl, H⟩))
      | (show VcL _ _ _ _ (⟨_, .call ⟨.value (.func F_tithingref24_isSecret), _, _⟩, _, _, _, _⟩ :: _) _ _ _; (refine VcL.callF ok_tithingref24_isSecret rfl rfl rfl rfl (Rets.mono (isSecret_any H _) ?_); rintro _ w ⟨rfl, H⟩))
      | (show VcL _ _ _ _ (⟨_, .call ⟨.value (.func F_tithingref24_cipher), _, _⟩, _, _, _, _⟩ :: _) _ _ _; (refine VcL.callF ok_tithingref24_cipher rfl rfl rfl rfl (Rets.mono (cipherR_any H hn hx.2) ?_); rintro _ w ⟨rfl, H⟩))
      | (refine VcL.guard rfl rfl rfl rfl (fun h => ?_) (fun h => ?_) <;> skip))
      | (show Vc _ _ _ _ _ _; first
      | refine Vc.seq ?_
      | refine Vc.region ?_
      | refine Vc.condT rfl ?_
      | refine Vc.ret ?_
      | refine Vc.skip ?_
      | (refine Vc.cond rfl (fun h => ?_) (fun h => ?_) <;> skip))
      | (show KSeq _ _ _ _ _ _ _; first
      | refine KSeq.normal ?_
      | refine KSeq.ret ?_)
      | (show KEnd _ _ _ _ _ _; refine KEnd.mk (Or.inr rfl) ⟨_, (ResL.tmp rfl (ResL.tmp rfl ResL.nil)), ?_⟩))
    all_goals first
      | (unfold cipA; rw [if_pos hk]; exact ⟨rfl, H⟩)
      | (exfalso; simp_all [is32, is31])
  ·
    refine ok_tithingref24_Back.rets rfl ?_
    repeat' (first
      | (show VcL _ _ _ _ _ _ _ _; first
      | refine VcL.pures tabOk rfl ?_
      | refine VcL.nil ?_
      | (show VcL _ _ _ _ (⟨_, .call ⟨.value (.func F_tithingref24_isNumber), _, _⟩, _, _, _, _⟩ :: _) _ _ _; (refine VcL.callF ok_tithingref24_isNumber rfl rfl rfl rfl (Rets.mono (isNumber_any H _) ?_); rintro _ w ⟨rfl, H⟩))
      | (show VcL _ _ _ _ (⟨_, .call ⟨.value (.func F_tithingref24_isSecret), _, _⟩, _, _, _, _⟩ :: _) _ _ _; (refine VcL.callF ok_tithingref24_isSecret rfl rfl rfl rfl (Rets.mono (isSecret_any H _) ?_); rintro _ w ⟨rfl, H⟩))
      | (refine VcL.guard rfl rfl rfl rfl (fun h => ?_) (fun h => ?_) <;> skip))
      | (show Vc _ _ _ _ _ _; first
      | refine Vc.seq ?_
      | refine Vc.region ?_
      | refine Vc.condT rfl ?_
      | refine Vc.ret ?_
      | refine Vc.skip ?_
      | (refine Vc.cond rfl (fun h => ?_) (fun h => ?_) <;> skip))
      | (show KSeq _ _ _ _ _ _ _; first
      | refine KSeq.normal ?_
      | refine KSeq.ret ?_)
      | (show KEnd _ _ _ _ _ _; refine KEnd.mk (Or.inr rfl) ⟨_, (ResL.tmp rfl (ResL.tmp rfl ResL.nil)), ?_⟩))
    all_goals first
      | (unfold cipA; rw [if_neg hk]; exact ⟨rfl, H⟩)
      | (exfalso; apply hk; unfold is32 is31; simp_all)
      | (exfalso; apply hk; unfold is32; simp_all)
      | (exfalso; apply hk; simp_all)
end Go.Proofs.Ytccbfajjboccoaa.V
