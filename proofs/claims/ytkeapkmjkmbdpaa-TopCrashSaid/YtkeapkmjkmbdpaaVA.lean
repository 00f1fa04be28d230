/- Bytes of the journal: sums, numbers, blocks. -/
import Derived.Test.YtkeapkmjkmbdpaaVcHead
namespace Go.Proofs.Ytkeapkmjkmbdpaa.V
open Go Go.Proofs.YtkeapkmjkmbdpaaV
set_option linter.unusedVariables false
set_option linter.unusedSimpArgs false
set_option maxHeartbeats 1000000
set_option maxRecDepth 4000
attribute [local irreducible] IntKind.wrap
variable {I : Imm} {w : World} {L : List Asn}
abbrev By := List UInt8
abbrev byL (l : By) : List Value := l.map byteV
theorem byL_flat (l : By) : l.flatMap byC = byL l := by_flat l
theorem byL_len (l : By) : (byL l).length = l.length := List.length_map ..
theorem CloneB_any (H : Holds I w L) {v : Value} {n : Nat} {cs : List Value} (hv : SlR I L v 1 n cs) (h1 : ∀ u ∈ cs, oneC u = true) (hn : n * 1 ≤ 2 ^ 46) : Rets Try.prog F_slices_Clone_byte_byte #[v] w fun u w' => Holds I w' (own u 5 1 n cs :: L) := by
  obtain ⟨A, cap, rfl, hcap⟩ := hv.form
  have hlen := hv.len
  cases A with
  | none =>
    refine ok_slices_Clone_byte_byte.rets rfl ?_
    repeat' (first
      | (show VcL _ _ _ _ _ _ _ _; first
      | refine VcL.pures tabOk rfl ?_
      | refine VcL.nil ?_)
      | (show Vc _ _ _ _ _ _; first
      | refine Vc.seq ?_
      | refine Vc.region ?_
      | refine Vc.condT rfl ?_
      | refine Vc.ret ?_)
      | (show KSeq _ _ _ _ _ _ _; first
      | refine KSeq.normal ?_
      | refine KSeq.ret ?_)
      | (show KEnd _ _ _ _ _ _ _; refine KEnd.fin (Or.inr rfl) ⟨_, (ResL.tmp rfl ResL.nil), ?_⟩))
    obtain ⟨A', cap', e, h2, h3, h4, h5⟩ := hv.out
    injection e with e1 e2 e3
    obtain ⟨rfl, _⟩ := h4 e1.symm
    have : cs = [] := by simpa using hlen
    subst this
    exact H.own_nil
  | some a =>
    refine ok_slices_Clone_byte_byte.rets rfl ?_
    repeat' (first
      | (refine VcL.append tabOk rfl rfl rfl rfl H (SlR.src hv (Holds.drop H)) h1 (by show (0 + n) * 1 ≤ 2 ^ 46; omega) rfl rfl rfl (fun sv w H => ?_))
      | (show VcL _ _ _ _ _ _ _ _; first
      | refine VcL.pures tabOk rfl ?_
      | refine VcL.nil ?_
      | refine VcL.buildSlice tabOk H rfl rfl rfl rfl rfl rfl (fun sv w H => ?_))
      | (show Vc _ _ _ _ _ _; first
      | refine Vc.seq ?_
      | refine Vc.region ?_
      | refine Vc.condF rfl ?_
      | refine Vc.ret ?_
      | refine Vc.skip ?_)
      | (show KSeq _ _ _ _ _ _ _; refine KSeq.normal ?_)
      | (show KEnd _ _ _ _ _ _ _; refine KEnd.fin (Or.inr rfl) ⟨_, (ResL.tmp rfl ResL.nil), ?_⟩))
    simpa [repL, resVal] using H
theorem IndexI_any (H : Holds I w L) {v : Value} {l : List Int} (hv : SlR I L v 1 l.length (l.flatMap inC)) (hl : l.length ≤ 140737488355328) (x : Int) : Rets Try.prog F_slices_Index_int_int #[v, .int .i64 x] w fun u w' => u = .int .i64 (idxF (fun y => decide (x = y)) l) ∧ Holds I w' L := by
  obtain ⟨A, cap, rfl, hcap⟩ := hv.form
  refine ok_slices_Index_int_int.rets rfl ?_
  repeat' (first
    | (show VcL _ _ _ _ _ _ _ _; first
      | refine VcL.pures tabOk rfl ?_
      | refine VcL.nil ?_)
    | (show Vc _ _ _ _ _ _; first
      | refine Vc.seq ?_
      | refine Vc.region ?_
      | refine Vc.block ?_)
    | (show KSeq _ _ _ _ _ _ _; refine KSeq.normal ?_))
  refine Vc.loopS [(0, _), (1, _), (7, _)] (fun k : Nat => [(8, .int .i64 k)]) (fun k w => Holds I w L ∧ k ≤ l.length ∧ ∀ j, j < k → decide (x = atD l j) = false) (fun k _ => l.length - k) 0 ⟨rfl, trivial⟩ ⟨rfl, rfl, rfl, trivial⟩ ⟨H, Nat.zero_le _, fun j hj => absurd hj (by omega)⟩ ?_
  rintro k w ⟨H, hk, hall⟩
  by_cases hlt : k < l.length
  · obtain ⟨b, o, rfl, hr⟩ := hv.at (by omega)
    have hx := hr.elem inC_len (atD_get hlt)
    repeat' (first
      | (show VcL _ _ _ _ _ _ _ _; first
      | refine VcL.pures tabOk rfl ?_
      | refine VcL.nil ?_
      | (show VcL _ _ _ _ (⟨_, .load _ _, _, _, _, _⟩ :: _) _ _ _; refine VcL.load1 tabOk rfl rfl rfl rfl rfl (by exact RdW.get0 (by assumption) rfl H) ?_)
      | (show VcL _ _ _ _ (⟨_, .indexAddr _ _ _, _, _, _, _⟩ :: _) _ _ _; refine VcL.indexAddr tabOk rfl rfl rfl rfl rfl rfl (by omega) (by omega) ?_))
      | (show Vc _ _ _ _ _ _; first
      | refine Vc.seq ?_
      | refine Vc.region ?_
      | refine Vc.ret ?_
      | refine Vc.skip ?_
      | refine Vc.block ?_
      | (refine Vc.cond rfl (fun h => ?_) (fun h => ?_) <;> first | (exfalso; simp only [decide_eq_true_eq, decide_eq_false_iff_not] at h; omega) | (with_reducible have hp := of_decide_eq_true h) | (with_reducible have hp := of_decide_eq_false h)))
      | (show KSeq _ _ _ _ _ _ _; first
      | refine KSeq.normal ?_
      | refine KSeq.ret ?_)
      | (show KBlock _ _ _ _ _ _; first
      | refine KBlock.normal ?_
      | refine KBlock.ret ?_)
      | refine KLoop.ret ?_
      | (show KEnd _ _ _ _ _ _ _; refine KEnd.fin (Or.inr rfl) ⟨_, (ResL.tmp rfl ResL.nil), ?_⟩))
    · exact ⟨by rw [idxF_yes hlt h hall]; rfl, H⟩
    · refine KLoop.again (k + 1) ⟨got_succ rfl (by omega), trivial⟩ ⟨rfl, rfl, rfl, trivial⟩ ⟨H, hlt, fun j hj => ?_⟩ (by omega)
      rcases Nat.lt_or_ge j k with h1 | h1
      · exact hall j h1
      · obtain rfl : j = k := by omega
        exact h
  ·
    repeat' (first
      | (show VcL _ _ _ _ _ _ _ _; first
      | refine VcL.pures tabOk rfl ?_
      | refine VcL.nil ?_)
      | (show Vc _ _ _ _ _ _; first
      | refine Vc.seq ?_
      | refine Vc.region ?_
      | refine Vc.ret ?_
      | refine Vc.exit ?_
      | (refine Vc.cond rfl (fun h => ?_) (fun h => ?_) <;> first | (exfalso; simp only [decide_eq_true_eq, decide_eq_false_iff_not] at h; omega) | (with_reducible have hp := of_decide_eq_false h)))
      | (show KSeq _ _ _ _ _ _ _; first
      | refine KSeq.normal ?_
      | refine KSeq.exit ?_)
      | (show KBlock _ _ _ _ _ _; refine KBlock.here ?_)
      | refine KLoop.exit ?_
      | (show KEnd _ _ _ _ _ _ _; refine KEnd.fin (Or.inr rfl) ⟨_, (ResL.tmp rfl ResL.nil), ?_⟩))
    obtain rfl : k = l.length := by omega
    exact ⟨by rw [idxF_no hall]; rfl, H⟩
theorem ContainsI_any (H : Holds I w L) {v : Value} {l : List Int} (hv : SlR I L v 1 l.length (l.flatMap inC)) (hl : l.length ≤ 140737488355328) (x : Int) : Rets Try.prog F_slices_Contains_int_int #[v, .int .i64 x] w fun u w' => u = .bool (l.any fun y => decide (x = y)) ∧ Holds I w' L := by
  obtain ⟨A, cap, rfl, hcap⟩ := hv.form
  refine ok_slices_Contains_int_int.rets rfl ?_
  repeat' (first
    | (show VcL _ _ _ _ _ _ _ _; first
      | refine VcL.pures tabOk rfl ?_
      | refine VcL.nil ?_
      | (show VcL _ _ _ _ (⟨_, .call ⟨.value (.func F_slices_Index_int_int), _, _⟩, _, _, _, _⟩ :: _) _ _ _; (refine VcL.callF ok_slices_Index_int_int rfl rfl rfl rfl (Rets.mono (IndexI_any H hv hl x) ?_); rintro _ w ⟨rfl, H⟩)))
    | (show Vc _ _ _ _ _ _; first
      | refine Vc.seq ?_
      | refine Vc.region ?_
      | refine Vc.ret ?_)
    | (show KSeq _ _ _ _ _ _ _; refine KSeq.normal ?_)
    | (show KEnd _ _ _ _ _ _ _; refine KEnd.fin (Or.inr rfl) ⟨_, (ResL.tmp rfl ResL.nil), ?_⟩))
  exact ⟨by rw [← idxF_any]; rfl, H⟩
theorem bv_nat {m a : Nat} (h : a < 2 ^ m) : (BitVec.ofInt m (a : Int)).toNat = a := by
  rw [BitVec.ofInt_natCast, BitVec.toNat_ofNat, Nat.mod_eq_of_lt h]
theorem wi64 {n : Nat} (h : n < 2 ^ 63) : IntKind.i64.wrap (n : Int) = (n : Int) := wrap_i64 (by omega) (by omega)
theorem wrap_u16 (x : Int) : IntKind.u16.wrap x = x % 65536 := by
  unfold IntKind.wrap
  simp [IntKind.signed, IntKind.bits]
def sumStep (s : Nat) (c : UInt8) : Nat := (s + c.toNat) % 65536 * 2 % 65536 + (s + c.toNat) % 65536 / 32768
def sumL (l : By) : Nat := l.foldl sumStep 0
def sumN (l : By) : Nat := if sumL l = 0 then 65535 else sumL l
theorem sumStep_lt (s : Nat) (c : UInt8) : sumStep s c < 65536 := by unfold sumStep; omega
theorem sumL_lt (l : By) : sumL l < 65536 := by
  unfold sumL
  have : ∀ (l : By) (s : Nat), s < 65536 → l.foldl sumStep s < 65536 := by
    intro l
    induction l with
    | nil => exact fun s h => h
    | cons c r ih => exact fun s h => ih _ (sumStep_lt s c)
  exact this l 0 (by omega)
theorem sumL_succ {l : By} {k : Nat} (h : k < l.length) : sumL (l.take (k + 1)) = sumStep (sumL (l.take k)) (atD l k) := by
  unfold sumL
  rw [take_atD h, List.foldl_append]
  rfl
theorem sumN_lt (l : By) : sumN l < 65536 := by
  unfold sumN
  split
  · omega
  · exact sumL_lt l
theorem sumN_pos (l : By) : 0 < sumN l := by unfold sumN; split <;> omega
theorem sum_or {t : Nat} (h : t < 65536) : (t * 2 % 65536) ||| (t / 32768) = t * 2 % 65536 + t / 32768 := by
  have h1 : t * 2 % 65536 = 2 ^ 1 * (t % 32768) := by omega
  rw [h1, ← Nat.two_pow_add_eq_or_of_lt (by omega)]
theorem SumP_any (H : Holds I w L) {v : Value} {l : By} (hv : SlR I L v 1 l.length (byL l)) (hl : l.length ≤ 140737488355328) : Rets Try.prog F_octet_Sum #[v] w fun u w' => u = .int .i64 (sumN l : Nat) ∧ Holds I w' L := by
  obtain ⟨A, cap, rfl, hcap⟩ := hv.form
  refine ok_octet_Sum.rets rfl ?_
  repeat' (first
    | (show VcL _ _ _ _ _ _ _ _; first
      | refine VcL.pures tabOk rfl ?_
      | refine VcL.nil ?_)
    | (show Vc _ _ _ _ _ _; first
      | refine Vc.seq ?_
      | refine Vc.region ?_
      | refine Vc.block ?_)
    | (show KSeq _ _ _ _ _ _ _; refine KSeq.normal ?_))
  refine Vc.loopS [(6, _), (7, _)] (fun k : Nat => [(3, .int .u16 (sumL (l.take k) : Nat)), (8, .int .i64 k)]) (fun k w => Holds I w L ∧ k ≤ l.length) (fun k _ => l.length - k) 0 ⟨rfl, rfl, trivial⟩ ⟨rfl, rfl, trivial⟩ ⟨H, Nat.zero_le _⟩ ?_
  rintro k w ⟨H, hk⟩
  have hs := sumL_lt (l.take k)
  by_cases hlt : k < l.length
  · obtain ⟨b1, o1, rfl, hr1⟩ := hv.at (by omega)
    have hr1 := (byL_flat l ▸ hr1).elem byC_len (atD_get hlt)
    have hc := (atD l k).toNat_lt
    repeat' (first
      | (show VcL _ _ _ _ _ _ _ _; first
      | refine VcL.pures tabOk rfl ?_
      | refine VcL.nil ?_
      | (show VcL _ _ _ _ (⟨_, .load _ _, _, _, _, _⟩ :: _) _ _ _; refine VcL.load1 tabOk rfl rfl rfl rfl rfl (by exact RdW.get0 (by assumption) rfl H) ?_)
      | (show VcL _ _ _ _ (⟨_, .indexAddr _ _ _, _, _, _, _⟩ :: _) _ _ _; refine VcL.indexAddr tabOk rfl rfl rfl rfl rfl rfl (by omega) (by omega) ?_))
      | (show Vc _ _ _ _ _ _; first
      | refine Vc.seq ?_
      | refine Vc.region ?_
      | refine Vc.skip ?_
      | refine Vc.block ?_
      | (refine Vc.cond rfl (fun h => ?_) (fun h => ?_) <;> first | (exfalso; simp only [decide_eq_true_eq, decide_eq_false_iff_not] at h; omega) | (with_reducible have hp := of_decide_eq_true h)))
      | (show KSeq _ _ _ _ _ _ _; refine KSeq.normal ?_)
      | (show KBlock _ _ _ _ _ _; refine KBlock.normal ?_))
    refine KLoop.again (k + 1) ⟨?_, got_succ rfl (by omega), trivial⟩ ⟨rfl, rfl, trivial⟩ ⟨H, hlt⟩ (by omega)
    rw [sumL_succ hlt]
    unfold sumStep
    generalize sumL (l.take k) = s at hs
    generalize (atD l k).toNat = c at hc
    show some (Value.int .u16 _) = _
    have e1 : IntKind.u16.wrap (IntKind.u16.wrap ((s : Int) + IntKind.u16.wrap (c : Int)) * 2 ^ min 1 IntKind.u16.bits) = (((s + c) % 65536 * 2 % 65536 : Nat) : Int) := by
      rw [show (2 : Int) ^ min 1 IntKind.u16.bits = 2 from rfl]
      simp only [wrap_u16]
      omega
    have e2 : (IntKind.u16.wrap ((s : Int) + IntKind.u16.wrap (c : Int))).fdiv (2 ^ min 15 IntKind.u16.bits) = (((s + c) % 65536 / 32768 : Nat) : Int) := by
      rw [show (2 : Int) ^ min 15 IntKind.u16.bits = 32768 from rfl, Int.fdiv_eq_ediv_of_nonneg _ (by omega)]
      simp only [wrap_u16]
      omega
    rw [e1, e2, BitVec.toNat_or, bv_nat (m := IntKind.u16.bits) (by show _ < 65536; omega), bv_nat (m := IntKind.u16.bits) (by show _ < 65536; omega), sum_or (by omega), wrap_u16]
    congr 2
    omega
  ·
    obtain rfl : k = l.length := by omega
    rw [List.take_length] at hs ⊢
    have e0 : ((sumL l : Nat) : Int) = 0 ↔ sumL l = 0 := by omega
    have e1 := wi64 (n := sumL l) (Nat.lt_trans hs (by decide))
    repeat' (first
      | rw [e1]
      | (show VcL _ _ _ _ _ _ _ _; first
      | refine VcL.pures tabOk rfl ?_
      | refine VcL.nil ?_)
      | (show Vc _ _ _ _ _ _; first
      | refine Vc.seq ?_
      | refine Vc.region ?_
      | refine Vc.ret ?_
      | refine Vc.skip ?_
      | refine Vc.exit ?_
      | (refine Vc.cond rfl (fun h => ?_) (fun h => ?_) <;> first | (exfalso; simp only [decide_eq_true_eq, decide_eq_false_iff_not] at h; omega) | (with_reducible have hp := of_decide_eq_true h) | (with_reducible have hp := of_decide_eq_false h)))
      | (show KSeq _ _ _ _ _ _ _; first
      | refine KSeq.normal ?_
      | refine KSeq.ret ?_
      | refine KSeq.exit ?_)
      | (show KBlock _ _ _ _ _ _; refine KBlock.here ?_)
      | refine KLoop.exit ?_
      | (show KEnd _ _ _ _ _ _ _; refine KEnd.fin (Or.inr rfl) ⟨_, (ResL.tmp rfl ResL.nil), ?_⟩))
    · exact ⟨by unfold sumN; rw [if_pos (e0.1 hp)]; rfl, H⟩
    · exact ⟨by unfold sumN; rw [if_neg (fun e => hp (e0.2 e))]; rfl, H⟩
theorem Holds.own_some {v : Value} {e sz m : Nat} {cs : List Value} (hn : 0 < m) (H : Holds I w (own v e sz m cs :: L)) : ∃ b o cap, v = .slice (some ⟨b, o, none⟩) m cap ∧ m ≤ cap := by
  rcases H.own_cases with ⟨_, h, _⟩ | ⟨b, o, cap, pre, rest, h1, h2, _⟩
  · omega
  · exact ⟨b, o, cap, h1, h2⟩
def fullB (c : UInt8) : By := List.replicate 256 c
def zeroB : By := fullB 0
theorem repL_zero (n : Nat) : repL n [.int .u8 0] = byL (List.replicate n 0) := by
  unfold repL
  induction n with
  | zero => rfl
  | succ n ih => rw [List.replicate_succ, List.flatten_cons, ih]; rfl
theorem zerosP_any (H : Holds I w L) : Rets Try.prog F_journal_zeros #[] w fun u w' => Holds I w' (own u 5 1 256 (byL zeroB) :: L) := by
  refine ok_journal_zeros.rets rfl ?_
  repeat' (first
    | (refine VcL.makeSlice (m := 256) tabOk H rfl rfl rfl (by decide) rfl rfl rfl (fun sv w H => ?_))
    | (show VcL _ _ _ _ _ _ _ _; first
      | refine VcL.pures tabOk rfl ?_
      | refine VcL.nil ?_)
    | (show Vc _ _ _ _ _ _; first
      | refine Vc.seq ?_
      | refine Vc.region ?_
      | refine Vc.ret ?_)
    | (show KSeq _ _ _ _ _ _ _; refine KSeq.normal ?_)
    | (show KEnd _ _ _ _ _ _ _; refine KEnd.fin (Or.inr rfl) ⟨_, (ResL.tmp rfl ResL.nil), ?_⟩))
  exact repL_zero 256 ▸ H
theorem fullB_len (c : UInt8) : (fullB c).length = 256 := List.length_replicate ..
def partF (c : UInt8) (k : Nat) : By := List.replicate k c ++ List.replicate (256 - k) 0
theorem partF_len (c : UInt8) {k : Nat} (h : k ≤ 256) : (partF c k).length = 256 := by unfold partF; simp; omega
theorem partF_set (c : UInt8) {k : Nat} (h : k < 256) : (partF c k).set k c = partF c (k + 1) := by
  unfold partF
  rw [List.set_append_right _ _ (by simp)]
  simp only [List.length_replicate, Nat.sub_self]
  rw [show 256 - k = (256 - (k + 1)) + 1 by omega, List.replicate_succ, List.set_cons_zero, List.replicate_succ']
  simp
theorem partF_full (c : UInt8) : partF c 256 = fullB c := by unfold partF fullB; rw [Nat.sub_self, List.replicate_zero, List.append_nil]
theorem Full_any (H : Holds I w L) (c : UInt8) : Rets Try.prog F_tithinglaw16_Full #[byteV c] w fun u w' => Holds I w' (own u 5 1 256 (byL (fullB c)) :: L) := by
  refine ok_tithinglaw16_Full.rets rfl ?_
  repeat' (first
    | (refine VcL.makeSlice (m := 256) tabOk H rfl rfl rfl (by decide) rfl rfl rfl (fun sv w H => ?_))
    | (show VcL _ _ _ _ _ _ _ _; first
      | refine VcL.pures tabOk rfl ?_
      | refine VcL.nil ?_)
    | (show Vc _ _ _ _ _ _; first
      | refine Vc.seq ?_
      | refine Vc.region ?_
      | refine Vc.block ?_)
    | (show KSeq _ _ _ _ _ _ _; refine KSeq.normal ?_))
  obtain ⟨b1, o1, cap, rfl, hcap⟩ := Holds.own_some (by omega) H
  refine Vc.loopS [(0, _), (3, _)] (fun k : Nat => [(4, .int .i64 k)]) (fun k w => k ≤ 256 ∧ Holds I w (own (.slice (some ⟨b1, o1, none⟩) 256 cap) 5 1 256 ((partF c k).flatMap byC) :: L)) (fun k _ => 256 - k) 0 ⟨rfl, trivial⟩ ⟨rfl, rfl, trivial⟩ ⟨Nat.zero_le _, by rw [byL_flat]; exact repL_zero 256 ▸ H⟩ ?_
  rintro k w ⟨hk, H⟩
  by_cases hlt : k < 256
  · have hz : (partF c k)[k]? = some (atD (partF c k) k) := atD_get (by rw [partF_len c hk]; exact hlt)
    repeat' (first
      | (refine VcL.storeOwn0 c tabOk byC_len H hz rfl rfl (by exact rfl) (by exact rfl) (by exact rfl) (by exact rfl) rfl rfl (fun w H => ?_))
      | (show VcL _ _ _ _ _ _ _ _; first
      | refine VcL.pures tabOk rfl ?_
      | refine VcL.nil ?_
      | (show VcL _ _ _ _ (⟨_, .indexAddr _ _ _, _, _, _, _⟩ :: _) _ _ _; refine VcL.indexAddr tabOk rfl rfl rfl rfl rfl rfl (by omega) (by omega) ?_))
      | (show Vc _ _ _ _ _ _; first
      | refine Vc.seq ?_
      | refine Vc.region ?_
      | refine Vc.skip ?_
      | refine Vc.block ?_
      | (refine Vc.cond rfl (fun h => ?_) (fun h => ?_) <;> first | (exfalso; simp only [decide_eq_true_eq, decide_eq_false_iff_not] at h; omega) | (with_reducible have hp := of_decide_eq_true h)))
      | (show KSeq _ _ _ _ _ _ _; refine KSeq.normal ?_)
      | (show KBlock _ _ _ _ _ _; refine KBlock.normal ?_))
    refine KLoop.again (k + 1) ⟨got_succ rfl (by omega), trivial⟩ ⟨rfl, rfl, trivial⟩ ⟨hlt, ?_⟩ (by omega)
    rw [partF_set c hlt] at H
    exact H
  ·
    have e : k = 256 := by omega
    repeat' (first
      | (show VcL _ _ _ _ _ _ _ _; first
      | refine VcL.pures tabOk rfl ?_
      | refine VcL.nil ?_)
      | (show Vc _ _ _ _ _ _; first
      | refine Vc.seq ?_
      | refine Vc.region ?_
      | refine Vc.ret ?_
      | refine Vc.exit ?_
      | (refine Vc.cond rfl (fun h => ?_) (fun h => ?_) <;> first | (exfalso; simp only [decide_eq_true_eq, decide_eq_false_iff_not] at h; omega) | (with_reducible have hp := of_decide_eq_false h)))
      | (show KSeq _ _ _ _ _ _ _; first
      | refine KSeq.normal ?_
      | refine KSeq.exit ?_)
      | (show KBlock _ _ _ _ _ _; refine KBlock.here ?_)
      | refine KLoop.exit ?_
      | (show KEnd _ _ _ _ _ _ _; refine KEnd.fin (Or.inr rfl) ⟨_, (ResL.tmp rfl ResL.nil), ?_⟩))
    rw [e, byL_flat, partF_full] at H
    exact H
theorem Src.firsts {P : Program} {v : Value} {sz m : Nat} {cs : List Value} (h : Src w sz v m cs) (hv : ∃ a c, v = .slice a m c) : ∀ k, k ≤ m → (Builtin.firstCells sz k v).run P w = .ok (cs.take (k * sz)).toArray w := by
  intro k hk
  cases h with
  | nil => obtain rfl : k = 0 := by omega
           simp [Builtin.firstCells, go_sem]
  | empty =>
    rename_i A c
    obtain rfl : k = 0 := by omega
    cases A <;> simp [Builtin.firstCells, loadCells, loadCellsFrom, go_sem]
  | slice hl h => exact Rd.firsts hl h k hk
  | string h1 => obtain ⟨a, c, e⟩ := hv; cases e
def padB (l : By) : By := l.take 256 ++ List.replicate (256 - l.length) 0
theorem padB_full {l : By} (h : l.length = 256) : padB l = l := by unfold padB; rw [h, List.take_of_length_le (by omega)]; simp
theorem padB_len (l : By) : (padB l).length = 256 := by unfold padB; simp; omega
theorem padB_eq (l : By) : l.take (min l.length 256) ++ List.replicate (256 - min l.length 256) 0 = padB l := by
  unfold padB
  rcases Nat.le_total l.length 256 with h | h
  · rw [Nat.min_eq_left h, List.take_of_length_le (Nat.le_refl _), List.take_of_length_le h]
  · rw [Nat.min_eq_right h, Nat.sub_self, Nat.sub_eq_zero_of_le h]
theorem padB_nil : padB [] = zeroB := by unfold padB zeroB fullB; rw [List.take_nil, List.length_nil, Nat.sub_zero, List.nil_append]
theorem over_pre {pre z rest d : List Value} (h : d.length ≤ z.length) : over (pre ++ z ++ rest) pre.length d = pre ++ (d ++ z.drop d.length) ++ rest := by
  unfold over
  rw [List.append_assoc pre z rest, List.take_left, List.drop_length_add_append, List.drop_append_of_le_length h]
  simp
end Go.Proofs.Ytkeapkmjkmbdpaa.V
