/- Heads that are put on a disk by hand. -/
import Derived.Test.YtoahfjfknljacaaVGG
namespace Go.Proofs.Ytoahfjfknljacaa.V
open Go Go.Proofs.YtoahfjfknljacaaV
set_option linter.unusedVariables false
set_option linter.unusedSimpArgs false
set_option maxHeartbeats 1000000
set_option maxRecDepth 4000
attribute [local irreducible] IntKind.wrap
variable {I : Imm} {w : World} {L : List Asn}
def hdS (b : By) (c : Nat) : Nat → Dk
  | 0 => (wrS (newS 60) 10 b).1
  | k + 1 => (wrS (hdS b c k) ((11 + k : Nat) : Int) (fullB (UInt8.ofNat ((c + k) % 256)))).1
theorem hdS_writes (b : By) (c : Nat) (k : Nat) : (hdS b c k).writes ≤ k + 1 := by
  induction k with
  | zero => exact wrS_writes _ _ _
  | succ k ih =>
    have := wrS_writes (hdS b c k) ((11 + k : Nat) : Int) (fullB (UInt8.ofNat ((c + k) % 256)))
    show (wrS _ _ _).1.writes ≤ _
    omega
theorem fill_v (c k : Nat) : Value.int .u8 (IntKind.u8.wrap ((c : Int) + IntKind.u8.wrap (k : Nat))) = byteV (UInt8.ofNat ((c + k) % 256)) := by
  rw [u8_of _ (by omega), wrap_u8, wrap_u8]
  congr 1
  omega
theorem openS_writes (D : Dk) (home : Int) : (openS D home).1.writes ≤ D.writes + 41 := by
  unfold openS
  split
  · exact recS_writes _ _
  · exact Nat.le_add_right _ _
theorem JournalHeads_any (H : Holds I w L) {x y : Int} (hx : 0 ≤ x ∧ x < 256) (hy : 0 ≤ y ∧ y < 256) {v : Value} {l : By} (hv : SlI I v 1 l.length (byL l)) (hl : l.length ≤ 140737488355328) :
    Rets Try.prog F_tithinglaw16_JournalHeads #[v, .int .u8 x, .int .u8 y] w fun u w' => u = .bool true ∧ Holds I w' L := by
  obtain ⟨A, cap, rfl, hcap⟩ := hv.form
  by_cases h256 : l.length = 256
  · obtain ⟨c, rfl⟩ := Int.eq_ofNat_of_zero_le hx.1
    obtain ⟨p, rfl⟩ := Int.eq_ofNat_of_zero_le hy.1
    obtain ⟨n, hn⟩ : ∃ n, p % 4 = n := ⟨_, rfl⟩
    obtain ⟨D0, hD0⟩ : ∃ D, newS 60 = D := ⟨_, rfl⟩
    have hw0 : D0.writes = 0 := by rw [← hD0]; rfl
    obtain ⟨D1, hD1⟩ : ∃ D, wrS D0 10 l = D := ⟨_, rfl⟩
    have hz : hdS l c 0 = D1.1 := by rw [← hD1, ← hD0]; rfl
    have hwp : IntKind.i64.wrap (p : Int) = p := wrap_i64 (by omega) (by omega)
    have hwn : (p : Int).tmod (Int.ofNat (3 + 1)) = (n : Int) := by
      rw [Int.tmod_eq_emod_of_nonneg (by omega)]
      show (p : Int) % (4 : Int) = _
      omega
    refine ok_tithinglaw16_JournalHeads.rets rfl ?_
    repeat' (first
      | (show VcL _ _ _ _ _ _ _ _; first
      | refine VcL.pures tabOk rfl ?_
      | refine VcL.nil ?_
      | (show VcL _ _ _ _ (⟨_, .call ⟨.value (.func F_journal_NewDisk), _, _⟩, _, _, _, _⟩ :: _) _ _ _; (refine VcL.callF ok_journal_NewDisk rfl rfl rfl rfl (Rets.mono (NewDisk_any (n := 60) H (by omega) (by omega)) ?_); rintro _ w ⟨d, rfl, H⟩; rw [hD0] at H))
      | (show VcL _ _ _ _ (⟨_, .call ⟨.value (.func F_tithingref16_NewDisk), _, _⟩, _, _, _, _⟩ :: _) _ _ _; (refine VcL.callF ok_tithingref16_NewDisk rfl rfl rfl rfl (Rets.mono (NewDiskR_any (n := 60) H (by omega) (by omega)) ?_); rintro _ w ⟨J, r, hJ, rfl, H⟩; rw [hD0] at H))
      | (show VcL _ _ _ _ (⟨_, .call ⟨.value (.func F_journal_Disk_Write), _, _⟩, _, _, _, _⟩ :: _) _ _ _; (refine VcL.callF ok_journal_Disk_Write rfl rfl rfl rfl (Rets.mono (WriteP_any (D := D0) (l := l) (Holds.swap H) (by omega) (SlI.toR (hv.mono hJ)) hl) ?_); rintro _ w ⟨rfl, H⟩; rw [hD1] at H ⊢))
      | (show VcL _ _ _ _ (⟨_, .call ⟨.value (.func F_tithingref16_Disk_Write), _, _⟩, _, _, _, _⟩ :: _) _ _ _; (refine VcL.callF ok_tithingref16_Disk_Write rfl rfl rfl rfl (Rets.mono (WriteR_any (D := D0) (l := l) (Holds.swap H) (by omega) (SlI.toR (hv.mono hJ)) hl) ?_); rintro _ w ⟨J2, hJ2, rfl, H⟩; rw [hD1] at H ⊢)))
      | (show Vc _ _ _ _ _ _; first
      | refine Vc.seq ?_
      | refine Vc.region ?_
      | refine Vc.condF rfl ?_
      | refine Vc.skip ?_
      | refine Vc.block ?_
      | (refine Vc.cond rfl (fun h => ?_) (fun h => ?_) <;> first | (exfalso; simp only [decide_eq_true_eq, decide_eq_false_iff_not, Bool.not_eq_true', Bool.not_eq_false'] at h; omega) | (with_reducible have hp := ndec_f h)))
      | (show KSeq _ _ _ _ _ _ _; refine KSeq.normal ?_))
    refine Vc.loopS [(1, _), (2, _), (7, _), (9, _)] (fun k : Nat => [(11, .int .i64 k)]) (fun k w => k ≤ n ∧ ∃ J, Imm.Le I J ∧ Holds J w (dskA d (hdS l c k) :: rdkA J r (hdS l c k) :: L)) (fun k _ => n - k) 0 ⟨rfl, trivial⟩ ⟨rfl, rfl, rfl, rfl, trivial⟩ ⟨Nat.zero_le _, J2, hJ.trans hJ2, by rw [hz]; exact H.swap⟩ ?_
    clear hJ hJ2 H
    rintro k w ⟨hk, J, hJ, H⟩
    have hwr := hdS_writes l c k
    by_cases hlt : k < n
    · have hnx : hdS l c (k + 1) = (wrS (hdS l c k) ((11 + k : Nat) : Int) (fullB (UInt8.ofNat ((c + k) % 256)))).1 := rfl
      have hfv := fill_v c k
      have hwk : IntKind.i64.wrap (11 + (k : Int)) = ((11 + k : Nat) : Int) := by rw [wrap_i64 (by omega) (by omega)]; omega
      obtain ⟨fb, hfb⟩ : ∃ fb, UInt8.ofNat ((c + k) % 256) = fb := ⟨_, rfl⟩
      rw [hfb] at hfv hnx
      have hfl := fullB_len fb
      obtain ⟨D, hD⟩ : ∃ D, hdS l c k = D := ⟨_, rfl⟩
      rw [hD] at H hwr hnx
      repeat' (first
        | rw [hwp]
        | rw [hwn]
        | rw [hfv]
        | rw [hwk]
        | (show VcL _ _ _ _ _ _ _ _; first
      | refine VcL.pures tabOk rfl ?_
      | refine VcL.nil ?_
      | (show VcL _ _ _ _ (⟨_, .call ⟨.value (.func F_tithinglaw16_Full), _, _⟩, _, _, _, _⟩ :: _) _ _ _; (refine VcL.callF ok_tithinglaw16_Full rfl rfl rfl rfl (Rets.mono (Full_any H fb) ?_); rintro _ w H; obtain ⟨_, A7, c7, rfl⟩ := Holds.own_len H))
      | (show VcL _ _ _ _ (⟨_, .call ⟨.value (.func F_journal_Disk_Write), _, _⟩, _, _, _, _⟩ :: _) _ _ _; (refine VcL.callF ok_journal_Disk_Write rfl rfl rfl rfl (Rets.mono (WriteP_any (D := D) (l := fullB fb) (k := ((11 + k : Nat) : Int)) (Holds.f1 H) (by omega) (by rw [hfl]; exact Holds.own_toR (Holds.drop (Holds.f1 H))) (by omega)) ?_); rintro _ w ⟨rfl, H⟩))
      | (show VcL _ _ _ _ (⟨_, .call ⟨.value (.func F_tithingref16_Disk_Write), _, _⟩, _, _, _, _⟩ :: _) _ _ _; (refine VcL.callF ok_tithingref16_Disk_Write rfl rfl rfl rfl (Rets.mono (WriteR_any (D := D) (l := fullB fb) (k := ((11 + k : Nat) : Int)) (Holds.re [3] H rfl) (by omega) (by rw [hfl]; exact Holds.own_toR (Holds.drop (Holds.re [3] H rfl))) (by omega)) ?_); rintro _ w ⟨J2, hJ2, rfl, H⟩)))
        | (show Vc _ _ _ _ _ _; first
      | refine Vc.seq ?_
      | refine Vc.region ?_
      | refine Vc.skip ?_
      | refine Vc.block ?_
      | (refine Vc.cond rfl (fun h => ?_) (fun h => ?_) <;> first | (exfalso; simp only [decide_eq_true_eq, decide_eq_false_iff_not, Bool.not_eq_true', Bool.not_eq_false'] at h; omega) | (with_reducible have hp := of_decide_eq_true h)))
        | (show KSeq _ _ _ _ _ _ _; refine KSeq.normal ?_)
        | (show KBlock _ _ _ _ _ _; refine KBlock.normal ?_))
      refine KLoop.again (k + 1) ⟨got_succ rfl (by omega), trivial⟩ ⟨rfl, rfl, rfl, rfl, trivial⟩ ⟨hlt, J2, hJ.trans hJ2, ?_⟩ (by omega)
      rw [hnx]
      exact Holds.drop2 (Holds.drop2 (Holds.re [2, 0] H rfl))
    · obtain rfl : k = n := by omega
      obtain ⟨D, hD⟩ : ∃ D, hdS l c k = D := ⟨_, rfl⟩
      rw [hD] at H hwr
      obtain ⟨oe, hoe⟩ : ∃ oe, openS D 10 = oe := ⟨_, rfl⟩
      have how : oe.1.writes + 10 < 2 ^ 40 := by
        have h1 := openS_writes D 10
        rw [hoe] at h1
        omega
      repeat' (first
        | rw [hwp]
        | rw [hwn]
        | (show VcL _ _ _ _ _ _ _ _; first
      | refine VcL.pures tabOk rfl ?_
      | refine VcL.nil ?_
      | (show VcL _ _ _ _ (⟨_, .call ⟨.value (.func F_journal_Open), _, _⟩, _, _, _, _⟩ :: _) _ _ _; (refine VcL.callF ok_journal_Open rfl rfl rfl rfl (Rets.mono (Open_err (D := D) H (by omega) (by omega)) ?_); rintro _ w ⟨sv, rfl, H⟩; rw [hoe] at H ⊢))
      | (show VcL _ _ _ _ (⟨_, .call ⟨.value (.func F_tithingref16_Open), _, _⟩, _, _, _, _⟩ :: _) _ _ _; (refine VcL.callF ok_tithingref16_Open rfl rfl rfl rfl (Rets.mono (OpenR_err (D := D) (Holds.f1 H) (by omega) (by omega)) ?_); rintro _ w ⟨J2, tv, hJ2, rfl, H⟩; rw [hoe] at H ⊢))
      | (show VcL _ _ _ _ (⟨_, .call ⟨.value (.func F_tithinglaw16_same), _, _⟩, _, _, _, _⟩ :: _) _ _ _; (refine VcL.callF ok_tithinglaw16_same rfl rfl rfl rfl (Rets.mono (same_any (D := oe.1) (Holds.swap H) how) ?_); rintro _ w ⟨rfl, H⟩))
      | (show VcL _ _ _ _ (⟨_, .call ⟨.value (.func F_tithinglaw16_Awake), _, _⟩, _, _, _, _⟩ :: _) _ _ _; (refine VcL.callF ok_tithinglaw16_Awake rfl rfl rfl rfl (Rets.mono (Awake_any H) ?_); rintro _ w ⟨rfl, H⟩))
      | (refine VcL.guard rfl rfl rfl rfl (fun h => ?_) (fun h => ?_) <;> first | (cases h; done) | (exfalso; simp only [decide_eq_true_eq, decide_eq_false_iff_not, Bool.not_eq_true', Bool.not_eq_false'] at h; omega) | (with_reducible have hp := of_decide_eq_true h) | (with_reducible have hp := of_decide_eq_false h) | skip))
        | (show Vc _ _ _ _ _ _; first
      | refine Vc.seq ?_
      | refine Vc.region ?_
      | refine Vc.ret ?_
      | refine Vc.exit ?_
      | (refine Vc.cond rfl (fun h => ?_) (fun h => ?_) <;> first | (exfalso; simp only [decide_eq_true_eq, decide_eq_false_iff_not, Bool.not_eq_true', Bool.not_eq_false'] at h; omega) | (with_reducible have hp := of_decide_eq_false h)))
        | (show KSeq _ _ _ _ _ _ _; first
      | refine KSeq.normal ?_
      | refine KSeq.exit ?_)
        | (show KBlock _ _ _ _ _ _; refine KBlock.here ?_)
        | refine KLoop.exit ?_
        | (show KEnd _ _ _ _ _ _ _; refine KEnd.fin (Or.inr rfl) ⟨_, (ResL.tmp rfl ResL.nil), ?_⟩))
      exact ⟨by simp [resVal], Holds.less H.drop.drop (hJ.trans hJ2)⟩
  ·
    refine ok_tithinglaw16_JournalHeads.rets rfl ?_
    repeat' (first
      | (show VcL _ _ _ _ _ _ _ _; first
      | refine VcL.pures tabOk rfl ?_
      | refine VcL.nil ?_
      | (show VcL _ _ _ _ (⟨_, .call ⟨.value (.func F_tithinglaw16_Awake), _, _⟩, _, _, _, _⟩ :: _) _ _ _; (refine VcL.callF ok_tithinglaw16_Awake rfl rfl rfl rfl (Rets.mono (Awake_any H) ?_); rintro _ w ⟨rfl, H⟩)))
      | (show Vc _ _ _ _ _ _; first
      | refine Vc.seq ?_
      | refine Vc.region ?_
      | refine Vc.ret ?_
      | (refine Vc.cond rfl (fun h => ?_) (fun h => ?_) <;> first | (exfalso; simp only [decide_eq_true_eq, decide_eq_false_iff_not, Bool.not_eq_true', Bool.not_eq_false'] at h; omega) | (with_reducible have hp := ndec_t h)))
      | (show KSeq _ _ _ _ _ _ _; first
      | refine KSeq.normal ?_
      | refine KSeq.ret ?_)
      | (show KEnd _ _ _ _ _ _ _; refine KEnd.fin (Or.inr rfl) ⟨_, (ResL.tmp rfl ResL.nil), ?_⟩))
    exact ⟨rfl, H⟩
end Go.Proofs.Ytoahfjfknljacaa.V
