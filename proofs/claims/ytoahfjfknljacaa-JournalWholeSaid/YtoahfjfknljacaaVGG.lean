/- Which homes a disk has room for, which blocks are heads. -/
import Derived.Test.YtoahfjfknljacaaVEE
namespace Go.Proofs.Ytoahfjfknljacaa.V
open Go Go.Proofs.YtoahfjfknljacaaV
set_option linter.unusedVariables false
set_option linter.unusedSimpArgs false
set_option maxHeartbeats 1000000
set_option maxRecDepth 4000
attribute [local irreducible] IntKind.wrap
variable {I : Imm} {w : World} {L : List Asn}
theorem OpenR_any {d : Nat} {D : Dk} (H : Holds I w (rdkA I d D :: L)) (hw : D.writes + 300 < 2 ^ 40) {home : Int} (hm1 : -9223372036854775808 ≤ home ∧ home ≤ 9223372036854775807) :
    Rets Try.prog F_tithingref16_Open #[ptr d, .int .i64 home] w fun u w' => ∃ J, Imm.Le I J ∧ OpR J w' L (rdkA J d) 97 d home (openS D home) u := by
  by_cases hin : 1 ≤ home ∧ home ≤ 300 ∧ home + 41 ≤ D.blocks.length
  · obtain ⟨ho, rfl⟩ := Int.eq_ofNat_of_zero_le (show 0 ≤ home by omega)
    have e : openS D (ho : Int) = ((recS D ho).1, if (recS D ho).2 then 0 else 160) := if_pos hin
    rw [e]
    exact OpenR_good H hw ⟨by omega, by omega, by omega⟩
  · have e : openS D home = (D, 2) := if_neg hin
    rw [e]
    exact (OpenR_bad H hm1 hin).mono fun u w' ⟨h1, h2⟩ => ⟨I, Imm.Le.rfl' I, ⟨.inr ⟨(by show (2 : Int) ≠ 0; decide), h1, h2⟩⟩⟩
theorem OpenR_ok {d : Nat} {D : Dk} (H : Holds I w (rdkA I d D :: L)) (hw : D.writes + 300 < 2 ^ 40) {home : Int} (hm1 : -9223372036854775808 ≤ home ∧ home ≤ 9223372036854775807) (h0 : (openS D home).2 = 0) :
    Rets Try.prog F_tithingref16_Open #[ptr d, .int .i64 home] w fun u w' => ∃ J s, Imm.Le I J ∧ u = .tuple #[ptr s, .int .i64 0] ∧ Holds J w' (rdkA J d (openS D home).1 :: blk s 97 (stV d home false) :: L) :=
  (OpenR_any H hw hm1).mono fun u w' ⟨J, hJ, h⟩ => by
    rcases h.out with ⟨_, s, h1, h2⟩ | ⟨hne, _⟩
    · exact ⟨J, s, hJ, h1, h2⟩
    · exact absurd h0 hne
theorem OpenR_no {d : Nat} {D : Dk} (H : Holds I w (rdkA I d D :: L)) (hw : D.writes + 300 < 2 ^ 40) {home : Int} (hm1 : -9223372036854775808 ≤ home ∧ home ≤ 9223372036854775807) (h0 : (openS D home).2 ≠ 0) :
    Rets Try.prog F_tithingref16_Open #[ptr d, .int .i64 home] w fun u w' => ∃ J, Imm.Le I J ∧ u = .tuple #[.pointer none, .int .i64 (openS D home).2] ∧ Holds J w' (rdkA J d (openS D home).1 :: L) :=
  (OpenR_any H hw hm1).mono fun u w' ⟨J, hJ, h⟩ => by
    rcases h.out with ⟨he, _⟩ | ⟨_, h1, h2⟩
    · exact absurd he h0
    · exact ⟨J, hJ, h1, h2⟩
theorem Open_no {d : Nat} {D : Dk} (H : Holds I w (dskA d D :: L)) (hw : D.writes + 100 < 2 ^ 40) {home : Int} (hm1 : -9223372036854775808 ≤ home ∧ home ≤ 9223372036854775807) (h0 : (openS D home).2 ≠ 0) :
    Rets Try.prog F_journal_Open #[ptr d, .int .i64 home] w fun u w' => u = .tuple #[.pointer none, .int .i64 (openS D home).2] ∧ Holds I w' (dskA d (openS D home).1 :: L) :=
  (Open_any H hw hm1).mono fun u w' h => by
    rcases h.out with ⟨he, _⟩ | ⟨_, h1, h2⟩
    · exact absurd he h0
    · exact ⟨h1, h2⟩
/-- The answer alone. -/
theorem Open_err {d : Nat} {D : Dk} (H : Holds I w (dskA d D :: L)) (hw : D.writes + 100 < 2 ^ 40) {home : Int} (hm1 : -9223372036854775808 ≤ home ∧ home ≤ 9223372036854775807) :
    Rets Try.prog F_journal_Open #[ptr d, .int .i64 home] w fun u w' => ∃ sv, u = .tuple #[sv, .int .i64 (openS D home).2] ∧ Holds I w' (dskA d (openS D home).1 :: L) :=
  (Open_any H hw hm1).mono fun u w' h => by
    rcases h.out with ⟨h0, s, h1, h2⟩ | ⟨_, h1, h2⟩
    · exact ⟨_, h0 ▸ h1, h2.drop1⟩
    · exact ⟨_, h1, h2⟩
theorem OpenR_err {d : Nat} {D : Dk} (H : Holds I w (rdkA I d D :: L)) (hw : D.writes + 300 < 2 ^ 40) {home : Int} (hm1 : -9223372036854775808 ≤ home ∧ home ≤ 9223372036854775807) :
    Rets Try.prog F_tithingref16_Open #[ptr d, .int .i64 home] w fun u w' => ∃ J sv, Imm.Le I J ∧ u = .tuple #[sv, .int .i64 (openS D home).2] ∧ Holds J w' (rdkA J d (openS D home).1 :: L) :=
  (OpenR_any H hw hm1).mono fun u w' ⟨J, hJ, h⟩ => by
    rcases h.out with ⟨h0, s, h1, h2⟩ | ⟨_, h1, h2⟩
    · exact ⟨J, _, hJ, h0 ▸ h1, h2.drop1⟩
    · exact ⟨J, _, hJ, h1, h2⟩
theorem tgt_ok {l : By} {home : Int} {u : Value} (h : TgtR I w L l home u) : ∃ a b, u = .tuple #[a, b, .bool (decide (headOk l home))] ∧ Holds I w L := by
  rcases h.out with ⟨h1, h2, h3⟩ | ⟨sv, h1, h2, h3⟩
  · exact ⟨_, _, by rw [h2, decide_eq_false h1], h3⟩
  · exact ⟨_, _, by rw [h2, decide_eq_true h1], h3.drop⟩
theorem IsHead_any (H : Holds I w L) {v : Value} {l : By} (hv : SlR I L v 1 l.length (byL l)) (hl : l.length ≤ 140737488355328) (home : Int) :
    Rets Try.prog F_journal_IsHead #[v, .int .i64 home] w fun u w' => u = .bool (decide (headOk l home)) ∧ Holds I w' L := by
  refine ok_journal_IsHead.rets rfl ?_
  repeat' (first
    | (show VcL _ _ _ _ _ _ _ _; first
      | refine VcL.pures tabOk rfl ?_
      | refine VcL.nil ?_
      | (show VcL _ _ _ _ (⟨_, .call ⟨.value (.func F_journal_targets), _, _⟩, _, _, _, _⟩ :: _) _ _ _; (refine VcL.callF ok_journal_targets rfl rfl rfl rfl (Rets.mono ((targets_any H hv hl home).mono fun u w' h => tgt_ok h) ?_); rintro _ w ⟨a, c, rfl, H⟩)))
    | (show Vc _ _ _ _ _ _; first
      | refine Vc.seq ?_
      | refine Vc.region ?_
      | refine Vc.ret ?_)
    | (show KSeq _ _ _ _ _ _ _; refine KSeq.normal ?_)
    | (show KEnd _ _ _ _ _ _ _; refine KEnd.fin (Or.inr rfl) ⟨_, (ResL.tmp rfl ResL.nil), ?_⟩))
  exact ⟨rfl, H⟩
theorem IsHeadR_any (H : Holds I w L) {v : Value} {l : By} (hv : SlR I L v 1 l.length (byL l)) (hl : l.length ≤ 140737488355328) (home : Int) :
    Rets Try.prog F_tithingref16_IsHead #[v, .int .i64 home] w fun u w' => u = .bool (decide (headOk l home)) ∧ Holds I w' L := by
  refine ok_tithingref16_IsHead.rets rfl ?_
  repeat' (first
    | (show VcL _ _ _ _ _ _ _ _; first
      | refine VcL.pures tabOk rfl ?_
      | refine VcL.nil ?_
      | (show VcL _ _ _ _ (⟨_, .call ⟨.value (.func F_tithingref16_Places), _, _⟩, _, _, _, _⟩ :: _) _ _ _; (refine VcL.callF ok_tithingref16_Places rfl rfl rfl rfl (Rets.mono ((Places_any H hv hl home).mono fun u w' h => tgt_ok h) ?_); rintro _ w ⟨a, c, rfl, H⟩)))
    | (show Vc _ _ _ _ _ _; first
      | refine Vc.seq ?_
      | refine Vc.region ?_
      | refine Vc.ret ?_)
    | (show KSeq _ _ _ _ _ _ _; refine KSeq.normal ?_)
    | (show KEnd _ _ _ _ _ _ _; refine KEnd.fin (Or.inr rfl) ⟨_, (ResL.tmp rfl ResL.nil), ?_⟩))
  exact ⟨rfl, H⟩
theorem JournalOpens_any (H : Holds I w L) {x home : Int} (hx : 0 ≤ x ∧ x < 256) (hm : in64 home) {v : Value} {l : By} (hv : SlI I v 1 l.length (byL l)) (hl : l.length ≤ 140737488355328) :
    Rets Try.prog F_tithinglaw16_JournalOpens #[.int .u8 x, .int .i64 home, v] w fun u w' => u = .bool true ∧ Holds I w' L := by
  obtain ⟨A, cap, rfl, hcap⟩ := hv.form
  by_cases hbig : 600 < l.length
  ·
    refine ok_tithinglaw16_JournalOpens.rets rfl ?_
    repeat' (first
      | (show VcL _ _ _ _ _ _ _ _; first
      | refine VcL.pures tabOk rfl ?_
      | refine VcL.nil ?_
      | (show VcL _ _ _ _ (⟨_, .call ⟨.value (.func F_tithinglaw16_Awake), _, _⟩, _, _, _, _⟩ :: _) _ _ _; (refine VcL.callF ok_tithinglaw16_Awake rfl rfl rfl rfl (Rets.mono (Awake_any H) ?_); rintro _ w ⟨rfl, H⟩)))
      | (show Vc _ _ _ _ _ _; first
      | refine Vc.seq ?_
      | refine Vc.region ?_
      | refine Vc.ret ?_
      | (refine Vc.cond rfl (fun h => ?_) (fun h => ?_) <;> first | (exfalso; simp only [decide_eq_true_eq, decide_eq_false_iff_not, Bool.not_eq_true', Bool.not_eq_false'] at h; omega) | (with_reducible have hp := of_decide_eq_true h)))
      | (show KSeq _ _ _ _ _ _ _; first
      | refine KSeq.normal ?_
      | refine KSeq.ret ?_)
      | (show KEnd _ _ _ _ _ _ _; refine KEnd.fin (Or.inr rfl) ⟨_, (ResL.tmp rfl ResL.nil), ?_⟩))
    exact ⟨rfl, H⟩
  · obtain ⟨m, rfl⟩ := Int.eq_ofNat_of_zero_le hx.1
    obtain ⟨n, hn⟩ : ∃ n, 1 + m % 100 = n := ⟨_, rfl⟩
    obtain ⟨D, hD⟩ : ∃ D, newS n = D := ⟨_, rfl⟩
    have hw : D.writes = 0 := by rw [← hD]; rfl
    obtain ⟨oe, hoe⟩ : ∃ oe, openS D home = oe := ⟨_, rfl⟩
    have hwm : IntKind.i64.wrap (m : Int) = m := wrap_i64 (by omega) (by omega)
    have hwn : IntKind.i64.wrap (1 + (m : Int).tmod (Int.ofNat (99 + 1))) = (n : Int) := by
      have e1 : (m : Int).tmod (Int.ofNat (99 + 1)) = ((m % 100 : Nat) : Int) := by rw [Int.tmod_eq_emod_of_nonneg (by omega)]; rfl
      rw [e1, wrap_i64 (by omega) (by omega)]
      omega
    by_cases he : oe.2 = 0
    ·
      refine ok_tithinglaw16_JournalOpens.rets rfl ?_
      repeat' (first
        | rw [hwm]
        | rw [hwn]
        | (show VcL _ _ _ _ _ _ _ _; first
      | refine VcL.pures tabOk rfl ?_
      | refine VcL.nil ?_
      | (show VcL _ _ _ _ (⟨_, .call ⟨.value (.func F_tithinglaw16_Awake), _, _⟩, _, _, _, _⟩ :: _) _ _ _; (refine VcL.callF ok_tithinglaw16_Awake rfl rfl rfl rfl (Rets.mono (Awake_any H) ?_); rintro _ w ⟨rfl, H⟩))
      | (show VcL _ _ _ _ (⟨_, .call ⟨.value (.func F_journal_NewDisk), _, _⟩, _, _, _, _⟩ :: _) _ _ _; (refine VcL.callF ok_journal_NewDisk rfl rfl rfl rfl (Rets.mono (NewDisk_any (n := n) H (by omega) (by omega)) ?_); rintro _ w ⟨d, rfl, H⟩; rw [hD] at H))
      | (show VcL _ _ _ _ (⟨_, .call ⟨.value (.func F_tithingref16_NewDisk), _, _⟩, _, _, _, _⟩ :: _) _ _ _; (refine VcL.callF ok_tithingref16_NewDisk rfl rfl rfl rfl (Rets.mono (NewDiskR_any (n := n) H (by omega) (by omega)) ?_); rintro _ w ⟨J, r, hJ, rfl, H⟩; rw [hD] at H))
      | (show VcL _ _ _ _ (⟨_, .call ⟨.value (.func F_journal_Open), _, _⟩, _, _, _, _⟩ :: _) _ _ _; (refine VcL.callF ok_journal_Open rfl rfl rfl rfl (Rets.mono (Open_ok (D := D) (Holds.swap H) (by omega) hm (by rw [hoe]; exact he)) ?_); rintro _ w ⟨s, rfl, H⟩; rw [hoe] at H))
      | (show VcL _ _ _ _ (⟨_, .call ⟨.value (.func F_tithingref16_Open), _, _⟩, _, _, _, _⟩ :: _) _ _ _; (refine VcL.callF ok_tithingref16_Open rfl rfl rfl rfl (Rets.mono (OpenR_ok (D := D) (Holds.f2 H) (by omega) hm (by rw [hoe]; exact he)) ?_); rintro _ w ⟨J2, t, hJ2, rfl, H⟩; rw [hoe] at H))
      | (show VcL _ _ _ _ (⟨_, .call ⟨.value (.func F_journal_IsHead), _, _⟩, _, _, _, _⟩ :: _) _ _ _; (refine VcL.callF ok_journal_IsHead rfl rfl rfl rfl (Rets.mono (IsHead_any H (SlI.toR (hv.mono (hJ.trans hJ2))) hl home) ?_); rintro _ w ⟨rfl, H⟩))
      | (show VcL _ _ _ _ (⟨_, .call ⟨.value (.func F_tithingref16_IsHead), _, _⟩, _, _, _, _⟩ :: _) _ _ _; (refine VcL.callF ok_tithingref16_IsHead rfl rfl rfl rfl (Rets.mono (IsHeadR_any H (SlI.toR (hv.mono (hJ.trans hJ2))) hl home) ?_); rintro _ w ⟨rfl, H⟩))
      | (refine VcL.guard rfl rfl rfl rfl (fun h => ?_) (fun h => ?_) <;> first | (cases h; done) | (with_reducible have hp := of_decide_eq_true h) | (with_reducible have hp := of_decide_eq_false h)))
        | (show Vc _ _ _ _ _ _; first
      | refine Vc.seq ?_
      | refine Vc.region ?_
      | refine Vc.condF rfl ?_
      | refine Vc.ret ?_
      | refine Vc.skip ?_
      | (refine Vc.cond rfl (fun h => ?_) (fun h => ?_) <;> first | (exfalso; simp only [decide_eq_true_eq, decide_eq_false_iff_not, Bool.not_eq_true', Bool.not_eq_false'] at h; omega) | (with_reducible have hp := of_decide_eq_false h)))
        | (show KSeq _ _ _ _ _ _ _; refine KSeq.normal ?_)
        | (show KEnd _ _ _ _ _ _ _; refine KEnd.fin (Or.inr rfl) ⟨_, (ResL.tmp rfl ResL.nil), ?_⟩))
      · exact ⟨by simp [resVal], Holds.less H.drop.drop.drop.drop (hJ.trans hJ2)⟩
      · exact absurd rfl hp
    ·
      refine ok_tithinglaw16_JournalOpens.rets rfl ?_
      repeat' (first
        | rw [hwm]
        | rw [hwn]
        | (show VcL _ _ _ _ _ _ _ _; first
      | refine VcL.pures tabOk rfl ?_
      | refine VcL.nil ?_
      | (show VcL _ _ _ _ (⟨_, .call ⟨.value (.func F_tithinglaw16_Awake), _, _⟩, _, _, _, _⟩ :: _) _ _ _; (refine VcL.callF ok_tithinglaw16_Awake rfl rfl rfl rfl (Rets.mono (Awake_any H) ?_); rintro _ w ⟨rfl, H⟩))
      | (show VcL _ _ _ _ (⟨_, .call ⟨.value (.func F_journal_NewDisk), _, _⟩, _, _, _, _⟩ :: _) _ _ _; (refine VcL.callF ok_journal_NewDisk rfl rfl rfl rfl (Rets.mono (NewDisk_any (n := n) H (by omega) (by omega)) ?_); rintro _ w ⟨d, rfl, H⟩; rw [hD] at H))
      | (show VcL _ _ _ _ (⟨_, .call ⟨.value (.func F_tithingref16_NewDisk), _, _⟩, _, _, _, _⟩ :: _) _ _ _; (refine VcL.callF ok_tithingref16_NewDisk rfl rfl rfl rfl (Rets.mono (NewDiskR_any (n := n) H (by omega) (by omega)) ?_); rintro _ w ⟨J, r, hJ, rfl, H⟩; rw [hD] at H))
      | (show VcL _ _ _ _ (⟨_, .call ⟨.value (.func F_journal_Open), _, _⟩, _, _, _, _⟩ :: _) _ _ _; (refine VcL.callF ok_journal_Open rfl rfl rfl rfl (Rets.mono (Open_no (D := D) (Holds.swap H) (by omega) hm (by rw [hoe]; exact he)) ?_); rintro _ w ⟨rfl, H⟩; rw [hoe] at H ⊢))
      | (show VcL _ _ _ _ (⟨_, .call ⟨.value (.func F_tithingref16_Open), _, _⟩, _, _, _, _⟩ :: _) _ _ _; (refine VcL.callF ok_tithingref16_Open rfl rfl rfl rfl (Rets.mono (OpenR_no (D := D) (Holds.f1 H) (by omega) hm (by rw [hoe]; exact he)) ?_); rintro _ w ⟨J2, hJ2, rfl, H⟩; rw [hoe] at H ⊢))
      | (show VcL _ _ _ _ (⟨_, .call ⟨.value (.func F_journal_IsHead), _, _⟩, _, _, _, _⟩ :: _) _ _ _; (refine VcL.callF ok_journal_IsHead rfl rfl rfl rfl (Rets.mono (IsHead_any H (SlI.toR (hv.mono (hJ.trans hJ2))) hl home) ?_); rintro _ w ⟨rfl, H⟩))
      | (show VcL _ _ _ _ (⟨_, .call ⟨.value (.func F_tithingref16_IsHead), _, _⟩, _, _, _, _⟩ :: _) _ _ _; (refine VcL.callF ok_tithingref16_IsHead rfl rfl rfl rfl (Rets.mono (IsHeadR_any H (SlI.toR (hv.mono (hJ.trans hJ2))) hl home) ?_); rintro _ w ⟨rfl, H⟩))
      | (refine VcL.guard rfl rfl rfl rfl (fun h => ?_) (fun h => ?_) <;> first | (cases h; done) | (exfalso; simp only [decide_eq_true_eq, decide_eq_false_iff_not, Bool.not_eq_true', Bool.not_eq_false'] at h; omega) | (with_reducible have hp := of_decide_eq_true h) | (with_reducible have hp := of_decide_eq_false h) | skip))
        | (show Vc _ _ _ _ _ _; first
      | refine Vc.seq ?_
      | refine Vc.region ?_
      | refine Vc.condF rfl ?_
      | refine Vc.ret ?_
      | refine Vc.skip ?_
      | (refine Vc.cond rfl (fun h => ?_) (fun h => ?_) <;> first | (exfalso; simp only [decide_eq_true_eq, decide_eq_false_iff_not, Bool.not_eq_true', Bool.not_eq_false'] at h; omega) | (with_reducible have hp := of_decide_eq_false h)))
        | (show KSeq _ _ _ _ _ _ _; refine KSeq.normal ?_)
        | (show KEnd _ _ _ _ _ _ _; refine KEnd.fin (Or.inr rfl) ⟨_, (ResL.tmp rfl ResL.nil), ?_⟩))
      · exact ⟨by simp [resVal], Holds.less H.drop.drop (hJ.trans hJ2)⟩
      · exact absurd rfl hp
      · exact absurd (by rw [decide_eq_false he]; rfl) hp
end Go.Proofs.Ytoahfjfknljacaa.V
