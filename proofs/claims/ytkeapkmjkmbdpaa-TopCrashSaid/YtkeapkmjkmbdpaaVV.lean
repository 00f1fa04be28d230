/- The program's store: opened, read, committed. -/
import Derived.Test.YtkeapkmjkmbdpaaVU
namespace Go.Proofs.Ytkeapkmjkmbdpaa.V
open Go Go.Proofs.YtkeapkmjkmbdpaaV
set_option linter.unusedVariables false
set_option linter.unusedSimpArgs false
set_option maxHeartbeats 1000000
set_option maxRecDepth 4000
attribute [local irreducible] IntKind.wrap
variable {I : Imm} {w : World} {L : List Asn}
structure OpR (I : Imm) (w : World) (L : List Asn) (A : Dk → Asn) (t : Nat) (d : Nat) (home : Int) (r : Dk × Int) (u : Value) : Prop where mk ::
  out : (r.2 = 0 ∧ ∃ s, u = .tuple #[ptr s, .int .i64 0] ∧ Holds I w (A r.1 :: blk s t (stV d home false) :: L)) ∨ (r.2 ≠ 0 ∧ u = .tuple #[.pointer none, .int .i64 r.2] ∧ Holds I w (A r.1 :: L))
theorem Open_any {d : Nat} {D : Dk} (H : Holds I w (dskA d D :: L)) (hw : D.writes + 100 < 2 ^ 40) {home : Int} (hm1 : -9223372036854775808 ≤ home ∧ home ≤ 9223372036854775807) :
    Rets Try.prog F_journal_Open #[ptr d, .int .i64 home] w fun u w' => OpR I w' L (dskA d) 55 d home (openS D home) u := by
  have hok := dsk_ok H
  have hfew := hok.few
  by_cases hin : 1 ≤ home ∧ home ≤ 300 ∧ home + 41 ≤ D.blocks.length
  · obtain ⟨ho, rfl⟩ := Int.eq_ofNat_of_zero_le (show 0 ≤ home by omega)
    have e1 : IntKind.i64.wrap ((ho : Int) + 1) = ((ho + 1 : Nat) : Int) := wrap_i64 (by omega) (by omega)
    have e2 : IntKind.i64.wrap (((ho + 1 : Nat) : Int) + 40) = ((ho + 41 : Nat) : Int) := by rw [wrap_i64 (by omega) (by omega)]; omega
    have eO : openS D (ho : Int) = ((recS D ho).1, if (recS D ho).2 then 0 else 160) := by unfold openS; rw [if_pos hin]; rfl
    rw [eO]
    by_cases hr : (recS D ho).2 = true
    · have hif : (if (recS D ho).2 = true then (0 : Int) else 160) = 0 := by rw [if_pos hr]
      refine ok_journal_Open.rets rfl ?_
      repeat' (first
        | rw [e1]
        | rw [e2]
        | (show VcL _ _ _ _ _ _ _ _; first
      | refine VcL.pures tabOk rfl ?_
      | refine VcL.nil ?_
      | refine VcL.box H rfl rfl rfl rfl rfl (fun b w H => ?_)
      | (show VcL _ _ _ _ (⟨_, .call ⟨.value (.func F_journal_Disk_none), _, _⟩, _, _, _, _⟩ :: _) _ _ _; (refine VcL.callF ok_journal_Disk_none rfl rfl rfl rfl (Rets.mono (dskNone_any H) ?_); rintro _ w ⟨rfl, H⟩))
      | (show VcL _ _ _ _ (⟨_, .call ⟨.value (.func F_journal_Disk_Blocks), _, _⟩, _, _, _, _⟩ :: _) _ _ _; (refine VcL.callF ok_journal_Disk_Blocks rfl rfl rfl rfl (Rets.mono (Blocks_any H) ?_); rintro _ w ⟨rfl, H⟩))
      | (show VcL _ _ _ _ (⟨_, .call ⟨.value (.func F_journal_Store_recover), _, _⟩, _, _, _, _⟩ :: _) _ _ _; (refine VcL.callF ok_journal_Store_recover rfl rfl rfl rfl (Rets.mono (recover_any (ho := ho) (dead := false) (Holds.swap H) Holds.toW (by omega) (by omega)) ?_); rintro _ w ⟨rfl, H⟩; rw [hif]))
      | (refine VcL.guard rfl rfl rfl rfl (fun h => ?_) (fun h => ?_) <;> first | (exfalso; simp only [decide_eq_true_eq, decide_eq_false_iff_not, Bool.not_eq_true', Bool.not_eq_false'] at h; omega) | (with_reducible have hp := of_decide_eq_false h)))
        | (show Vc _ _ _ _ _ _; first
      | refine Vc.seq ?_
      | refine Vc.region ?_
      | refine Vc.condF rfl ?_
      | refine Vc.ret ?_
      | refine Vc.skip ?_
      | refine Vc.block ?_
      | (refine Vc.cond rfl (fun h => ?_) (fun h => ?_) <;> first | (exfalso; simp only [decide_eq_true_eq, decide_eq_false_iff_not, Bool.not_eq_true', Bool.not_eq_false'] at h; omega) | (with_reducible have hp := of_decide_eq_false h)))
        | (show KSeq _ _ _ _ _ _ _; refine KSeq.normal ?_)
        | (show KBlock _ _ _ _ _ _; refine KBlock.normal ?_)
        | (show KEnd _ _ _ _ _ _ _; refine KEnd.fin (Or.inr rfl) ⟨_, (ResL.tmp rfl (ResL.tmp rfl ResL.nil)), ?_⟩))
      exact ⟨.inl ⟨rfl, _, rfl, H⟩⟩
    · have hif : (if (recS D ho).2 = true then (0 : Int) else 160) = 160 := by rw [if_neg hr]
      refine ok_journal_Open.rets rfl ?_
      repeat' (first
        | rw [e1]
        | rw [e2]
        | (show VcL _ _ _ _ _ _ _ _; first
      | refine VcL.pures tabOk rfl ?_
      | refine VcL.nil ?_
      | refine VcL.box H rfl rfl rfl rfl rfl (fun b w H => ?_)
      | (show VcL _ _ _ _ (⟨_, .call ⟨.value (.func F_journal_Disk_none), _, _⟩, _, _, _, _⟩ :: _) _ _ _; (refine VcL.callF ok_journal_Disk_none rfl rfl rfl rfl (Rets.mono (dskNone_any H) ?_); rintro _ w ⟨rfl, H⟩))
      | (show VcL _ _ _ _ (⟨_, .call ⟨.value (.func F_journal_Disk_Blocks), _, _⟩, _, _, _, _⟩ :: _) _ _ _; (refine VcL.callF ok_journal_Disk_Blocks rfl rfl rfl rfl (Rets.mono (Blocks_any H) ?_); rintro _ w ⟨rfl, H⟩))
      | (show VcL _ _ _ _ (⟨_, .call ⟨.value (.func F_journal_Store_recover), _, _⟩, _, _, _, _⟩ :: _) _ _ _; (refine VcL.callF ok_journal_Store_recover rfl rfl rfl rfl (Rets.mono (recover_any (ho := ho) (dead := false) (Holds.swap H) Holds.toW (by omega) (by omega)) ?_); rintro _ w ⟨rfl, H⟩; rw [hif]))
      | (refine VcL.guard rfl rfl rfl rfl (fun h => ?_) (fun h => ?_) <;> first | (exfalso; simp only [decide_eq_true_eq, decide_eq_false_iff_not, Bool.not_eq_true', Bool.not_eq_false'] at h; omega) | (with_reducible have hp := of_decide_eq_false h)))
        | (show Vc _ _ _ _ _ _; first
      | refine Vc.seq ?_
      | refine Vc.region ?_
      | refine Vc.condT rfl ?_
      | refine Vc.condF rfl ?_
      | refine Vc.ret ?_
      | refine Vc.skip ?_
      | refine Vc.block ?_
      | (refine Vc.cond rfl (fun h => ?_) (fun h => ?_) <;> first | (exfalso; simp only [decide_eq_true_eq, decide_eq_false_iff_not, Bool.not_eq_true', Bool.not_eq_false'] at h; omega) | (with_reducible have hp := of_decide_eq_false h)))
        | (show KSeq _ _ _ _ _ _ _; first
      | refine KSeq.normal ?_
      | refine KSeq.ret ?_)
        | (show KBlock _ _ _ _ _ _; refine KBlock.normal ?_)
        | (show KEnd _ _ _ _ _ _ _; refine KEnd.fin (Or.inr rfl) ⟨_, (ResL.tmp rfl (ResL.tmp rfl ResL.nil)), ?_⟩))
      exact ⟨.inr ⟨by show (160 : Int) ≠ 0; omega, rfl, H.drop1⟩⟩
  · have eO : openS D home = (D, 2) := by unfold openS; rw [if_neg hin]
    rw [eO]
    by_cases h13 : 1 ≤ home ∧ home ≤ 300
    · obtain ⟨ho, rfl⟩ := Int.eq_ofNat_of_zero_le (show 0 ≤ home by omega)
      have e1 : IntKind.i64.wrap ((ho : Int) + 1) = ((ho + 1 : Nat) : Int) := wrap_i64 (by omega) (by omega)
      have e2 : IntKind.i64.wrap (((ho + 1 : Nat) : Int) + 40) = ((ho + 41 : Nat) : Int) := by rw [wrap_i64 (by omega) (by omega)]; omega
      refine ok_journal_Open.rets rfl ?_
      repeat' (first
        | rw [e1]
        | rw [e2]
        | (show VcL _ _ _ _ _ _ _ _; first
      | refine VcL.pures tabOk rfl ?_
      | refine VcL.nil ?_
      | (show VcL _ _ _ _ (⟨_, .call ⟨.value (.func F_journal_Disk_none), _, _⟩, _, _, _, _⟩ :: _) _ _ _; (refine VcL.callF ok_journal_Disk_none rfl rfl rfl rfl (Rets.mono (dskNone_any H) ?_); rintro _ w ⟨rfl, H⟩))
      | (show VcL _ _ _ _ (⟨_, .call ⟨.value (.func F_journal_Disk_Blocks), _, _⟩, _, _, _, _⟩ :: _) _ _ _; (refine VcL.callF ok_journal_Disk_Blocks rfl rfl rfl rfl (Rets.mono (Blocks_any H) ?_); rintro _ w ⟨rfl, H⟩))
      | (refine VcL.guard rfl rfl rfl rfl (fun h => ?_) (fun h => ?_) <;> first | (exfalso; simp only [decide_eq_true_eq, decide_eq_false_iff_not, Bool.not_eq_true', Bool.not_eq_false'] at h; omega) | (with_reducible have hp := of_decide_eq_false h)))
        | (show Vc _ _ _ _ _ _; first
      | refine Vc.seq ?_
      | refine Vc.region ?_
      | refine Vc.condF rfl ?_
      | refine Vc.ret ?_
      | refine Vc.block ?_
      | (refine Vc.cond rfl (fun h => ?_) (fun h => ?_) <;> first | (exfalso; simp only [decide_eq_true_eq, decide_eq_false_iff_not, Bool.not_eq_true', Bool.not_eq_false'] at h; omega) | (with_reducible have hp := of_decide_eq_true h)))
        | (show KSeq _ _ _ _ _ _ _; first
      | refine KSeq.normal ?_
      | refine KSeq.ret ?_)
        | (show KBlock _ _ _ _ _ _; refine KBlock.ret ?_)
        | (show KEnd _ _ _ _ _ _ _; refine KEnd.fin (Or.inr rfl) ⟨_, (ResL.tmp rfl (ResL.tmp rfl ResL.nil)), ?_⟩))
      all_goals first | exact ⟨.inr ⟨by show (2 : Int) ≠ 0; omega, rfl, H⟩⟩ | (exfalso; omega)
    ·
      refine ok_journal_Open.rets rfl ?_
      repeat' (first
        | (show VcL _ _ _ _ _ _ _ _; first
      | refine VcL.pures tabOk rfl ?_
      | refine VcL.nil ?_
      | (show VcL _ _ _ _ (⟨_, .call ⟨.value (.func F_journal_Disk_none), _, _⟩, _, _, _, _⟩ :: _) _ _ _; (refine VcL.callF ok_journal_Disk_none rfl rfl rfl rfl (Rets.mono (dskNone_any H) ?_); rintro _ w ⟨rfl, H⟩))
      | (refine VcL.guard rfl rfl rfl rfl (fun h => ?_) (fun h => ?_) <;> first | (cases h; done) | (exfalso; simp only [decide_eq_true_eq, decide_eq_false_iff_not, Bool.not_eq_true', Bool.not_eq_false'] at h; omega) | (with_reducible have hp := of_decide_eq_true h) | (with_reducible have hp := of_decide_eq_false h) | skip))
        | (show Vc _ _ _ _ _ _; first
      | refine Vc.seq ?_
      | refine Vc.region ?_
      | refine Vc.condT rfl ?_
      | refine Vc.condF rfl ?_
      | refine Vc.ret ?_
      | refine Vc.block ?_)
        | (show KSeq _ _ _ _ _ _ _; first
      | refine KSeq.normal ?_
      | refine KSeq.ret ?_)
        | (show KBlock _ _ _ _ _ _; refine KBlock.ret ?_)
        | (show KEnd _ _ _ _ _ _ _; refine KEnd.fin (Or.inr rfl) ⟨_, (ResL.tmp rfl (ResL.tmp rfl ResL.nil)), ?_⟩))
      all_goals first | exact ⟨.inr ⟨by show (2 : Int) ≠ 0; omega, rfl, H⟩⟩ | (exfalso; omega)
/-- What a store reads. -/
def srdS (D : Dk) (ho : Nat) (dead : Bool) (k : Int) : By × Int := if dead then ([], 160) else if 0 ≤ k ∧ k < ho then (rdB D k.toNat, 0) else ([], 2)
theorem SRead_any {s d ho : Nat} {dead : Bool} {D : Dk} (H : Holds I w (dskA d D :: L)) (hs : RdW I L s 0 (stV d (ho : Nat) dead)) (hw : D.writes < 2 ^ 40) (hh : ho ≤ D.blocks.length) (k : Int) :
    Rets Try.prog F_journal_Store_Read #[ptr s, .int .i64 k] w fun u w' => ∃ uv, u = .tuple #[uv, .int .i64 (srdS D ho dead k).2] ∧ Holds I w' (own uv 5 1 (srdS D ho dead k).1.length (byL (srdS D ho dead k).1) :: dskA d D :: L) := by
  have hs1 := hs.up (A := dskA d D)
  have hok := dsk_ok H
  cases dead with
  | true =>
    refine ok_journal_Store_Read.rets rfl ?_
    repeat' (first
      | (show VcL _ _ _ _ _ _ _ _; first
      | refine VcL.pures tabOk rfl ?_
      | refine VcL.nil ?_
      | (show VcL _ _ _ _ (⟨_, .load _ _, _, _, _, _⟩ :: _) _ _ _; refine VcL.load1 tabOk rfl rfl rfl rfl rfl (by exact RdW.get (by assumption) rfl H) ?_)
      | (show VcL _ _ _ _ (⟨_, .call ⟨.value (.func F_journal_Store_none), _, _⟩, _, _, _, _⟩ :: _) _ _ _; (refine VcL.callF ok_journal_Store_none rfl rfl rfl rfl (Rets.mono (noneS_any H hs1) ?_); rintro _ w ⟨rfl, H⟩)))
      | (show Vc _ _ _ _ _ _; first
      | refine Vc.seq ?_
      | refine Vc.region ?_
      | refine Vc.condT rfl ?_
      | refine Vc.condF rfl ?_
      | refine Vc.ret ?_
      | refine Vc.block ?_)
      | (show KSeq _ _ _ _ _ _ _; first
      | refine KSeq.normal ?_
      | refine KSeq.ret ?_)
      | (show KBlock _ _ _ _ _ _; refine KBlock.ret ?_)
      | (show KEnd _ _ _ _ _ _ _; refine KEnd.fin (Or.inr rfl) ⟨_, (ResL.tmp rfl (ResL.tmp rfl ResL.nil)), ?_⟩))
    exact ⟨_, rfl, H.own_nil⟩
  | false =>
    by_cases hk : 0 ≤ k ∧ k < ho
    · have e : srdS D ho false k = (rdB D k.toNat, 0) := by unfold srdS; rw [if_neg (by decide), if_pos hk]
      rw [e]
      obtain ⟨n, rfl⟩ := Int.eq_ofNat_of_zero_le hk.1
      have hrl := rdB_len hok (show n < D.blocks.length by omega)
      refine ok_journal_Store_Read.rets rfl ?_
      repeat' (first
        | (show VcL _ _ _ _ _ _ _ _; first
      | refine VcL.pures tabOk rfl ?_
      | refine VcL.nil ?_
      | (show VcL _ _ _ _ (⟨_, .load _ _, _, _, _, _⟩ :: _) _ _ _; refine VcL.load1 tabOk rfl rfl rfl rfl rfl (by first | exact RdW.get (by assumption) rfl H | exact RdW.get0 (by assumption) rfl H) ?_)
      | (show VcL _ _ _ _ (⟨_, .call ⟨.value (.func F_journal_Store_none), _, _⟩, _, _, _, _⟩ :: _) _ _ _; (refine VcL.callF ok_journal_Store_none rfl rfl rfl rfl (Rets.mono (noneS_any H hs1) ?_); rintro _ w ⟨rfl, H⟩))
      | (show VcL _ _ _ _ (⟨_, .call ⟨.value (.func F_journal_Disk_Read), _, _⟩, _, _, _, _⟩ :: _) _ _ _; (refine VcL.callF ok_journal_Disk_Read rfl rfl rfl rfl (Rets.mono (ReadP_good (k := n) H hw (by omega)) ?_); rintro _ w ⟨uv, rfl, H⟩))
      | (refine VcL.guard rfl rfl rfl rfl (fun h => ?_) (fun h => ?_) <;> first | (cases h; done) | (with_reducible have hp := of_decide_eq_false h)))
        | (show Vc _ _ _ _ _ _; first
      | refine Vc.seq ?_
      | refine Vc.region ?_
      | refine Vc.condF rfl ?_
      | refine Vc.ret ?_
      | refine Vc.skip ?_
      | refine Vc.block ?_
      | (refine Vc.cond rfl (fun h => ?_) (fun h => ?_) <;> first | (exfalso; simp only [decide_eq_true_eq, decide_eq_false_iff_not, Bool.not_eq_true', Bool.not_eq_false'] at h; omega) | (with_reducible have hp := of_decide_eq_false h)))
        | (show KSeq _ _ _ _ _ _ _; refine KSeq.normal ?_)
        | (show KBlock _ _ _ _ _ _; refine KBlock.normal ?_)
        | (show KEnd _ _ _ _ _ _ _; refine KEnd.fin (Or.inr rfl) ⟨_, (ResL.tmp rfl (ResL.tmp rfl ResL.nil)), ?_⟩))
      refine ⟨uv, rfl, ?_⟩
      rw [← hrl] at H
      exact H
    · have e : srdS D ho false k = ([], 2) := by unfold srdS; rw [if_neg (by decide), if_neg hk]
      rw [e]
      refine ok_journal_Store_Read.rets rfl ?_
      repeat' (first
        | (show VcL _ _ _ _ _ _ _ _; first
      | refine VcL.pures tabOk rfl ?_
      | refine VcL.nil ?_
      | (show VcL _ _ _ _ (⟨_, .load _ _, _, _, _, _⟩ :: _) _ _ _; refine VcL.load1 tabOk rfl rfl rfl rfl rfl (by exact RdW.get (by assumption) rfl H) ?_)
      | (show VcL _ _ _ _ (⟨_, .call ⟨.value (.func F_journal_Store_none), _, _⟩, _, _, _, _⟩ :: _) _ _ _; (refine VcL.callF ok_journal_Store_none rfl rfl rfl rfl (Rets.mono (noneS_any H hs1) ?_); rintro _ w ⟨rfl, H⟩))
      | (refine VcL.guard rfl rfl rfl rfl (fun h => ?_) (fun h => ?_) <;> first | (with_reducible have hp := of_decide_eq_true h) | (with_reducible have hp := of_decide_eq_false h)))
        | (show Vc _ _ _ _ _ _; first
      | refine Vc.seq ?_
      | refine Vc.region ?_
      | refine Vc.condT rfl ?_
      | refine Vc.condF rfl ?_
      | refine Vc.ret ?_
      | refine Vc.block ?_
      | (refine Vc.cond rfl (fun h => ?_) (fun h => ?_) <;> first | (exfalso; simp only [decide_eq_true_eq, decide_eq_false_iff_not, Bool.not_eq_true', Bool.not_eq_false'] at h; omega) | (with_reducible have hp := of_decide_eq_true h)))
        | (show KSeq _ _ _ _ _ _ _; first
      | refine KSeq.normal ?_
      | refine KSeq.ret ?_)
        | (show KBlock _ _ _ _ _ _; refine KBlock.ret ?_)
        | (show KEnd _ _ _ _ _ _ _; refine KEnd.fin (Or.inr rfl) ⟨_, (ResL.tmp rfl (ResL.tmp rfl ResL.nil)), ?_⟩))
      all_goals exact ⟨_, rfl, H.own_nil⟩
end Go.Proofs.Ytkeapkmjkmbdpaa.V
