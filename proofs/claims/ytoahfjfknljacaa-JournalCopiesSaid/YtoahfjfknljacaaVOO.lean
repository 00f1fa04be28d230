/- The document's disks are compared. -/
import Derived.Test.YtoahfjfknljacaaVNN
namespace Go.Proofs.Ytoahfjfknljacaa.V
open Go Go.Proofs.YtoahfjfknljacaaV
set_option linter.unusedVariables false
set_option linter.unusedSimpArgs false
set_option maxHeartbeats 1000000
set_option maxRecDepth 4000
attribute [local irreducible] IntKind.wrap
variable {I : Imm} {w : World} {L : List Asn}
theorem str_ne {a b : By} : ((⟨a.toArray⟩ : ByteArray).toList == (⟨b.toArray⟩ : ByteArray).toList) = decide (a = b) := str_eq a b
theorem SameDiskR_any {a c : Nat} {D C : Dk} (H : Holds I w (rdkA I a D :: rdkA I c C :: L)) (hw : D.writes < 2 ^ 40) :
    Rets Try.prog F_tithingref16_SameDisk #[ptr a, ptr c] w fun r w' => r = .bool (decide (D = C)) ∧ Holds I w' (rdkA I a D :: rdkA I c C :: L) := by
  obtain ⟨b1, o1, cap1, A2, cap2, P, rfl, hk, hcap, hf, HB⟩ := rdk_open H
  obtain ⟨b3, o3, cap3, A4, cap4, Q, rfl, hq, hcap2, hg, HC⟩ := rdk_open (Holds.re [3] HB rfl)
  clear H HB
  have H := Holds.re [3, 3, 3] HC rfl
  clear HC
  have hwr : P.dk.writes = P.writes := rfl
  rw [hwr] at hw
  have hmany := hk.many
  have hfew := hk.few
  have hst : ∀ w, Holds I w (blk a 88 (rkV P (.slice (some ⟨b1, o1, none⟩) P.bl.length cap1) (.slice A2 P.wt.length cap2)) :: own (.slice (some ⟨b1, o1, none⟩) P.bl.length cap1) 22 1 P.bl.length (P.bl.flatMap bkC) :: own (.slice A2 P.wt.length cap2) 86 2 P.wt.length (P.wt.flatMap wkC) :: blk c 88 (rkV Q (.slice (some ⟨b3, o3, none⟩) Q.bl.length cap3) (.slice A4 Q.wt.length cap4)) :: own (.slice (some ⟨b3, o3, none⟩) Q.bl.length cap3) 22 1 Q.bl.length (Q.bl.flatMap bkC) :: own (.slice A4 Q.wt.length cap4) 86 2 Q.wt.length (Q.wt.flatMap wkC) :: L) → Holds I w (rdkA I a P.dk :: rdkA I c Q.dk :: L) := fun w H => by
    have H1 := rdk_close P rfl hk.ok hf H
    exact Holds.swap (rdk_close Q rfl hq.ok hg (Holds.re [1, 1, 1] H1 rfl))
  have hD : decide (P.dk = Q.dk) = (decide (snds P.bl = snds Q.bl) && decide (prs P.wt = prs Q.wt) && decide (P.writes = Q.writes) && decide (P.stop = Q.stop)) := by
    rw [← Bool.decide_and, ← Bool.decide_and, ← Bool.decide_and]
    refine decide_eq_decide.2 ⟨fun e => ?_, fun ⟨⟨⟨h1, h2⟩, h3⟩, h4⟩ => ?_⟩
    · exact ⟨⟨⟨congrArg Dk.blocks e, congrArg Dk.wait e⟩, congrArg Dk.writes e⟩, congrArg Dk.stop e⟩
    · unfold Kd.dk
      rw [h3, h4]
      show (⟨snds P.bl, prs P.wt, _, _⟩ : Dk) = _
      rw [h1, h2]
  rw [hD]
  clear hD
  refine ok_tithingref16_SameDisk.rets rfl ?_
  repeat' (first
    | (show VcL _ _ _ _ _ _ _ _; first
      | refine VcL.pures tabOk rfl ?_
      | refine VcL.nil ?_
      | (show VcL _ _ _ _ (⟨_, .load _ _, _, _, _, _⟩ :: _) _ _ _; first
      | refine VcL.load1 tabOk rfl rfl rfl rfl rfl (by first | exact Holds.cell H rfl | exact Holds.cell (Holds.f1 H) rfl | exact Holds.cell (Holds.f2 H) rfl | exact Holds.cell (Holds.f3 H) rfl | exact Holds.cell (Holds.f4 H) rfl | exact Holds.cell (Holds.f5 H) rfl | exact Holds.cell (Holds.f6 H) rfl | exact RdW.get (by assumption) rfl H | exact RdW.get0 (by assumption) rfl H | exact RdW.get (by assumption) rfl (Holds.drop H) | exact RdW.get0 (by assumption) rfl (Holds.drop H) | exact RdW.get (by assumption) rfl (Holds.drop (Holds.drop H)) | exact RdW.get0 (by assumption) rfl (Holds.drop (Holds.drop H)) | exact RdW.get (by assumption) rfl (Holds.drop (Holds.drop (Holds.drop H))) | exact RdW.get0 (by assumption) rfl (Holds.drop (Holds.drop (Holds.drop H))) | exact Holds.rowCell H (fun _ => rfl) (by first | assumption | exact atD_get (by assumption)) rfl | exact Holds.rowCell0 H (fun _ => rfl) (by first | assumption | exact atD_get (by assumption)) rfl | exact Holds.ownCell H (fun _ => rfl) (by first | assumption | exact atD_get (by assumption)) rfl | exact Holds.ownCell0 H (fun _ => rfl) (by first | assumption | exact atD_get (by assumption)) rfl | exact Holds.rowCell (Holds.f1 H) (fun _ => rfl) (by first | assumption | exact atD_get (by assumption)) rfl | exact Holds.rowCell0 (Holds.f1 H) (fun _ => rfl) (by first | assumption | exact atD_get (by assumption)) rfl | exact Holds.ownCell (Holds.f1 H) (fun _ => rfl) (by first | assumption | exact atD_get (by assumption)) rfl | exact Holds.ownCell0 (Holds.f1 H) (fun _ => rfl) (by first | assumption | exact atD_get (by assumption)) rfl | exact Holds.rowCell (Holds.f2 H) (fun _ => rfl) (by first | assumption | exact atD_get (by assumption)) rfl | exact Holds.rowCell0 (Holds.f2 H) (fun _ => rfl) (by first | assumption | exact atD_get (by assumption)) rfl | exact Holds.ownCell (Holds.f2 H) (fun _ => rfl) (by first | assumption | exact atD_get (by assumption)) rfl | exact Holds.ownCell0 (Holds.f2 H) (fun _ => rfl) (by first | assumption | exact atD_get (by assumption)) rfl | exact Holds.rowCell (Holds.f3 H) (fun _ => rfl) (by first | assumption | exact atD_get (by assumption)) rfl | exact Holds.rowCell0 (Holds.f3 H) (fun _ => rfl) (by first | assumption | exact atD_get (by assumption)) rfl | exact Holds.ownCell (Holds.f3 H) (fun _ => rfl) (by first | assumption | exact atD_get (by assumption)) rfl | exact Holds.ownCell0 (Holds.f3 H) (fun _ => rfl) (by first | assumption | exact atD_get (by assumption)) rfl | exact Holds.rowCell (Holds.f4 H) (fun _ => rfl) (by first | assumption | exact atD_get (by assumption)) rfl | exact Holds.rowCell0 (Holds.f4 H) (fun _ => rfl) (by first | assumption | exact atD_get (by assumption)) rfl | exact Holds.ownCell (Holds.f4 H) (fun _ => rfl) (by first | assumption | exact atD_get (by assumption)) rfl | exact Holds.ownCell0 (Holds.f4 H) (fun _ => rfl) (by first | assumption | exact atD_get (by assumption)) rfl | assumption) ?_
      | refine VcL.loadR tabOk rfl rfl rfl rfl rfl rfl (by first | exact RdW.rd (by assumption) H | exact RdW.rd (by assumption) (Holds.drop H) | exact RdW.rd (by assumption) (Holds.drop (Holds.drop H)) | exact RdW.rd (by assumption) (Holds.drop (Holds.drop (Holds.drop H))) | assumption) rfl ?_
      | refine VcL.loadN tabOk rfl rfl rfl rfl rfl rfl (by first | exact H | exact (Holds.f1 H) | exact (Holds.f2 H) | exact (Holds.f3 H) | exact (Holds.f4 H) | exact (Holds.f5 H) | exact (Holds.f6 H)) (by exact rfl) ?_
      | refine VcL.loadRowN0 tabOk rfl rfl rfl rfl rfl rfl H (fun _ => rfl) (by first | assumption | exact atD_get (by assumption)) (by exact rfl) (by exact rfl) (by exact rfl) ?_
      | refine VcL.loadRowN tabOk rfl rfl rfl rfl rfl rfl H (fun _ => rfl) (by first | assumption | exact atD_get (by assumption)) (by exact rfl) (by exact rfl) (by exact rfl) ?_
      | refine VcL.loadOwnN0 tabOk rfl rfl rfl rfl rfl rfl H (fun _ => rfl) (by first | assumption | exact atD_get (by assumption)) (by exact rfl) (by exact rfl) (by exact rfl) ?_
      | refine VcL.loadOwnN tabOk rfl rfl rfl rfl rfl rfl H (fun _ => rfl) (by first | assumption | exact atD_get (by assumption)) (by exact rfl) (by exact rfl) (by exact rfl) ?_
      | refine VcL.loadRowN0 tabOk rfl rfl rfl rfl rfl rfl (Holds.f1 H) (fun _ => rfl) (by first | assumption | exact atD_get (by assumption)) (by exact rfl) (by exact rfl) (by exact rfl) ?_
      | refine VcL.loadRowN tabOk rfl rfl rfl rfl rfl rfl (Holds.f1 H) (fun _ => rfl) (by first | assumption | exact atD_get (by assumption)) (by exact rfl) (by exact rfl) (by exact rfl) ?_
      | refine VcL.loadOwnN0 tabOk rfl rfl rfl rfl rfl rfl (Holds.f1 H) (fun _ => rfl) (by first | assumption | exact atD_get (by assumption)) (by exact rfl) (by exact rfl) (by exact rfl) ?_
      | refine VcL.loadOwnN tabOk rfl rfl rfl rfl rfl rfl (Holds.f1 H) (fun _ => rfl) (by first | assumption | exact atD_get (by assumption)) (by exact rfl) (by exact rfl) (by exact rfl) ?_
      | refine VcL.loadRowN0 tabOk rfl rfl rfl rfl rfl rfl (Holds.f2 H) (fun _ => rfl) (by first | assumption | exact atD_get (by assumption)) (by exact rfl) (by exact rfl) (by exact rfl) ?_
      | refine VcL.loadRowN tabOk rfl rfl rfl rfl rfl rfl (Holds.f2 H) (fun _ => rfl) (by first | assumption | exact atD_get (by assumption)) (by exact rfl) (by exact rfl) (by exact rfl) ?_
      | refine VcL.loadOwnN0 tabOk rfl rfl rfl rfl rfl rfl (Holds.f2 H) (fun _ => rfl) (by first | assumption | exact atD_get (by assumption)) (by exact rfl) (by exact rfl) (by exact rfl) ?_
      | refine VcL.loadOwnN tabOk rfl rfl rfl rfl rfl rfl (Holds.f2 H) (fun _ => rfl) (by first | assumption | exact atD_get (by assumption)) (by exact rfl) (by exact rfl) (by exact rfl) ?_
      | refine VcL.loadRowN0 tabOk rfl rfl rfl rfl rfl rfl (Holds.f3 H) (fun _ => rfl) (by first | assumption | exact atD_get (by assumption)) (by exact rfl) (by exact rfl) (by exact rfl) ?_
      | refine VcL.loadRowN tabOk rfl rfl rfl rfl rfl rfl (Holds.f3 H) (fun _ => rfl) (by first | assumption | exact atD_get (by assumption)) (by exact rfl) (by exact rfl) (by exact rfl) ?_
      | refine VcL.loadOwnN0 tabOk rfl rfl rfl rfl rfl rfl (Holds.f3 H) (fun _ => rfl) (by first | assumption | exact atD_get (by assumption)) (by exact rfl) (by exact rfl) (by exact rfl) ?_
      | refine VcL.loadOwnN tabOk rfl rfl rfl rfl rfl rfl (Holds.f3 H) (fun _ => rfl) (by first | assumption | exact atD_get (by assumption)) (by exact rfl) (by exact rfl) (by exact rfl) ?_
      | refine VcL.loadRowN0 tabOk rfl rfl rfl rfl rfl rfl (Holds.f4 H) (fun _ => rfl) (by first | assumption | exact atD_get (by assumption)) (by exact rfl) (by exact rfl) (by exact rfl) ?_
      | refine VcL.loadRowN tabOk rfl rfl rfl rfl rfl rfl (Holds.f4 H) (fun _ => rfl) (by first | assumption | exact atD_get (by assumption)) (by exact rfl) (by exact rfl) (by exact rfl) ?_
      | refine VcL.loadOwnN0 tabOk rfl rfl rfl rfl rfl rfl (Holds.f4 H) (fun _ => rfl) (by first | assumption | exact atD_get (by assumption)) (by exact rfl) (by exact rfl) (by exact rfl) ?_
      | refine VcL.loadOwnN tabOk rfl rfl rfl rfl rfl rfl (Holds.f4 H) (fun _ => rfl) (by first | assumption | exact atD_get (by assumption)) (by exact rfl) (by exact rfl) (by exact rfl) ?_)
      | (show VcL _ _ _ _ (⟨_, .binOp _ _ _ _ _, _, _, _, _⟩ :: _) _ _ _; first
      | refine VcL.shl rfl rfl (by first | assumption | rfl) rfl rfl rfl ?_
      | refine VcL.shr rfl rfl (by first | assumption | rfl) rfl rfl rfl ?_
      | refine VcL.eqS tabOk rfl rfl rfl rfl rfl rfl (by kernel_rfl) (by kernel_rfl) rfl rfl (by first | exact .inl rfl | exact .inr rfl) ?_)
      | (show VcL _ _ _ _ (⟨_, .indexAddr _ _ _, _, _, _, _⟩ :: _) _ _ _; first
      | refine VcL.indexAddr0 tabOk rfl rfl rfl rfl rfl rfl (by omega) (by omega) ?_
      | refine VcL.indexAddr tabOk rfl rfl rfl rfl rfl rfl (by omega) (by omega) ?_
      | refine VcL.indexArr0 tabOk rfl rfl rfl rfl rfl rfl (by omega) (by omega) ?_
      | refine VcL.indexArr tabOk rfl rfl rfl rfl rfl rfl (by omega) (by omega) ?_)
      | (refine VcL.guard rfl rfl rfl rfl (fun h => ?_) (fun h => ?_) <;> first | (cases h; done) | (exfalso; simp only [decide_eq_true_eq, decide_eq_false_iff_not, Bool.not_eq_true', Bool.not_eq_false'] at h; omega) | (with_reducible have hp := of_decide_eq_true h) | (with_reducible have hp := of_decide_eq_false h) | (with_reducible have hp := ndec_t h) | (with_reducible have hp := ndec_f h) | skip))
    | (show VcD _ _ _ _ _ _ _ _ _; first
      | refine VcD.pures tabOk rfl ?_
      | refine VcD.done ?_
      | (show VcD _ _ _ _ _ (.pure _ _) _ _ _; first
      | refine VcD.indexAddr0 tabOk rfl rfl rfl rfl rfl rfl rfl (by omega) (by omega) ?_
      | refine VcD.indexAddr tabOk rfl rfl rfl rfl rfl rfl rfl (by omega) (by omega) ?_
      | refine VcD.indexArr0 tabOk rfl rfl rfl rfl rfl rfl rfl (by omega) (by omega) ?_
      | refine VcD.indexArr tabOk rfl rfl rfl rfl rfl rfl rfl (by omega) (by omega) ?_
      | refine VcD.shl rfl rfl rfl (by first | assumption | rfl) rfl rfl rfl ?_
      | refine VcD.shr rfl rfl rfl (by first | assumption | rfl) rfl rfl rfl ?_
      | refine VcD.eqS tabOk rfl rfl rfl rfl rfl rfl rfl (by kernel_rfl) (by kernel_rfl) rfl rfl (by first | exact .inl rfl | exact .inr rfl) ?_
      | (refine VcD.guardP rfl rfl rfl rfl rfl (fun h => ?_) (fun h => ?_) <;> first | (cases h; done) | (exfalso; simp only [decide_eq_true_eq, decide_eq_false_iff_not, Bool.not_eq_true', Bool.not_eq_false'] at h; omega) | (with_reducible have hp := of_decide_eq_true h) | (with_reducible have hp := of_decide_eq_false h) | (with_reducible have hp := ndec_t h) | (with_reducible have hp := ndec_f h) | skip))
      | (show VcD _ _ _ _ _ (.take _ _) _ _ _; first
      | refine VcD.load1 tabOk rfl rfl rfl rfl rfl rfl (by intro w_ hw_; first | exact Holds.cell hw_ rfl | exact Holds.cell (Holds.f1 hw_) rfl | exact Holds.cell (Holds.f2 hw_) rfl | exact Holds.cell (Holds.f3 hw_) rfl | exact Holds.cell (Holds.f4 hw_) rfl | exact Holds.cell (Holds.f5 hw_) rfl | exact Holds.cell (Holds.f6 hw_) rfl | exact RdW.get (by assumption) rfl hw_ | exact RdW.get0 (by assumption) rfl hw_ | exact RdW.get (by assumption) rfl (Holds.drop hw_) | exact RdW.get0 (by assumption) rfl (Holds.drop hw_) | exact RdW.get (by assumption) rfl (Holds.drop (Holds.drop hw_)) | exact RdW.get0 (by assumption) rfl (Holds.drop (Holds.drop hw_)) | exact RdW.get (by assumption) rfl (Holds.drop (Holds.drop (Holds.drop hw_))) | exact RdW.get0 (by assumption) rfl (Holds.drop (Holds.drop (Holds.drop hw_))) | exact Holds.rowCell hw_ (fun _ => rfl) (by first | assumption | exact atD_get (by assumption)) rfl | exact Holds.rowCell0 hw_ (fun _ => rfl) (by first | assumption | exact atD_get (by assumption)) rfl | exact Holds.ownCell hw_ (fun _ => rfl) (by first | assumption | exact atD_get (by assumption)) rfl | exact Holds.ownCell0 hw_ (fun _ => rfl) (by first | assumption | exact atD_get (by assumption)) rfl | exact Holds.rowCell (Holds.f1 hw_) (fun _ => rfl) (by first | assumption | exact atD_get (by assumption)) rfl | exact Holds.rowCell0 (Holds.f1 hw_) (fun _ => rfl) (by first | assumption | exact atD_get (by assumption)) rfl | exact Holds.ownCell (Holds.f1 hw_) (fun _ => rfl) (by first | assumption | exact atD_get (by assumption)) rfl | exact Holds.ownCell0 (Holds.f1 hw_) (fun _ => rfl) (by first | assumption | exact atD_get (by assumption)) rfl | exact Holds.rowCell (Holds.f2 hw_) (fun _ => rfl) (by first | assumption | exact atD_get (by assumption)) rfl | exact Holds.rowCell0 (Holds.f2 hw_) (fun _ => rfl) (by first | assumption | exact atD_get (by assumption)) rfl | exact Holds.ownCell (Holds.f2 hw_) (fun _ => rfl) (by first | assumption | exact atD_get (by assumption)) rfl | exact Holds.ownCell0 (Holds.f2 hw_) (fun _ => rfl) (by first | assumption | exact atD_get (by assumption)) rfl | exact Holds.rowCell (Holds.f3 hw_) (fun _ => rfl) (by first | assumption | exact atD_get (by assumption)) rfl | exact Holds.rowCell0 (Holds.f3 hw_) (fun _ => rfl) (by first | assumption | exact atD_get (by assumption)) rfl | exact Holds.ownCell (Holds.f3 hw_) (fun _ => rfl) (by first | assumption | exact atD_get (by assumption)) rfl | exact Holds.ownCell0 (Holds.f3 hw_) (fun _ => rfl) (by first | assumption | exact atD_get (by assumption)) rfl | exact Holds.rowCell (Holds.f4 hw_) (fun _ => rfl) (by first | assumption | exact atD_get (by assumption)) rfl | exact Holds.rowCell0 (Holds.f4 hw_) (fun _ => rfl) (by first | assumption | exact atD_get (by assumption)) rfl | exact Holds.ownCell (Holds.f4 hw_) (fun _ => rfl) (by first | assumption | exact atD_get (by assumption)) rfl | exact Holds.ownCell0 (Holds.f4 hw_) (fun _ => rfl) (by first | assumption | exact atD_get (by assumption)) rfl | exact hw_ _ _ rfl | exact hw_ 0 _ rfl | exact hw_.1 _ _ rfl | exact hw_.1 0 _ rfl | exact hw_.2 _ _ rfl | exact hw_.2 0 _ rfl | assumption) (by exact rfl) ?_
      | refine VcD.loadR tabOk rfl rfl rfl rfl rfl rfl rfl (by intro w_ hw_; first | exact RdW.rd (by assumption) hw_ | exact RdW.rd (by assumption) (Holds.drop hw_) | exact RdW.rd (by assumption) (Holds.drop (Holds.drop hw_)) | exact RdW.rd (by assumption) (Holds.drop (Holds.drop (Holds.drop hw_))) | exact hw_.1 | exact hw_.2 | assumption) rfl ?_
      | refine VcD.loadRowN0 tabOk rfl rfl rfl rfl rfl rfl rfl (fun _ hw_ => hw_) (fun _ => rfl) (by first | assumption | exact atD_get (by assumption)) (by exact rfl) (by exact rfl) (by exact rfl) ?_
      | refine VcD.loadRowN tabOk rfl rfl rfl rfl rfl rfl rfl (fun _ hw_ => hw_) (fun _ => rfl) (by first | assumption | exact atD_get (by assumption)) (by exact rfl) (by exact rfl) (by exact rfl) ?_
      | refine VcD.loadRowN0 tabOk rfl rfl rfl rfl rfl rfl rfl (fun _ hw_ => (Holds.f1 hw_)) (fun _ => rfl) (by first | assumption | exact atD_get (by assumption)) (by exact rfl) (by exact rfl) (by exact rfl) ?_
      | refine VcD.loadRowN tabOk rfl rfl rfl rfl rfl rfl rfl (fun _ hw_ => (Holds.f1 hw_)) (fun _ => rfl) (by first | assumption | exact atD_get (by assumption)) (by exact rfl) (by exact rfl) (by exact rfl) ?_
      | refine VcD.loadRowN0 tabOk rfl rfl rfl rfl rfl rfl rfl (fun _ hw_ => (Holds.f2 hw_)) (fun _ => rfl) (by first | assumption | exact atD_get (by assumption)) (by exact rfl) (by exact rfl) (by exact rfl) ?_
      | refine VcD.loadRowN tabOk rfl rfl rfl rfl rfl rfl rfl (fun _ hw_ => (Holds.f2 hw_)) (fun _ => rfl) (by first | assumption | exact atD_get (by assumption)) (by exact rfl) (by exact rfl) (by exact rfl) ?_
      | refine VcD.loadRowN0 tabOk rfl rfl rfl rfl rfl rfl rfl (fun _ hw_ => (Holds.f3 hw_)) (fun _ => rfl) (by first | assumption | exact atD_get (by assumption)) (by exact rfl) (by exact rfl) (by exact rfl) ?_
      | refine VcD.loadRowN tabOk rfl rfl rfl rfl rfl rfl rfl (fun _ hw_ => (Holds.f3 hw_)) (fun _ => rfl) (by first | assumption | exact atD_get (by assumption)) (by exact rfl) (by exact rfl) (by exact rfl) ?_
      | refine VcD.loadRowN0 tabOk rfl rfl rfl rfl rfl rfl rfl (fun _ hw_ => (Holds.f4 hw_)) (fun _ => rfl) (by first | assumption | exact atD_get (by assumption)) (by exact rfl) (by exact rfl) (by exact rfl) ?_
      | refine VcD.loadRowN tabOk rfl rfl rfl rfl rfl rfl rfl (fun _ hw_ => (Holds.f4 hw_)) (fun _ => rfl) (by first | assumption | exact atD_get (by assumption)) (by exact rfl) (by exact rfl) (by exact rfl) ?_
      | refine VcD.loadN tabOk rfl rfl rfl rfl rfl rfl rfl (by intro w_ hw_; first | exact hw_ | exact (Holds.f1 hw_) | exact (Holds.f2 hw_) | exact (Holds.f3 hw_) | exact (Holds.f4 hw_) | exact (Holds.f5 hw_) | exact (Holds.f6 hw_)) (by exact rfl) ?_
      | refine VcD.skipT rfl rfl rfl ?_
      | (refine VcD.guardT rfl rfl rfl rfl rfl (fun h => ?_) (fun h => ?_) <;> first | (cases h; done) | (exfalso; simp only [decide_eq_true_eq, decide_eq_false_iff_not, Bool.not_eq_true', Bool.not_eq_false'] at h; omega) | (with_reducible have hp := of_decide_eq_true h) | (with_reducible have hp := of_decide_eq_false h) | (with_reducible have hp := ndec_t h) | (with_reducible have hp := ndec_f h) | skip))
      | (show VcD _ _ _ _ _ (.only _ _) _ _ _; first
      | refine VcD.skip rfl rfl rfl (by first | exact H | exact Holds.drop H | exact Holds.drop (Holds.drop H)) ?_
      | (refine VcD.guardO rfl rfl rfl rfl rfl (fun h => ?_) (fun h => ?_) <;> first | (cases h; done) | (exfalso; simp only [decide_eq_true_eq, decide_eq_false_iff_not, Bool.not_eq_true', Bool.not_eq_false'] at h; omega) | (with_reducible have hp := of_decide_eq_true h) | (with_reducible have hp := of_decide_eq_false h) | (with_reducible have hp := ndec_t h) | (with_reducible have hp := ndec_f h) | skip))
      | (show VcD _ _ _ _ _ (.two _ _ _ _) _ _ _; refine VcD.two ?_ ?_))
    | (show Vc _ _ _ _ _ _; first
      | refine Vc.seq ?_
      | refine Vc.region ?_
      | refine Vc.condT rfl ?_
      | refine Vc.condF rfl ?_
      | refine Vc.ret ?_
      | refine Vc.skip ?_
      | refine Vc.block ?_
      | refine Vc.exit ?_
      | refine Vc.drawnH (id := 1) H (.pure 0 (.pure 1 (.pure 2 (.pure 5 (.pure 6 (.pure 7 (.take 3 (.pure 4 (.take 8 (.pure 9 (.pure 10 (.pure 11 (.pure 12 (.pure 13 (.pure 14 (.pure 17 (.pure 18 (.pure 19 (.take 15 (.pure 16 (.take 20 (.pure 21 (.pure 22 (.pure 23 (.pure 24 (.pure 25 (.pure 26 (.pure 27 (.pure 29 (.pure 30 (.pure 31 (.take 28 (.take 32 (.pure 33 (.pure 34 (.pure 35 (.pure 36 (.pure 37 (.pure 38 (.pure 40 (.pure 41 (.pure 42 (.take 39 (.take 43 (.pure 44 (.pure 45 .done)))))))))))))))))))))))))))))))))))))))))))))) mixed (by kernel_rfl) (fun w H => ?_)
      | refine Vc.drawnH (id := 6) H (.pure 0 (.pure 1 (.pure 2 (.pure 4 (.pure 8 (.pure 9 (.pure 10 (.pure 12 (.take 3 (.pure 5 (.take 6 (.take 11 (.pure 13 (.take 14 (.two 7 15 (.only 15 (.pure 16 .done)) (.only 7 (.pure 16 .done))))))))))))))))) mixed (by kernel_rfl) (fun w H => ?_)
      | refine Vc.drawnH (id := 11) H (.pure 0 (.pure 1 (.pure 2 (.pure 4 (.pure 8 (.pure 9 (.pure 10 (.pure 12 (.take 3 (.pure 5 (.pure 6 (.take 7 (.take 11 (.pure 13 (.pure 14 (.take 15 (.pure 16 (.pure 17 (.pure 18 (.pure 19 (.pure 20 (.pure 22 (.pure 27 (.pure 28 (.pure 29 (.pure 31 (.take 21 (.pure 23 (.pure 24 (.take 25 (.take 30 (.pure 32 (.pure 33 (.take 34 (.two 26 35 (.only 35 (.pure 36 (.pure 37 .done))) (.only 26 (.pure 36 (.pure 37 .done)))))))))))))))))))))))))))))))))))))) mixed (by kernel_rfl) (fun w H => ?_)
      | (refine Vc.cond rfl (fun h => ?_) (fun h => ?_) <;> first | (cases h; done) | (exfalso; simp only [decide_eq_true_eq, decide_eq_false_iff_not, Bool.not_eq_true', Bool.not_eq_false'] at h; omega) | (with_reducible have hp := of_decide_eq_true h) | (with_reducible have hp := of_decide_eq_false h) | (with_reducible have hp := ndec_t h) | (with_reducible have hp := ndec_f h) | skip))
    | (show KSeq _ _ _ _ _ _ _; first
      | refine KSeq.normal ?_
      | refine KSeq.ret ?_
      | refine KSeq.exit ?_)
    | (show KBlock _ _ _ _ _ _; first
      | refine KBlock.normal ?_
      | refine KBlock.here ?_
      | refine KBlock.on rfl ?_
      | refine KBlock.ret ?_)
    | refine KLoop.exit ?_
    | refine KLoop.ret ?_
    | refine KCut.exit ?_
    | refine KCut.ret ?_
    | (show KEnd _ _ _ _ _ _ _; first
      | refine KEnd.fin (Or.inr rfl) ⟨_, (ResL.tmp rfl ResL.nil), ?_⟩
      | refine KEnd.fin (Or.inl rfl) ⟨_, (ResL.tmp rfl ResL.nil), ?_⟩))
  all_goals first
    | exact ⟨by rw [decide_eq_false (fun e => by have := congrArg List.length e; simp only [List.length_map] at this; omega)]; simp [resVal], hst _ H⟩
    | exact ⟨by rw [decide_eq_false (show ¬ P.writes = Q.writes by omega)]; simp [resVal], hst _ H⟩
    | exact ⟨by rw [decide_eq_false (show ¬ P.stop = Q.stop by omega)]; simp [resVal], hst _ H⟩
    | exact ⟨by rw [Bool.and_comm (decide (snds P.bl = snds Q.bl)), decide_eq_false (p := prs P.wt = prs Q.wt) (fun e => by have := congrArg List.length e; simp only [List.length_map] at this; omega)]; simp [resVal], hst _ H⟩
    | skip
  have hw1 : P.writes = Q.writes := by omega
  have hs1 : P.stop = Q.stop := by omega
  have hl1 : P.bl.length = Q.bl.length := by omega
  have hl2 : P.wt.length = Q.wt.length := by omega
  rw [decide_eq_true hw1, decide_eq_true hs1, Bool.and_true, Bool.and_true]
  refine Vc.loopS [(0, _), (1, _)] (fun k : Nat => [(5, .int .i64 k)]) (fun k w => k ≤ P.bl.length ∧ (∀ j, j < k → (atD P.bl j).2 = (atD Q.bl j).2) ∧ Holds I w (blk a 88 (rkV P (.slice (some ⟨b1, o1, none⟩) P.bl.length cap1) (.slice A2 P.wt.length cap2)) :: own (.slice (some ⟨b1, o1, none⟩) P.bl.length cap1) 22 1 P.bl.length (P.bl.flatMap bkC) :: own (.slice A2 P.wt.length cap2) 86 2 P.wt.length (P.wt.flatMap wkC) :: blk c 88 (rkV Q (.slice (some ⟨b3, o3, none⟩) Q.bl.length cap3) (.slice A4 Q.wt.length cap4)) :: own (.slice (some ⟨b3, o3, none⟩) Q.bl.length cap3) 22 1 Q.bl.length (Q.bl.flatMap bkC) :: own (.slice A4 Q.wt.length cap4) 86 2 Q.wt.length (Q.wt.flatMap wkC) :: L)) (fun k _ => P.bl.length - k) 0 ⟨rfl, trivial⟩ ⟨rfl, rfl, trivial⟩ ⟨Nat.zero_le _, fun j hj => absurd hj (by omega), H⟩ ?_
  clear H
  rintro k w ⟨hk1, hall, H⟩
  by_cases hlt : k < P.bl.length
  · have hq1 : P.bl[k]? = some (atD P.bl k) := atD_get hlt
    have hq2 : Q.bl[k]? = some (atD Q.bl k) := atD_get (by omega)
    have hx1 := hf _ (List.mem_append_left _ (atD_mem hlt))
    have hy1 := hg _ (List.mem_append_left _ (atD_mem (show k < Q.bl.length by omega)))
    have hne := map_ne_of (f := fun x : Vb => x.2) hlt (show k < Q.bl.length by omega)
    obtain ⟨x, hxe⟩ : ∃ x, atD P.bl k = x := ⟨_, rfl⟩
    obtain ⟨y, hye⟩ : ∃ y, atD Q.bl k = y := ⟨_, rfl⟩
    rw [hxe] at hx1 hne hq1
    rw [hye] at hy1 hne hq2
    obtain ⟨xv, xd⟩ := x
    obtain ⟨yv, yd⟩ := y
    dsimp only at hne
    have hx1 : SlI I xv 1 xd.length (byL xd) := hx1
    have hy1 : SlI I yv 1 yd.length (byL yd) := hy1
    obtain ⟨A5, c5, rfl, hc5⟩ := hx1.form
    obtain ⟨A6, c6, rfl, hc6⟩ := hy1.form
    repeat' (first
      | (refine EfO.eff rfl rfl rfl rfl (OpE.ofBytes (m := xd.length) (bs := xd) tabOk rfl rfl rfl rfl rfl rfl rfl rfl (SlR.src (SlI.toR hx1) H) ⟨_, _, rfl⟩) ?_; rintro _ w ⟨rfl, he⟩; subst he; refine ⟨H, ?_⟩)
      | (refine VcD.eff rfl rfl rfl rfl (OpE.ofBytes (m := xd.length) (bs := xd) tabOk rfl rfl rfl rfl rfl rfl rfl rfl (SlR.src (SlI.toR hx1) H) ⟨_, _, rfl⟩) ?_; rintro _ w ⟨rfl, he⟩; subst he; refine ⟨H, ?_⟩)
      | (refine EfO.eff rfl rfl rfl rfl (OpE.ofBytes (m := yd.length) (bs := yd) tabOk rfl rfl rfl rfl rfl rfl rfl rfl (SlR.src (SlI.toR hy1) H) ⟨_, _, rfl⟩) ?_; rintro _ w ⟨rfl, he⟩; subst he; refine ⟨H, ?_⟩)
      | (refine VcD.eff rfl rfl rfl rfl (OpE.ofBytes (m := yd.length) (bs := yd) tabOk rfl rfl rfl rfl rfl rfl rfl rfl (SlR.src (SlI.toR hy1) H) ⟨_, _, rfl⟩) ?_; rintro _ w ⟨rfl, he⟩; subst he; refine ⟨H, ?_⟩)
      | rw [str_ne]
      | (show VcL _ _ _ _ _ _ _ _; first
      | refine VcL.pures tabOk rfl ?_
      | refine VcL.nil ?_
      | (show VcL _ _ _ _ (⟨_, .load _ _, _, _, _, _⟩ :: _) _ _ _; first
      | refine VcL.load1 tabOk rfl rfl rfl rfl rfl (by first | exact Holds.cell H rfl | exact Holds.cell (Holds.f1 H) rfl | exact Holds.cell (Holds.f2 H) rfl | exact Holds.cell (Holds.f3 H) rfl | exact Holds.cell (Holds.f4 H) rfl | exact Holds.cell (Holds.f5 H) rfl | exact Holds.cell (Holds.f6 H) rfl | exact RdW.get (by assumption) rfl H | exact RdW.get0 (by assumption) rfl H | exact RdW.get (by assumption) rfl (Holds.drop H) | exact RdW.get0 (by assumption) rfl (Holds.drop H) | exact RdW.get (by assumption) rfl (Holds.drop (Holds.drop H)) | exact RdW.get0 (by assumption) rfl (Holds.drop (Holds.drop H)) | exact RdW.get (by assumption) rfl (Holds.drop (Holds.drop (Holds.drop H))) | exact RdW.get0 (by assumption) rfl (Holds.drop (Holds.drop (Holds.drop H))) | exact Holds.rowCell H (fun _ => rfl) (by first | assumption | exact atD_get (by assumption)) rfl | exact Holds.rowCell0 H (fun _ => rfl) (by first | assumption | exact atD_get (by assumption)) rfl | exact Holds.ownCell H (fun _ => rfl) (by first | assumption | exact atD_get (by assumption)) rfl | exact Holds.ownCell0 H (fun _ => rfl) (by first | assumption | exact atD_get (by assumption)) rfl | exact Holds.rowCell (Holds.f1 H) (fun _ => rfl) (by first | assumption | exact atD_get (by assumption)) rfl | exact Holds.rowCell0 (Holds.f1 H) (fun _ => rfl) (by first | assumption | exact atD_get (by assumption)) rfl | exact Holds.ownCell (Holds.f1 H) (fun _ => rfl) (by first | assumption | exact atD_get (by assumption)) rfl | exact Holds.ownCell0 (Holds.f1 H) (fun _ => rfl) (by first | assumption | exact atD_get (by assumption)) rfl | exact Holds.rowCell (Holds.f2 H) (fun _ => rfl) (by first | assumption | exact atD_get (by assumption)) rfl | exact Holds.rowCell0 (Holds.f2 H) (fun _ => rfl) (by first | assumption | exact atD_get (by assumption)) rfl | exact Holds.ownCell (Holds.f2 H) (fun _ => rfl) (by first | assumption | exact atD_get (by assumption)) rfl | exact Holds.ownCell0 (Holds.f2 H) (fun _ => rfl) (by first | assumption | exact atD_get (by assumption)) rfl | exact Holds.rowCell (Holds.f3 H) (fun _ => rfl) (by first | assumption | exact atD_get (by assumption)) rfl | exact Holds.rowCell0 (Holds.f3 H) (fun _ => rfl) (by first | assumption | exact atD_get (by assumption)) rfl | exact Holds.ownCell (Holds.f3 H) (fun _ => rfl) (by first | assumption | exact atD_get (by assumption)) rfl | exact Holds.ownCell0 (Holds.f3 H) (fun _ => rfl) (by first | assumption | exact atD_get (by assumption)) rfl | exact Holds.rowCell (Holds.f4 H) (fun _ => rfl) (by first | assumption | exact atD_get (by assumption)) rfl | exact Holds.rowCell0 (Holds.f4 H) (fun _ => rfl) (by first | assumption | exact atD_get (by assumption)) rfl | exact Holds.ownCell (Holds.f4 H) (fun _ => rfl) (by first | assumption | exact atD_get (by assumption)) rfl | exact Holds.ownCell0 (Holds.f4 H) (fun _ => rfl) (by first | assumption | exact atD_get (by assumption)) rfl | assumption) ?_
      | refine VcL.loadR tabOk rfl rfl rfl rfl rfl rfl (by first | exact RdW.rd (by assumption) H | exact RdW.rd (by assumption) (Holds.drop H) | exact RdW.rd (by assumption) (Holds.drop (Holds.drop H)) | exact RdW.rd (by assumption) (Holds.drop (Holds.drop (Holds.drop H))) | assumption) rfl ?_
      | refine VcL.loadN tabOk rfl rfl rfl rfl rfl rfl (by first | exact H | exact (Holds.f1 H) | exact (Holds.f2 H) | exact (Holds.f3 H) | exact (Holds.f4 H) | exact (Holds.f5 H) | exact (Holds.f6 H)) (by exact rfl) ?_
      | refine VcL.loadRowN0 tabOk rfl rfl rfl rfl rfl rfl H (fun _ => rfl) (by first | assumption | exact atD_get (by assumption)) (by exact rfl) (by exact rfl) (by exact rfl) ?_
      | refine VcL.loadRowN tabOk rfl rfl rfl rfl rfl rfl H (fun _ => rfl) (by first | assumption | exact atD_get (by assumption)) (by exact rfl) (by exact rfl) (by exact rfl) ?_
      | refine VcL.loadOwnN0 tabOk rfl rfl rfl rfl rfl rfl H (fun _ => rfl) (by first | assumption | exact atD_get (by assumption)) (by exact rfl) (by exact rfl) (by exact rfl) ?_
      | refine VcL.loadOwnN tabOk rfl rfl rfl rfl rfl rfl H (fun _ => rfl) (by first | assumption | exact atD_get (by assumption)) (by exact rfl) (by exact rfl) (by exact rfl) ?_
      | refine VcL.loadRowN0 tabOk rfl rfl rfl rfl rfl rfl (Holds.f1 H) (fun _ => rfl) (by first | assumption | exact atD_get (by assumption)) (by exact rfl) (by exact rfl) (by exact rfl) ?_
      | refine VcL.loadRowN tabOk rfl rfl rfl rfl rfl rfl (Holds.f1 H) (fun _ => rfl) (by first | assumption | exact atD_get (by assumption)) (by exact rfl) (by exact rfl) (by exact rfl) ?_
      | refine VcL.loadOwnN0 tabOk rfl rfl rfl rfl rfl rfl (Holds.f1 H) (fun _ => rfl) (by first | assumption | exact atD_get (by assumption)) (by exact rfl) (by exact rfl) (by exact rfl) ?_
      | refine VcL.loadOwnN tabOk rfl rfl rfl rfl rfl rfl (Holds.f1 H) (fun _ => rfl) (by first | assumption | exact atD_get (by assumption)) (by exact rfl) (by exact rfl) (by exact rfl) ?_
      | refine VcL.loadRowN0 tabOk rfl rfl rfl rfl rfl rfl (Holds.f2 H) (fun _ => rfl) (by first | assumption | exact atD_get (by assumption)) (by exact rfl) (by exact rfl) (by exact rfl) ?_
      | refine VcL.loadRowN tabOk rfl rfl rfl rfl rfl rfl (Holds.f2 H) (fun _ => rfl) (by first | assumption | exact atD_get (by assumption)) (by exact rfl) (by exact rfl) (by exact rfl) ?_
      | refine VcL.loadOwnN0 tabOk rfl rfl rfl rfl rfl rfl (Holds.f2 H) (fun _ => rfl) (by first | assumption | exact atD_get (by assumption)) (by exact rfl) (by exact rfl) (by exact rfl) ?_
      | refine VcL.loadOwnN tabOk rfl rfl rfl rfl rfl rfl (Holds.f2 H) (fun _ => rfl) (by first | assumption | exact atD_get (by assumption)) (by exact rfl) (by exact rfl) (by exact rfl) ?_
      | refine VcL.loadRowN0 tabOk rfl rfl rfl rfl rfl rfl (Holds.f3 H) (fun _ => rfl) (by first | assumption | exact atD_get (by assumption)) (by exact rfl) (by exact rfl) (by exact rfl) ?_
      | refine VcL.loadRowN tabOk rfl rfl rfl rfl rfl rfl (Holds.f3 H) (fun _ => rfl) (by first | assumption | exact atD_get (by assumption)) (by exact rfl) (by exact rfl) (by exact rfl) ?_
      | refine VcL.loadOwnN0 tabOk rfl rfl rfl rfl rfl rfl (Holds.f3 H) (fun _ => rfl) (by first | assumption | exact atD_get (by assumption)) (by exact rfl) (by exact rfl) (by exact rfl) ?_
      | refine VcL.loadOwnN tabOk rfl rfl rfl rfl rfl rfl (Holds.f3 H) (fun _ => rfl) (by first | assumption | exact atD_get (by assumption)) (by exact rfl) (by exact rfl) (by exact rfl) ?_
      | refine VcL.loadRowN0 tabOk rfl rfl rfl rfl rfl rfl (Holds.f4 H) (fun _ => rfl) (by first | assumption | exact atD_get (by assumption)) (by exact rfl) (by exact rfl) (by exact rfl) ?_
      | refine VcL.loadRowN tabOk rfl rfl rfl rfl rfl rfl (Holds.f4 H) (fun _ => rfl) (by first | assumption | exact atD_get (by assumption)) (by exact rfl) (by exact rfl) (by exact rfl) ?_
      | refine VcL.loadOwnN0 tabOk rfl rfl rfl rfl rfl rfl (Holds.f4 H) (fun _ => rfl) (by first | assumption | exact atD_get (by assumption)) (by exact rfl) (by exact rfl) (by exact rfl) ?_
      | refine VcL.loadOwnN tabOk rfl rfl rfl rfl rfl rfl (Holds.f4 H) (fun _ => rfl) (by first | assumption | exact atD_get (by assumption)) (by exact rfl) (by exact rfl) (by exact rfl) ?_)
      | (show VcL _ _ _ _ (⟨_, .binOp _ _ _ _ _, _, _, _, _⟩ :: _) _ _ _; first
      | refine VcL.shl rfl rfl (by first | assumption | rfl) rfl rfl rfl ?_
      | refine VcL.shr rfl rfl (by first | assumption | rfl) rfl rfl rfl ?_
      | refine VcL.eqS tabOk rfl rfl rfl rfl rfl rfl (by kernel_rfl) (by kernel_rfl) rfl rfl (by first | exact .inl rfl | exact .inr rfl) ?_)
      | (show VcL _ _ _ _ (⟨_, .indexAddr _ _ _, _, _, _, _⟩ :: _) _ _ _; first
      | refine VcL.indexAddr0 tabOk rfl rfl rfl rfl rfl rfl (by omega) (by omega) ?_
      | refine VcL.indexAddr tabOk rfl rfl rfl rfl rfl rfl (by omega) (by omega) ?_
      | refine VcL.indexArr0 tabOk rfl rfl rfl rfl rfl rfl (by omega) (by omega) ?_
      | refine VcL.indexArr tabOk rfl rfl rfl rfl rfl rfl (by omega) (by omega) ?_)
      | (refine VcL.guard rfl rfl rfl rfl (fun h => ?_) (fun h => ?_) <;> first | (cases h; done) | (exfalso; simp only [decide_eq_true_eq, decide_eq_false_iff_not, Bool.not_eq_true', Bool.not_eq_false'] at h; omega) | (with_reducible have hp := of_decide_eq_true h) | (with_reducible have hp := of_decide_eq_false h) | (with_reducible have hp := ndec_t h) | (with_reducible have hp := ndec_f h) | skip))
      | (show VcD _ _ _ _ _ _ _ _ _; first
      | refine VcD.pures tabOk rfl ?_
      | refine VcD.done ?_
      | (show VcD _ _ _ _ _ (.pure _ _) _ _ _; first
      | refine VcD.indexAddr0 tabOk rfl rfl rfl rfl rfl rfl rfl (by omega) (by omega) ?_
      | refine VcD.indexAddr tabOk rfl rfl rfl rfl rfl rfl rfl (by omega) (by omega) ?_
      | refine VcD.indexArr0 tabOk rfl rfl rfl rfl rfl rfl rfl (by omega) (by omega) ?_
      | refine VcD.indexArr tabOk rfl rfl rfl rfl rfl rfl rfl (by omega) (by omega) ?_
      | refine VcD.shl rfl rfl rfl (by first | assumption | rfl) rfl rfl rfl ?_
      | refine VcD.shr rfl rfl rfl (by first | assumption | rfl) rfl rfl rfl ?_
      | refine VcD.eqS tabOk rfl rfl rfl rfl rfl rfl rfl (by kernel_rfl) (by kernel_rfl) rfl rfl (by first | exact .inl rfl | exact .inr rfl) ?_
      | (refine VcD.guardP rfl rfl rfl rfl rfl (fun h => ?_) (fun h => ?_) <;> first | (cases h; done) | (exfalso; simp only [decide_eq_true_eq, decide_eq_false_iff_not, Bool.not_eq_true', Bool.not_eq_false'] at h; omega) | (with_reducible have hp := of_decide_eq_true h) | (with_reducible have hp := of_decide_eq_false h) | (with_reducible have hp := ndec_t h) | (with_reducible have hp := ndec_f h) | skip))
      | (show VcD _ _ _ _ _ (.take _ _) _ _ _; first
      | refine VcD.load1 tabOk rfl rfl rfl rfl rfl rfl (by intro w_ hw_; first | exact Holds.cell hw_ rfl | exact Holds.cell (Holds.f1 hw_) rfl | exact Holds.cell (Holds.f2 hw_) rfl | exact Holds.cell (Holds.f3 hw_) rfl | exact Holds.cell (Holds.f4 hw_) rfl | exact Holds.cell (Holds.f5 hw_) rfl | exact Holds.cell (Holds.f6 hw_) rfl | exact RdW.get (by assumption) rfl hw_ | exact RdW.get0 (by assumption) rfl hw_ | exact RdW.get (by assumption) rfl (Holds.drop hw_) | exact RdW.get0 (by assumption) rfl (Holds.drop hw_) | exact RdW.get (by assumption) rfl (Holds.drop (Holds.drop hw_)) | exact RdW.get0 (by assumption) rfl (Holds.drop (Holds.drop hw_)) | exact RdW.get (by assumption) rfl (Holds.drop (Holds.drop (Holds.drop hw_))) | exact RdW.get0 (by assumption) rfl (Holds.drop (Holds.drop (Holds.drop hw_))) | exact Holds.rowCell hw_ (fun _ => rfl) (by first | assumption | exact atD_get (by assumption)) rfl | exact Holds.rowCell0 hw_ (fun _ => rfl) (by first | assumption | exact atD_get (by assumption)) rfl | exact Holds.ownCell hw_ (fun _ => rfl) (by first | assumption | exact atD_get (by assumption)) rfl | exact Holds.ownCell0 hw_ (fun _ => rfl) (by first | assumption | exact atD_get (by assumption)) rfl | exact Holds.rowCell (Holds.f1 hw_) (fun _ => rfl) (by first | assumption | exact atD_get (by assumption)) rfl | exact Holds.rowCell0 (Holds.f1 hw_) (fun _ => rfl) (by first | assumption | exact atD_get (by assumption)) rfl | exact Holds.ownCell (Holds.f1 hw_) (fun _ => rfl) (by first | assumption | exact atD_get (by assumption)) rfl | exact Holds.ownCell0 (Holds.f1 hw_) (fun _ => rfl) (by first | assumption | exact atD_get (by assumption)) rfl | exact Holds.rowCell (Holds.f2 hw_) (fun _ => rfl) (by first | assumption | exact atD_get (by assumption)) rfl | exact Holds.rowCell0 (Holds.f2 hw_) (fun _ => rfl) (by first | assumption | exact atD_get (by assumption)) rfl | exact Holds.ownCell (Holds.f2 hw_) (fun _ => rfl) (by first | assumption | exact atD_get (by assumption)) rfl | exact Holds.ownCell0 (Holds.f2 hw_) (fun _ => rfl) (by first | assumption | exact atD_get (by assumption)) rfl | exact Holds.rowCell (Holds.f3 hw_) (fun _ => rfl) (by first | assumption | exact atD_get (by assumption)) rfl | exact Holds.rowCell0 (Holds.f3 hw_) (fun _ => rfl) (by first | assumption | exact atD_get (by assumption)) rfl | exact Holds.ownCell (Holds.f3 hw_) (fun _ => rfl) (by first | assumption | exact atD_get (by assumption)) rfl | exact Holds.ownCell0 (Holds.f3 hw_) (fun _ => rfl) (by first | assumption | exact atD_get (by assumption)) rfl | exact Holds.rowCell (Holds.f4 hw_) (fun _ => rfl) (by first | assumption | exact atD_get (by assumption)) rfl | exact Holds.rowCell0 (Holds.f4 hw_) (fun _ => rfl) (by first | assumption | exact atD_get (by assumption)) rfl | exact Holds.ownCell (Holds.f4 hw_) (fun _ => rfl) (by first | assumption | exact atD_get (by assumption)) rfl | exact Holds.ownCell0 (Holds.f4 hw_) (fun _ => rfl) (by first | assumption | exact atD_get (by assumption)) rfl | exact hw_ _ _ rfl | exact hw_ 0 _ rfl | exact hw_.1 _ _ rfl | exact hw_.1 0 _ rfl | exact hw_.2 _ _ rfl | exact hw_.2 0 _ rfl | assumption) (by exact rfl) ?_
      | refine VcD.loadR tabOk rfl rfl rfl rfl rfl rfl rfl (by intro w_ hw_; first | exact RdW.rd (by assumption) hw_ | exact RdW.rd (by assumption) (Holds.drop hw_) | exact RdW.rd (by assumption) (Holds.drop (Holds.drop hw_)) | exact RdW.rd (by assumption) (Holds.drop (Holds.drop (Holds.drop hw_))) | exact hw_.1 | exact hw_.2 | assumption) rfl ?_
      | refine VcD.loadRowN0 tabOk rfl rfl rfl rfl rfl rfl rfl (fun _ hw_ => hw_) (fun _ => rfl) (by first | assumption | exact atD_get (by assumption)) (by exact rfl) (by exact rfl) (by exact rfl) ?_
      | refine VcD.loadRowN tabOk rfl rfl rfl rfl rfl rfl rfl (fun _ hw_ => hw_) (fun _ => rfl) (by first | assumption | exact atD_get (by assumption)) (by exact rfl) (by exact rfl) (by exact rfl) ?_
      | refine VcD.loadRowN0 tabOk rfl rfl rfl rfl rfl rfl rfl (fun _ hw_ => (Holds.f1 hw_)) (fun _ => rfl) (by first | assumption | exact atD_get (by assumption)) (by exact rfl) (by exact rfl) (by exact rfl) ?_
      | refine VcD.loadRowN tabOk rfl rfl rfl rfl rfl rfl rfl (fun _ hw_ => (Holds.f1 hw_)) (fun _ => rfl) (by first | assumption | exact atD_get (by assumption)) (by exact rfl) (by exact rfl) (by exact rfl) ?_
      | refine VcD.loadRowN0 tabOk rfl rfl rfl rfl rfl rfl rfl (fun _ hw_ => (Holds.f2 hw_)) (fun _ => rfl) (by first | assumption | exact atD_get (by assumption)) (by exact rfl) (by exact rfl) (by exact rfl) ?_
      | refine VcD.loadRowN tabOk rfl rfl rfl rfl rfl rfl rfl (fun _ hw_ => (Holds.f2 hw_)) (fun _ => rfl) (by first | assumption | exact atD_get (by assumption)) (by exact rfl) (by exact rfl) (by exact rfl) ?_
      | refine VcD.loadRowN0 tabOk rfl rfl rfl rfl rfl rfl rfl (fun _ hw_ => (Holds.f3 hw_)) (fun _ => rfl) (by first | assumption | exact atD_get (by assumption)) (by exact rfl) (by exact rfl) (by exact rfl) ?_
      | refine VcD.loadRowN tabOk rfl rfl rfl rfl rfl rfl rfl (fun _ hw_ => (Holds.f3 hw_)) (fun _ => rfl) (by first | assumption | exact atD_get (by assumption)) (by exact rfl) (by exact rfl) (by exact rfl) ?_
      | refine VcD.loadRowN0 tabOk rfl rfl rfl rfl rfl rfl rfl (fun _ hw_ => (Holds.f4 hw_)) (fun _ => rfl) (by first | assumption | exact atD_get (by assumption)) (by exact rfl) (by exact rfl) (by exact rfl) ?_
      | refine VcD.loadRowN tabOk rfl rfl rfl rfl rfl rfl rfl (fun _ hw_ => (Holds.f4 hw_)) (fun _ => rfl) (by first | assumption | exact atD_get (by assumption)) (by exact rfl) (by exact rfl) (by exact rfl) ?_
      | refine VcD.loadN tabOk rfl rfl rfl rfl rfl rfl rfl (by intro w_ hw_; first | exact hw_ | exact (Holds.f1 hw_) | exact (Holds.f2 hw_) | exact (Holds.f3 hw_) | exact (Holds.f4 hw_) | exact (Holds.f5 hw_) | exact (Holds.f6 hw_)) (by exact rfl) ?_
      | refine VcD.skipT rfl rfl rfl ?_
      | (refine VcD.guardT rfl rfl rfl rfl rfl (fun h => ?_) (fun h => ?_) <;> first | (cases h; done) | (exfalso; simp only [decide_eq_true_eq, decide_eq_false_iff_not, Bool.not_eq_true', Bool.not_eq_false'] at h; omega) | (with_reducible have hp := of_decide_eq_true h) | (with_reducible have hp := of_decide_eq_false h) | (with_reducible have hp := ndec_t h) | (with_reducible have hp := ndec_f h) | skip))
      | (show VcD _ _ _ _ _ (.only _ _) _ _ _; first
      | refine VcD.skip rfl rfl rfl (by first | exact H | exact Holds.drop H | exact Holds.drop (Holds.drop H)) ?_
      | (refine VcD.guardO rfl rfl rfl rfl rfl (fun h => ?_) (fun h => ?_) <;> first | (cases h; done) | (exfalso; simp only [decide_eq_true_eq, decide_eq_false_iff_not, Bool.not_eq_true', Bool.not_eq_false'] at h; omega) | (with_reducible have hp := of_decide_eq_true h) | (with_reducible have hp := of_decide_eq_false h) | (with_reducible have hp := ndec_t h) | (with_reducible have hp := ndec_f h) | skip))
      | (show VcD _ _ _ _ _ (.two _ _ _ _) _ _ _; refine VcD.two ?_ ?_))
      | (show Vc _ _ _ _ _ _; first
      | refine Vc.seq ?_
      | refine Vc.region ?_
      | refine Vc.condT rfl ?_
      | refine Vc.condF rfl ?_
      | refine Vc.ret ?_
      | refine Vc.skip ?_
      | refine Vc.block ?_
      | refine Vc.exit ?_
      | refine Vc.drawnH (id := 1) H (.pure 0 (.pure 1 (.pure 2 (.pure 5 (.pure 6 (.pure 7 (.take 3 (.pure 4 (.take 8 (.pure 9 (.pure 10 (.pure 11 (.pure 12 (.pure 13 (.pure 14 (.pure 17 (.pure 18 (.pure 19 (.take 15 (.pure 16 (.take 20 (.pure 21 (.pure 22 (.pure 23 (.pure 24 (.pure 25 (.pure 26 (.pure 27 (.pure 29 (.pure 30 (.pure 31 (.take 28 (.take 32 (.pure 33 (.pure 34 (.pure 35 (.pure 36 (.pure 37 (.pure 38 (.pure 40 (.pure 41 (.pure 42 (.take 39 (.take 43 (.pure 44 (.pure 45 .done)))))))))))))))))))))))))))))))))))))))))))))) mixed (by kernel_rfl) (fun w H => ?_)
      | refine Vc.drawnH (id := 6) H (.pure 0 (.pure 1 (.pure 2 (.pure 4 (.pure 8 (.pure 9 (.pure 10 (.pure 12 (.take 3 (.pure 5 (.take 6 (.take 11 (.pure 13 (.take 14 (.two 7 15 (.only 15 (.pure 16 .done)) (.only 7 (.pure 16 .done))))))))))))))))) mixed (by kernel_rfl) (fun w H => ?_)
      | refine Vc.drawnH (id := 11) H (.pure 0 (.pure 1 (.pure 2 (.pure 4 (.pure 8 (.pure 9 (.pure 10 (.pure 12 (.take 3 (.pure 5 (.pure 6 (.take 7 (.take 11 (.pure 13 (.pure 14 (.take 15 (.pure 16 (.pure 17 (.pure 18 (.pure 19 (.pure 20 (.pure 22 (.pure 27 (.pure 28 (.pure 29 (.pure 31 (.take 21 (.pure 23 (.pure 24 (.take 25 (.take 30 (.pure 32 (.pure 33 (.take 34 (.two 26 35 (.only 35 (.pure 36 (.pure 37 .done))) (.only 26 (.pure 36 (.pure 37 .done)))))))))))))))))))))))))))))))))))))) mixed (by kernel_rfl) (fun w H => ?_)
      | (refine Vc.cond rfl (fun h => ?_) (fun h => ?_) <;> first | (cases h; done) | (exfalso; simp only [decide_eq_true_eq, decide_eq_false_iff_not, Bool.not_eq_true', Bool.not_eq_false'] at h; omega) | (with_reducible have hp := of_decide_eq_true h) | (with_reducible have hp := of_decide_eq_false h) | (with_reducible have hp := ndec_t h) | (with_reducible have hp := ndec_f h) | skip))
      | (show KSeq _ _ _ _ _ _ _; first
      | refine KSeq.normal ?_
      | refine KSeq.ret ?_
      | refine KSeq.exit ?_)
      | (show KBlock _ _ _ _ _ _; first
      | refine KBlock.normal ?_
      | refine KBlock.here ?_
      | refine KBlock.on rfl ?_
      | refine KBlock.ret ?_)
      | refine KLoop.exit ?_
      | refine KLoop.ret ?_
      | refine KCut.exit ?_
      | refine KCut.ret ?_
      | (show KEnd _ _ _ _ _ _ _; first
      | refine KEnd.fin (Or.inr rfl) ⟨_, (ResL.tmp rfl ResL.nil), ?_⟩
      | refine KEnd.fin (Or.inl rfl) ⟨_, (ResL.tmp rfl ResL.nil), ?_⟩))
    all_goals first
      | exact ⟨by rw [decide_eq_false (hne (by assumption))]; rfl, hst _ H⟩
      | (refine KLoop.again (k + 1) ⟨got_succ rfl (by omega), trivial⟩ ⟨rfl, rfl, trivial⟩ ⟨hlt, fun j hj => ?_, H⟩ (by omega)
         rcases Nat.lt_or_ge j k with h1 | h1
         · exact hall j h1
         · obtain rfl : j = k := by omega
           rw [hxe, hye]
           assumption)
  · obtain rfl : k = P.bl.length := by omega
    have hbe := map_eq_of (f := fun x : Vb => x.2) hl1 hall
    rw [decide_eq_true (show snds P.bl = snds Q.bl from hbe), Bool.true_and]
    repeat' (first
      | (show VcL _ _ _ _ _ _ _ _; first
      | refine VcL.pures tabOk rfl ?_
      | refine VcL.nil ?_
      | (show VcL _ _ _ _ (⟨_, .load _ _, _, _, _, _⟩ :: _) _ _ _; first
      | refine VcL.load1 tabOk rfl rfl rfl rfl rfl (by first | exact Holds.cell H rfl | exact Holds.cell (Holds.f1 H) rfl | exact Holds.cell (Holds.f2 H) rfl | exact Holds.cell (Holds.f3 H) rfl | exact Holds.cell (Holds.f4 H) rfl | exact Holds.cell (Holds.f5 H) rfl | exact Holds.cell (Holds.f6 H) rfl | exact RdW.get (by assumption) rfl H | exact RdW.get0 (by assumption) rfl H | exact RdW.get (by assumption) rfl (Holds.drop H) | exact RdW.get0 (by assumption) rfl (Holds.drop H) | exact RdW.get (by assumption) rfl (Holds.drop (Holds.drop H)) | exact RdW.get0 (by assumption) rfl (Holds.drop (Holds.drop H)) | exact RdW.get (by assumption) rfl (Holds.drop (Holds.drop (Holds.drop H))) | exact RdW.get0 (by assumption) rfl (Holds.drop (Holds.drop (Holds.drop H))) | exact Holds.rowCell H (fun _ => rfl) (by first | assumption | exact atD_get (by assumption)) rfl | exact Holds.rowCell0 H (fun _ => rfl) (by first | assumption | exact atD_get (by assumption)) rfl | exact Holds.ownCell H (fun _ => rfl) (by first | assumption | exact atD_get (by assumption)) rfl | exact Holds.ownCell0 H (fun _ => rfl) (by first | assumption | exact atD_get (by assumption)) rfl | exact Holds.rowCell (Holds.f1 H) (fun _ => rfl) (by first | assumption | exact atD_get (by assumption)) rfl | exact Holds.rowCell0 (Holds.f1 H) (fun _ => rfl) (by first | assumption | exact atD_get (by assumption)) rfl | exact Holds.ownCell (Holds.f1 H) (fun _ => rfl) (by first | assumption | exact atD_get (by assumption)) rfl | exact Holds.ownCell0 (Holds.f1 H) (fun _ => rfl) (by first | assumption | exact atD_get (by assumption)) rfl | exact Holds.rowCell (Holds.f2 H) (fun _ => rfl) (by first | assumption | exact atD_get (by assumption)) rfl | exact Holds.rowCell0 (Holds.f2 H) (fun _ => rfl) (by first | assumption | exact atD_get (by assumption)) rfl | exact Holds.ownCell (Holds.f2 H) (fun _ => rfl) (by first | assumption | exact atD_get (by assumption)) rfl | exact Holds.ownCell0 (Holds.f2 H) (fun _ => rfl) (by first | assumption | exact atD_get (by assumption)) rfl | exact Holds.rowCell (Holds.f3 H) (fun _ => rfl) (by first | assumption | exact atD_get (by assumption)) rfl | exact Holds.rowCell0 (Holds.f3 H) (fun _ => rfl) (by first | assumption | exact atD_get (by assumption)) rfl | exact Holds.ownCell (Holds.f3 H) (fun _ => rfl) (by first | assumption | exact atD_get (by assumption)) rfl | exact Holds.ownCell0 (Holds.f3 H) (fun _ => rfl) (by first | assumption | exact atD_get (by assumption)) rfl | exact Holds.rowCell (Holds.f4 H) (fun _ => rfl) (by first | assumption | exact atD_get (by assumption)) rfl | exact Holds.rowCell0 (Holds.f4 H) (fun _ => rfl) (by first | assumption | exact atD_get (by assumption)) rfl | exact Holds.ownCell (Holds.f4 H) (fun _ => rfl) (by first | assumption | exact atD_get (by assumption)) rfl | exact Holds.ownCell0 (Holds.f4 H) (fun _ => rfl) (by first | assumption | exact atD_get (by assumption)) rfl | assumption) ?_
      | refine VcL.loadR tabOk rfl rfl rfl rfl rfl rfl (by first | exact RdW.rd (by assumption) H | exact RdW.rd (by assumption) (Holds.drop H) | exact RdW.rd (by assumption) (Holds.drop (Holds.drop H)) | exact RdW.rd (by assumption) (Holds.drop (Holds.drop (Holds.drop H))) | assumption) rfl ?_
      | refine VcL.loadN tabOk rfl rfl rfl rfl rfl rfl (by first | exact H | exact (Holds.f1 H) | exact (Holds.f2 H) | exact (Holds.f3 H) | exact (Holds.f4 H) | exact (Holds.f5 H) | exact (Holds.f6 H)) (by exact rfl) ?_
      | refine VcL.loadRowN0 tabOk rfl rfl rfl rfl rfl rfl H (fun _ => rfl) (by first | assumption | exact atD_get (by assumption)) (by exact rfl) (by exact rfl) (by exact rfl) ?_
      | refine VcL.loadRowN tabOk rfl rfl rfl rfl rfl rfl H (fun _ => rfl) (by first | assumption | exact atD_get (by assumption)) (by exact rfl) (by exact rfl) (by exact rfl) ?_
      | refine VcL.loadOwnN0 tabOk rfl rfl rfl rfl rfl rfl H (fun _ => rfl) (by first | assumption | exact atD_get (by assumption)) (by exact rfl) (by exact rfl) (by exact rfl) ?_
      | refine VcL.loadOwnN tabOk rfl rfl rfl rfl rfl rfl H (fun _ => rfl) (by first | assumption | exact atD_get (by assumption)) (by exact rfl) (by exact rfl) (by exact rfl) ?_
      | refine VcL.loadRowN0 tabOk rfl rfl rfl rfl rfl rfl (Holds.f1 H) (fun _ => rfl) (by first | assumption | exact atD_get (by assumption)) (by exact rfl) (by exact rfl) (by exact rfl) ?_
      | refine VcL.loadRowN tabOk rfl rfl rfl rfl rfl rfl (Holds.f1 H) (fun _ => rfl) (by first | assumption | exact atD_get (by assumption)) (by exact rfl) (by exact rfl) (by exact rfl) ?_
      | refine VcL.loadOwnN0 tabOk rfl rfl rfl rfl rfl rfl (Holds.f1 H) (fun _ => rfl) (by first | assumption | exact atD_get (by assumption)) (by exact rfl) (by exact rfl) (by exact rfl) ?_
      | refine VcL.loadOwnN tabOk rfl rfl rfl rfl rfl rfl (Holds.f1 H) (fun _ => rfl) (by first | assumption | exact atD_get (by assumption)) (by exact rfl) (by exact rfl) (by exact rfl) ?_
      | refine VcL.loadRowN0 tabOk rfl rfl rfl rfl rfl rfl (Holds.f2 H) (fun _ => rfl) (by first | assumption | exact atD_get (by assumption)) (by exact rfl) (by exact rfl) (by exact rfl) ?_
      | refine VcL.loadRowN tabOk rfl rfl rfl rfl rfl rfl (Holds.f2 H) (fun _ => rfl) (by first | assumption | exact atD_get (by assumption)) (by exact rfl) (by exact rfl) (by exact rfl) ?_
      | refine VcL.loadOwnN0 tabOk rfl rfl rfl rfl rfl rfl (Holds.f2 H) (fun _ => rfl) (by first | assumption | exact atD_get (by assumption)) (by exact rfl) (by exact rfl) (by exact rfl) ?_
      | refine VcL.loadOwnN tabOk rfl rfl rfl rfl rfl rfl (Holds.f2 H) (fun _ => rfl) (by first | assumption | exact atD_get (by assumption)) (by exact rfl) (by exact rfl) (by exact rfl) ?_
      | refine VcL.loadRowN0 tabOk rfl rfl rfl rfl rfl rfl (Holds.f3 H) (fun _ => rfl) (by first | assumption | exact atD_get (by assumption)) (by exact rfl) (by exact rfl) (by exact rfl) ?_
      | refine VcL.loadRowN tabOk rfl rfl rfl rfl rfl rfl (Holds.f3 H) (fun _ => rfl) (by first | assumption | exact atD_get (by assumption)) (by exact rfl) (by exact rfl) (by exact rfl) ?_
      | refine VcL.loadOwnN0 tabOk rfl rfl rfl rfl rfl rfl (Holds.f3 H) (fun _ => rfl) (by first | assumption | exact atD_get (by assumption)) (by exact rfl) (by exact rfl) (by exact rfl) ?_
      | refine VcL.loadOwnN tabOk rfl rfl rfl rfl rfl rfl (Holds.f3 H) (fun _ => rfl) (by first | assumption | exact atD_get (by assumption)) (by exact rfl) (by exact rfl) (by exact rfl) ?_
      | refine VcL.loadRowN0 tabOk rfl rfl rfl rfl rfl rfl (Holds.f4 H) (fun _ => rfl) (by first | assumption | exact atD_get (by assumption)) (by exact rfl) (by exact rfl) (by exact rfl) ?_
      | refine VcL.loadRowN tabOk rfl rfl rfl rfl rfl rfl (Holds.f4 H) (fun _ => rfl) (by first | assumption | exact atD_get (by assumption)) (by exact rfl) (by exact rfl) (by exact rfl) ?_
      | refine VcL.loadOwnN0 tabOk rfl rfl rfl rfl rfl rfl (Holds.f4 H) (fun _ => rfl) (by first | assumption | exact atD_get (by assumption)) (by exact rfl) (by exact rfl) (by exact rfl) ?_
      | refine VcL.loadOwnN tabOk rfl rfl rfl rfl rfl rfl (Holds.f4 H) (fun _ => rfl) (by first | assumption | exact atD_get (by assumption)) (by exact rfl) (by exact rfl) (by exact rfl) ?_)
      | (show VcL _ _ _ _ (⟨_, .binOp _ _ _ _ _, _, _, _, _⟩ :: _) _ _ _; first
      | refine VcL.shl rfl rfl (by first | assumption | rfl) rfl rfl rfl ?_
      | refine VcL.shr rfl rfl (by first | assumption | rfl) rfl rfl rfl ?_
      | refine VcL.eqS tabOk rfl rfl rfl rfl rfl rfl (by kernel_rfl) (by kernel_rfl) rfl rfl (by first | exact .inl rfl | exact .inr rfl) ?_)
      | (show VcL _ _ _ _ (⟨_, .indexAddr _ _ _, _, _, _, _⟩ :: _) _ _ _; first
      | refine VcL.indexAddr0 tabOk rfl rfl rfl rfl rfl rfl (by omega) (by omega) ?_
      | refine VcL.indexAddr tabOk rfl rfl rfl rfl rfl rfl (by omega) (by omega) ?_
      | refine VcL.indexArr0 tabOk rfl rfl rfl rfl rfl rfl (by omega) (by omega) ?_
      | refine VcL.indexArr tabOk rfl rfl rfl rfl rfl rfl (by omega) (by omega) ?_)
      | (refine VcL.guard rfl rfl rfl rfl (fun h => ?_) (fun h => ?_) <;> first | (cases h; done) | (exfalso; simp only [decide_eq_true_eq, decide_eq_false_iff_not, Bool.not_eq_true', Bool.not_eq_false'] at h; omega) | (with_reducible have hp := of_decide_eq_true h) | (with_reducible have hp := of_decide_eq_false h) | (with_reducible have hp := ndec_t h) | (with_reducible have hp := ndec_f h) | skip))
      | (show VcD _ _ _ _ _ _ _ _ _; first
      | refine VcD.pures tabOk rfl ?_
      | refine VcD.done ?_
      | (show VcD _ _ _ _ _ (.pure _ _) _ _ _; first
      | refine VcD.indexAddr0 tabOk rfl rfl rfl rfl rfl rfl rfl (by omega) (by omega) ?_
      | refine VcD.indexAddr tabOk rfl rfl rfl rfl rfl rfl rfl (by omega) (by omega) ?_
      | refine VcD.indexArr0 tabOk rfl rfl rfl rfl rfl rfl rfl (by omega) (by omega) ?_
      | refine VcD.indexArr tabOk rfl rfl rfl rfl rfl rfl rfl (by omega) (by omega) ?_
      | refine VcD.shl rfl rfl rfl (by first | assumption | rfl) rfl rfl rfl ?_
      | refine VcD.shr rfl rfl rfl (by first | assumption | rfl) rfl rfl rfl ?_
      | refine VcD.eqS tabOk rfl rfl rfl rfl rfl rfl rfl (by kernel_rfl) (by kernel_rfl) rfl rfl (by first | exact .inl rfl | exact .inr rfl) ?_
      | (refine VcD.guardP rfl rfl rfl rfl rfl (fun h => ?_) (fun h => ?_) <;> first | (cases h; done) | (exfalso; simp only [decide_eq_true_eq, decide_eq_false_iff_not, Bool.not_eq_true', Bool.not_eq_false'] at h; omega) | (with_reducible have hp := of_decide_eq_true h) | (with_reducible have hp := of_decide_eq_false h) | (with_reducible have hp := ndec_t h) | (with_reducible have hp := ndec_f h) | skip))
      | (show VcD _ _ _ _ _ (.take _ _) _ _ _; first
      | refine VcD.load1 tabOk rfl rfl rfl rfl rfl rfl (by intro w_ hw_; first | exact Holds.cell hw_ rfl | exact Holds.cell (Holds.f1 hw_) rfl | exact Holds.cell (Holds.f2 hw_) rfl | exact Holds.cell (Holds.f3 hw_) rfl | exact Holds.cell (Holds.f4 hw_) rfl | exact Holds.cell (Holds.f5 hw_) rfl | exact Holds.cell (Holds.f6 hw_) rfl | exact RdW.get (by assumption) rfl hw_ | exact RdW.get0 (by assumption) rfl hw_ | exact RdW.get (by assumption) rfl (Holds.drop hw_) | exact RdW.get0 (by assumption) rfl (Holds.drop hw_) | exact RdW.get (by assumption) rfl (Holds.drop (Holds.drop hw_)) | exact RdW.get0 (by assumption) rfl (Holds.drop (Holds.drop hw_)) | exact RdW.get (by assumption) rfl (Holds.drop (Holds.drop (Holds.drop hw_))) | exact RdW.get0 (by assumption) rfl (Holds.drop (Holds.drop (Holds.drop hw_))) | exact Holds.rowCell hw_ (fun _ => rfl) (by first | assumption | exact atD_get (by assumption)) rfl | exact Holds.rowCell0 hw_ (fun _ => rfl) (by first | assumption | exact atD_get (by assumption)) rfl | exact Holds.ownCell hw_ (fun _ => rfl) (by first | assumption | exact atD_get (by assumption)) rfl | exact Holds.ownCell0 hw_ (fun _ => rfl) (by first | assumption | exact atD_get (by assumption)) rfl | exact Holds.rowCell (Holds.f1 hw_) (fun _ => rfl) (by first | assumption | exact atD_get (by assumption)) rfl | exact Holds.rowCell0 (Holds.f1 hw_) (fun _ => rfl) (by first | assumption | exact atD_get (by assumption)) rfl | exact Holds.ownCell (Holds.f1 hw_) (fun _ => rfl) (by first | assumption | exact atD_get (by assumption)) rfl | exact Holds.ownCell0 (Holds.f1 hw_) (fun _ => rfl) (by first | assumption | exact atD_get (by assumption)) rfl | exact Holds.rowCell (Holds.f2 hw_) (fun _ => rfl) (by first | assumption | exact atD_get (by assumption)) rfl | exact Holds.rowCell0 (Holds.f2 hw_) (fun _ => rfl) (by first | assumption | exact atD_get (by assumption)) rfl | exact Holds.ownCell (Holds.f2 hw_) (fun _ => rfl) (by first | assumption | exact atD_get (by assumption)) rfl | exact Holds.ownCell0 (Holds.f2 hw_) (fun _ => rfl) (by first | assumption | exact atD_get (by assumption)) rfl | exact Holds.rowCell (Holds.f3 hw_) (fun _ => rfl) (by first | assumption | exact atD_get (by assumption)) rfl | exact Holds.rowCell0 (Holds.f3 hw_) (fun _ => rfl) (by first | assumption | exact atD_get (by assumption)) rfl | exact Holds.ownCell (Holds.f3 hw_) (fun _ => rfl) (by first | assumption | exact atD_get (by assumption)) rfl | exact Holds.ownCell0 (Holds.f3 hw_) (fun _ => rfl) (by first | assumption | exact atD_get (by assumption)) rfl | exact Holds.rowCell (Holds.f4 hw_) (fun _ => rfl) (by first | assumption | exact atD_get (by assumption)) rfl | exact Holds.rowCell0 (Holds.f4 hw_) (fun _ => rfl) (by first | assumption | exact atD_get (by assumption)) rfl | exact Holds.ownCell (Holds.f4 hw_) (fun _ => rfl) (by first | assumption | exact atD_get (by assumption)) rfl | exact Holds.ownCell0 (Holds.f4 hw_) (fun _ => rfl) (by first | assumption | exact atD_get (by assumption)) rfl | exact hw_ _ _ rfl | exact hw_ 0 _ rfl | exact hw_.1 _ _ rfl | exact hw_.1 0 _ rfl | exact hw_.2 _ _ rfl | exact hw_.2 0 _ rfl | assumption) (by exact rfl) ?_
      | refine VcD.loadR tabOk rfl rfl rfl rfl rfl rfl rfl (by intro w_ hw_; first | exact RdW.rd (by assumption) hw_ | exact RdW.rd (by assumption) (Holds.drop hw_) | exact RdW.rd (by assumption) (Holds.drop (Holds.drop hw_)) | exact RdW.rd (by assumption) (Holds.drop (Holds.drop (Holds.drop hw_))) | exact hw_.1 | exact hw_.2 | assumption) rfl ?_
      | refine VcD.loadRowN0 tabOk rfl rfl rfl rfl rfl rfl rfl (fun _ hw_ => hw_) (fun _ => rfl) (by first | assumption | exact atD_get (by assumption)) (by exact rfl) (by exact rfl) (by exact rfl) ?_
      | refine VcD.loadRowN tabOk rfl rfl rfl rfl rfl rfl rfl (fun _ hw_ => hw_) (fun _ => rfl) (by first | assumption | exact atD_get (by assumption)) (by exact rfl) (by exact rfl) (by exact rfl) ?_
      | refine VcD.loadRowN0 tabOk rfl rfl rfl rfl rfl rfl rfl (fun _ hw_ => (Holds.f1 hw_)) (fun _ => rfl) (by first | assumption | exact atD_get (by assumption)) (by exact rfl) (by exact rfl) (by exact rfl) ?_
      | refine VcD.loadRowN tabOk rfl rfl rfl rfl rfl rfl rfl (fun _ hw_ => (Holds.f1 hw_)) (fun _ => rfl) (by first | assumption | exact atD_get (by assumption)) (by exact rfl) (by exact rfl) (by exact rfl) ?_
      | refine VcD.loadRowN0 tabOk rfl rfl rfl rfl rfl rfl rfl (fun _ hw_ => (Holds.f2 hw_)) (fun _ => rfl) (by first | assumption | exact atD_get (by assumption)) (by exact rfl) (by exact rfl) (by exact rfl) ?_
      | refine VcD.loadRowN tabOk rfl rfl rfl rfl rfl rfl rfl (fun _ hw_ => (Holds.f2 hw_)) (fun _ => rfl) (by first | assumption | exact atD_get (by assumption)) (by exact rfl) (by exact rfl) (by exact rfl) ?_
      | refine VcD.loadRowN0 tabOk rfl rfl rfl rfl rfl rfl rfl (fun _ hw_ => (Holds.f3 hw_)) (fun _ => rfl) (by first | assumption | exact atD_get (by assumption)) (by exact rfl) (by exact rfl) (by exact rfl) ?_
      | refine VcD.loadRowN tabOk rfl rfl rfl rfl rfl rfl rfl (fun _ hw_ => (Holds.f3 hw_)) (fun _ => rfl) (by first | assumption | exact atD_get (by assumption)) (by exact rfl) (by exact rfl) (by exact rfl) ?_
      | refine VcD.loadRowN0 tabOk rfl rfl rfl rfl rfl rfl rfl (fun _ hw_ => (Holds.f4 hw_)) (fun _ => rfl) (by first | assumption | exact atD_get (by assumption)) (by exact rfl) (by exact rfl) (by exact rfl) ?_
      | refine VcD.loadRowN tabOk rfl rfl rfl rfl rfl rfl rfl (fun _ hw_ => (Holds.f4 hw_)) (fun _ => rfl) (by first | assumption | exact atD_get (by assumption)) (by exact rfl) (by exact rfl) (by exact rfl) ?_
      | refine VcD.loadN tabOk rfl rfl rfl rfl rfl rfl rfl (by intro w_ hw_; first | exact hw_ | exact (Holds.f1 hw_) | exact (Holds.f2 hw_) | exact (Holds.f3 hw_) | exact (Holds.f4 hw_) | exact (Holds.f5 hw_) | exact (Holds.f6 hw_)) (by exact rfl) ?_
      | refine VcD.skipT rfl rfl rfl ?_
      | (refine VcD.guardT rfl rfl rfl rfl rfl (fun h => ?_) (fun h => ?_) <;> first | (cases h; done) | (exfalso; simp only [decide_eq_true_eq, decide_eq_false_iff_not, Bool.not_eq_true', Bool.not_eq_false'] at h; omega) | (with_reducible have hp := of_decide_eq_true h) | (with_reducible have hp := of_decide_eq_false h) | (with_reducible have hp := ndec_t h) | (with_reducible have hp := ndec_f h) | skip))
      | (show VcD _ _ _ _ _ (.only _ _) _ _ _; first
      | refine VcD.skip rfl rfl rfl (by first | exact H | exact Holds.drop H | exact Holds.drop (Holds.drop H)) ?_
      | (refine VcD.guardO rfl rfl rfl rfl rfl (fun h => ?_) (fun h => ?_) <;> first | (cases h; done) | (exfalso; simp only [decide_eq_true_eq, decide_eq_false_iff_not, Bool.not_eq_true', Bool.not_eq_false'] at h; omega) | (with_reducible have hp := of_decide_eq_true h) | (with_reducible have hp := of_decide_eq_false h) | (with_reducible have hp := ndec_t h) | (with_reducible have hp := ndec_f h) | skip))
      | (show VcD _ _ _ _ _ (.two _ _ _ _) _ _ _; refine VcD.two ?_ ?_))
      | (show Vc _ _ _ _ _ _; first
      | refine Vc.seq ?_
      | refine Vc.region ?_
      | refine Vc.condT rfl ?_
      | refine Vc.condF rfl ?_
      | refine Vc.ret ?_
      | refine Vc.skip ?_
      | refine Vc.block ?_
      | refine Vc.exit ?_
      | refine Vc.drawnH (id := 1) H (.pure 0 (.pure 1 (.pure 2 (.pure 5 (.pure 6 (.pure 7 (.take 3 (.pure 4 (.take 8 (.pure 9 (.pure 10 (.pure 11 (.pure 12 (.pure 13 (.pure 14 (.pure 17 (.pure 18 (.pure 19 (.take 15 (.pure 16 (.take 20 (.pure 21 (.pure 22 (.pure 23 (.pure 24 (.pure 25 (.pure 26 (.pure 27 (.pure 29 (.pure 30 (.pure 31 (.take 28 (.take 32 (.pure 33 (.pure 34 (.pure 35 (.pure 36 (.pure 37 (.pure 38 (.pure 40 (.pure 41 (.pure 42 (.take 39 (.take 43 (.pure 44 (.pure 45 .done)))))))))))))))))))))))))))))))))))))))))))))) mixed (by kernel_rfl) (fun w H => ?_)
      | refine Vc.drawnH (id := 6) H (.pure 0 (.pure 1 (.pure 2 (.pure 4 (.pure 8 (.pure 9 (.pure 10 (.pure 12 (.take 3 (.pure 5 (.take 6 (.take 11 (.pure 13 (.take 14 (.two 7 15 (.only 15 (.pure 16 .done)) (.only 7 (.pure 16 .done))))))))))))))))) mixed (by kernel_rfl) (fun w H => ?_)
      | refine Vc.drawnH (id := 11) H (.pure 0 (.pure 1 (.pure 2 (.pure 4 (.pure 8 (.pure 9 (.pure 10 (.pure 12 (.take 3 (.pure 5 (.pure 6 (.take 7 (.take 11 (.pure 13 (.pure 14 (.take 15 (.pure 16 (.pure 17 (.pure 18 (.pure 19 (.pure 20 (.pure 22 (.pure 27 (.pure 28 (.pure 29 (.pure 31 (.take 21 (.pure 23 (.pure 24 (.take 25 (.take 30 (.pure 32 (.pure 33 (.take 34 (.two 26 35 (.only 35 (.pure 36 (.pure 37 .done))) (.only 26 (.pure 36 (.pure 37 .done)))))))))))))))))))))))))))))))))))))) mixed (by kernel_rfl) (fun w H => ?_)
      | (refine Vc.cond rfl (fun h => ?_) (fun h => ?_) <;> first | (cases h; done) | (exfalso; simp only [decide_eq_true_eq, decide_eq_false_iff_not, Bool.not_eq_true', Bool.not_eq_false'] at h; omega) | (with_reducible have hp := of_decide_eq_true h) | (with_reducible have hp := of_decide_eq_false h) | (with_reducible have hp := ndec_t h) | (with_reducible have hp := ndec_f h) | skip))
      | (show KSeq _ _ _ _ _ _ _; first
      | refine KSeq.normal ?_
      | refine KSeq.ret ?_
      | refine KSeq.exit ?_)
      | (show KBlock _ _ _ _ _ _; first
      | refine KBlock.normal ?_
      | refine KBlock.here ?_
      | refine KBlock.on rfl ?_
      | refine KBlock.ret ?_)
      | refine KLoop.exit ?_
      | refine KLoop.ret ?_
      | refine KCut.exit ?_
      | refine KCut.ret ?_
      | (show KEnd _ _ _ _ _ _ _; first
      | refine KEnd.fin (Or.inr rfl) ⟨_, (ResL.tmp rfl ResL.nil), ?_⟩
      | refine KEnd.fin (Or.inl rfl) ⟨_, (ResL.tmp rfl ResL.nil), ?_⟩))
    refine Vc.loopS [(0, _), (1, _)] (fun k : Nat => [(6, .int .i64 k)]) (fun k w => k ≤ P.wt.length ∧ (∀ j, j < k → ((atD P.wt j).1, (atD P.wt j).2.2) = ((atD Q.wt j).1, (atD Q.wt j).2.2)) ∧ Holds I w (blk a 88 (rkV P (.slice (some ⟨b1, o1, none⟩) P.bl.length cap1) (.slice A2 P.wt.length cap2)) :: own (.slice (some ⟨b1, o1, none⟩) P.bl.length cap1) 22 1 P.bl.length (P.bl.flatMap bkC) :: own (.slice A2 P.wt.length cap2) 86 2 P.wt.length (P.wt.flatMap wkC) :: blk c 88 (rkV Q (.slice (some ⟨b3, o3, none⟩) Q.bl.length cap3) (.slice A4 Q.wt.length cap4)) :: own (.slice (some ⟨b3, o3, none⟩) Q.bl.length cap3) 22 1 Q.bl.length (Q.bl.flatMap bkC) :: own (.slice A4 Q.wt.length cap4) 86 2 Q.wt.length (Q.wt.flatMap wkC) :: L)) (fun k _ => P.wt.length - k) 0 ⟨rfl, trivial⟩ ⟨rfl, rfl, trivial⟩ ⟨Nat.zero_le _, fun j hj => absurd hj (by omega), H⟩ ?_
    clear H hall
    rintro k w ⟨hk1, hall, H⟩
    by_cases hlt : k < P.wt.length
    · have hq1 : P.wt[k]? = some (atD P.wt k) := atD_get hlt
      have hq2 : Q.wt[k]? = some (atD Q.wt k) := atD_get (by omega)
      have hx1 := hf _ (List.mem_append_right _ (List.mem_map_of_mem (atD_mem hlt)))
      have hy1 := hg _ (List.mem_append_right _ (List.mem_map_of_mem (atD_mem (show k < Q.wt.length by omega))))
      have hne := map_ne_of (f := fun x : Nat × Vb => (x.1, x.2.2)) hlt (show k < Q.wt.length by omega)
      obtain ⟨b4, o4, rfl⟩ : ∃ b4 o4, A2 = some ⟨b4, o4, none⟩ := by
        obtain ⟨b, o, c, e, _⟩ := Holds.own_some (by omega) H.f2
        injection e with e1 e2 e3
        exact ⟨b, o, e1⟩
      obtain ⟨b5, o5, rfl, hr2⟩ := (SlR.via H (fun _ H => Holds.re [5] H rfl) (Holds.own_toR (Holds.re [5] H rfl))).at (by omega)
      have hr2 := hr2.elem wkC_len hq2
      obtain ⟨x, hxe⟩ : ∃ x, atD P.wt k = x := ⟨_, rfl⟩
      obtain ⟨y, hye⟩ : ∃ y, atD Q.wt k = y := ⟨_, rfl⟩
      rw [hxe] at hx1 hne hq1
      rw [hye] at hy1 hne hq2 hr2
      obtain ⟨n, xv, xd⟩ := x
      obtain ⟨m, yv, yd⟩ := y
      dsimp only at hne
      have hx1 : SlI I xv 1 xd.length (byL xd) := hx1
      have hy1 : SlI I yv 1 yd.length (byL yd) := hy1
      obtain ⟨A5, c5, rfl, hc5⟩ := hx1.form
      obtain ⟨A6, c6, rfl, hc6⟩ := hy1.form
      have hr2 : RdW I _ b5 (o5 + k * 2) [.int .i64 (m : Nat), .slice A6 yd.length c6] := hr2
      repeat' (first
        | (refine EfO.eff rfl rfl rfl rfl (OpE.ofBytes (m := xd.length) (bs := xd) tabOk rfl rfl rfl rfl rfl rfl rfl rfl (SlR.src (SlI.toR hx1) H) ⟨_, _, rfl⟩) ?_; rintro _ w ⟨rfl, he⟩; subst he; refine ⟨H, ?_⟩)
        | (refine VcD.eff rfl rfl rfl rfl (OpE.ofBytes (m := xd.length) (bs := xd) tabOk rfl rfl rfl rfl rfl rfl rfl rfl (SlR.src (SlI.toR hx1) H) ⟨_, _, rfl⟩) ?_; rintro _ w ⟨rfl, he⟩; subst he; refine ⟨H, ?_⟩)
        | (refine EfO.eff rfl rfl rfl rfl (OpE.ofBytes (m := yd.length) (bs := yd) tabOk rfl rfl rfl rfl rfl rfl rfl rfl (SlR.src (SlI.toR hy1) H) ⟨_, _, rfl⟩) ?_; rintro _ w ⟨rfl, he⟩; subst he; refine ⟨H, ?_⟩)
        | (refine VcD.eff rfl rfl rfl rfl (OpE.ofBytes (m := yd.length) (bs := yd) tabOk rfl rfl rfl rfl rfl rfl rfl rfl (SlR.src (SlI.toR hy1) H) ⟨_, _, rfl⟩) ?_; rintro _ w ⟨rfl, he⟩; subst he; refine ⟨H, ?_⟩)
        | (refine EfO.skip rfl rfl rfl H ?_)
        | rw [str_ne]
        | (show VcL _ _ _ _ _ _ _ _; first
      | refine VcL.pures tabOk rfl ?_
      | refine VcL.nil ?_
      | (show VcL _ _ _ _ (⟨_, .load _ _, _, _, _, _⟩ :: _) _ _ _; first
      | refine VcL.load1 tabOk rfl rfl rfl rfl rfl (by first | exact Holds.cell H rfl | exact Holds.cell (Holds.f1 H) rfl | exact Holds.cell (Holds.f2 H) rfl | exact Holds.cell (Holds.f3 H) rfl | exact Holds.cell (Holds.f4 H) rfl | exact Holds.cell (Holds.f5 H) rfl | exact Holds.cell (Holds.f6 H) rfl | exact RdW.get (by assumption) rfl H | exact RdW.get0 (by assumption) rfl H | exact RdW.get (by assumption) rfl (Holds.drop H) | exact RdW.get0 (by assumption) rfl (Holds.drop H) | exact RdW.get (by assumption) rfl (Holds.drop (Holds.drop H)) | exact RdW.get0 (by assumption) rfl (Holds.drop (Holds.drop H)) | exact RdW.get (by assumption) rfl (Holds.drop (Holds.drop (Holds.drop H))) | exact RdW.get0 (by assumption) rfl (Holds.drop (Holds.drop (Holds.drop H))) | exact Holds.rowCell H (fun _ => rfl) (by first | assumption | exact atD_get (by assumption)) rfl | exact Holds.rowCell0 H (fun _ => rfl) (by first | assumption | exact atD_get (by assumption)) rfl | exact Holds.ownCell H (fun _ => rfl) (by first | assumption | exact atD_get (by assumption)) rfl | exact Holds.ownCell0 H (fun _ => rfl) (by first | assumption | exact atD_get (by assumption)) rfl | exact Holds.rowCell (Holds.f1 H) (fun _ => rfl) (by first | assumption | exact atD_get (by assumption)) rfl | exact Holds.rowCell0 (Holds.f1 H) (fun _ => rfl) (by first | assumption | exact atD_get (by assumption)) rfl | exact Holds.ownCell (Holds.f1 H) (fun _ => rfl) (by first | assumption | exact atD_get (by assumption)) rfl | exact Holds.ownCell0 (Holds.f1 H) (fun _ => rfl) (by first | assumption | exact atD_get (by assumption)) rfl | exact Holds.rowCell (Holds.f2 H) (fun _ => rfl) (by first | assumption | exact atD_get (by assumption)) rfl | exact Holds.rowCell0 (Holds.f2 H) (fun _ => rfl) (by first | assumption | exact atD_get (by assumption)) rfl | exact Holds.ownCell (Holds.f2 H) (fun _ => rfl) (by first | assumption | exact atD_get (by assumption)) rfl | exact Holds.ownCell0 (Holds.f2 H) (fun _ => rfl) (by first | assumption | exact atD_get (by assumption)) rfl | exact Holds.rowCell (Holds.f3 H) (fun _ => rfl) (by first | assumption | exact atD_get (by assumption)) rfl | exact Holds.rowCell0 (Holds.f3 H) (fun _ => rfl) (by first | assumption | exact atD_get (by assumption)) rfl | exact Holds.ownCell (Holds.f3 H) (fun _ => rfl) (by first | assumption | exact atD_get (by assumption)) rfl | exact Holds.ownCell0 (Holds.f3 H) (fun _ => rfl) (by first | assumption | exact atD_get (by assumption)) rfl | exact Holds.rowCell (Holds.f4 H) (fun _ => rfl) (by first | assumption | exact atD_get (by assumption)) rfl | exact Holds.rowCell0 (Holds.f4 H) (fun _ => rfl) (by first | assumption | exact atD_get (by assumption)) rfl | exact Holds.ownCell (Holds.f4 H) (fun _ => rfl) (by first | assumption | exact atD_get (by assumption)) rfl | exact Holds.ownCell0 (Holds.f4 H) (fun _ => rfl) (by first | assumption | exact atD_get (by assumption)) rfl | assumption) ?_
      | refine VcL.loadR tabOk rfl rfl rfl rfl rfl rfl (by first | exact RdW.rd (by assumption) H | exact RdW.rd (by assumption) (Holds.drop H) | exact RdW.rd (by assumption) (Holds.drop (Holds.drop H)) | exact RdW.rd (by assumption) (Holds.drop (Holds.drop (Holds.drop H))) | assumption) rfl ?_
      | refine VcL.loadN tabOk rfl rfl rfl rfl rfl rfl (by first | exact H | exact (Holds.f1 H) | exact (Holds.f2 H) | exact (Holds.f3 H) | exact (Holds.f4 H) | exact (Holds.f5 H) | exact (Holds.f6 H)) (by exact rfl) ?_
      | refine VcL.loadRowN0 tabOk rfl rfl rfl rfl rfl rfl H (fun _ => rfl) (by first | assumption | exact atD_get (by assumption)) (by exact rfl) (by exact rfl) (by exact rfl) ?_
      | refine VcL.loadRowN tabOk rfl rfl rfl rfl rfl rfl H (fun _ => rfl) (by first | assumption | exact atD_get (by assumption)) (by exact rfl) (by exact rfl) (by exact rfl) ?_
      | refine VcL.loadOwnN0 tabOk rfl rfl rfl rfl rfl rfl H (fun _ => rfl) (by first | assumption | exact atD_get (by assumption)) (by exact rfl) (by exact rfl) (by exact rfl) ?_
      | refine VcL.loadOwnN tabOk rfl rfl rfl rfl rfl rfl H (fun _ => rfl) (by first | assumption | exact atD_get (by assumption)) (by exact rfl) (by exact rfl) (by exact rfl) ?_
      | refine VcL.loadRowN0 tabOk rfl rfl rfl rfl rfl rfl (Holds.f1 H) (fun _ => rfl) (by first | assumption | exact atD_get (by assumption)) (by exact rfl) (by exact rfl) (by exact rfl) ?_
      | refine VcL.loadRowN tabOk rfl rfl rfl rfl rfl rfl (Holds.f1 H) (fun _ => rfl) (by first | assumption | exact atD_get (by assumption)) (by exact rfl) (by exact rfl) (by exact rfl) ?_
      | refine VcL.loadOwnN0 tabOk rfl rfl rfl rfl rfl rfl (Holds.f1 H) (fun _ => rfl) (by first | assumption | exact atD_get (by assumption)) (by exact rfl) (by exact rfl) (by exact rfl) ?_
      | refine VcL.loadOwnN tabOk rfl rfl rfl rfl rfl rfl (Holds.f1 H) (fun _ => rfl) (by first | assumption | exact atD_get (by assumption)) (by exact rfl) (by exact rfl) (by exact rfl) ?_
      | refine VcL.loadRowN0 tabOk rfl rfl rfl rfl rfl rfl (Holds.f2 H) (fun _ => rfl) (by first | assumption | exact atD_get (by assumption)) (by exact rfl) (by exact rfl) (by exact rfl) ?_
      | refine VcL.loadRowN tabOk rfl rfl rfl rfl rfl rfl (Holds.f2 H) (fun _ => rfl) (by first | assumption | exact atD_get (by assumption)) (by exact rfl) (by exact rfl) (by exact rfl) ?_
      | refine VcL.loadOwnN0 tabOk rfl rfl rfl rfl rfl rfl (Holds.f2 H) (fun _ => rfl) (by first | assumption | exact atD_get (by assumption)) (by exact rfl) (by exact rfl) (by exact rfl) ?_
      | refine VcL.loadOwnN tabOk rfl rfl rfl rfl rfl rfl (Holds.f2 H) (fun _ => rfl) (by first | assumption | exact atD_get (by assumption)) (by exact rfl) (by exact rfl) (by exact rfl) ?_
      | refine VcL.loadRowN0 tabOk rfl rfl rfl rfl rfl rfl (Holds.f3 H) (fun _ => rfl) (by first | assumption | exact atD_get (by assumption)) (by exact rfl) (by exact rfl) (by exact rfl) ?_
      | refine VcL.loadRowN tabOk rfl rfl rfl rfl rfl rfl (Holds.f3 H) (fun _ => rfl) (by first | assumption | exact atD_get (by assumption)) (by exact rfl) (by exact rfl) (by exact rfl) ?_
      | refine VcL.loadOwnN0 tabOk rfl rfl rfl rfl rfl rfl (Holds.f3 H) (fun _ => rfl) (by first | assumption | exact atD_get (by assumption)) (by exact rfl) (by exact rfl) (by exact rfl) ?_
      | refine VcL.loadOwnN tabOk rfl rfl rfl rfl rfl rfl (Holds.f3 H) (fun _ => rfl) (by first | assumption | exact atD_get (by assumption)) (by exact rfl) (by exact rfl) (by exact rfl) ?_
      | refine VcL.loadRowN0 tabOk rfl rfl rfl rfl rfl rfl (Holds.f4 H) (fun _ => rfl) (by first | assumption | exact atD_get (by assumption)) (by exact rfl) (by exact rfl) (by exact rfl) ?_
      | refine VcL.loadRowN tabOk rfl rfl rfl rfl rfl rfl (Holds.f4 H) (fun _ => rfl) (by first | assumption | exact atD_get (by assumption)) (by exact rfl) (by exact rfl) (by exact rfl) ?_
      | refine VcL.loadOwnN0 tabOk rfl rfl rfl rfl rfl rfl (Holds.f4 H) (fun _ => rfl) (by first | assumption | exact atD_get (by assumption)) (by exact rfl) (by exact rfl) (by exact rfl) ?_
      | refine VcL.loadOwnN tabOk rfl rfl rfl rfl rfl rfl (Holds.f4 H) (fun _ => rfl) (by first | assumption | exact atD_get (by assumption)) (by exact rfl) (by exact rfl) (by exact rfl) ?_)
      | (show VcL _ _ _ _ (⟨_, .binOp _ _ _ _ _, _, _, _, _⟩ :: _) _ _ _; first
      | refine VcL.shl rfl rfl (by first | assumption | rfl) rfl rfl rfl ?_
      | refine VcL.shr rfl rfl (by first | assumption | rfl) rfl rfl rfl ?_
      | refine VcL.eqS tabOk rfl rfl rfl rfl rfl rfl (by kernel_rfl) (by kernel_rfl) rfl rfl (by first | exact .inl rfl | exact .inr rfl) ?_)
      | (show VcL _ _ _ _ (⟨_, .indexAddr _ _ _, _, _, _, _⟩ :: _) _ _ _; first
      | refine VcL.indexAddr0 tabOk rfl rfl rfl rfl rfl rfl (by omega) (by omega) ?_
      | refine VcL.indexAddr tabOk rfl rfl rfl rfl rfl rfl (by omega) (by omega) ?_
      | refine VcL.indexArr0 tabOk rfl rfl rfl rfl rfl rfl (by omega) (by omega) ?_
      | refine VcL.indexArr tabOk rfl rfl rfl rfl rfl rfl (by omega) (by omega) ?_)
      | (refine VcL.guard rfl rfl rfl rfl (fun h => ?_) (fun h => ?_) <;> first | (cases h; done) | (exfalso; simp only [decide_eq_true_eq, decide_eq_false_iff_not, Bool.not_eq_true', Bool.not_eq_false'] at h; omega) | (with_reducible have hp := of_decide_eq_true h) | (with_reducible have hp := of_decide_eq_false h) | (with_reducible have hp := ndec_t h) | (with_reducible have hp := ndec_f h) | skip))
        | (show VcD _ _ _ _ _ _ _ _ _; first
      | refine VcD.pures tabOk rfl ?_
      | refine VcD.done ?_
      | (show VcD _ _ _ _ _ (.pure _ _) _ _ _; first
      | refine VcD.indexAddr0 tabOk rfl rfl rfl rfl rfl rfl rfl (by omega) (by omega) ?_
      | refine VcD.indexAddr tabOk rfl rfl rfl rfl rfl rfl rfl (by omega) (by omega) ?_
      | refine VcD.indexArr0 tabOk rfl rfl rfl rfl rfl rfl rfl (by omega) (by omega) ?_
      | refine VcD.indexArr tabOk rfl rfl rfl rfl rfl rfl rfl (by omega) (by omega) ?_
      | refine VcD.shl rfl rfl rfl (by first | assumption | rfl) rfl rfl rfl ?_
      | refine VcD.shr rfl rfl rfl (by first | assumption | rfl) rfl rfl rfl ?_
      | refine VcD.eqS tabOk rfl rfl rfl rfl rfl rfl rfl (by kernel_rfl) (by kernel_rfl) rfl rfl (by first | exact .inl rfl | exact .inr rfl) ?_
      | (refine VcD.guardP rfl rfl rfl rfl rfl (fun h => ?_) (fun h => ?_) <;> first | (cases h; done) | (exfalso; simp only [decide_eq_true_eq, decide_eq_false_iff_not, Bool.not_eq_true', Bool.not_eq_false'] at h; omega) | (with_reducible have hp := of_decide_eq_true h) | (with_reducible have hp := of_decide_eq_false h) | (with_reducible have hp := ndec_t h) | (with_reducible have hp := ndec_f h) | skip))
      | (show VcD _ _ _ _ _ (.take _ _) _ _ _; first
      | refine VcD.load1 tabOk rfl rfl rfl rfl rfl rfl (by intro w_ hw_; first | exact Holds.cell hw_ rfl | exact Holds.cell (Holds.f1 hw_) rfl | exact Holds.cell (Holds.f2 hw_) rfl | exact Holds.cell (Holds.f3 hw_) rfl | exact Holds.cell (Holds.f4 hw_) rfl | exact Holds.cell (Holds.f5 hw_) rfl | exact Holds.cell (Holds.f6 hw_) rfl | exact RdW.get (by assumption) rfl hw_ | exact RdW.get0 (by assumption) rfl hw_ | exact RdW.get (by assumption) rfl (Holds.drop hw_) | exact RdW.get0 (by assumption) rfl (Holds.drop hw_) | exact RdW.get (by assumption) rfl (Holds.drop (Holds.drop hw_)) | exact RdW.get0 (by assumption) rfl (Holds.drop (Holds.drop hw_)) | exact RdW.get (by assumption) rfl (Holds.drop (Holds.drop (Holds.drop hw_))) | exact RdW.get0 (by assumption) rfl (Holds.drop (Holds.drop (Holds.drop hw_))) | exact Holds.rowCell hw_ (fun _ => rfl) (by first | assumption | exact atD_get (by assumption)) rfl | exact Holds.rowCell0 hw_ (fun _ => rfl) (by first | assumption | exact atD_get (by assumption)) rfl | exact Holds.ownCell hw_ (fun _ => rfl) (by first | assumption | exact atD_get (by assumption)) rfl | exact Holds.ownCell0 hw_ (fun _ => rfl) (by first | assumption | exact atD_get (by assumption)) rfl | exact Holds.rowCell (Holds.f1 hw_) (fun _ => rfl) (by first | assumption | exact atD_get (by assumption)) rfl | exact Holds.rowCell0 (Holds.f1 hw_) (fun _ => rfl) (by first | assumption | exact atD_get (by assumption)) rfl | exact Holds.ownCell (Holds.f1 hw_) (fun _ => rfl) (by first | assumption | exact atD_get (by assumption)) rfl | exact Holds.ownCell0 (Holds.f1 hw_) (fun _ => rfl) (by first | assumption | exact atD_get (by assumption)) rfl | exact Holds.rowCell (Holds.f2 hw_) (fun _ => rfl) (by first | assumption | exact atD_get (by assumption)) rfl | exact Holds.rowCell0 (Holds.f2 hw_) (fun _ => rfl) (by first | assumption | exact atD_get (by assumption)) rfl | exact Holds.ownCell (Holds.f2 hw_) (fun _ => rfl) (by first | assumption | exact atD_get (by assumption)) rfl | exact Holds.ownCell0 (Holds.f2 hw_) (fun _ => rfl) (by first | assumption | exact atD_get (by assumption)) rfl | exact Holds.rowCell (Holds.f3 hw_) (fun _ => rfl) (by first | assumption | exact atD_get (by assumption)) rfl | exact Holds.rowCell0 (Holds.f3 hw_) (fun _ => rfl) (by first | assumption | exact atD_get (by assumption)) rfl | exact Holds.ownCell (Holds.f3 hw_) (fun _ => rfl) (by first | assumption | exact atD_get (by assumption)) rfl | exact Holds.ownCell0 (Holds.f3 hw_) (fun _ => rfl) (by first | assumption | exact atD_get (by assumption)) rfl | exact Holds.rowCell (Holds.f4 hw_) (fun _ => rfl) (by first | assumption | exact atD_get (by assumption)) rfl | exact Holds.rowCell0 (Holds.f4 hw_) (fun _ => rfl) (by first | assumption | exact atD_get (by assumption)) rfl | exact Holds.ownCell (Holds.f4 hw_) (fun _ => rfl) (by first | assumption | exact atD_get (by assumption)) rfl | exact Holds.ownCell0 (Holds.f4 hw_) (fun _ => rfl) (by first | assumption | exact atD_get (by assumption)) rfl | exact hw_ _ _ rfl | exact hw_ 0 _ rfl | exact hw_.1 _ _ rfl | exact hw_.1 0 _ rfl | exact hw_.2 _ _ rfl | exact hw_.2 0 _ rfl | assumption) (by exact rfl) ?_
      | refine VcD.loadR tabOk rfl rfl rfl rfl rfl rfl rfl (by intro w_ hw_; first | exact RdW.rd (by assumption) hw_ | exact RdW.rd (by assumption) (Holds.drop hw_) | exact RdW.rd (by assumption) (Holds.drop (Holds.drop hw_)) | exact RdW.rd (by assumption) (Holds.drop (Holds.drop (Holds.drop hw_))) | exact hw_.1 | exact hw_.2 | assumption) rfl ?_
      | refine VcD.loadRowN0 tabOk rfl rfl rfl rfl rfl rfl rfl (fun _ hw_ => hw_) (fun _ => rfl) (by first | assumption | exact atD_get (by assumption)) (by exact rfl) (by exact rfl) (by exact rfl) ?_
      | refine VcD.loadRowN tabOk rfl rfl rfl rfl rfl rfl rfl (fun _ hw_ => hw_) (fun _ => rfl) (by first | assumption | exact atD_get (by assumption)) (by exact rfl) (by exact rfl) (by exact rfl) ?_
      | refine VcD.loadRowN0 tabOk rfl rfl rfl rfl rfl rfl rfl (fun _ hw_ => (Holds.f1 hw_)) (fun _ => rfl) (by first | assumption | exact atD_get (by assumption)) (by exact rfl) (by exact rfl) (by exact rfl) ?_
      | refine VcD.loadRowN tabOk rfl rfl rfl rfl rfl rfl rfl (fun _ hw_ => (Holds.f1 hw_)) (fun _ => rfl) (by first | assumption | exact atD_get (by assumption)) (by exact rfl) (by exact rfl) (by exact rfl) ?_
      | refine VcD.loadRowN0 tabOk rfl rfl rfl rfl rfl rfl rfl (fun _ hw_ => (Holds.f2 hw_)) (fun _ => rfl) (by first | assumption | exact atD_get (by assumption)) (by exact rfl) (by exact rfl) (by exact rfl) ?_
      | refine VcD.loadRowN tabOk rfl rfl rfl rfl rfl rfl rfl (fun _ hw_ => (Holds.f2 hw_)) (fun _ => rfl) (by first | assumption | exact atD_get (by assumption)) (by exact rfl) (by exact rfl) (by exact rfl) ?_
      | refine VcD.loadRowN0 tabOk rfl rfl rfl rfl rfl rfl rfl (fun _ hw_ => (Holds.f3 hw_)) (fun _ => rfl) (by first | assumption | exact atD_get (by assumption)) (by exact rfl) (by exact rfl) (by exact rfl) ?_
      | refine VcD.loadRowN tabOk rfl rfl rfl rfl rfl rfl rfl (fun _ hw_ => (Holds.f3 hw_)) (fun _ => rfl) (by first | assumption | exact atD_get (by assumption)) (by exact rfl) (by exact rfl) (by exact rfl) ?_
      | refine VcD.loadRowN0 tabOk rfl rfl rfl rfl rfl rfl rfl (fun _ hw_ => (Holds.f4 hw_)) (fun _ => rfl) (by first | assumption | exact atD_get (by assumption)) (by exact rfl) (by exact rfl) (by exact rfl) ?_
      | refine VcD.loadRowN tabOk rfl rfl rfl rfl rfl rfl rfl (fun _ hw_ => (Holds.f4 hw_)) (fun _ => rfl) (by first | assumption | exact atD_get (by assumption)) (by exact rfl) (by exact rfl) (by exact rfl) ?_
      | refine VcD.loadN tabOk rfl rfl rfl rfl rfl rfl rfl (by intro w_ hw_; first | exact hw_ | exact (Holds.f1 hw_) | exact (Holds.f2 hw_) | exact (Holds.f3 hw_) | exact (Holds.f4 hw_) | exact (Holds.f5 hw_) | exact (Holds.f6 hw_)) (by exact rfl) ?_
      | refine VcD.skipT rfl rfl rfl ?_
      | (refine VcD.guardT rfl rfl rfl rfl rfl (fun h => ?_) (fun h => ?_) <;> first | (cases h; done) | (exfalso; simp only [decide_eq_true_eq, decide_eq_false_iff_not, Bool.not_eq_true', Bool.not_eq_false'] at h; omega) | (with_reducible have hp := of_decide_eq_true h) | (with_reducible have hp := of_decide_eq_false h) | (with_reducible have hp := ndec_t h) | (with_reducible have hp := ndec_f h) | skip))
      | (show VcD _ _ _ _ _ (.only _ _) _ _ _; first
      | refine VcD.skip rfl rfl rfl (by first | exact H | exact Holds.drop H | exact Holds.drop (Holds.drop H)) ?_
      | (refine VcD.guardO rfl rfl rfl rfl rfl (fun h => ?_) (fun h => ?_) <;> first | (cases h; done) | (exfalso; simp only [decide_eq_true_eq, decide_eq_false_iff_not, Bool.not_eq_true', Bool.not_eq_false'] at h; omega) | (with_reducible have hp := of_decide_eq_true h) | (with_reducible have hp := of_decide_eq_false h) | (with_reducible have hp := ndec_t h) | (with_reducible have hp := ndec_f h) | skip))
      | (show VcD _ _ _ _ _ (.two _ _ _ _) _ _ _; refine VcD.two ?_ ?_))
        | (show Vc _ _ _ _ _ _; first
      | refine Vc.seq ?_
      | refine Vc.region ?_
      | refine Vc.condT rfl ?_
      | refine Vc.condF rfl ?_
      | refine Vc.ret ?_
      | refine Vc.skip ?_
      | refine Vc.block ?_
      | refine Vc.exit ?_
      | refine Vc.drawnH (id := 1) H (.pure 0 (.pure 1 (.pure 2 (.pure 5 (.pure 6 (.pure 7 (.take 3 (.pure 4 (.take 8 (.pure 9 (.pure 10 (.pure 11 (.pure 12 (.pure 13 (.pure 14 (.pure 17 (.pure 18 (.pure 19 (.take 15 (.pure 16 (.take 20 (.pure 21 (.pure 22 (.pure 23 (.pure 24 (.pure 25 (.pure 26 (.pure 27 (.pure 29 (.pure 30 (.pure 31 (.take 28 (.take 32 (.pure 33 (.pure 34 (.pure 35 (.pure 36 (.pure 37 (.pure 38 (.pure 40 (.pure 41 (.pure 42 (.take 39 (.take 43 (.pure 44 (.pure 45 .done)))))))))))))))))))))))))))))))))))))))))))))) mixed (by kernel_rfl) (fun w H => ?_)
      | refine Vc.drawnH (id := 6) H (.pure 0 (.pure 1 (.pure 2 (.pure 4 (.pure 8 (.pure 9 (.pure 10 (.pure 12 (.take 3 (.pure 5 (.take 6 (.take 11 (.pure 13 (.take 14 (.two 7 15 (.only 15 (.pure 16 .done)) (.only 7 (.pure 16 .done))))))))))))))))) mixed (by kernel_rfl) (fun w H => ?_)
      | refine Vc.drawnH (id := 11) H (.pure 0 (.pure 1 (.pure 2 (.pure 4 (.pure 8 (.pure 9 (.pure 10 (.pure 12 (.take 3 (.pure 5 (.pure 6 (.take 7 (.take 11 (.pure 13 (.pure 14 (.take 15 (.pure 16 (.pure 17 (.pure 18 (.pure 19 (.pure 20 (.pure 22 (.pure 27 (.pure 28 (.pure 29 (.pure 31 (.take 21 (.pure 23 (.pure 24 (.take 25 (.take 30 (.pure 32 (.pure 33 (.take 34 (.two 26 35 (.only 35 (.pure 36 (.pure 37 .done))) (.only 26 (.pure 36 (.pure 37 .done)))))))))))))))))))))))))))))))))))))) mixed (by kernel_rfl) (fun w H => ?_)
      | (refine Vc.cond rfl (fun h => ?_) (fun h => ?_) <;> first | (cases h; done) | (exfalso; simp only [decide_eq_true_eq, decide_eq_false_iff_not, Bool.not_eq_true', Bool.not_eq_false'] at h; omega) | (with_reducible have hp := of_decide_eq_true h) | (with_reducible have hp := of_decide_eq_false h) | (with_reducible have hp := ndec_t h) | (with_reducible have hp := ndec_f h) | skip))
        | (show KSeq _ _ _ _ _ _ _; first
      | refine KSeq.normal ?_
      | refine KSeq.ret ?_
      | refine KSeq.exit ?_)
        | (show KBlock _ _ _ _ _ _; first
      | refine KBlock.normal ?_
      | refine KBlock.here ?_
      | refine KBlock.on rfl ?_
      | refine KBlock.ret ?_)
        | refine KLoop.exit ?_
        | refine KLoop.ret ?_
        | refine KCut.exit ?_
        | refine KCut.ret ?_
        | (show KEnd _ _ _ _ _ _ _; first
      | refine KEnd.fin (Or.inr rfl) ⟨_, (ResL.tmp rfl ResL.nil), ?_⟩
      | refine KEnd.fin (Or.inl rfl) ⟨_, (ResL.tmp rfl ResL.nil), ?_⟩))
      all_goals first
        | exact ⟨by rw [decide_eq_false (hne (fun e => by injection e with e1 e2; first | omega | contradiction))]; rfl, hst _ H⟩
        | (refine KLoop.again (k + 1) ⟨got_succ rfl (by omega), trivial⟩ ⟨rfl, rfl, trivial⟩ ⟨hlt, fun j hj => ?_, H⟩ (by omega)
           rcases Nat.lt_or_ge j k with h1 | h1
           · exact hall j h1
           · obtain rfl : j = k := by omega
             rw [hxe, hye]
             have e1 : n = m := by omega
             subst e1
             congr 1)
        | skip
    · obtain rfl : k = P.wt.length := by omega
      repeat' (first
        | (show VcL _ _ _ _ _ _ _ _; first
      | refine VcL.pures tabOk rfl ?_
      | refine VcL.nil ?_
      | (show VcL _ _ _ _ (⟨_, .load _ _, _, _, _, _⟩ :: _) _ _ _; first
      | refine VcL.load1 tabOk rfl rfl rfl rfl rfl (by first | exact Holds.cell H rfl | exact Holds.cell (Holds.f1 H) rfl | exact Holds.cell (Holds.f2 H) rfl | exact Holds.cell (Holds.f3 H) rfl | exact Holds.cell (Holds.f4 H) rfl | exact Holds.cell (Holds.f5 H) rfl | exact Holds.cell (Holds.f6 H) rfl | exact RdW.get (by assumption) rfl H | exact RdW.get0 (by assumption) rfl H | exact RdW.get (by assumption) rfl (Holds.drop H) | exact RdW.get0 (by assumption) rfl (Holds.drop H) | exact RdW.get (by assumption) rfl (Holds.drop (Holds.drop H)) | exact RdW.get0 (by assumption) rfl (Holds.drop (Holds.drop H)) | exact RdW.get (by assumption) rfl (Holds.drop (Holds.drop (Holds.drop H))) | exact RdW.get0 (by assumption) rfl (Holds.drop (Holds.drop (Holds.drop H))) | exact Holds.rowCell H (fun _ => rfl) (by first | assumption | exact atD_get (by assumption)) rfl | exact Holds.rowCell0 H (fun _ => rfl) (by first | assumption | exact atD_get (by assumption)) rfl | exact Holds.ownCell H (fun _ => rfl) (by first | assumption | exact atD_get (by assumption)) rfl | exact Holds.ownCell0 H (fun _ => rfl) (by first | assumption | exact atD_get (by assumption)) rfl | exact Holds.rowCell (Holds.f1 H) (fun _ => rfl) (by first | assumption | exact atD_get (by assumption)) rfl | exact Holds.rowCell0 (Holds.f1 H) (fun _ => rfl) (by first | assumption | exact atD_get (by assumption)) rfl | exact Holds.ownCell (Holds.f1 H) (fun _ => rfl) (by first | assumption | exact atD_get (by assumption)) rfl | exact Holds.ownCell0 (Holds.f1 H) (fun _ => rfl) (by first | assumption | exact atD_get (by assumption)) rfl | exact Holds.rowCell (Holds.f2 H) (fun _ => rfl) (by first | assumption | exact atD_get (by assumption)) rfl | exact Holds.rowCell0 (Holds.f2 H) (fun _ => rfl) (by first | assumption | exact atD_get (by assumption)) rfl | exact Holds.ownCell (Holds.f2 H) (fun _ => rfl) (by first | assumption | exact atD_get (by assumption)) rfl | exact Holds.ownCell0 (Holds.f2 H) (fun _ => rfl) (by first | assumption | exact atD_get (by assumption)) rfl | exact Holds.rowCell (Holds.f3 H) (fun _ => rfl) (by first | assumption | exact atD_get (by assumption)) rfl | exact Holds.rowCell0 (Holds.f3 H) (fun _ => rfl) (by first | assumption | exact atD_get (by assumption)) rfl | exact Holds.ownCell (Holds.f3 H) (fun _ => rfl) (by first | assumption | exact atD_get (by assumption)) rfl | exact Holds.ownCell0 (Holds.f3 H) (fun _ => rfl) (by first | assumption | exact atD_get (by assumption)) rfl | exact Holds.rowCell (Holds.f4 H) (fun _ => rfl) (by first | assumption | exact atD_get (by assumption)) rfl | exact Holds.rowCell0 (Holds.f4 H) (fun _ => rfl) (by first | assumption | exact atD_get (by assumption)) rfl | exact Holds.ownCell (Holds.f4 H) (fun _ => rfl) (by first | assumption | exact atD_get (by assumption)) rfl | exact Holds.ownCell0 (Holds.f4 H) (fun _ => rfl) (by first | assumption | exact atD_get (by assumption)) rfl | assumption) ?_
      | refine VcL.loadR tabOk rfl rfl rfl rfl rfl rfl (by first | exact RdW.rd (by assumption) H | exact RdW.rd (by assumption) (Holds.drop H) | exact RdW.rd (by assumption) (Holds.drop (Holds.drop H)) | exact RdW.rd (by assumption) (Holds.drop (Holds.drop (Holds.drop H))) | assumption) rfl ?_
      | refine VcL.loadN tabOk rfl rfl rfl rfl rfl rfl (by first | exact H | exact (Holds.f1 H) | exact (Holds.f2 H) | exact (Holds.f3 H) | exact (Holds.f4 H) | exact (Holds.f5 H) | exact (Holds.f6 H)) (by exact rfl) ?_
      | refine VcL.loadRowN0 tabOk rfl rfl rfl rfl rfl rfl H (fun _ => rfl) (by first | assumption | exact atD_get (by assumption)) (by exact rfl) (by exact rfl) (by exact rfl) ?_
      | refine VcL.loadRowN tabOk rfl rfl rfl rfl rfl rfl H (fun _ => rfl) (by first | assumption | exact atD_get (by assumption)) (by exact rfl) (by exact rfl) (by exact rfl) ?_
      | refine VcL.loadOwnN0 tabOk rfl rfl rfl rfl rfl rfl H (fun _ => rfl) (by first | assumption | exact atD_get (by assumption)) (by exact rfl) (by exact rfl) (by exact rfl) ?_
      | refine VcL.loadOwnN tabOk rfl rfl rfl rfl rfl rfl H (fun _ => rfl) (by first | assumption | exact atD_get (by assumption)) (by exact rfl) (by exact rfl) (by exact rfl) ?_
      | refine VcL.loadRowN0 tabOk rfl rfl rfl rfl rfl rfl (Holds.f1 H) (fun _ => rfl) (by first | assumption | exact atD_get (by assumption)) (by exact rfl) (by exact rfl) (by exact rfl) ?_
      | refine VcL.loadRowN tabOk rfl rfl rfl rfl rfl rfl (Holds.f1 H) (fun _ => rfl) (by first | assumption | exact atD_get (by assumption)) (by exact rfl) (by exact rfl) (by exact rfl) ?_
      | refine VcL.loadOwnN0 tabOk rfl rfl rfl rfl rfl rfl (Holds.f1 H) (fun _ => rfl) (by first | assumption | exact atD_get (by assumption)) (by exact rfl) (by exact rfl) (by exact rfl) ?_
      | refine VcL.loadOwnN tabOk rfl rfl rfl rfl rfl rfl (Holds.f1 H) (fun _ => rfl) (by first | assumption | exact atD_get (by assumption)) (by exact rfl) (by exact rfl) (by exact rfl) ?_
      | refine VcL.loadRowN0 tabOk rfl rfl rfl rfl rfl rfl (Holds.f2 H) (fun _ => rfl) (by first | assumption | exact atD_get (by assumption)) (by exact rfl) (by exact rfl) (by exact rfl) ?_
      | refine VcL.loadRowN tabOk rfl rfl rfl rfl rfl rfl (Holds.f2 H) (fun _ => rfl) (by first | assumption | exact atD_get (by assumption)) (by exact rfl) (by exact rfl) (by exact rfl) ?_
      | refine VcL.loadOwnN0 tabOk rfl rfl rfl rfl rfl rfl (Holds.f2 H) (fun _ => rfl) (by first | assumption | exact atD_get (by assumption)) (by exact rfl) (by exact rfl) (by exact rfl) ?_
      | refine VcL.loadOwnN tabOk rfl rfl rfl rfl rfl rfl (Holds.f2 H) (fun _ => rfl) (by first | assumption | exact atD_get (by assumption)) (by exact rfl) (by exact rfl) (by exact rfl) ?_
      | refine VcL.loadRowN0 tabOk rfl rfl rfl rfl rfl rfl (Holds.f3 H) (fun _ => rfl) (by first | assumption | exact atD_get (by assumption)) (by exact rfl) (by exact rfl) (by exact rfl) ?_
      | refine VcL.loadRowN tabOk rfl rfl rfl rfl rfl rfl (Holds.f3 H) (fun _ => rfl) (by first | assumption | exact atD_get (by assumption)) (by exact rfl) (by exact rfl) (by exact rfl) ?_
      | refine VcL.loadOwnN0 tabOk rfl rfl rfl rfl rfl rfl (Holds.f3 H) (fun _ => rfl) (by first | assumption | exact atD_get (by assumption)) (by exact rfl) (by exact rfl) (by exact rfl) ?_
      | refine VcL.loadOwnN tabOk rfl rfl rfl rfl rfl rfl (Holds.f3 H) (fun _ => rfl) (by first | assumption | exact atD_get (by assumption)) (by exact rfl) (by exact rfl) (by exact rfl) ?_
      | refine VcL.loadRowN0 tabOk rfl rfl rfl rfl rfl rfl (Holds.f4 H) (fun _ => rfl) (by first | assumption | exact atD_get (by assumption)) (by exact rfl) (by exact rfl) (by exact rfl) ?_
      | refine VcL.loadRowN tabOk rfl rfl rfl rfl rfl rfl (Holds.f4 H) (fun _ => rfl) (by first | assumption | exact atD_get (by assumption)) (by exact rfl) (by exact rfl) (by exact rfl) ?_
      | refine VcL.loadOwnN0 tabOk rfl rfl rfl rfl rfl rfl (Holds.f4 H) (fun _ => rfl) (by first | assumption | exact atD_get (by assumption)) (by exact rfl) (by exact rfl) (by exact rfl) ?_
      | refine VcL.loadOwnN tabOk rfl rfl rfl rfl rfl rfl (Holds.f4 H) (fun _ => rfl) (by first | assumption | exact atD_get (by assumption)) (by exact rfl) (by exact rfl) (by exact rfl) ?_)
      | (show VcL _ _ _ _ (⟨_, .binOp _ _ _ _ _, _, _, _, _⟩ :: _) _ _ _; first
      | refine VcL.shl rfl rfl (by first | assumption | rfl) rfl rfl rfl ?_
      | refine VcL.shr rfl rfl (by first | assumption | rfl) rfl rfl rfl ?_
      | refine VcL.eqS tabOk rfl rfl rfl rfl rfl rfl (by kernel_rfl) (by kernel_rfl) rfl rfl (by first | exact .inl rfl | exact .inr rfl) ?_)
      | (show VcL _ _ _ _ (⟨_, .indexAddr _ _ _, _, _, _, _⟩ :: _) _ _ _; first
      | refine VcL.indexAddr0 tabOk rfl rfl rfl rfl rfl rfl (by omega) (by omega) ?_
      | refine VcL.indexAddr tabOk rfl rfl rfl rfl rfl rfl (by omega) (by omega) ?_
      | refine VcL.indexArr0 tabOk rfl rfl rfl rfl rfl rfl (by omega) (by omega) ?_
      | refine VcL.indexArr tabOk rfl rfl rfl rfl rfl rfl (by omega) (by omega) ?_)
      | (refine VcL.guard rfl rfl rfl rfl (fun h => ?_) (fun h => ?_) <;> first | (cases h; done) | (exfalso; simp only [decide_eq_true_eq, decide_eq_false_iff_not, Bool.not_eq_true', Bool.not_eq_false'] at h; omega) | (with_reducible have hp := of_decide_eq_true h) | (with_reducible have hp := of_decide_eq_false h) | (with_reducible have hp := ndec_t h) | (with_reducible have hp := ndec_f h) | skip))
        | (show VcD _ _ _ _ _ _ _ _ _; first
      | refine VcD.pures tabOk rfl ?_
      | refine VcD.done ?_
      | (show VcD _ _ _ _ _ (.pure _ _) _ _ _; first
      | refine VcD.indexAddr0 tabOk rfl rfl rfl rfl rfl rfl rfl (by omega) (by omega) ?_
      | refine VcD.indexAddr tabOk rfl rfl rfl rfl rfl rfl rfl (by omega) (by omega) ?_
      | refine VcD.indexArr0 tabOk rfl rfl rfl rfl rfl rfl rfl (by omega) (by omega) ?_
      | refine VcD.indexArr tabOk rfl rfl rfl rfl rfl rfl rfl (by omega) (by omega) ?_
      | refine VcD.shl rfl rfl rfl (by first | assumption | rfl) rfl rfl rfl ?_
      | refine VcD.shr rfl rfl rfl (by first | assumption | rfl) rfl rfl rfl ?_
      | refine VcD.eqS tabOk rfl rfl rfl rfl rfl rfl rfl (by kernel_rfl) (by kernel_rfl) rfl rfl (by first | exact .inl rfl | exact .inr rfl) ?_
      | (refine VcD.guardP rfl rfl rfl rfl rfl (fun h => ?_) (fun h => ?_) <;> first | (cases h; done) | (exfalso; simp only [decide_eq_true_eq, decide_eq_false_iff_not, Bool.not_eq_true', Bool.not_eq_false'] at h; omega) | (with_reducible have hp := of_decide_eq_true h) | (with_reducible have hp := of_decide_eq_false h) | (with_reducible have hp := ndec_t h) | (with_reducible have hp := ndec_f h) | skip))
      | (show VcD _ _ _ _ _ (.take _ _) _ _ _; first
      | refine VcD.load1 tabOk rfl rfl rfl rfl rfl rfl (by intro w_ hw_; first | exact Holds.cell hw_ rfl | exact Holds.cell (Holds.f1 hw_) rfl | exact Holds.cell (Holds.f2 hw_) rfl | exact Holds.cell (Holds.f3 hw_) rfl | exact Holds.cell (Holds.f4 hw_) rfl | exact Holds.cell (Holds.f5 hw_) rfl | exact Holds.cell (Holds.f6 hw_) rfl | exact RdW.get (by assumption) rfl hw_ | exact RdW.get0 (by assumption) rfl hw_ | exact RdW.get (by assumption) rfl (Holds.drop hw_) | exact RdW.get0 (by assumption) rfl (Holds.drop hw_) | exact RdW.get (by assumption) rfl (Holds.drop (Holds.drop hw_)) | exact RdW.get0 (by assumption) rfl (Holds.drop (Holds.drop hw_)) | exact RdW.get (by assumption) rfl (Holds.drop (Holds.drop (Holds.drop hw_))) | exact RdW.get0 (by assumption) rfl (Holds.drop (Holds.drop (Holds.drop hw_))) | exact Holds.rowCell hw_ (fun _ => rfl) (by first | assumption | exact atD_get (by assumption)) rfl | exact Holds.rowCell0 hw_ (fun _ => rfl) (by first | assumption | exact atD_get (by assumption)) rfl | exact Holds.ownCell hw_ (fun _ => rfl) (by first | assumption | exact atD_get (by assumption)) rfl | exact Holds.ownCell0 hw_ (fun _ => rfl) (by first | assumption | exact atD_get (by assumption)) rfl | exact Holds.rowCell (Holds.f1 hw_) (fun _ => rfl) (by first | assumption | exact atD_get (by assumption)) rfl | exact Holds.rowCell0 (Holds.f1 hw_) (fun _ => rfl) (by first | assumption | exact atD_get (by assumption)) rfl | exact Holds.ownCell (Holds.f1 hw_) (fun _ => rfl) (by first | assumption | exact atD_get (by assumption)) rfl | exact Holds.ownCell0 (Holds.f1 hw_) (fun _ => rfl) (by first | assumption | exact atD_get (by assumption)) rfl | exact Holds.rowCell (Holds.f2 hw_) (fun _ => rfl) (by first | assumption | exact atD_get (by assumption)) rfl | exact Holds.rowCell0 (Holds.f2 hw_) (fun _ => rfl) (by first | assumption | exact atD_get (by assumption)) rfl | exact Holds.ownCell (Holds.f2 hw_) (fun _ => rfl) (by first | assumption | exact atD_get (by assumption)) rfl | exact Holds.ownCell0 (Holds.f2 hw_) (fun _ => rfl) (by first | assumption | exact atD_get (by assumption)) rfl | exact Holds.rowCell (Holds.f3 hw_) (fun _ => rfl) (by first | assumption | exact atD_get (by assumption)) rfl | exact Holds.rowCell0 (Holds.f3 hw_) (fun _ => rfl) (by first | assumption | exact atD_get (by assumption)) rfl | exact Holds.ownCell (Holds.f3 hw_) (fun _ => rfl) (by first | assumption | exact atD_get (by assumption)) rfl | exact Holds.ownCell0 (Holds.f3 hw_) (fun _ => rfl) (by first | assumption | exact atD_get (by assumption)) rfl | exact Holds.rowCell (Holds.f4 hw_) (fun _ => rfl) (by first | assumption | exact atD_get (by assumption)) rfl | exact Holds.rowCell0 (Holds.f4 hw_) (fun _ => rfl) (by first | assumption | exact atD_get (by assumption)) rfl | exact Holds.ownCell (Holds.f4 hw_) (fun _ => rfl) (by first | assumption | exact atD_get (by assumption)) rfl | exact Holds.ownCell0 (Holds.f4 hw_) (fun _ => rfl) (by first | assumption | exact atD_get (by assumption)) rfl | exact hw_ _ _ rfl | exact hw_ 0 _ rfl | exact hw_.1 _ _ rfl | exact hw_.1 0 _ rfl | exact hw_.2 _ _ rfl | exact hw_.2 0 _ rfl | assumption) (by exact rfl) ?_
      | refine VcD.loadR tabOk rfl rfl rfl rfl rfl rfl rfl (by intro w_ hw_; first | exact RdW.rd (by assumption) hw_ | exact RdW.rd (by assumption) (Holds.drop hw_) | exact RdW.rd (by assumption) (Holds.drop (Holds.drop hw_)) | exact RdW.rd (by assumption) (Holds.drop (Holds.drop (Holds.drop hw_))) | exact hw_.1 | exact hw_.2 | assumption) rfl ?_
      | refine VcD.loadRowN0 tabOk rfl rfl rfl rfl rfl rfl rfl (fun _ hw_ => hw_) (fun _ => rfl) (by first | assumption | exact atD_get (by assumption)) (by exact rfl) (by exact rfl) (by exact rfl) ?_
      | refine VcD.loadRowN tabOk rfl rfl rfl rfl rfl rfl rfl (fun _ hw_ => hw_) (fun _ => rfl) (by first | assumption | exact atD_get (by assumption)) (by exact rfl) (by exact rfl) (by exact rfl) ?_
      | refine VcD.loadRowN0 tabOk rfl rfl rfl rfl rfl rfl rfl (fun _ hw_ => (Holds.f1 hw_)) (fun _ => rfl) (by first | assumption | exact atD_get (by assumption)) (by exact rfl) (by exact rfl) (by exact rfl) ?_
      | refine VcD.loadRowN tabOk rfl rfl rfl rfl rfl rfl rfl (fun _ hw_ => (Holds.f1 hw_)) (fun _ => rfl) (by first | assumption | exact atD_get (by assumption)) (by exact rfl) (by exact rfl) (by exact rfl) ?_
      | refine VcD.loadRowN0 tabOk rfl rfl rfl rfl rfl rfl rfl (fun _ hw_ => (Holds.f2 hw_)) (fun _ => rfl) (by first | assumption | exact atD_get (by assumption)) (by exact rfl) (by exact rfl) (by exact rfl) ?_
      | refine VcD.loadRowN tabOk rfl rfl rfl rfl rfl rfl rfl (fun _ hw_ => (Holds.f2 hw_)) (fun _ => rfl) (by first | assumption | exact atD_get (by assumption)) (by exact rfl) (by exact rfl) (by exact rfl) ?_
      | refine VcD.loadRowN0 tabOk rfl rfl rfl rfl rfl rfl rfl (fun _ hw_ => (Holds.f3 hw_)) (fun _ => rfl) (by first | assumption | exact atD_get (by assumption)) (by exact rfl) (by exact rfl) (by exact rfl) ?_
      | refine VcD.loadRowN tabOk rfl rfl rfl rfl rfl rfl rfl (fun _ hw_ => (Holds.f3 hw_)) (fun _ => rfl) (by first | assumption | exact atD_get (by assumption)) (by exact rfl) (by exact rfl) (by exact rfl) ?_
      | refine VcD.loadRowN0 tabOk rfl rfl rfl rfl rfl rfl rfl (fun _ hw_ => (Holds.f4 hw_)) (fun _ => rfl) (by first | assumption | exact atD_get (by assumption)) (by exact rfl) (by exact rfl) (by exact rfl) ?_
      | refine VcD.loadRowN tabOk rfl rfl rfl rfl rfl rfl rfl (fun _ hw_ => (Holds.f4 hw_)) (fun _ => rfl) (by first | assumption | exact atD_get (by assumption)) (by exact rfl) (by exact rfl) (by exact rfl) ?_
      | refine VcD.loadN tabOk rfl rfl rfl rfl rfl rfl rfl (by intro w_ hw_; first | exact hw_ | exact (Holds.f1 hw_) | exact (Holds.f2 hw_) | exact (Holds.f3 hw_) | exact (Holds.f4 hw_) | exact (Holds.f5 hw_) | exact (Holds.f6 hw_)) (by exact rfl) ?_
      | refine VcD.skipT rfl rfl rfl ?_
      | (refine VcD.guardT rfl rfl rfl rfl rfl (fun h => ?_) (fun h => ?_) <;> first | (cases h; done) | (exfalso; simp only [decide_eq_true_eq, decide_eq_false_iff_not, Bool.not_eq_true', Bool.not_eq_false'] at h; omega) | (with_reducible have hp := of_decide_eq_true h) | (with_reducible have hp := of_decide_eq_false h) | (with_reducible have hp := ndec_t h) | (with_reducible have hp := ndec_f h) | skip))
      | (show VcD _ _ _ _ _ (.only _ _) _ _ _; first
      | refine VcD.skip rfl rfl rfl (by first | exact H | exact Holds.drop H | exact Holds.drop (Holds.drop H)) ?_
      | (refine VcD.guardO rfl rfl rfl rfl rfl (fun h => ?_) (fun h => ?_) <;> first | (cases h; done) | (exfalso; simp only [decide_eq_true_eq, decide_eq_false_iff_not, Bool.not_eq_true', Bool.not_eq_false'] at h; omega) | (with_reducible have hp := of_decide_eq_true h) | (with_reducible have hp := of_decide_eq_false h) | (with_reducible have hp := ndec_t h) | (with_reducible have hp := ndec_f h) | skip))
      | (show VcD _ _ _ _ _ (.two _ _ _ _) _ _ _; refine VcD.two ?_ ?_))
        | (show Vc _ _ _ _ _ _; first
      | refine Vc.seq ?_
      | refine Vc.region ?_
      | refine Vc.condT rfl ?_
      | refine Vc.condF rfl ?_
      | refine Vc.ret ?_
      | refine Vc.skip ?_
      | refine Vc.block ?_
      | refine Vc.exit ?_
      | refine Vc.drawnH (id := 1) H (.pure 0 (.pure 1 (.pure 2 (.pure 5 (.pure 6 (.pure 7 (.take 3 (.pure 4 (.take 8 (.pure 9 (.pure 10 (.pure 11 (.pure 12 (.pure 13 (.pure 14 (.pure 17 (.pure 18 (.pure 19 (.take 15 (.pure 16 (.take 20 (.pure 21 (.pure 22 (.pure 23 (.pure 24 (.pure 25 (.pure 26 (.pure 27 (.pure 29 (.pure 30 (.pure 31 (.take 28 (.take 32 (.pure 33 (.pure 34 (.pure 35 (.pure 36 (.pure 37 (.pure 38 (.pure 40 (.pure 41 (.pure 42 (.take 39 (.take 43 (.pure 44 (.pure 45 .done)))))))))))))))))))))))))))))))))))))))))))))) mixed (by kernel_rfl) (fun w H => ?_)
      | refine Vc.drawnH (id := 6) H (.pure 0 (.pure 1 (.pure 2 (.pure 4 (.pure 8 (.pure 9 (.pure 10 (.pure 12 (.take 3 (.pure 5 (.take 6 (.take 11 (.pure 13 (.take 14 (.two 7 15 (.only 15 (.pure 16 .done)) (.only 7 (.pure 16 .done))))))))))))))))) mixed (by kernel_rfl) (fun w H => ?_)
      | refine Vc.drawnH (id := 11) H (.pure 0 (.pure 1 (.pure 2 (.pure 4 (.pure 8 (.pure 9 (.pure 10 (.pure 12 (.take 3 (.pure 5 (.pure 6 (.take 7 (.take 11 (.pure 13 (.pure 14 (.take 15 (.pure 16 (.pure 17 (.pure 18 (.pure 19 (.pure 20 (.pure 22 (.pure 27 (.pure 28 (.pure 29 (.pure 31 (.take 21 (.pure 23 (.pure 24 (.take 25 (.take 30 (.pure 32 (.pure 33 (.take 34 (.two 26 35 (.only 35 (.pure 36 (.pure 37 .done))) (.only 26 (.pure 36 (.pure 37 .done)))))))))))))))))))))))))))))))))))))) mixed (by kernel_rfl) (fun w H => ?_)
      | (refine Vc.cond rfl (fun h => ?_) (fun h => ?_) <;> first | (cases h; done) | (exfalso; simp only [decide_eq_true_eq, decide_eq_false_iff_not, Bool.not_eq_true', Bool.not_eq_false'] at h; omega) | (with_reducible have hp := of_decide_eq_true h) | (with_reducible have hp := of_decide_eq_false h) | (with_reducible have hp := ndec_t h) | (with_reducible have hp := ndec_f h) | skip))
        | (show KSeq _ _ _ _ _ _ _; first
      | refine KSeq.normal ?_
      | refine KSeq.ret ?_
      | refine KSeq.exit ?_)
        | (show KBlock _ _ _ _ _ _; first
      | refine KBlock.normal ?_
      | refine KBlock.here ?_
      | refine KBlock.on rfl ?_
      | refine KBlock.ret ?_)
        | refine KLoop.exit ?_
        | refine KLoop.ret ?_
        | refine KCut.exit ?_
        | refine KCut.ret ?_
        | (show KEnd _ _ _ _ _ _ _; first
      | refine KEnd.fin (Or.inr rfl) ⟨_, (ResL.tmp rfl ResL.nil), ?_⟩
      | refine KEnd.fin (Or.inl rfl) ⟨_, (ResL.tmp rfl ResL.nil), ?_⟩))
      have hwe := map_eq_of (f := fun x : Nat × Vb => (x.1, x.2.2)) hl2 hall
      rw [decide_eq_true (show prs P.wt = prs Q.wt from hwe)]
      exact ⟨rfl, hst _ H⟩
end Go.Proofs.Ytoahfjfknljacaa.V
