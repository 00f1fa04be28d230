/- Which frames are valid. -/
import Derived.Test.YtpfgcchammlpgaaVJ
namespace Go.Proofs.Ytpfgcchammlpgaa.V
open Go Go.Proofs.YtpfgcchammlpgaaV
set_option linter.unusedVariables false
set_option linter.unusedSimpArgs false
set_option maxHeartbeats 8000000
set_option maxRecDepth 4000
attribute [local irreducible] IntKind.wrap
variable {I : Imm} {w : World} {L : List Asn}
/-- What makes a frame valid. -/
def okF (kind id seq n : Int) (k x : Nat) : Prop := (1 ≤ id ∧ id ≤ 65535 ∧ 0 ≤ seq ∧ seq < 4294967296 ∧ 0 ≤ n ∧ n < 4294967296) ∧
  (((kind = 1 ∨ kind = 2) ∧ n ≤ 65535 ∧ k = 0) ∨ (kind = 3 ∧ seq = 0 ∧ k = 2) ∨ (kind = 4 ∧ 3 < k ∧ k ≤ 63 ∧ x ≤ 1) ∨ (kind = 5 ∧ k = 0) ∨ (kind = 6 ∧ seq = 0 ∧ k = 0) ∨ (kind = 7 ∧ seq < 65536 ∧ n = 0 ∧ k ≤ 60) ∨ (kind = 8 ∧ seq < 65536 ∧ k = 0) ∨ (kind = 9 ∧ seq = 0 ∧ n = 0 ∧ k = 0))
theorem validF_iff (f : Fr) : validF f = true ↔ okF f.kind f.id f.seq f.n f.data.length (atD f.data 0).toNat := by
  unfold validF okF
  rw [Bool.and_eq_true, decide_eq_true_eq]
  refine and_congr_right fun _ => ?_
  repeat' split
  all_goals first | (simp only [decide_eq_true_eq]; omega) | (simp only [Bool.false_eq_true, false_iff]; omega)
theorem valid_leaf {kind id seq n : Int} {data : By} {b : Bool} (h : b = true ↔ okF kind id seq n data.length (atD data 0).toNat) : Value.bool b = Value.bool (validF ⟨kind, id, seq, n, data⟩) := by
  congr 1
  rw [Bool.eq_iff_iff, validF_iff]
  exact h
theorem Valid_any (H : Holds I w L) {f : Fr} {dv : Value} (hdv : SlI I dv 1 f.data.length (byL f.data)) (hlen : f.data.length ≤ 140737488355328) : Rets Try.prog F_stream_Valid #[frV f dv] w fun u w' => u = .bool (validF f) ∧ Holds I w' L := by
  obtain ⟨kind, id, seq, n, data⟩ := f
  dsimp only at hdv hlen
  obtain ⟨A, cap, rfl, hcap⟩ := hdv.form
  show Rets Try.prog F_stream_Valid #[.agg #[.int .i64 kind, .int .i64 id, .int .i64 seq, .int .i64 n, .slice A data.length cap]] w _
  by_cases h4 : 3 < data.length
  · obtain ⟨b6, o6, rfl, hr6⟩ := hdv.at (by omega)
    have hr0 := (byL_flat data ▸ hr6).elem byC_len (atD_get (show 0 < data.length by omega))
    obtain ⟨x0, hx0⟩ : ∃ x, atD data 0 = x := ⟨_, rfl⟩
    rw [hx0] at hr0
    have hr0 := RdI.toW (L := L) hr0
    refine ok_stream_Valid.rets rfl ?_
    repeat' (first
      | (show VcL _ _ _ _ _ _ _ _; first
      | refine VcL.pures tabOk rfl ?_
      | refine VcL.nil ?_
      | (show VcL _ _ _ _ (⟨_, .load _ _, _, _, _, _⟩ :: _) _ _ _; refine VcL.load1 tabOk rfl rfl rfl rfl rfl (by first | exact Holds.cell H rfl | exact RdW.get (by assumption) rfl (Holds.drop H)) ?_)
      | (show VcL _ _ _ _ (⟨_, .indexAddr _ _ _, _, _, _, _⟩ :: _) _ _ _; refine VcL.indexAddr tabOk rfl rfl rfl rfl rfl rfl (by omega) (by omega) ?_)
      | refine VcL.box H rfl rfl rfl rfl rfl (fun b w H => ?_)
      | (refine VcL.guard rfl rfl rfl rfl (fun h => ?_) (fun h => ?_) <;> first | (cases h; done) | (exfalso; simp only [decide_eq_true_eq, decide_eq_false_iff_not, Bool.not_eq_true', Bool.not_eq_false'] at h; omega) | (with_reducible have hp := of_decide_eq_true h) | (with_reducible have hp := of_decide_eq_false h) | skip))
      | (show Vc _ _ _ _ _ _; first
      | refine Vc.seq ?_
      | refine Vc.region ?_
      | refine Vc.condT rfl ?_
      | refine Vc.ret ?_
      | refine Vc.skip ?_
      | refine Vc.block ?_
      | (refine Vc.cond rfl (fun h => ?_) (fun h => ?_) <;> first | (with_reducible have hp := of_decide_eq_true h) | (with_reducible have hp := of_decide_eq_false h)))
      | (show KSeq _ _ _ _ _ _ _; first
      | refine KSeq.normal ?_
      | refine KSeq.ret ?_)
      | (show KBlock _ _ _ _ _ _; first
      | refine KBlock.normal ?_
      | refine KBlock.ret ?_)
      | (show KEnd _ _ _ _ _ _ _; refine KEnd.fin (Or.inr rfl) ⟨_, (ResL.tmp rfl ResL.nil), ?_⟩))
    all_goals (refine ⟨valid_leaf ⟨fun hh => ?_, fun hh => ?_⟩, H.drop⟩; (focus (first | (cases hh; done) | (have hh := of_decide_eq_true hh; rw [hx0]; unfold okF; omega))); (focus (first | (exact decide_eq_true (by rw [hx0] at hh; unfold okF at hh; omega)) | (exfalso; rw [hx0] at hh; unfold okF at hh; omega))))
  ·
    refine ok_stream_Valid.rets rfl ?_
    repeat' (first
      | (show VcL _ _ _ _ _ _ _ _; first
      | refine VcL.pures tabOk rfl ?_
      | refine VcL.nil ?_
      | (show VcL _ _ _ _ (⟨_, .load _ _, _, _, _, _⟩ :: _) _ _ _; refine VcL.load1 tabOk rfl rfl rfl rfl rfl (by exact Holds.cell H rfl) ?_)
      | refine VcL.box H rfl rfl rfl rfl rfl (fun b w H => ?_)
      | (refine VcL.guard rfl rfl rfl rfl (fun h => ?_) (fun h => ?_) <;> first | (cases h; done) | (exfalso; simp only [decide_eq_true_eq, decide_eq_false_iff_not, Bool.not_eq_true', Bool.not_eq_false'] at h; omega) | (with_reducible have hp := of_decide_eq_true h) | (with_reducible have hp := of_decide_eq_false h) | skip))
      | (show Vc _ _ _ _ _ _; first
      | refine Vc.seq ?_
      | refine Vc.region ?_
      | refine Vc.condT rfl ?_
      | refine Vc.ret ?_
      | refine Vc.skip ?_
      | refine Vc.block ?_
      | (refine Vc.cond rfl (fun h => ?_) (fun h => ?_) <;> first | (with_reducible have hp := of_decide_eq_true h) | (with_reducible have hp := of_decide_eq_false h)))
      | (show KSeq _ _ _ _ _ _ _; first
      | refine KSeq.normal ?_
      | refine KSeq.ret ?_)
      | (show KBlock _ _ _ _ _ _; first
      | refine KBlock.normal ?_
      | refine KBlock.ret ?_)
      | (show KEnd _ _ _ _ _ _ _; refine KEnd.fin (Or.inr rfl) ⟨_, (ResL.tmp rfl ResL.nil), ?_⟩))
    all_goals (refine ⟨valid_leaf ⟨fun hh => ?_, fun hh => ?_⟩, H.drop⟩; (focus (first | (cases hh; done) | (have hh := of_decide_eq_true hh; unfold okF; omega))); (focus (first | (exact decide_eq_true (by unfold okF at hh; omega)) | (exfalso; unfold okF at hh; omega))))
end Go.Proofs.Ytpfgcchammlpgaa.V
