/- Copies of disks. -/
import Derived.Test.YtoahfjfknljacaaVOO
namespace Go.Proofs.Ytoahfjfknljacaa.V
open Go Go.Proofs.YtoahfjfknljacaaV
set_option linter.unusedVariables false
set_option linter.unusedSimpArgs false
set_option maxHeartbeats 1000000
set_option maxRecDepth 4000
attribute [local irreducible] IntKind.wrap
variable {I : Imm} {w : World} {L : List Asn}
theorem JournalCopies_any (H : Holds I w L) {x : Int} (hx : 0 ≤ x ∧ x < 256) {v u : Value} {l more : List Ac} (hv : SlI I v 6 l.length (l.flatMap acC)) (hl : l.length ≤ 140737488355328) (ha : ∀ a ∈ l, AcOk I a)
    (hu : SlI I u 6 more.length (more.flatMap acC)) (hl2 : more.length ≤ 140737488355328) (ha2 : ∀ a ∈ more, AcOk I a) :
    Rets Try.prog F_tithinglaw16_JournalCopies #[.int .u8 x, v, u] w fun u w' => u = .bool true ∧ Holds I w' L := by
  cases hlo : longS l || longS more with
  | true =>
    refine ok_tithinglaw16_JournalCopies.rets rfl ?_
    repeat' (first
      | (show VcL _ _ _ _ _ _ _ _; first
      | refine VcL.pures tabOk rfl ?_
      | refine VcL.nil ?_
      | (show VcL _ _ _ _ (⟨_, .load _ _, _, _, _, _⟩ :: _) _ _ _; first
      | refine VcL.load1 tabOk rfl rfl rfl rfl rfl (by first | exact Holds.cell H rfl | exact Holds.cell (Holds.f1 H) rfl | exact Holds.cell (Holds.f2 H) rfl | exact Holds.cell (Holds.f3 H) rfl | exact Holds.cell (Holds.f4 H) rfl | exact Holds.cell (Holds.f5 H) rfl | exact Holds.cell (Holds.f6 H) rfl | exact RdW.get (by assumption) rfl H | exact RdW.get0 (by assumption) rfl H | exact RdW.get (by assumption) rfl (Holds.drop H) | exact RdW.get0 (by assumption) rfl (Holds.drop H) | exact RdW.get (by assumption) rfl (Holds.drop (Holds.drop H)) | exact RdW.get0 (by assumption) rfl (Holds.drop (Holds.drop H)) | exact RdW.get (by assumption) rfl (Holds.drop (Holds.drop (Holds.drop H))) | exact RdW.get0 (by assumption) rfl (Holds.drop (Holds.drop (Holds.drop H))) | exact Holds.rowCell H (fun _ => rfl) (by first | assumption | exact atD_get (by assumption)) rfl | exact Holds.rowCell0 H (fun _ => rfl) (by first | assumption | exact atD_get (by assumption)) rfl | exact Holds.ownCell H (fun _ => rfl) (by first | assumption | exact atD_get (by assumption)) rfl | exact Holds.ownCell0 H (fun _ => rfl) (by first | assumption | exact atD_get (by assumption)) rfl | exact Holds.rowCell (Holds.f1 H) (fun _ => rfl) (by first | assumption | exact atD_get (by assumption)) rfl | exact Holds.rowCell0 (Holds.f1 H) (fun _ => rfl) (by first | assumption | exact atD_get (by assumption)) rfl | exact Holds.ownCell (Holds.f1 H) (fun _ => rfl) (by first | assumption | exact atD_get (by assumption)) rfl | exact Holds.ownCell0 (Holds.f1 H) (fun _ => rfl) (by first | assumption | exact atD_get (by assumption)) rfl | exact Holds.rowCell (Holds.f2 H) (fun _ => rfl) (by first | assumption | exact atD_get (by assumption)) rfl | exact Holds.rowCell0 (Holds.f2 H) (fun _ => rfl) (by first | assumption | exact atD_get (by assumption)) rfl | exact Holds.ownCell (Holds.f2 H) (fun _ => rfl) (by first | assumption | exact atD_get (by assumption)) rfl | exact Holds.ownCell0 (Holds.f2 H) (fun _ => rfl) (by first | assumption | exact atD_get (by assumption)) rfl | exact Holds.rowCell (Holds.f3 H) (fun _ => rfl) (by first | assumption | exact atD_get (by assumption)) rfl | exact Holds.rowCell0 (Holds.f3 H) (fun _ => rfl) (by first | assumption | exact atD_get (by assumption)) rfl | exact Holds.ownCell (Holds.f3 H) (fun _ => rfl) (by first | assumption | exact atD_get (by assumption)) rfl | exact Holds.ownCell0 (Holds.f3 H) (fun _ => rfl) (by first | assumption | exact atD_get (by assumption)) rfl | exact Holds.rowCell (Holds.f4 H) (fun _ => rfl) (by first | assumption | exact atD_get (by assumption)) rfl | exact Holds.rowCell0 (Holds.f4 H) (fun _ => rfl) (by first | assumption | exact atD_get (by assumption)) rfl | exact Holds.ownCell (Holds.f4 H) (fun _ => rfl) (by first | assumption | exact atD_get (by assumption)) rfl | exact Holds.ownCell0 (Holds.f4 H) (fun _ => rfl) (by first | assumption | exact atD_get (by assumption)) rfl | assumption) ?_
      | refine VcL.loadR tabOk rfl rfl rfl rfl rfl rfl (by first | exact RdW.rd (by assumption) H | exact RdW.rd (by assumption) (Holds.drop H) | exact RdW.rd (by assumption) (Holds.drop (Holds.drop H)) | exact RdW.rd (by assumption) (Holds.drop (Holds.drop (Holds.drop H))) | assumption) rfl ?_
      | refine VcL.loadN tabOk rfl rfl rfl rfl rfl rfl (by first | exact H | exact (Holds.f1 H) | exact (Holds.f2 H) | exact (Holds.f3 H) | exact (Holds.f4 H) | exact (Holds.f5 H) | exact (Holds.f6 H)) (by exact rfl) ?_
      | refine VcL.loadRowN0 tabOk rfl rfl rfl rfl rfl rfl H (fun _ => rfl) (by first | assumption | exact atD_get (by assumption)) (by exact rfl) (by exact rfl) (by exact rfl) ?_
      | refine VcL.loadRowN tabOk rfl rfl rfl rfl rfl rfl H (fun _ => rfl) (by first | assumption | exact atD_get (by assumption)) (by exact rfl) (by exact rfl) (by exact rfl) ?_
      | refine VcL.loadOwnN0 tabOk rfl rfl rfl rfl rfl rfl H (fun _ => rfl) (by first | assumption | exact atD_get (by assumption)) (by exact rfl) (by exact rfl) (by exact rfl) ?_
      | refine VcL.loadOwnN tabOk rfl rfl rfl rfl rfl rfl H (fun _ => rfl) (by first | assumption | exact atD_get (by assumption)) (by exact rfl) (by exact rfl) (by exact rfl) ?_
      | refine VcL.loadRowN0 tabOk rfl rfl rfl rfl rfl rfl (Holds.f1 H) (fun _ => rfl) (by first | assumption | exact atD_get (by assumption)) (by exact rfl) (by exact rfl) (by exact rfl) ?_
      | refine VcL.loadRowN tabOk rfl rfl rfl rfl rfl rfl (Holds.f1 H) (fun _ => rfl) (by first | assumption | exact atD_get (by assumption)) (by exact rfl) (by exact rfl) (by exact rfl) ?_
      | refine VcL.loadOwnN0 tabOk rfl rfl rfl rfl rfl rfl (Holds.f1 H) (fun _ => rfl) (by first | assumption | exact atD_get (by assumption)) (by exact rfl) (by exact rfl) (by exact rfl) ?_
      | refine VcL.loadOwnN tabOk rfl rfl rfl rfl rfl rfl (Holds.f1 H) (fun _ => rfl) (by first | assumption | exact atD_get (by assumption)) (by exact rfl) (by exact rfl) (by exact rfl) ?_
      | refine VcL.loadRowN0 tabOk rfl rfl rfl rfl rfl rfl (Holds.f2 H) (fun _ => rfl) (by first | assumption | exact atD_get (by assumption)) (by exact rfl) (by exact rfl) (by exact rfl) ?_
      | refine VcL.loadRowN tabOk rfl rfl rfl rfl rfl rfl (Holds.f2 H) (fun _ => rfl) (by first | assumption | exact atD_get (by assumption)) (by exact rfl) (by exact rfl) (by exact rfl) ?_
      | refine VcL.loadOwnN0 tabOk rfl rfl rfl rfl rfl rfl (Holds.f2 H) (fun _ => rfl) (by first | assumption | exact atD_get (by assumption)) (by exact rfl) (by exact rfl) (by exact rfl) ?_
      | refine VcL.loadOwnN tabOk rfl rfl rfl rfl rfl rfl (Holds.f2 H) (fun _ => rfl) (by first | assumption | exact atD_get (by assumption)) (by exact rfl) (by exact rfl) (by exact rfl) ?_
      | refine VcL.loadRowN0 tabOk rfl rfl rfl rfl rfl rfl (Holds.f3 H) (fun _ => rfl) (by first | assumption | exact atD_get (by assumption)) (by exact rfl) (by exact rfl) (by exact rfl) ?_
      | refine VcL.loadRowN tabOk rfl rfl rfl rfl rfl rfl (Holds.f3 H) (fun _ => rfl) (by first | assumption | exact atD_get (by assumption)) (by exact rfl) (by exact rfl) (by exact rfl) ?_
      | refine VcL.loadOwnN0 tabOk rfl rfl rfl rfl rfl rfl (Holds.f3 H) (fun _ => rfl) (by first | assumption | exact atD_get (by assumption)) (by exact rfl) (by exact rfl) (by exact rfl) ?_
      | refine VcL.loadOwnN tabOk rfl rfl rfl rfl rfl rfl (Holds.f3 H) (fun _ => rfl) (by first | assumption | exact atD_get (by assumption)) (by exact rfl) (by exact rfl) (by exact rfl) ?_
      | refine VcL.loadRowN0 tabOk rfl rfl rfl rfl rfl rfl (Holds.f4 H) (fun _ => rfl) (by first | assumption | exact atD_get (by assumption)) (by exact rfl) (by exact rfl) (by exact rfl) ?_
      | refine VcL.loadRowN tabOk rfl rfl rfl rfl rfl rfl (Holds.f4 H) (fun _ => rfl) (by first | assumption | exact atD_get (by assumption)) (by exact rfl) (by exact rfl) (by exact rfl) ?_
      | refine VcL.loadOwnN0 tabOk rfl rfl rfl rfl rfl rfl (Holds.f4 H) (fun _ => rfl) (by first | assumption | exact atD_get (by assumption)) (by exact rfl) (by exact rfl) (by exact rfl) ?_
      | refine VcL.loadOwnN tabOk rfl rfl rfl rfl rfl rfl (Holds.f4 H) (fun _ => rfl) (by first | assumption | exact atD_get (by assumption)) (by exact rfl) (by exact rfl) (by exact rfl) ?_)
      | (show VcL _ _ _ _ (⟨_, .binOp _ _ _ _ _, _, _, _, _⟩ :: _) _ _ _; first
      | refine VcL.shl rfl rfl (by first | assumption | rfl) rfl rfl rfl ?_
      | refine VcL.shr rfl rfl (by first | assumption | rfl) rfl rfl rfl ?_
      | refine VcL.eqS tabOk rfl rfl rfl rfl rfl rfl (by kernel_rfl) (by kernel_rfl) rfl rfl (by first | exact .inl rfl | exact .inr rfl) ?_)
      | (show VcL _ _ _ _ (⟨_, .indexAddr _ _ _, _, _, _, _⟩ :: _) _ _ _; first
      | refine VcL.indexAddr0 tabOk rfl rfl rfl rfl rfl rfl (by omega) (by omega) ?_
      | refine VcL.indexAddr tabOk rfl rfl rfl rfl rfl rfl (by omega) (by omega) ?_
      | refine VcL.indexArr0 tabOk rfl rfl rfl rfl rfl rfl (by omega) (by omega) ?_
      | refine VcL.indexArr tabOk rfl rfl rfl rfl rfl rfl (by omega) (by omega) ?_)
      | (show VcL _ _ _ _ (⟨_, .call ⟨.value (.func F_tithinglaw16_long), _, _⟩, _, _, _, _⟩ :: _) _ _ _; first
      | (refine VcL.callF ok_tithinglaw16_long rfl rfl rfl rfl (Rets.mono (long_any H hv.toR hl) ?_); rintro _ w ⟨rfl, H⟩))
      | (show VcL _ _ _ _ (⟨_, .call ⟨.value (.func F_tithinglaw16_long), _, _⟩, _, _, _, _⟩ :: _) _ _ _; first
      | (refine VcL.callF ok_tithinglaw16_long rfl rfl rfl rfl (Rets.mono (long_any H hu.toR hl2) ?_); rintro _ w ⟨rfl, H⟩))
      | (show VcL _ _ _ _ (⟨_, .call ⟨.value (.func F_tithinglaw16_Awake), _, _⟩, _, _, _, _⟩ :: _) _ _ _; first
      | (refine VcL.callF ok_tithinglaw16_Awake rfl rfl rfl rfl (Rets.mono (Awake_any H) ?_); rintro _ w ⟨rfl, H⟩))
      | (refine VcL.guard rfl rfl rfl rfl (fun h => ?_) (fun h => ?_) <;> first | (cases h; done) | (exfalso; simp only [decide_eq_true_eq, decide_eq_false_iff_not, Bool.not_eq_true', Bool.not_eq_false'] at h; omega) | (with_reducible have hp := of_decide_eq_true h) | (with_reducible have hp := of_decide_eq_false h) | (with_reducible have hp := ndec_t h) | (with_reducible have hp := ndec_f h) | skip))
      | (show Vc _ _ _ _ _ _; first
      | refine Vc.seq ?_
      | refine Vc.region ?_
      | refine Vc.condT rfl ?_
      | refine Vc.condF rfl ?_
      | refine Vc.ret ?_
      | refine Vc.skip ?_
      | refine Vc.block ?_
      | refine Vc.exit ?_
      | (refine Vc.cond rfl (fun h => ?_) (fun h => ?_) <;> first | (cases h; done) | (exfalso; simp only [decide_eq_true_eq, decide_eq_false_iff_not, Bool.not_eq_true', Bool.not_eq_false'] at h; omega) | (with_reducible have hp := of_decide_eq_true h) | (with_reducible have hp := of_decide_eq_false h) | (with_reducible have hp := ndec_t h) | (with_reducible have hp := ndec_f h) | skip))
      | (show KSeq _ _ _ _ _ _ _; first
      | refine KSeq.normal ?_
      | refine KSeq.ret ?_
      | refine KSeq.exit ?_)
      | (show KBlock _ _ _ _ _ _; first
      | refine KBlock.normal ?_
      | refine KBlock.here ?_
      | refine KBlock.on rfl ?_
      | refine KBlock.ret ?_)
      | refine KLoop.exit ?_
      | refine KLoop.ret ?_
      | refine KCut.exit ?_
      | refine KCut.ret ?_
      | (show KEnd _ _ _ _ _ _ _; first
      | refine KEnd.fin (Or.inr rfl) ⟨_, (ResL.tmp rfl ResL.nil), ?_⟩
      | refine KEnd.fin (Or.inl rfl) ⟨_, (ResL.tmp rfl ResL.nil), ?_⟩))
    all_goals first
      | exact ⟨rfl, H⟩
      | (exfalso; simp_all; done)
  | false =>
    rw [Bool.or_eq_false_iff] at hlo
    obtain ⟨hlo1, hlo2⟩ := hlo
    have hlen := longS_len hlo1
    have hlen2 := longS_len hlo2
    obtain ⟨m, rfl⟩ := Int.eq_ofNat_of_zero_le hx.1
    obtain ⟨n, hn⟩ : ∃ n, 1 + m % 20 = n := ⟨_, rfl⟩
    have hwm : IntKind.i64.wrap (m : Int) = m := wrap_i64 (by omega) (by omega)
    have hwn : IntKind.i64.wrap (1 + (m : Int).tmod (Int.ofNat (19 + 1))) = (n : Int) := by
      have e1 : (m : Int).tmod (Int.ofNat (19 + 1)) = ((m % 20 : Nat) : Int) := by rw [Int.tmod_eq_emod_of_nonneg (by omega)]; rfl
      rw [e1, wrap_i64 (by omega) (by omega)]
      omega
    obtain ⟨A, cap, rfl, hcap⟩ := hv.form
    obtain ⟨A2, cap2, rfl, hcap2⟩ := hu.form
    refine ok_tithinglaw16_JournalCopies.rets rfl ?_
    repeat' (first
      | rw [hwm]
      | rw [hwn]
      | (show VcL _ _ _ _ _ _ _ _; first
      | refine VcL.pures tabOk rfl ?_
      | refine VcL.nil ?_
      | (show VcL _ _ _ _ (⟨_, .load _ _, _, _, _, _⟩ :: _) _ _ _; first
      | refine VcL.load1 tabOk rfl rfl rfl rfl rfl (by first | exact Holds.cell H rfl | exact Holds.cell (Holds.f1 H) rfl | exact Holds.cell (Holds.f2 H) rfl | exact Holds.cell (Holds.f3 H) rfl | exact Holds.cell (Holds.f4 H) rfl | exact Holds.cell (Holds.f5 H) rfl | exact Holds.cell (Holds.f6 H) rfl | exact RdW.get (by assumption) rfl H | exact RdW.get0 (by assumption) rfl H | exact RdW.get (by assumption) rfl (Holds.drop H) | exact RdW.get0 (by assumption) rfl (Holds.drop H) | exact RdW.get (by assumption) rfl (Holds.drop (Holds.drop H)) | exact RdW.get0 (by assumption) rfl (Holds.drop (Holds.drop H)) | exact RdW.get (by assumption) rfl (Holds.drop (Holds.drop (Holds.drop H))) | exact RdW.get0 (by assumption) rfl (Holds.drop (Holds.drop (Holds.drop H))) | exact Holds.rowCell H (fun _ => rfl) (by first | assumption | exact atD_get (by assumption)) rfl | exact Holds.rowCell0 H (fun _ => rfl) (by first | assumption | exact atD_get (by assumption)) rfl | exact Holds.ownCell H (fun _ => rfl) (by first | assumption | exact atD_get (by assumption)) rfl | exact Holds.ownCell0 H (fun _ => rfl) (by first | assumption | exact atD_get (by assumption)) rfl | exact Holds.rowCell (Holds.f1 H) (fun _ => rfl) (by first | assumption | exact atD_get (by assumption)) rfl | exact Holds.rowCell0 (Holds.f1 H) (fun _ => rfl) (by first | assumption | exact atD_get (by assumption)) rfl | exact Holds.ownCell (Holds.f1 H) (fun _ => rfl) (by first | assumption | exact atD_get (by assumption)) rfl | exact Holds.ownCell0 (Holds.f1 H) (fun _ => rfl) (by first | assumption | exact atD_get (by assumption)) rfl | exact Holds.rowCell (Holds.f2 H) (fun _ => rfl) (by first | assumption | exact atD_get (by assumption)) rfl | exact Holds.rowCell0 (Holds.f2 H) (fun _ => rfl) (by first | assumption | exact atD_get (by assumption)) rfl | exact Holds.ownCell (Holds.f2 H) (fun _ => rfl) (by first | assumption | exact atD_get (by assumption)) rfl | exact Holds.ownCell0 (Holds.f2 H) (fun _ => rfl) (by first | assumption | exact atD_get (by assumption)) rfl | exact Holds.rowCell (Holds.f3 H) (fun _ => rfl) (by first | assumption | exact atD_get (by assumption)) rfl | exact Holds.rowCell0 (Holds.f3 H) (fun _ => rfl) (by first | assumption | exact atD_get (by assumption)) rfl | exact Holds.ownCell (Holds.f3 H) (fun _ => rfl) (by first | assumption | exact atD_get (by assumption)) rfl | exact Holds.ownCell0 (Holds.f3 H) (fun _ => rfl) (by first | assumption | exact atD_get (by assumption)) rfl | exact Holds.rowCell (Holds.f4 H) (fun _ => rfl) (by first | assumption | exact atD_get (by assumption)) rfl | exact Holds.rowCell0 (Holds.f4 H) (fun _ => rfl) (by first | assumption | exact atD_get (by assumption)) rfl | exact Holds.ownCell (Holds.f4 H) (fun _ => rfl) (by first | assumption | exact atD_get (by assumption)) rfl | exact Holds.ownCell0 (Holds.f4 H) (fun _ => rfl) (by first | assumption | exact atD_get (by assumption)) rfl | assumption) ?_
      | refine VcL.loadR tabOk rfl rfl rfl rfl rfl rfl (by first | exact RdW.rd (by assumption) H | exact RdW.rd (by assumption) (Holds.drop H) | exact RdW.rd (by assumption) (Holds.drop (Holds.drop H)) | exact RdW.rd (by assumption) (Holds.drop (Holds.drop (Holds.drop H))) | assumption) rfl ?_
      | refine VcL.loadN tabOk rfl rfl rfl rfl rfl rfl (by first | exact H | exact (Holds.f1 H) | exact (Holds.f2 H) | exact (Holds.f3 H) | exact (Holds.f4 H) | exact (Holds.f5 H) | exact (Holds.f6 H)) (by exact rfl) ?_
      | refine VcL.loadRowN0 tabOk rfl rfl rfl rfl rfl rfl H (fun _ => rfl) (by first | assumption | exact atD_get (by assumption)) (by exact rfl) (by exact rfl) (by exact rfl) ?_
      | refine VcL.loadRowN tabOk rfl rfl rfl rfl rfl rfl H (fun _ => rfl) (by first | assumption | exact atD_get (by assumption)) (by exact rfl) (by exact rfl) (by exact rfl) ?_
      | refine VcL.loadOwnN0 tabOk rfl rfl rfl rfl rfl rfl H (fun _ => rfl) (by first | assumption | exact atD_get (by assumption)) (by exact rfl) (by exact rfl) (by exact rfl) ?_
      | refine VcL.loadOwnN tabOk rfl rfl rfl rfl rfl rfl H (fun _ => rfl) (by first | assumption | exact atD_get (by assumption)) (by exact rfl) (by exact rfl) (by exact rfl) ?_
      | refine VcL.loadRowN0 tabOk rfl rfl rfl rfl rfl rfl (Holds.f1 H) (fun _ => rfl) (by first | assumption | exact atD_get (by assumption)) (by exact rfl) (by exact rfl) (by exact rfl) ?_
      | refine VcL.loadRowN tabOk rfl rfl rfl rfl rfl rfl (Holds.f1 H) (fun _ => rfl) (by first | assumption | exact atD_get (by assumption)) (by exact rfl) (by exact rfl) (by exact rfl) ?_
      | refine VcL.loadOwnN0 tabOk rfl rfl rfl rfl rfl rfl (Holds.f1 H) (fun _ => rfl) (by first | assumption | exact atD_get (by assumption)) (by exact rfl) (by exact rfl) (by exact rfl) ?_
      | refine VcL.loadOwnN tabOk rfl rfl rfl rfl rfl rfl (Holds.f1 H) (fun _ => rfl) (by first | assumption | exact atD_get (by assumption)) (by exact rfl) (by exact rfl) (by exact rfl) ?_
      | refine VcL.loadRowN0 tabOk rfl rfl rfl rfl rfl rfl (Holds.f2 H) (fun _ => rfl) (by first | assumption | exact atD_get (by assumption)) (by exact rfl) (by exact rfl) (by exact rfl) ?_
      | refine VcL.loadRowN tabOk rfl rfl rfl rfl rfl rfl (Holds.f2 H) (fun _ => rfl) (by first | assumption | exact atD_get (by assumption)) (by exact rfl) (by exact rfl) (by exact rfl) ?_
      | refine VcL.loadOwnN0 tabOk rfl rfl rfl rfl rfl rfl (Holds.f2 H) (fun _ => rfl) (by first | assumption | exact atD_get (by assumption)) (by exact rfl) (by exact rfl) (by exact rfl) ?_
      | refine VcL.loadOwnN tabOk rfl rfl rfl rfl rfl rfl (Holds.f2 H) (fun _ => rfl) (by first | assumption | exact atD_get (by assumption)) (by exact rfl) (by exact rfl) (by exact rfl) ?_
      | refine VcL.loadRowN0 tabOk rfl rfl rfl rfl rfl rfl (Holds.f3 H) (fun _ => rfl) (by first | assumption | exact atD_get (by assumption)) (by exact rfl) (by exact rfl) (by exact rfl) ?_
      | refine VcL.loadRowN tabOk rfl rfl rfl rfl rfl rfl (Holds.f3 H) (fun _ => rfl) (by first | assumption | exact atD_get (by assumption)) (by exact rfl) (by exact rfl) (by exact rfl) ?_
      | refine VcL.loadOwnN0 tabOk rfl rfl rfl rfl rfl rfl (Holds.f3 H) (fun _ => rfl) (by first | assumption | exact atD_get (by assumption)) (by exact rfl) (by exact rfl) (by exact rfl) ?_
      | refine VcL.loadOwnN tabOk rfl rfl rfl rfl rfl rfl (Holds.f3 H) (fun _ => rfl) (by first | assumption | exact atD_get (by assumption)) (by exact rfl) (by exact rfl) (by exact rfl) ?_
      | refine VcL.loadRowN0 tabOk rfl rfl rfl rfl rfl rfl (Holds.f4 H) (fun _ => rfl) (by first | assumption | exact atD_get (by assumption)) (by exact rfl) (by exact rfl) (by exact rfl) ?_
      | refine VcL.loadRowN tabOk rfl rfl rfl rfl rfl rfl (Holds.f4 H) (fun _ => rfl) (by first | assumption | exact atD_get (by assumption)) (by exact rfl) (by exact rfl) (by exact rfl) ?_
      | refine VcL.loadOwnN0 tabOk rfl rfl rfl rfl rfl rfl (Holds.f4 H) (fun _ => rfl) (by first | assumption | exact atD_get (by assumption)) (by exact rfl) (by exact rfl) (by exact rfl) ?_
      | refine VcL.loadOwnN tabOk rfl rfl rfl rfl rfl rfl (Holds.f4 H) (fun _ => rfl) (by first | assumption | exact atD_get (by assumption)) (by exact rfl) (by exact rfl) (by exact rfl) ?_)
      | (show VcL _ _ _ _ (⟨_, .binOp _ _ _ _ _, _, _, _, _⟩ :: _) _ _ _; first
      | refine VcL.shl rfl rfl (by first | assumption | rfl) rfl rfl rfl ?_
      | refine VcL.shr rfl rfl (by first | assumption | rfl) rfl rfl rfl ?_
      | refine VcL.eqS tabOk rfl rfl rfl rfl rfl rfl (by kernel_rfl) (by kernel_rfl) rfl rfl (by first | exact .inl rfl | exact .inr rfl) ?_)
      | (show VcL _ _ _ _ (⟨_, .indexAddr _ _ _, _, _, _, _⟩ :: _) _ _ _; first
      | refine VcL.indexAddr0 tabOk rfl rfl rfl rfl rfl rfl (by omega) (by omega) ?_
      | refine VcL.indexAddr tabOk rfl rfl rfl rfl rfl rfl (by omega) (by omega) ?_
      | refine VcL.indexArr0 tabOk rfl rfl rfl rfl rfl rfl (by omega) (by omega) ?_
      | refine VcL.indexArr tabOk rfl rfl rfl rfl rfl rfl (by omega) (by omega) ?_)
      | (show VcL _ _ _ _ (⟨_, .call ⟨.value (.func F_tithinglaw16_long), _, _⟩, _, _, _, _⟩ :: _) _ _ _; first
      | (refine VcL.callF ok_tithinglaw16_long rfl rfl rfl rfl (Rets.mono (long_any H hv.toR hl) ?_); rintro _ w ⟨rfl, H⟩; rw [hlo1]))
      | (show VcL _ _ _ _ (⟨_, .call ⟨.value (.func F_tithinglaw16_long), _, _⟩, _, _, _, _⟩ :: _) _ _ _; first
      | (refine VcL.callF ok_tithinglaw16_long rfl rfl rfl rfl (Rets.mono (long_any H hu.toR hl2) ?_); rintro _ w ⟨rfl, H⟩; rw [hlo2]))
      | (show VcL _ _ _ _ (⟨_, .call ⟨.value (.func F_journal_NewDisk), _, _⟩, _, _, _, _⟩ :: _) _ _ _; first
      | (refine VcL.callF ok_journal_NewDisk rfl rfl rfl rfl (Rets.mono (NewDisk_any (n := n) H (by omega) (by omega)) ?_); rintro _ w ⟨d, rfl, H⟩))
      | (show VcL _ _ _ _ (⟨_, .call ⟨.value (.func F_tithingref16_NewDisk), _, _⟩, _, _, _, _⟩ :: _) _ _ _; first
      | (refine VcL.callF ok_tithingref16_NewDisk rfl rfl rfl rfl (Rets.mono (NewDiskR_any (n := n) H (by omega) (by omega)) ?_); rintro _ w ⟨J, r, hJ, rfl, H⟩))
      | (refine VcL.guard rfl rfl rfl rfl (fun h => ?_) (fun h => ?_) <;> first | (cases h; done) | (exfalso; simp only [decide_eq_true_eq, decide_eq_false_iff_not, Bool.not_eq_true', Bool.not_eq_false'] at h; omega) | (with_reducible have hp := of_decide_eq_true h) | (with_reducible have hp := of_decide_eq_false h) | (with_reducible have hp := ndec_t h) | (with_reducible have hp := ndec_f h) | skip))
      | (show Vc _ _ _ _ _ _; first
      | refine Vc.seq ?_
      | refine Vc.region ?_
      | refine Vc.condT rfl ?_
      | refine Vc.condF rfl ?_
      | refine Vc.ret ?_
      | refine Vc.skip ?_
      | refine Vc.block ?_
      | refine Vc.exit ?_
      | (refine Vc.cond rfl (fun h => ?_) (fun h => ?_) <;> first | (cases h; done) | (exfalso; simp only [decide_eq_true_eq, decide_eq_false_iff_not, Bool.not_eq_true', Bool.not_eq_false'] at h; omega) | (with_reducible have hp := of_decide_eq_true h) | (with_reducible have hp := of_decide_eq_false h) | (with_reducible have hp := ndec_t h) | (with_reducible have hp := ndec_f h) | skip))
      | (show KSeq _ _ _ _ _ _ _; first
      | refine KSeq.normal ?_
      | refine KSeq.ret ?_
      | refine KSeq.exit ?_)
      | (show KBlock _ _ _ _ _ _; first
      | refine KBlock.normal ?_
      | refine KBlock.here ?_
      | refine KBlock.on rfl ?_
      | refine KBlock.ret ?_)
      | refine KLoop.exit ?_
      | refine KLoop.ret ?_
      | refine KCut.exit ?_
      | refine KCut.ret ?_
      | (show KEnd _ _ _ _ _ _ _; first
      | refine KEnd.fin (Or.inr rfl) ⟨_, (ResL.tmp rfl ResL.nil), ?_⟩
      | refine KEnd.fin (Or.inl rfl) ⟨_, (ResL.tmp rfl ResL.nil), ?_⟩))
    refine Vc.loopS [(1, _), (2, _), (7, _), (9, _)] (fun k : Nat => [(11, .int .i64 k)]) (fun k w => k ≤ l.length ∧ ∃ J, Imm.Le I J ∧ Holds J w (dskA d ((l.take k).foldl doS (newS n)) :: rdkA J r ((l.take k).foldl doS (newS n)) :: L)) (fun k _ => l.length - k) 0 ⟨rfl, trivial⟩ ⟨rfl, rfl, rfl, rfl, trivial⟩ ⟨Nat.zero_le _, J, hJ, H.swap⟩ ?_
    clear hJ H
    rintro k w ⟨hk, J, hJ, H⟩
    have hwr := dos_writes (l.take k) (newS n)
    have hw0 : (newS n).writes = 0 := rfl
    rw [hw0, List.length_take] at hwr
    obtain ⟨D, hD⟩ : ∃ D, (l.take k).foldl doS (newS n) = D := ⟨_, rfl⟩
    rw [hD] at H hwr
    by_cases hlt : k < l.length
    · obtain ⟨b1, o1, rfl, hr1⟩ := (hv.mono hJ).toR.at (L := L) (by omega)
      have hr1 := hr1.elem acC_len (atD_get hlt)
      obtain ⟨a, hat⟩ : ∃ a, atD l k = a := ⟨_, rfl⟩
      have hmem := atD_mem hlt
      rw [hat] at hr1 hmem
      have hnx : (l.take (k + 1)).foldl doS (newS n) = doS D a := by rw [take_atD hlt, List.foldl_append, hD, hat]; rfl
      have hact := ha a hmem
      obtain ⟨what, block, num, byte, ⟨A3, cap3, done⟩, short⟩ := a
      have hr1 : RdW J L b1 (o1 + k * 6) [.int .i64 what, .int .i64 block, .int .i64 num, .int .u8 byte, .slice A3 done.length cap3, .bool short] := hr1
      repeat' (first
        | (show VcL _ _ _ _ _ _ _ _; first
      | refine VcL.pures tabOk rfl ?_
      | refine VcL.nil ?_
      | (show VcL _ _ _ _ (⟨_, .load _ _, _, _, _, _⟩ :: _) _ _ _; first
      | refine VcL.load1 tabOk rfl rfl rfl rfl rfl (by first | exact Holds.cell H rfl | exact Holds.cell (Holds.f1 H) rfl | exact Holds.cell (Holds.f2 H) rfl | exact Holds.cell (Holds.f3 H) rfl | exact Holds.cell (Holds.f4 H) rfl | exact Holds.cell (Holds.f5 H) rfl | exact Holds.cell (Holds.f6 H) rfl | exact RdW.get (by assumption) rfl H | exact RdW.get0 (by assumption) rfl H | exact RdW.get (by assumption) rfl (Holds.drop H) | exact RdW.get0 (by assumption) rfl (Holds.drop H) | exact RdW.get (by assumption) rfl (Holds.drop (Holds.drop H)) | exact RdW.get0 (by assumption) rfl (Holds.drop (Holds.drop H)) | exact RdW.get (by assumption) rfl (Holds.drop (Holds.drop (Holds.drop H))) | exact RdW.get0 (by assumption) rfl (Holds.drop (Holds.drop (Holds.drop H))) | exact Holds.rowCell H (fun _ => rfl) (by first | assumption | exact atD_get (by assumption)) rfl | exact Holds.rowCell0 H (fun _ => rfl) (by first | assumption | exact atD_get (by assumption)) rfl | exact Holds.ownCell H (fun _ => rfl) (by first | assumption | exact atD_get (by assumption)) rfl | exact Holds.ownCell0 H (fun _ => rfl) (by first | assumption | exact atD_get (by assumption)) rfl | exact Holds.rowCell (Holds.f1 H) (fun _ => rfl) (by first | assumption | exact atD_get (by assumption)) rfl | exact Holds.rowCell0 (Holds.f1 H) (fun _ => rfl) (by first | assumption | exact atD_get (by assumption)) rfl | exact Holds.ownCell (Holds.f1 H) (fun _ => rfl) (by first | assumption | exact atD_get (by assumption)) rfl | exact Holds.ownCell0 (Holds.f1 H) (fun _ => rfl) (by first | assumption | exact atD_get (by assumption)) rfl | exact Holds.rowCell (Holds.f2 H) (fun _ => rfl) (by first | assumption | exact atD_get (by assumption)) rfl | exact Holds.rowCell0 (Holds.f2 H) (fun _ => rfl) (by first | assumption | exact atD_get (by assumption)) rfl | exact Holds.ownCell (Holds.f2 H) (fun _ => rfl) (by first | assumption | exact atD_get (by assumption)) rfl | exact Holds.ownCell0 (Holds.f2 H) (fun _ => rfl) (by first | assumption | exact atD_get (by assumption)) rfl | exact Holds.rowCell (Holds.f3 H) (fun _ => rfl) (by first | assumption | exact atD_get (by assumption)) rfl | exact Holds.rowCell0 (Holds.f3 H) (fun _ => rfl) (by first | assumption | exact atD_get (by assumption)) rfl | exact Holds.ownCell (Holds.f3 H) (fun _ => rfl) (by first | assumption | exact atD_get (by assumption)) rfl | exact Holds.ownCell0 (Holds.f3 H) (fun _ => rfl) (by first | assumption | exact atD_get (by assumption)) rfl | exact Holds.rowCell (Holds.f4 H) (fun _ => rfl) (by first | assumption | exact atD_get (by assumption)) rfl | exact Holds.rowCell0 (Holds.f4 H) (fun _ => rfl) (by first | assumption | exact atD_get (by assumption)) rfl | exact Holds.ownCell (Holds.f4 H) (fun _ => rfl) (by first | assumption | exact atD_get (by assumption)) rfl | exact Holds.ownCell0 (Holds.f4 H) (fun _ => rfl) (by first | assumption | exact atD_get (by assumption)) rfl | assumption) ?_
      | refine VcL.loadR tabOk rfl rfl rfl rfl rfl rfl (by first | exact RdW.rd (by assumption) H | exact RdW.rd (by assumption) (Holds.drop H) | exact RdW.rd (by assumption) (Holds.drop (Holds.drop H)) | exact RdW.rd (by assumption) (Holds.drop (Holds.drop (Holds.drop H))) | assumption) rfl ?_
      | refine VcL.loadN tabOk rfl rfl rfl rfl rfl rfl (by first | exact H | exact (Holds.f1 H) | exact (Holds.f2 H) | exact (Holds.f3 H) | exact (Holds.f4 H) | exact (Holds.f5 H) | exact (Holds.f6 H)) (by exact rfl) ?_
      | refine VcL.loadRowN0 tabOk rfl rfl rfl rfl rfl rfl H (fun _ => rfl) (by first | assumption | exact atD_get (by assumption)) (by exact rfl) (by exact rfl) (by exact rfl) ?_
      | refine VcL.loadRowN tabOk rfl rfl rfl rfl rfl rfl H (fun _ => rfl) (by first | assumption | exact atD_get (by assumption)) (by exact rfl) (by exact rfl) (by exact rfl) ?_
      | refine VcL.loadOwnN0 tabOk rfl rfl rfl rfl rfl rfl H (fun _ => rfl) (by first | assumption | exact atD_get (by assumption)) (by exact rfl) (by exact rfl) (by exact rfl) ?_
      | refine VcL.loadOwnN tabOk rfl rfl rfl rfl rfl rfl H (fun _ => rfl) (by first | assumption | exact atD_get (by assumption)) (by exact rfl) (by exact rfl) (by exact rfl) ?_
      | refine VcL.loadRowN0 tabOk rfl rfl rfl rfl rfl rfl (Holds.f1 H) (fun _ => rfl) (by first | assumption | exact atD_get (by assumption)) (by exact rfl) (by exact rfl) (by exact rfl) ?_
      | refine VcL.loadRowN tabOk rfl rfl rfl rfl rfl rfl (Holds.f1 H) (fun _ => rfl) (by first | assumption | exact atD_get (by assumption)) (by exact rfl) (by exact rfl) (by exact rfl) ?_
      | refine VcL.loadOwnN0 tabOk rfl rfl rfl rfl rfl rfl (Holds.f1 H) (fun _ => rfl) (by first | assumption | exact atD_get (by assumption)) (by exact rfl) (by exact rfl) (by exact rfl) ?_
      | refine VcL.loadOwnN tabOk rfl rfl rfl rfl rfl rfl (Holds.f1 H) (fun _ => rfl) (by first | assumption | exact atD_get (by assumption)) (by exact rfl) (by exact rfl) (by exact rfl) ?_
      | refine VcL.loadRowN0 tabOk rfl rfl rfl rfl rfl rfl (Holds.f2 H) (fun _ => rfl) (by first | assumption | exact atD_get (by assumption)) (by exact rfl) (by exact rfl) (by exact rfl) ?_
      | refine VcL.loadRowN tabOk rfl rfl rfl rfl rfl rfl (Holds.f2 H) (fun _ => rfl) (by first | assumption | exact atD_get (by assumption)) (by exact rfl) (by exact rfl) (by exact rfl) ?_
      | refine VcL.loadOwnN0 tabOk rfl rfl rfl rfl rfl rfl (Holds.f2 H) (fun _ => rfl) (by first | assumption | exact atD_get (by assumption)) (by exact rfl) (by exact rfl) (by exact rfl) ?_
      | refine VcL.loadOwnN tabOk rfl rfl rfl rfl rfl rfl (Holds.f2 H) (fun _ => rfl) (by first | assumption | exact atD_get (by assumption)) (by exact rfl) (by exact rfl) (by exact rfl) ?_
      | refine VcL.loadRowN0 tabOk rfl rfl rfl rfl rfl rfl (Holds.f3 H) (fun _ => rfl) (by first | assumption | exact atD_get (by assumption)) (by exact rfl) (by exact rfl) (by exact rfl) ?_
      | refine VcL.loadRowN tabOk rfl rfl rfl rfl rfl rfl (Holds.f3 H) (fun _ => rfl) (by first | assumption | exact atD_get (by assumption)) (by exact rfl) (by exact rfl) (by exact rfl) ?_
      | refine VcL.loadOwnN0 tabOk rfl rfl rfl rfl rfl rfl (Holds.f3 H) (fun _ => rfl) (by first | assumption | exact atD_get (by assumption)) (by exact rfl) (by exact rfl) (by exact rfl) ?_
      | refine VcL.loadOwnN tabOk rfl rfl rfl rfl rfl rfl (Holds.f3 H) (fun _ => rfl) (by first | assumption | exact atD_get (by assumption)) (by exact rfl) (by exact rfl) (by exact rfl) ?_
      | refine VcL.loadRowN0 tabOk rfl rfl rfl rfl rfl rfl (Holds.f4 H) (fun _ => rfl) (by first | assumption | exact atD_get (by assumption)) (by exact rfl) (by exact rfl) (by exact rfl) ?_
      | refine VcL.loadRowN tabOk rfl rfl rfl rfl rfl rfl (Holds.f4 H) (fun _ => rfl) (by first | assumption | exact atD_get (by assumption)) (by exact rfl) (by exact rfl) (by exact rfl) ?_
      | refine VcL.loadOwnN0 tabOk rfl rfl rfl rfl rfl rfl (Holds.f4 H) (fun _ => rfl) (by first | assumption | exact atD_get (by assumption)) (by exact rfl) (by exact rfl) (by exact rfl) ?_
      | refine VcL.loadOwnN tabOk rfl rfl rfl rfl rfl rfl (Holds.f4 H) (fun _ => rfl) (by first | assumption | exact atD_get (by assumption)) (by exact rfl) (by exact rfl) (by exact rfl) ?_)
      | (show VcL _ _ _ _ (⟨_, .binOp _ _ _ _ _, _, _, _, _⟩ :: _) _ _ _; first
      | refine VcL.shl rfl rfl (by first | assumption | rfl) rfl rfl rfl ?_
      | refine VcL.shr rfl rfl (by first | assumption | rfl) rfl rfl rfl ?_
      | refine VcL.eqS tabOk rfl rfl rfl rfl rfl rfl (by kernel_rfl) (by kernel_rfl) rfl rfl (by first | exact .inl rfl | exact .inr rfl) ?_)
      | (show VcL _ _ _ _ (⟨_, .indexAddr _ _ _, _, _, _, _⟩ :: _) _ _ _; first
      | refine VcL.indexAddr0 tabOk rfl rfl rfl rfl rfl rfl (by omega) (by omega) ?_
      | refine VcL.indexAddr tabOk rfl rfl rfl rfl rfl rfl (by omega) (by omega) ?_
      | refine VcL.indexArr0 tabOk rfl rfl rfl rfl rfl rfl (by omega) (by omega) ?_
      | refine VcL.indexArr tabOk rfl rfl rfl rfl rfl rfl (by omega) (by omega) ?_)
      | (show VcL _ _ _ _ (⟨_, .call ⟨.value (.func F_tithinglaw16_do), _, _⟩, _, _, _, _⟩ :: _) _ _ _; first
      | (refine VcL.callF ok_tithinglaw16_do rfl rfl rfl rfl (Rets.mono (do_any (D := D) (a := ⟨what, block, num, byte, (A3, cap3, done), short⟩) H (by omega) (hact.mono hJ)) ?_); rintro _ w ⟨J2, hJ2, rfl, H⟩))
      | (refine VcL.guard rfl rfl rfl rfl (fun h => ?_) (fun h => ?_) <;> first | (cases h; done) | (exfalso; simp only [decide_eq_true_eq, decide_eq_false_iff_not, Bool.not_eq_true', Bool.not_eq_false'] at h; omega) | (with_reducible have hp := of_decide_eq_true h) | (with_reducible have hp := of_decide_eq_false h) | (with_reducible have hp := ndec_t h) | (with_reducible have hp := ndec_f h) | skip))
        | (show Vc _ _ _ _ _ _; first
      | refine Vc.seq ?_
      | refine Vc.region ?_
      | refine Vc.condT rfl ?_
      | refine Vc.condF rfl ?_
      | refine Vc.ret ?_
      | refine Vc.skip ?_
      | refine Vc.block ?_
      | refine Vc.exit ?_
      | (refine Vc.cond rfl (fun h => ?_) (fun h => ?_) <;> first | (cases h; done) | (exfalso; simp only [decide_eq_true_eq, decide_eq_false_iff_not, Bool.not_eq_true', Bool.not_eq_false'] at h; omega) | (with_reducible have hp := of_decide_eq_true h) | (with_reducible have hp := of_decide_eq_false h) | (with_reducible have hp := ndec_t h) | (with_reducible have hp := ndec_f h) | skip))
        | (show KSeq _ _ _ _ _ _ _; first
      | refine KSeq.normal ?_
      | refine KSeq.ret ?_
      | refine KSeq.exit ?_)
        | (show KBlock _ _ _ _ _ _; first
      | refine KBlock.normal ?_
      | refine KBlock.here ?_
      | refine KBlock.on rfl ?_
      | refine KBlock.ret ?_)
        | refine KLoop.exit ?_
        | refine KLoop.ret ?_
        | refine KCut.exit ?_
        | refine KCut.ret ?_
        | (show KEnd _ _ _ _ _ _ _; first
      | refine KEnd.fin (Or.inr rfl) ⟨_, (ResL.tmp rfl ResL.nil), ?_⟩
      | refine KEnd.fin (Or.inl rfl) ⟨_, (ResL.tmp rfl ResL.nil), ?_⟩))
      refine KLoop.again (k + 1) ⟨got_succ rfl (by omega), trivial⟩ ⟨rfl, rfl, rfl, rfl, trivial⟩ ⟨hlt, J2, hJ.trans hJ2, ?_⟩ (by omega)
      rw [hnx]
      exact H
    · obtain rfl : k = l.length := by omega
      have hdD : decide (D = D) = true := decide_eq_true rfl
      repeat' (first
        | rw [hdD]
        | (show VcL _ _ _ _ _ _ _ _; first
      | refine VcL.pures tabOk rfl ?_
      | refine VcL.nil ?_
      | (show VcL _ _ _ _ (⟨_, .load _ _, _, _, _, _⟩ :: _) _ _ _; first
      | refine VcL.load1 tabOk rfl rfl rfl rfl rfl (by first | exact Holds.cell H rfl | exact Holds.cell (Holds.f1 H) rfl | exact Holds.cell (Holds.f2 H) rfl | exact Holds.cell (Holds.f3 H) rfl | exact Holds.cell (Holds.f4 H) rfl | exact Holds.cell (Holds.f5 H) rfl | exact Holds.cell (Holds.f6 H) rfl | exact RdW.get (by assumption) rfl H | exact RdW.get0 (by assumption) rfl H | exact RdW.get (by assumption) rfl (Holds.drop H) | exact RdW.get0 (by assumption) rfl (Holds.drop H) | exact RdW.get (by assumption) rfl (Holds.drop (Holds.drop H)) | exact RdW.get0 (by assumption) rfl (Holds.drop (Holds.drop H)) | exact RdW.get (by assumption) rfl (Holds.drop (Holds.drop (Holds.drop H))) | exact RdW.get0 (by assumption) rfl (Holds.drop (Holds.drop (Holds.drop H))) | exact Holds.rowCell H (fun _ => rfl) (by first | assumption | exact atD_get (by assumption)) rfl | exact Holds.rowCell0 H (fun _ => rfl) (by first | assumption | exact atD_get (by assumption)) rfl | exact Holds.ownCell H (fun _ => rfl) (by first | assumption | exact atD_get (by assumption)) rfl | exact Holds.ownCell0 H (fun _ => rfl) (by first | assumption | exact atD_get (by assumption)) rfl | exact Holds.rowCell (Holds.f1 H) (fun _ => rfl) (by first | assumption | exact atD_get (by assumption)) rfl | exact Holds.rowCell0 (Holds.f1 H) (fun _ => rfl) (by first | assumption | exact atD_get (by assumption)) rfl | exact Holds.ownCell (Holds.f1 H) (fun _ => rfl) (by first | assumption | exact atD_get (by assumption)) rfl | exact Holds.ownCell0 (Holds.f1 H) (fun _ => rfl) (by first | assumption | exact atD_get (by assumption)) rfl | exact Holds.rowCell (Holds.f2 H) (fun _ => rfl) (by first | assumption | exact atD_get (by assumption)) rfl | exact Holds.rowCell0 (Holds.f2 H) (fun _ => rfl) (by first | assumption | exact atD_get (by assumption)) rfl | exact Holds.ownCell (Holds.f2 H) (fun _ => rfl) (by first | assumption | exact atD_get (by assumption)) rfl | exact Holds.ownCell0 (Holds.f2 H) (fun _ => rfl) (by first | assumption | exact atD_get (by assumption)) rfl | exact Holds.rowCell (Holds.f3 H) (fun _ => rfl) (by first | assumption | exact atD_get (by assumption)) rfl | exact Holds.rowCell0 (Holds.f3 H) (fun _ => rfl) (by first | assumption | exact atD_get (by assumption)) rfl | exact Holds.ownCell (Holds.f3 H) (fun _ => rfl) (by first | assumption | exact atD_get (by assumption)) rfl | exact Holds.ownCell0 (Holds.f3 H) (fun _ => rfl) (by first | assumption | exact atD_get (by assumption)) rfl | exact Holds.rowCell (Holds.f4 H) (fun _ => rfl) (by first | assumption | exact atD_get (by assumption)) rfl | exact Holds.rowCell0 (Holds.f4 H) (fun _ => rfl) (by first | assumption | exact atD_get (by assumption)) rfl | exact Holds.ownCell (Holds.f4 H) (fun _ => rfl) (by first | assumption | exact atD_get (by assumption)) rfl | exact Holds.ownCell0 (Holds.f4 H) (fun _ => rfl) (by first | assumption | exact atD_get (by assumption)) rfl | assumption) ?_
      | refine VcL.loadR tabOk rfl rfl rfl rfl rfl rfl (by first | exact RdW.rd (by assumption) H | exact RdW.rd (by assumption) (Holds.drop H) | exact RdW.rd (by assumption) (Holds.drop (Holds.drop H)) | exact RdW.rd (by assumption) (Holds.drop (Holds.drop (Holds.drop H))) | assumption) rfl ?_
      | refine VcL.loadN tabOk rfl rfl rfl rfl rfl rfl (by first | exact H | exact (Holds.f1 H) | exact (Holds.f2 H) | exact (Holds.f3 H) | exact (Holds.f4 H) | exact (Holds.f5 H) | exact (Holds.f6 H)) (by exact rfl) ?_
      | refine VcL.loadRowN0 tabOk rfl rfl rfl rfl rfl rfl H (fun _ => rfl) (by first | assumption | exact atD_get (by assumption)) (by exact rfl) (by exact rfl) (by exact rfl) ?_
      | refine VcL.loadRowN tabOk rfl rfl rfl rfl rfl rfl H (fun _ => rfl) (by first | assumption | exact atD_get (by assumption)) (by exact rfl) (by exact rfl) (by exact rfl) ?_
      | refine VcL.loadOwnN0 tabOk rfl rfl rfl rfl rfl rfl H (fun _ => rfl) (by first | assumption | exact atD_get (by assumption)) (by exact rfl) (by exact rfl) (by exact rfl) ?_
      | refine VcL.loadOwnN tabOk rfl rfl rfl rfl rfl rfl H (fun _ => rfl) (by first | assumption | exact atD_get (by assumption)) (by exact rfl) (by exact rfl) (by exact rfl) ?_
      | refine VcL.loadRowN0 tabOk rfl rfl rfl rfl rfl rfl (Holds.f1 H) (fun _ => rfl) (by first | assumption | exact atD_get (by assumption)) (by exact rfl) (by exact rfl) (by exact rfl) ?_
      | refine VcL.loadRowN tabOk rfl rfl rfl rfl rfl rfl (Holds.f1 H) (fun _ => rfl) (by first | assumption | exact atD_get (by assumption)) (by exact rfl) (by exact rfl) (by exact rfl) ?_
      | refine VcL.loadOwnN0 tabOk rfl rfl rfl rfl rfl rfl (Holds.f1 H) (fun _ => rfl) (by first | assumption | exact atD_get (by assumption)) (by exact rfl) (by exact rfl) (by exact rfl) ?_
      | refine VcL.loadOwnN tabOk rfl rfl rfl rfl rfl rfl (Holds.f1 H) (fun _ => rfl) (by first | assumption | exact atD_get (by assumption)) (by exact rfl) (by exact rfl) (by exact rfl) ?_
      | refine VcL.loadRowN0 tabOk rfl rfl rfl rfl rfl rfl (Holds.f2 H) (fun _ => rfl) (by first | assumption | exact atD_get (by assumption)) (by exact rfl) (by exact rfl) (by exact rfl) ?_
      | refine VcL.loadRowN tabOk rfl rfl rfl rfl rfl rfl (Holds.f2 H) (fun _ => rfl) (by first | assumption | exact atD_get (by assumption)) (by exact rfl) (by exact rfl) (by exact rfl) ?_
      | refine VcL.loadOwnN0 tabOk rfl rfl rfl rfl rfl rfl (Holds.f2 H) (fun _ => rfl) (by first | assumption | exact atD_get (by assumption)) (by exact rfl) (by exact rfl) (by exact rfl) ?_
      | refine VcL.loadOwnN tabOk rfl rfl rfl rfl rfl rfl (Holds.f2 H) (fun _ => rfl) (by first | assumption | exact atD_get (by assumption)) (by exact rfl) (by exact rfl) (by exact rfl) ?_
      | refine VcL.loadRowN0 tabOk rfl rfl rfl rfl rfl rfl (Holds.f3 H) (fun _ => rfl) (by first | assumption | exact atD_get (by assumption)) (by exact rfl) (by exact rfl) (by exact rfl) ?_
      | refine VcL.loadRowN tabOk rfl rfl rfl rfl rfl rfl (Holds.f3 H) (fun _ => rfl) (by first | assumption | exact atD_get (by assumption)) (by exact rfl) (by exact rfl) (by exact rfl) ?_
      | refine VcL.loadOwnN0 tabOk rfl rfl rfl rfl rfl rfl (Holds.f3 H) (fun _ => rfl) (by first | assumption | exact atD_get (by assumption)) (by exact rfl) (by exact rfl) (by exact rfl) ?_
      | refine VcL.loadOwnN tabOk rfl rfl rfl rfl rfl rfl (Holds.f3 H) (fun _ => rfl) (by first | assumption | exact atD_get (by assumption)) (by exact rfl) (by exact rfl) (by exact rfl) ?_
      | refine VcL.loadRowN0 tabOk rfl rfl rfl rfl rfl rfl (Holds.f4 H) (fun _ => rfl) (by first | assumption | exact atD_get (by assumption)) (by exact rfl) (by exact rfl) (by exact rfl) ?_
      | refine VcL.loadRowN tabOk rfl rfl rfl rfl rfl rfl (Holds.f4 H) (fun _ => rfl) (by first | assumption | exact atD_get (by assumption)) (by exact rfl) (by exact rfl) (by exact rfl) ?_
      | refine VcL.loadOwnN0 tabOk rfl rfl rfl rfl rfl rfl (Holds.f4 H) (fun _ => rfl) (by first | assumption | exact atD_get (by assumption)) (by exact rfl) (by exact rfl) (by exact rfl) ?_
      | refine VcL.loadOwnN tabOk rfl rfl rfl rfl rfl rfl (Holds.f4 H) (fun _ => rfl) (by first | assumption | exact atD_get (by assumption)) (by exact rfl) (by exact rfl) (by exact rfl) ?_)
      | (show VcL _ _ _ _ (⟨_, .binOp _ _ _ _ _, _, _, _, _⟩ :: _) _ _ _; first
      | refine VcL.shl rfl rfl (by first | assumption | rfl) rfl rfl rfl ?_
      | refine VcL.shr rfl rfl (by first | assumption | rfl) rfl rfl rfl ?_
      | refine VcL.eqS tabOk rfl rfl rfl rfl rfl rfl (by kernel_rfl) (by kernel_rfl) rfl rfl (by first | exact .inl rfl | exact .inr rfl) ?_)
      | (show VcL _ _ _ _ (⟨_, .indexAddr _ _ _, _, _, _, _⟩ :: _) _ _ _; first
      | refine VcL.indexAddr0 tabOk rfl rfl rfl rfl rfl rfl (by omega) (by omega) ?_
      | refine VcL.indexAddr tabOk rfl rfl rfl rfl rfl rfl (by omega) (by omega) ?_
      | refine VcL.indexArr0 tabOk rfl rfl rfl rfl rfl rfl (by omega) (by omega) ?_
      | refine VcL.indexArr tabOk rfl rfl rfl rfl rfl rfl (by omega) (by omega) ?_)
      | (show VcL _ _ _ _ (⟨_, .call ⟨.value (.func F_journal_Disk_Copy), _, _⟩, _, _, _, _⟩ :: _) _ _ _; first
      | (refine VcL.callF ok_journal_Disk_Copy rfl rfl rfl rfl (Rets.mono (CopyP_any (D := D) H (by omega)) ?_); rintro _ w ⟨c, rfl, H⟩))
      | (show VcL _ _ _ _ (⟨_, .call ⟨.value (.func F_tithingref16_Disk_Copy), _, _⟩, _, _, _, _⟩ :: _) _ _ _; first
      | (refine VcL.callF ok_tithingref16_Disk_Copy rfl rfl rfl rfl (Rets.mono (CopyR_any (D := D) (Holds.re [2] H rfl) (by omega)) ?_); rintro _ w ⟨o, rfl, H⟩))
      | (show VcL _ _ _ _ (⟨_, .call ⟨.value (.func F_journal_SameDisk), _, _⟩, _, _, _, _⟩ :: _) _ _ _; first
      | (refine VcL.callF ok_journal_SameDisk rfl rfl rfl rfl (Rets.mono (SameDisk_any (D := D) (C := D) (Holds.re [3, 2] H rfl) (by omega)) ?_); rintro _ w ⟨rfl, H⟩; rw [hdD]))
      | (refine VcL.guard rfl rfl rfl rfl (fun h => ?_) (fun h => ?_) <;> first | (cases h; done) | (exfalso; simp only [decide_eq_true_eq, decide_eq_false_iff_not, Bool.not_eq_true', Bool.not_eq_false'] at h; omega) | (with_reducible have hp := of_decide_eq_true h) | (with_reducible have hp := of_decide_eq_false h) | (with_reducible have hp := ndec_t h) | (with_reducible have hp := ndec_f h) | skip))
        | (show Vc _ _ _ _ _ _; first
      | refine Vc.seq ?_
      | refine Vc.region ?_
      | refine Vc.condT rfl ?_
      | refine Vc.condF rfl ?_
      | refine Vc.ret ?_
      | refine Vc.skip ?_
      | refine Vc.block ?_
      | refine Vc.exit ?_
      | (refine Vc.cond rfl (fun h => ?_) (fun h => ?_) <;> first | (cases h; done) | (exfalso; simp only [decide_eq_true_eq, decide_eq_false_iff_not, Bool.not_eq_true', Bool.not_eq_false'] at h; omega) | (with_reducible have hp := of_decide_eq_true h) | (with_reducible have hp := of_decide_eq_false h) | (with_reducible have hp := ndec_t h) | (with_reducible have hp := ndec_f h) | skip))
        | (show KSeq _ _ _ _ _ _ _; first
      | refine KSeq.normal ?_
      | refine KSeq.ret ?_
      | refine KSeq.exit ?_)
        | (show KBlock _ _ _ _ _ _; first
      | refine KBlock.normal ?_
      | refine KBlock.here ?_
      | refine KBlock.on rfl ?_
      | refine KBlock.ret ?_)
        | refine KLoop.exit ?_
        | refine KLoop.ret ?_
        | refine KCut.exit ?_
        | refine KCut.ret ?_
        | (show KEnd _ _ _ _ _ _ _; first
      | refine KEnd.fin (Or.inr rfl) ⟨_, (ResL.tmp rfl ResL.nil), ?_⟩
      | refine KEnd.fin (Or.inl rfl) ⟨_, (ResL.tmp rfl ResL.nil), ?_⟩))
      refine Vc.loopS [(2, _), (7, _), (9, _), (12, _), (13, _)] (fun k : Nat => [(14, .int .i64 k)]) (fun k w => k ≤ more.length ∧ ∃ J, Imm.Le I J ∧ Holds J w (dskA c ((more.take k).foldl doS D) :: rdkA J o ((more.take k).foldl doS D) :: dskA d D :: rdkA J r D :: L)) (fun k _ => more.length - k) 0 ⟨rfl, trivial⟩ ⟨rfl, rfl, rfl, rfl, rfl, trivial⟩ ⟨Nat.zero_le _, J, hJ, Holds.re [1, 1] H rfl⟩ ?_
      clear hJ H
      rintro k w ⟨hk2, J, hJ, H⟩
      have hwr2 := dos_writes (more.take k) D
      rw [List.length_take] at hwr2
      obtain ⟨C, hC⟩ : ∃ C, (more.take k).foldl doS D = C := ⟨_, rfl⟩
      rw [hC] at H hwr2
      by_cases hlt2 : k < more.length
      · obtain ⟨b1, o1, rfl, hrI⟩ := (hu.mono hJ).at (by omega)
        have hrI := hrI.elem acC_len (atD_get hlt2)
        obtain ⟨a, hat⟩ : ∃ a, atD more k = a := ⟨_, rfl⟩
        have hmem := atD_mem hlt2
        rw [hat] at hrI hmem
        have hnx : (more.take (k + 1)).foldl doS D = doS C a := by rw [take_atD hlt2, List.foldl_append, hC, hat]; rfl
        have hact := ha2 a hmem
        obtain ⟨what, block, num, byte, ⟨A3, cap3, done⟩, short⟩ := a
        have hr1 : RdW J (rdkA J r D :: L) b1 (o1 + k * 6) [.int .i64 what, .int .i64 block, .int .i64 num, .int .u8 byte, .slice A3 done.length cap3, .bool short] := RdI.toW hrI
        repeat' (first
          | (show VcL _ _ _ _ _ _ _ _; first
      | refine VcL.pures tabOk rfl ?_
      | refine VcL.nil ?_
      | (show VcL _ _ _ _ (⟨_, .load _ _, _, _, _, _⟩ :: _) _ _ _; first
      | refine VcL.load1 tabOk rfl rfl rfl rfl rfl (by first | exact Holds.cell H rfl | exact Holds.cell (Holds.f1 H) rfl | exact Holds.cell (Holds.f2 H) rfl | exact Holds.cell (Holds.f3 H) rfl | exact Holds.cell (Holds.f4 H) rfl | exact Holds.cell (Holds.f5 H) rfl | exact Holds.cell (Holds.f6 H) rfl | exact RdW.get (by assumption) rfl H | exact RdW.get0 (by assumption) rfl H | exact RdW.get (by assumption) rfl (Holds.drop H) | exact RdW.get0 (by assumption) rfl (Holds.drop H) | exact RdW.get (by assumption) rfl (Holds.drop (Holds.drop H)) | exact RdW.get0 (by assumption) rfl (Holds.drop (Holds.drop H)) | exact RdW.get (by assumption) rfl (Holds.drop (Holds.drop (Holds.drop H))) | exact RdW.get0 (by assumption) rfl (Holds.drop (Holds.drop (Holds.drop H))) | exact Holds.rowCell H (fun _ => rfl) (by first | assumption | exact atD_get (by assumption)) rfl | exact Holds.rowCell0 H (fun _ => rfl) (by first | assumption | exact atD_get (by assumption)) rfl | exact Holds.ownCell H (fun _ => rfl) (by first | assumption | exact atD_get (by assumption)) rfl | exact Holds.ownCell0 H (fun _ => rfl) (by first | assumption | exact atD_get (by assumption)) rfl | exact Holds.rowCell (Holds.f1 H) (fun _ => rfl) (by first | assumption | exact atD_get (by assumption)) rfl | exact Holds.rowCell0 (Holds.f1 H) (fun _ => rfl) (by first | assumption | exact atD_get (by assumption)) rfl | exact Holds.ownCell (Holds.f1 H) (fun _ => rfl) (by first | assumption | exact atD_get (by assumption)) rfl | exact Holds.ownCell0 (Holds.f1 H) (fun _ => rfl) (by first | assumption | exact atD_get (by assumption)) rfl | exact Holds.rowCell (Holds.f2 H) (fun _ => rfl) (by first | assumption | exact atD_get (by assumption)) rfl | exact Holds.rowCell0 (Holds.f2 H) (fun _ => rfl) (by first | assumption | exact atD_get (by assumption)) rfl | exact Holds.ownCell (Holds.f2 H) (fun _ => rfl) (by first | assumption | exact atD_get (by assumption)) rfl | exact Holds.ownCell0 (Holds.f2 H) (fun _ => rfl) (by first | assumption | exact atD_get (by assumption)) rfl | exact Holds.rowCell (Holds.f3 H) (fun _ => rfl) (by first | assumption | exact atD_get (by assumption)) rfl | exact Holds.rowCell0 (Holds.f3 H) (fun _ => rfl) (by first | assumption | exact atD_get (by assumption)) rfl | exact Holds.ownCell (Holds.f3 H) (fun _ => rfl) (by first | assumption | exact atD_get (by assumption)) rfl | exact Holds.ownCell0 (Holds.f3 H) (fun _ => rfl) (by first | assumption | exact atD_get (by assumption)) rfl | exact Holds.rowCell (Holds.f4 H) (fun _ => rfl) (by first | assumption | exact atD_get (by assumption)) rfl | exact Holds.rowCell0 (Holds.f4 H) (fun _ => rfl) (by first | assumption | exact atD_get (by assumption)) rfl | exact Holds.ownCell (Holds.f4 H) (fun _ => rfl) (by first | assumption | exact atD_get (by assumption)) rfl | exact Holds.ownCell0 (Holds.f4 H) (fun _ => rfl) (by first | assumption | exact atD_get (by assumption)) rfl | assumption) ?_
      | refine VcL.loadR tabOk rfl rfl rfl rfl rfl rfl (by first | exact RdW.rd (by assumption) H | exact RdW.rd (by assumption) (Holds.drop H) | exact RdW.rd (by assumption) (Holds.drop (Holds.drop H)) | exact RdW.rd (by assumption) (Holds.drop (Holds.drop (Holds.drop H))) | assumption) rfl ?_
      | refine VcL.loadN tabOk rfl rfl rfl rfl rfl rfl (by first | exact H | exact (Holds.f1 H) | exact (Holds.f2 H) | exact (Holds.f3 H) | exact (Holds.f4 H) | exact (Holds.f5 H) | exact (Holds.f6 H)) (by exact rfl) ?_
      | refine VcL.loadRowN0 tabOk rfl rfl rfl rfl rfl rfl H (fun _ => rfl) (by first | assumption | exact atD_get (by assumption)) (by exact rfl) (by exact rfl) (by exact rfl) ?_
      | refine VcL.loadRowN tabOk rfl rfl rfl rfl rfl rfl H (fun _ => rfl) (by first | assumption | exact atD_get (by assumption)) (by exact rfl) (by exact rfl) (by exact rfl) ?_
      | refine VcL.loadOwnN0 tabOk rfl rfl rfl rfl rfl rfl H (fun _ => rfl) (by first | assumption | exact atD_get (by assumption)) (by exact rfl) (by exact rfl) (by exact rfl) ?_
      | refine VcL.loadOwnN tabOk rfl rfl rfl rfl rfl rfl H (fun _ => rfl) (by first | assumption | exact atD_get (by assumption)) (by exact rfl) (by exact rfl) (by exact rfl) ?_
      | refine VcL.loadRowN0 tabOk rfl rfl rfl rfl rfl rfl (Holds.f1 H) (fun _ => rfl) (by first | assumption | exact atD_get (by assumption)) (by exact rfl) (by exact rfl) (by exact rfl) ?_
      | refine VcL.loadRowN tabOk rfl rfl rfl rfl rfl rfl (Holds.f1 H) (fun _ => rfl) (by first | assumption | exact atD_get (by assumption)) (by exact rfl) (by exact rfl) (by exact rfl) ?_
      | refine VcL.loadOwnN0 tabOk rfl rfl rfl rfl rfl rfl (Holds.f1 H) (fun _ => rfl) (by first | assumption | exact atD_get (by assumption)) (by exact rfl) (by exact rfl) (by exact rfl) ?_
      | refine VcL.loadOwnN tabOk rfl rfl rfl rfl rfl rfl (Holds.f1 H) (fun _ => rfl) (by first | assumption | exact atD_get (by assumption)) (by exact rfl) (by exact rfl) (by exact rfl) ?_
      | refine VcL.loadRowN0 tabOk rfl rfl rfl rfl rfl rfl (Holds.f2 H) (fun _ => rfl) (by first | assumption | exact atD_get (by assumption)) (by exact rfl) (by exact rfl) (by exact rfl) ?_
      | refine VcL.loadRowN tabOk rfl rfl rfl rfl rfl rfl (Holds.f2 H) (fun _ => rfl) (by first | assumption | exact atD_get (by assumption)) (by exact rfl) (by exact rfl) (by exact rfl) ?_
      | refine VcL.loadOwnN0 tabOk rfl rfl rfl rfl rfl rfl (Holds.f2 H) (fun _ => rfl) (by first | assumption | exact atD_get (by assumption)) (by exact rfl) (by exact rfl) (by exact rfl) ?_
      | refine VcL.loadOwnN tabOk rfl rfl rfl rfl rfl rfl (Holds.f2 H) (fun _ => rfl) (by first | assumption | exact atD_get (by assumption)) (by exact rfl) (by exact rfl) (by exact rfl) ?_
      | refine VcL.loadRowN0 tabOk rfl rfl rfl rfl rfl rfl (Holds.f3 H) (fun _ => rfl) (by first | assumption | exact atD_get (by assumption)) (by exact rfl) (by exact rfl) (by exact rfl) ?_
      | refine VcL.loadRowN tabOk rfl rfl rfl rfl rfl rfl (Holds.f3 H) (fun _ => rfl) (by first | assumption | exact atD_get (by assumption)) (by exact rfl) (by exact rfl) (by exact rfl) ?_
      | refine VcL.loadOwnN0 tabOk rfl rfl rfl rfl rfl rfl (Holds.f3 H) (fun _ => rfl) (by first | assumption | exact atD_get (by assumption)) (by exact rfl) (by exact rfl) (by exact rfl) ?_
      | refine VcL.loadOwnN tabOk rfl rfl rfl rfl rfl rfl (Holds.f3 H) (fun _ => rfl) (by first | assumption | exact atD_get (by assumption)) (by exact rfl) (by exact rfl) (by exact rfl) ?_
      | refine VcL.loadRowN0 tabOk rfl rfl rfl rfl rfl rfl (Holds.f4 H) (fun _ => rfl) (by first | assumption | exact atD_get (by assumption)) (by exact rfl) (by exact rfl) (by exact rfl) ?_
      | refine VcL.loadRowN tabOk rfl rfl rfl rfl rfl rfl (Holds.f4 H) (fun _ => rfl) (by first | assumption | exact atD_get (by assumption)) (by exact rfl) (by exact rfl) (by exact rfl) ?_
      | refine VcL.loadOwnN0 tabOk rfl rfl rfl rfl rfl rfl (Holds.f4 H) (fun _ => rfl) (by first | assumption | exact atD_get (by assumption)) (by exact rfl) (by exact rfl) (by exact rfl) ?_
      | refine VcL.loadOwnN tabOk rfl rfl rfl rfl rfl rfl (Holds.f4 H) (fun _ => rfl) (by first | assumption | exact atD_get (by assumption)) (by exact rfl) (by exact rfl) (by exact rfl) ?_)
      | (show VcL _ _ _ _ (⟨_, .binOp _ _ _ _ _, _, _, _, _⟩ :: _) _ _ _; first
      | refine VcL.shl rfl rfl (by first | assumption | rfl) rfl rfl rfl ?_
      | refine VcL.shr rfl rfl (by first | assumption | rfl) rfl rfl rfl ?_
      | refine VcL.eqS tabOk rfl rfl rfl rfl rfl rfl (by kernel_rfl) (by kernel_rfl) rfl rfl (by first | exact .inl rfl | exact .inr rfl) ?_)
      | (show VcL _ _ _ _ (⟨_, .indexAddr _ _ _, _, _, _, _⟩ :: _) _ _ _; first
      | refine VcL.indexAddr0 tabOk rfl rfl rfl rfl rfl rfl (by omega) (by omega) ?_
      | refine VcL.indexAddr tabOk rfl rfl rfl rfl rfl rfl (by omega) (by omega) ?_
      | refine VcL.indexArr0 tabOk rfl rfl rfl rfl rfl rfl (by omega) (by omega) ?_
      | refine VcL.indexArr tabOk rfl rfl rfl rfl rfl rfl (by omega) (by omega) ?_)
      | (show VcL _ _ _ _ (⟨_, .call ⟨.value (.func F_tithinglaw16_do), _, _⟩, _, _, _, _⟩ :: _) _ _ _; first
      | (refine VcL.callF ok_tithinglaw16_do rfl rfl rfl rfl (Rets.mono (do_any (D := C) (a := ⟨what, block, num, byte, (A3, cap3, done), short⟩) H (by omega) (hact.mono hJ)) ?_); rintro _ w ⟨J2, hJ2, rfl, H⟩))
      | (refine VcL.guard rfl rfl rfl rfl (fun h => ?_) (fun h => ?_) <;> first | (cases h; done) | (exfalso; simp only [decide_eq_true_eq, decide_eq_false_iff_not, Bool.not_eq_true', Bool.not_eq_false'] at h; omega) | (with_reducible have hp := of_decide_eq_true h) | (with_reducible have hp := of_decide_eq_false h) | (with_reducible have hp := ndec_t h) | (with_reducible have hp := ndec_f h) | skip))
          | (show Vc _ _ _ _ _ _; first
      | refine Vc.seq ?_
      | refine Vc.region ?_
      | refine Vc.condT rfl ?_
      | refine Vc.condF rfl ?_
      | refine Vc.ret ?_
      | refine Vc.skip ?_
      | refine Vc.block ?_
      | refine Vc.exit ?_
      | (refine Vc.cond rfl (fun h => ?_) (fun h => ?_) <;> first | (cases h; done) | (exfalso; simp only [decide_eq_true_eq, decide_eq_false_iff_not, Bool.not_eq_true', Bool.not_eq_false'] at h; omega) | (with_reducible have hp := of_decide_eq_true h) | (with_reducible have hp := of_decide_eq_false h) | (with_reducible have hp := ndec_t h) | (with_reducible have hp := ndec_f h) | skip))
          | (show KSeq _ _ _ _ _ _ _; first
      | refine KSeq.normal ?_
      | refine KSeq.ret ?_
      | refine KSeq.exit ?_)
          | (show KBlock _ _ _ _ _ _; first
      | refine KBlock.normal ?_
      | refine KBlock.here ?_
      | refine KBlock.on rfl ?_
      | refine KBlock.ret ?_)
          | refine KLoop.exit ?_
          | refine KLoop.ret ?_
          | refine KCut.exit ?_
          | refine KCut.ret ?_
          | (show KEnd _ _ _ _ _ _ _; first
      | refine KEnd.fin (Or.inr rfl) ⟨_, (ResL.tmp rfl ResL.nil), ?_⟩
      | refine KEnd.fin (Or.inl rfl) ⟨_, (ResL.tmp rfl ResL.nil), ?_⟩))
        refine KLoop.again (k + 1) ⟨got_succ rfl (by omega), trivial⟩ ⟨rfl, rfl, rfl, rfl, rfl, trivial⟩ ⟨hlt2, J2, hJ.trans hJ2, ?_⟩ (by omega)
        rw [hnx]
        exact Holds.re [1, 1, 1] (rdk_mono hJ2 (Holds.re [3] H rfl)) rfl
      · obtain rfl : k = more.length := by omega
        repeat' (first
          | (show VcL _ _ _ _ _ _ _ _; first
      | refine VcL.pures tabOk rfl ?_
      | refine VcL.nil ?_
      | (show VcL _ _ _ _ (⟨_, .load _ _, _, _, _, _⟩ :: _) _ _ _; first
      | refine VcL.load1 tabOk rfl rfl rfl rfl rfl (by first | exact Holds.cell H rfl | exact Holds.cell (Holds.f1 H) rfl | exact Holds.cell (Holds.f2 H) rfl | exact Holds.cell (Holds.f3 H) rfl | exact Holds.cell (Holds.f4 H) rfl | exact Holds.cell (Holds.f5 H) rfl | exact Holds.cell (Holds.f6 H) rfl | exact RdW.get (by assumption) rfl H | exact RdW.get0 (by assumption) rfl H | exact RdW.get (by assumption) rfl (Holds.drop H) | exact RdW.get0 (by assumption) rfl (Holds.drop H) | exact RdW.get (by assumption) rfl (Holds.drop (Holds.drop H)) | exact RdW.get0 (by assumption) rfl (Holds.drop (Holds.drop H)) | exact RdW.get (by assumption) rfl (Holds.drop (Holds.drop (Holds.drop H))) | exact RdW.get0 (by assumption) rfl (Holds.drop (Holds.drop (Holds.drop H))) | exact Holds.rowCell H (fun _ => rfl) (by first | assumption | exact atD_get (by assumption)) rfl | exact Holds.rowCell0 H (fun _ => rfl) (by first | assumption | exact atD_get (by assumption)) rfl | exact Holds.ownCell H (fun _ => rfl) (by first | assumption | exact atD_get (by assumption)) rfl | exact Holds.ownCell0 H (fun _ => rfl) (by first | assumption | exact atD_get (by assumption)) rfl | exact Holds.rowCell (Holds.f1 H) (fun _ => rfl) (by first | assumption | exact atD_get (by assumption)) rfl | exact Holds.rowCell0 (Holds.f1 H) (fun _ => rfl) (by first | assumption | exact atD_get (by assumption)) rfl | exact Holds.ownCell (Holds.f1 H) (fun _ => rfl) (by first | assumption | exact atD_get (by assumption)) rfl | exact Holds.ownCell0 (Holds.f1 H) (fun _ => rfl) (by first | assumption | exact atD_get (by assumption)) rfl | exact Holds.rowCell (Holds.f2 H) (fun _ => rfl) (by first | assumption | exact atD_get (by assumption)) rfl | exact Holds.rowCell0 (Holds.f2 H) (fun _ => rfl) (by first | assumption | exact atD_get (by assumption)) rfl | exact Holds.ownCell (Holds.f2 H) (fun _ => rfl) (by first | assumption | exact atD_get (by assumption)) rfl | exact Holds.ownCell0 (Holds.f2 H) (fun _ => rfl) (by first | assumption | exact atD_get (by assumption)) rfl | exact Holds.rowCell (Holds.f3 H) (fun _ => rfl) (by first | assumption | exact atD_get (by assumption)) rfl | exact Holds.rowCell0 (Holds.f3 H) (fun _ => rfl) (by first | assumption | exact atD_get (by assumption)) rfl | exact Holds.ownCell (Holds.f3 H) (fun _ => rfl) (by first | assumption | exact atD_get (by assumption)) rfl | exact Holds.ownCell0 (Holds.f3 H) (fun _ => rfl) (by first | assumption | exact atD_get (by assumption)) rfl | exact Holds.rowCell (Holds.f4 H) (fun _ => rfl) (by first | assumption | exact atD_get (by assumption)) rfl | exact Holds.rowCell0 (Holds.f4 H) (fun _ => rfl) (by first | assumption | exact atD_get (by assumption)) rfl | exact Holds.ownCell (Holds.f4 H) (fun _ => rfl) (by first | assumption | exact atD_get (by assumption)) rfl | exact Holds.ownCell0 (Holds.f4 H) (fun _ => rfl) (by first | assumption | exact atD_get (by assumption)) rfl | assumption) ?_
      | refine VcL.loadR tabOk rfl rfl rfl rfl rfl rfl (by first | exact RdW.rd (by assumption) H | exact RdW.rd (by assumption) (Holds.drop H) | exact RdW.rd (by assumption) (Holds.drop (Holds.drop H)) | exact RdW.rd (by assumption) (Holds.drop (Holds.drop (Holds.drop H))) | assumption) rfl ?_
      | refine VcL.loadN tabOk rfl rfl rfl rfl rfl rfl (by first | exact H | exact (Holds.f1 H) | exact (Holds.f2 H) | exact (Holds.f3 H) | exact (Holds.f4 H) | exact (Holds.f5 H) | exact (Holds.f6 H)) (by exact rfl) ?_
      | refine VcL.loadRowN0 tabOk rfl rfl rfl rfl rfl rfl H (fun _ => rfl) (by first | assumption | exact atD_get (by assumption)) (by exact rfl) (by exact rfl) (by exact rfl) ?_
      | refine VcL.loadRowN tabOk rfl rfl rfl rfl rfl rfl H (fun _ => rfl) (by first | assumption | exact atD_get (by assumption)) (by exact rfl) (by exact rfl) (by exact rfl) ?_
      | refine VcL.loadOwnN0 tabOk rfl rfl rfl rfl rfl rfl H (fun _ => rfl) (by first | assumption | exact atD_get (by assumption)) (by exact rfl) (by exact rfl) (by exact rfl) ?_
      | refine VcL.loadOwnN tabOk rfl rfl rfl rfl rfl rfl H (fun _ => rfl) (by first | assumption | exact atD_get (by assumption)) (by exact rfl) (by exact rfl) (by exact rfl) ?_
      | refine VcL.loadRowN0 tabOk rfl rfl rfl rfl rfl rfl (Holds.f1 H) (fun _ => rfl) (by first | assumption | exact atD_get (by assumption)) (by exact rfl) (by exact rfl) (by exact rfl) ?_
      | refine VcL.loadRowN tabOk rfl rfl rfl rfl rfl rfl (Holds.f1 H) (fun _ => rfl) (by first | assumption | exact atD_get (by assumption)) (by exact rfl) (by exact rfl) (by exact rfl) ?_
      | refine VcL.loadOwnN0 tabOk rfl rfl rfl rfl rfl rfl (Holds.f1 H) (fun _ => rfl) (by first | assumption | exact atD_get (by assumption)) (by exact rfl) (by exact rfl) (by exact rfl) ?_
      | refine VcL.loadOwnN tabOk rfl rfl rfl rfl rfl rfl (Holds.f1 H) (fun _ => rfl) (by first | assumption | exact atD_get (by assumption)) (by exact rfl) (by exact rfl) (by exact rfl) ?_
      | refine VcL.loadRowN0 tabOk rfl rfl rfl rfl rfl rfl (Holds.f2 H) (fun _ => rfl) (by first | assumption | exact atD_get (by assumption)) (by exact rfl) (by exact rfl) (by exact rfl) ?_
      | refine VcL.loadRowN tabOk rfl rfl rfl rfl rfl rfl (Holds.f2 H) (fun _ => rfl) (by first | assumption | exact atD_get (by assumption)) (by exact rfl) (by exact rfl) (by exact rfl) ?_
      | refine VcL.loadOwnN0 tabOk rfl rfl rfl rfl rfl rfl (Holds.f2 H) (fun _ => rfl) (by first | assumption | exact atD_get (by assumption)) (by exact rfl) (by exact rfl) (by exact rfl) ?_
      | refine VcL.loadOwnN tabOk rfl rfl rfl rfl rfl rfl (Holds.f2 H) (fun _ => rfl) (by first | assumption | exact atD_get (by assumption)) (by exact rfl) (by exact rfl) (by exact rfl) ?_
      | refine VcL.loadRowN0 tabOk rfl rfl rfl rfl rfl rfl (Holds.f3 H) (fun _ => rfl) (by first | assumption | exact atD_get (by assumption)) (by exact rfl) (by exact rfl) (by exact rfl) ?_
      | refine VcL.loadRowN tabOk rfl rfl rfl rfl rfl rfl (Holds.f3 H) (fun _ => rfl) (by first | assumption | exact atD_get (by assumption)) (by exact rfl) (by exact rfl) (by exact rfl) ?_
      | refine VcL.loadOwnN0 tabOk rfl rfl rfl rfl rfl rfl (Holds.f3 H) (fun _ => rfl) (by first | assumption | exact atD_get (by assumption)) (by exact rfl) (by exact rfl) (by exact rfl) ?_
      | refine VcL.loadOwnN tabOk rfl rfl rfl rfl rfl rfl (Holds.f3 H) (fun _ => rfl) (by first | assumption | exact atD_get (by assumption)) (by exact rfl) (by exact rfl) (by exact rfl) ?_
      | refine VcL.loadRowN0 tabOk rfl rfl rfl rfl rfl rfl (Holds.f4 H) (fun _ => rfl) (by first | assumption | exact atD_get (by assumption)) (by exact rfl) (by exact rfl) (by exact rfl) ?_
      | refine VcL.loadRowN tabOk rfl rfl rfl rfl rfl rfl (Holds.f4 H) (fun _ => rfl) (by first | assumption | exact atD_get (by assumption)) (by exact rfl) (by exact rfl) (by exact rfl) ?_
      | refine VcL.loadOwnN0 tabOk rfl rfl rfl rfl rfl rfl (Holds.f4 H) (fun _ => rfl) (by first | assumption | exact atD_get (by assumption)) (by exact rfl) (by exact rfl) (by exact rfl) ?_
      | refine VcL.loadOwnN tabOk rfl rfl rfl rfl rfl rfl (Holds.f4 H) (fun _ => rfl) (by first | assumption | exact atD_get (by assumption)) (by exact rfl) (by exact rfl) (by exact rfl) ?_)
      | (show VcL _ _ _ _ (⟨_, .binOp _ _ _ _ _, _, _, _, _⟩ :: _) _ _ _; first
      | refine VcL.shl rfl rfl (by first | assumption | rfl) rfl rfl rfl ?_
      | refine VcL.shr rfl rfl (by first | assumption | rfl) rfl rfl rfl ?_
      | refine VcL.eqS tabOk rfl rfl rfl rfl rfl rfl (by kernel_rfl) (by kernel_rfl) rfl rfl (by first | exact .inl rfl | exact .inr rfl) ?_)
      | (show VcL _ _ _ _ (⟨_, .indexAddr _ _ _, _, _, _, _⟩ :: _) _ _ _; first
      | refine VcL.indexAddr0 tabOk rfl rfl rfl rfl rfl rfl (by omega) (by omega) ?_
      | refine VcL.indexAddr tabOk rfl rfl rfl rfl rfl rfl (by omega) (by omega) ?_
      | refine VcL.indexArr0 tabOk rfl rfl rfl rfl rfl rfl (by omega) (by omega) ?_
      | refine VcL.indexArr tabOk rfl rfl rfl rfl rfl rfl (by omega) (by omega) ?_)
      | (show VcL _ _ _ _ (⟨_, .call ⟨.value (.func F_tithinglaw16_same), _, _⟩, _, _, _, _⟩ :: _) _ _ _; first
      | (refine VcL.callF ok_tithinglaw16_same rfl rfl rfl rfl (Rets.mono (same_any (Holds.re [2, 2] H rfl) (by omega)) ?_); rintro _ w ⟨rfl, H⟩))
      | (show VcL _ _ _ _ (⟨_, .call ⟨.value (.func F_tithinglaw16_same), _, _⟩, _, _, _, _⟩ :: _) _ _ _; first
      | (refine VcL.callF ok_tithinglaw16_same rfl rfl rfl rfl (Rets.mono (same_any (Holds.re [2, 2] H rfl) (by omega)) ?_); rintro _ w ⟨rfl, H⟩))
      | (show VcL _ _ _ _ (⟨_, .call ⟨.value (.func F_journal_SameDisk), _, _⟩, _, _, _, _⟩ :: _) _ _ _; first
      | (refine VcL.callF ok_journal_SameDisk rfl rfl rfl rfl (Rets.mono (SameDisk_any (D := D) (C := C) (Holds.re [2] H rfl) (by omega)) ?_); rintro _ w ⟨rfl, H⟩))
      | (show VcL _ _ _ _ (⟨_, .call ⟨.value (.func F_tithingref16_SameDisk), _, _⟩, _, _, _, _⟩ :: _) _ _ _; first
      | (refine VcL.callF ok_tithingref16_SameDisk rfl rfl rfl rfl (Rets.mono (SameDiskR_any (D := D) (C := C) (Holds.re [3, 2] H rfl) (by omega)) ?_); rintro _ w ⟨rfl, H⟩))
      | (refine VcL.guard rfl rfl rfl rfl (fun h => ?_) (fun h => ?_) <;> first | (cases h; done) | (exfalso; simp only [decide_eq_true_eq, decide_eq_false_iff_not, Bool.not_eq_true', Bool.not_eq_false'] at h; omega) | (with_reducible have hp := of_decide_eq_true h) | (with_reducible have hp := of_decide_eq_false h) | (with_reducible have hp := ndec_t h) | (with_reducible have hp := ndec_f h) | skip))
          | (show Vc _ _ _ _ _ _; first
      | refine Vc.seq ?_
      | refine Vc.region ?_
      | refine Vc.condT rfl ?_
      | refine Vc.condF rfl ?_
      | refine Vc.ret ?_
      | refine Vc.skip ?_
      | refine Vc.block ?_
      | refine Vc.exit ?_
      | (refine Vc.cond rfl (fun h => ?_) (fun h => ?_) <;> first | (cases h; done) | (exfalso; simp only [decide_eq_true_eq, decide_eq_false_iff_not, Bool.not_eq_true', Bool.not_eq_false'] at h; omega) | (with_reducible have hp := of_decide_eq_true h) | (with_reducible have hp := of_decide_eq_false h) | (with_reducible have hp := ndec_t h) | (with_reducible have hp := ndec_f h) | skip))
          | (show KSeq _ _ _ _ _ _ _; first
      | refine KSeq.normal ?_
      | refine KSeq.ret ?_
      | refine KSeq.exit ?_)
          | (show KBlock _ _ _ _ _ _; first
      | refine KBlock.normal ?_
      | refine KBlock.here ?_
      | refine KBlock.on rfl ?_
      | refine KBlock.ret ?_)
          | refine KLoop.exit ?_
          | refine KLoop.ret ?_
          | refine KCut.exit ?_
          | refine KCut.ret ?_
          | (show KEnd _ _ _ _ _ _ _; first
      | refine KEnd.fin (Or.inr rfl) ⟨_, (ResL.tmp rfl ResL.nil), ?_⟩
      | refine KEnd.fin (Or.inl rfl) ⟨_, (ResL.tmp rfl ResL.nil), ?_⟩))
        · exact absurd rfl hp
        rw [List.take_length] at hC
        refine Vc.loopS [(2, _), (7, _), (9, _), (12, _)] (fun k : Nat => [(15, .int .i64 k)]) (fun k w => k ≤ more.length ∧ ∃ J, Imm.Le I J ∧ Holds J w (dskA d ((more.take k).foldl doS D) :: rdkA J r ((more.take k).foldl doS D) :: dskA c C :: L)) (fun k _ => more.length - k) 0 ⟨rfl, trivial⟩ ⟨rfl, rfl, rfl, rfl, trivial⟩ ⟨Nat.zero_le _, J, hJ, Holds.drop2 (Holds.re [2, 0] H rfl)⟩ ?_
        clear hJ H
        rintro k w ⟨hk3, J, hJ, H⟩
        have hwr3 := dos_writes (more.take k) D
        rw [List.length_take] at hwr3
        obtain ⟨E, hE⟩ : ∃ E, (more.take k).foldl doS D = E := ⟨_, rfl⟩
        rw [hE] at H hwr3
        by_cases hlt3 : k < more.length
        · obtain ⟨b1, o1, rfl, hrI⟩ := (hu.mono hJ).at (by omega)
          have hrI := hrI.elem acC_len (atD_get hlt3)
          obtain ⟨a, hat⟩ : ∃ a, atD more k = a := ⟨_, rfl⟩
          have hmem := atD_mem hlt3
          rw [hat] at hrI hmem
          have hnx : (more.take (k + 1)).foldl doS D = doS E a := by rw [take_atD hlt3, List.foldl_append, hE, hat]; rfl
          have hact := ha2 a hmem
          obtain ⟨what, block, num, byte, ⟨A3, cap3, done⟩, short⟩ := a
          have hr1 : RdW J (dskA c C :: L) b1 (o1 + k * 6) [.int .i64 what, .int .i64 block, .int .i64 num, .int .u8 byte, .slice A3 done.length cap3, .bool short] := RdI.toW hrI
          repeat' (first
            | (show VcL _ _ _ _ _ _ _ _; first
      | refine VcL.pures tabOk rfl ?_
      | refine VcL.nil ?_
      | (show VcL _ _ _ _ (⟨_, .load _ _, _, _, _, _⟩ :: _) _ _ _; first
      | refine VcL.load1 tabOk rfl rfl rfl rfl rfl (by first | exact Holds.cell H rfl | exact Holds.cell (Holds.f1 H) rfl | exact Holds.cell (Holds.f2 H) rfl | exact Holds.cell (Holds.f3 H) rfl | exact Holds.cell (Holds.f4 H) rfl | exact Holds.cell (Holds.f5 H) rfl | exact Holds.cell (Holds.f6 H) rfl | exact RdW.get (by assumption) rfl H | exact RdW.get0 (by assumption) rfl H | exact RdW.get (by assumption) rfl (Holds.drop H) | exact RdW.get0 (by assumption) rfl (Holds.drop H) | exact RdW.get (by assumption) rfl (Holds.drop (Holds.drop H)) | exact RdW.get0 (by assumption) rfl (Holds.drop (Holds.drop H)) | exact RdW.get (by assumption) rfl (Holds.drop (Holds.drop (Holds.drop H))) | exact RdW.get0 (by assumption) rfl (Holds.drop (Holds.drop (Holds.drop H))) | exact Holds.rowCell H (fun _ => rfl) (by first | assumption | exact atD_get (by assumption)) rfl | exact Holds.rowCell0 H (fun _ => rfl) (by first | assumption | exact atD_get (by assumption)) rfl | exact Holds.ownCell H (fun _ => rfl) (by first | assumption | exact atD_get (by assumption)) rfl | exact Holds.ownCell0 H (fun _ => rfl) (by first | assumption | exact atD_get (by assumption)) rfl | exact Holds.rowCell (Holds.f1 H) (fun _ => rfl) (by first | assumption | exact atD_get (by assumption)) rfl | exact Holds.rowCell0 (Holds.f1 H) (fun _ => rfl) (by first | assumption | exact atD_get (by assumption)) rfl | exact Holds.ownCell (Holds.f1 H) (fun _ => rfl) (by first | assumption | exact atD_get (by assumption)) rfl | exact Holds.ownCell0 (Holds.f1 H) (fun _ => rfl) (by first | assumption | exact atD_get (by assumption)) rfl | exact Holds.rowCell (Holds.f2 H) (fun _ => rfl) (by first | assumption | exact atD_get (by assumption)) rfl | exact Holds.rowCell0 (Holds.f2 H) (fun _ => rfl) (by first | assumption | exact atD_get (by assumption)) rfl | exact Holds.ownCell (Holds.f2 H) (fun _ => rfl) (by first | assumption | exact atD_get (by assumption)) rfl | exact Holds.ownCell0 (Holds.f2 H) (fun _ => rfl) (by first | assumption | exact atD_get (by assumption)) rfl | exact Holds.rowCell (Holds.f3 H) (fun _ => rfl) (by first | assumption | exact atD_get (by assumption)) rfl | exact Holds.rowCell0 (Holds.f3 H) (fun _ => rfl) (by first | assumption | exact atD_get (by assumption)) rfl | exact Holds.ownCell (Holds.f3 H) (fun _ => rfl) (by first | assumption | exact atD_get (by assumption)) rfl | exact Holds.ownCell0 (Holds.f3 H) (fun _ => rfl) (by first | assumption | exact atD_get (by assumption)) rfl | exact Holds.rowCell (Holds.f4 H) (fun _ => rfl) (by first | assumption | exact atD_get (by assumption)) rfl | exact Holds.rowCell0 (Holds.f4 H) (fun _ => rfl) (by first | assumption | exact atD_get (by assumption)) rfl | exact Holds.ownCell (Holds.f4 H) (fun _ => rfl) (by first | assumption | exact atD_get (by assumption)) rfl | exact Holds.ownCell0 (Holds.f4 H) (fun _ => rfl) (by first | assumption | exact atD_get (by assumption)) rfl | assumption) ?_
      | refine VcL.loadR tabOk rfl rfl rfl rfl rfl rfl (by first | exact RdW.rd (by assumption) H | exact RdW.rd (by assumption) (Holds.drop H) | exact RdW.rd (by assumption) (Holds.drop (Holds.drop H)) | exact RdW.rd (by assumption) (Holds.drop (Holds.drop (Holds.drop H))) | assumption) rfl ?_
      | refine VcL.loadN tabOk rfl rfl rfl rfl rfl rfl (by first | exact H | exact (Holds.f1 H) | exact (Holds.f2 H) | exact (Holds.f3 H) | exact (Holds.f4 H) | exact (Holds.f5 H) | exact (Holds.f6 H)) (by exact rfl) ?_
      | refine VcL.loadRowN0 tabOk rfl rfl rfl rfl rfl rfl H (fun _ => rfl) (by first | assumption | exact atD_get (by assumption)) (by exact rfl) (by exact rfl) (by exact rfl) ?_
      | refine VcL.loadRowN tabOk rfl rfl rfl rfl rfl rfl H (fun _ => rfl) (by first | assumption | exact atD_get (by assumption)) (by exact rfl) (by exact rfl) (by exact rfl) ?_
      | refine VcL.loadOwnN0 tabOk rfl rfl rfl rfl rfl rfl H (fun _ => rfl) (by first | assumption | exact atD_get (by assumption)) (by exact rfl) (by exact rfl) (by exact rfl) ?_
      | refine VcL.loadOwnN tabOk rfl rfl rfl rfl rfl rfl H (fun _ => rfl) (by first | assumption | exact atD_get (by assumption)) (by exact rfl) (by exact rfl) (by exact rfl) ?_
      | refine VcL.loadRowN0 tabOk rfl rfl rfl rfl rfl rfl (Holds.f1 H) (fun _ => rfl) (by first | assumption | exact atD_get (by assumption)) (by exact rfl) (by exact rfl) (by exact rfl) ?_
      | refine VcL.loadRowN tabOk rfl rfl rfl rfl rfl rfl (Holds.f1 H) (fun _ => rfl) (by first | assumption | exact atD_get (by assumption)) (by exact rfl) (by exact rfl) (by exact rfl) ?_
      | refine VcL.loadOwnN0 tabOk rfl rfl rfl rfl rfl rfl (Holds.f1 H) (fun _ => rfl) (by first | assumption | exact atD_get (by assumption)) (by exact rfl) (by exact rfl) (by exact rfl) ?_
      | refine VcL.loadOwnN tabOk rfl rfl rfl rfl rfl rfl (Holds.f1 H) (fun _ => rfl) (by first | assumption | exact atD_get (by assumption)) (by exact rfl) (by exact rfl) (by exact rfl) ?_
      | refine VcL.loadRowN0 tabOk rfl rfl rfl rfl rfl rfl (Holds.f2 H) (fun _ => rfl) (by first | assumption | exact atD_get (by assumption)) (by exact rfl) (by exact rfl) (by exact rfl) ?_
      | refine VcL.loadRowN tabOk rfl rfl rfl rfl rfl rfl (Holds.f2 H) (fun _ => rfl) (by first | assumption | exact atD_get (by assumption)) (by exact rfl) (by exact rfl) (by exact rfl) ?_
      | refine VcL.loadOwnN0 tabOk rfl rfl rfl rfl rfl rfl (Holds.f2 H) (fun _ => rfl) (by first | assumption | exact atD_get (by assumption)) (by exact rfl) (by exact rfl) (by exact rfl) ?_
      | refine VcL.loadOwnN tabOk rfl rfl rfl rfl rfl rfl (Holds.f2 H) (fun _ => rfl) (by first | assumption | exact atD_get (by assumption)) (by exact rfl) (by exact rfl) (by exact rfl) ?_
      | refine VcL.loadRowN0 tabOk rfl rfl rfl rfl rfl rfl (Holds.f3 H) (fun _ => rfl) (by first | assumption | exact atD_get (by assumption)) (by exact rfl) (by exact rfl) (by exact rfl) ?_
      | refine VcL.loadRowN tabOk rfl rfl rfl rfl rfl rfl (Holds.f3 H) (fun _ => rfl) (by first | assumption | exact atD_get (by assumption)) (by exact rfl) (by exact rfl) (by exact rfl) ?_
      | refine VcL.loadOwnN0 tabOk rfl rfl rfl rfl rfl rfl (Holds.f3 H) (fun _ => rfl) (by first | assumption | exact atD_get (by assumption)) (by exact rfl) (by exact rfl) (by exact rfl) ?_
      | refine VcL.loadOwnN tabOk rfl rfl rfl rfl rfl rfl (Holds.f3 H) (fun _ => rfl) (by first | assumption | exact atD_get (by assumption)) (by exact rfl) (by exact rfl) (by exact rfl) ?_
      | refine VcL.loadRowN0 tabOk rfl rfl rfl rfl rfl rfl (Holds.f4 H) (fun _ => rfl) (by first | assumption | exact atD_get (by assumption)) (by exact rfl) (by exact rfl) (by exact rfl) ?_
      | refine VcL.loadRowN tabOk rfl rfl rfl rfl rfl rfl (Holds.f4 H) (fun _ => rfl) (by first | assumption | exact atD_get (by assumption)) (by exact rfl) (by exact rfl) (by exact rfl) ?_
      | refine VcL.loadOwnN0 tabOk rfl rfl rfl rfl rfl rfl (Holds.f4 H) (fun _ => rfl) (by first | assumption | exact atD_get (by assumption)) (by exact rfl) (by exact rfl) (by exact rfl) ?_
      | refine VcL.loadOwnN tabOk rfl rfl rfl rfl rfl rfl (Holds.f4 H) (fun _ => rfl) (by first | assumption | exact atD_get (by assumption)) (by exact rfl) (by exact rfl) (by exact rfl) ?_)
      | (show VcL _ _ _ _ (⟨_, .binOp _ _ _ _ _, _, _, _, _⟩ :: _) _ _ _; first
      | refine VcL.shl rfl rfl (by first | assumption | rfl) rfl rfl rfl ?_
      | refine VcL.shr rfl rfl (by first | assumption | rfl) rfl rfl rfl ?_
      | refine VcL.eqS tabOk rfl rfl rfl rfl rfl rfl (by kernel_rfl) (by kernel_rfl) rfl rfl (by first | exact .inl rfl | exact .inr rfl) ?_)
      | (show VcL _ _ _ _ (⟨_, .indexAddr _ _ _, _, _, _, _⟩ :: _) _ _ _; first
      | refine VcL.indexAddr0 tabOk rfl rfl rfl rfl rfl rfl (by omega) (by omega) ?_
      | refine VcL.indexAddr tabOk rfl rfl rfl rfl rfl rfl (by omega) (by omega) ?_
      | refine VcL.indexArr0 tabOk rfl rfl rfl rfl rfl rfl (by omega) (by omega) ?_
      | refine VcL.indexArr tabOk rfl rfl rfl rfl rfl rfl (by omega) (by omega) ?_)
      | (show VcL _ _ _ _ (⟨_, .call ⟨.value (.func F_tithinglaw16_do), _, _⟩, _, _, _, _⟩ :: _) _ _ _; first
      | (refine VcL.callF ok_tithinglaw16_do rfl rfl rfl rfl (Rets.mono (do_any (D := E) (a := ⟨what, block, num, byte, (A3, cap3, done), short⟩) H (by omega) (hact.mono hJ)) ?_); rintro _ w ⟨J2, hJ2, rfl, H⟩))
      | (refine VcL.guard rfl rfl rfl rfl (fun h => ?_) (fun h => ?_) <;> first | (cases h; done) | (exfalso; simp only [decide_eq_true_eq, decide_eq_false_iff_not, Bool.not_eq_true', Bool.not_eq_false'] at h; omega) | (with_reducible have hp := of_decide_eq_true h) | (with_reducible have hp := of_decide_eq_false h) | (with_reducible have hp := ndec_t h) | (with_reducible have hp := ndec_f h) | skip))
            | (show Vc _ _ _ _ _ _; first
      | refine Vc.seq ?_
      | refine Vc.region ?_
      | refine Vc.condT rfl ?_
      | refine Vc.condF rfl ?_
      | refine Vc.ret ?_
      | refine Vc.skip ?_
      | refine Vc.block ?_
      | refine Vc.exit ?_
      | (refine Vc.cond rfl (fun h => ?_) (fun h => ?_) <;> first | (cases h; done) | (exfalso; simp only [decide_eq_true_eq, decide_eq_false_iff_not, Bool.not_eq_true', Bool.not_eq_false'] at h; omega) | (with_reducible have hp := of_decide_eq_true h) | (with_reducible have hp := of_decide_eq_false h) | (with_reducible have hp := ndec_t h) | (with_reducible have hp := ndec_f h) | skip))
            | (show KSeq _ _ _ _ _ _ _; first
      | refine KSeq.normal ?_
      | refine KSeq.ret ?_
      | refine KSeq.exit ?_)
            | (show KBlock _ _ _ _ _ _; first
      | refine KBlock.normal ?_
      | refine KBlock.here ?_
      | refine KBlock.on rfl ?_
      | refine KBlock.ret ?_)
            | refine KLoop.exit ?_
            | refine KLoop.ret ?_
            | refine KCut.exit ?_
            | refine KCut.ret ?_
            | (show KEnd _ _ _ _ _ _ _; first
      | refine KEnd.fin (Or.inr rfl) ⟨_, (ResL.tmp rfl ResL.nil), ?_⟩
      | refine KEnd.fin (Or.inl rfl) ⟨_, (ResL.tmp rfl ResL.nil), ?_⟩))
          refine KLoop.again (k + 1) ⟨got_succ rfl (by omega), trivial⟩ ⟨rfl, rfl, rfl, rfl, trivial⟩ ⟨hlt3, J2, hJ.trans hJ2, ?_⟩ (by omega)
          rw [hnx]
          exact H
        · obtain rfl : k = more.length := by omega
          rw [List.take_length] at hE
          obtain rfl : C = E := hC.symm.trans hE
          have hcC : decide (C = C) = true := decide_eq_true rfl
          repeat' (first
            | (show VcL _ _ _ _ _ _ _ _; first
      | refine VcL.pures tabOk rfl ?_
      | refine VcL.nil ?_
      | (show VcL _ _ _ _ (⟨_, .load _ _, _, _, _, _⟩ :: _) _ _ _; first
      | refine VcL.load1 tabOk rfl rfl rfl rfl rfl (by first | exact Holds.cell H rfl | exact Holds.cell (Holds.f1 H) rfl | exact Holds.cell (Holds.f2 H) rfl | exact Holds.cell (Holds.f3 H) rfl | exact Holds.cell (Holds.f4 H) rfl | exact Holds.cell (Holds.f5 H) rfl | exact Holds.cell (Holds.f6 H) rfl | exact RdW.get (by assumption) rfl H | exact RdW.get0 (by assumption) rfl H | exact RdW.get (by assumption) rfl (Holds.drop H) | exact RdW.get0 (by assumption) rfl (Holds.drop H) | exact RdW.get (by assumption) rfl (Holds.drop (Holds.drop H)) | exact RdW.get0 (by assumption) rfl (Holds.drop (Holds.drop H)) | exact RdW.get (by assumption) rfl (Holds.drop (Holds.drop (Holds.drop H))) | exact RdW.get0 (by assumption) rfl (Holds.drop (Holds.drop (Holds.drop H))) | exact Holds.rowCell H (fun _ => rfl) (by first | assumption | exact atD_get (by assumption)) rfl | exact Holds.rowCell0 H (fun _ => rfl) (by first | assumption | exact atD_get (by assumption)) rfl | exact Holds.ownCell H (fun _ => rfl) (by first | assumption | exact atD_get (by assumption)) rfl | exact Holds.ownCell0 H (fun _ => rfl) (by first | assumption | exact atD_get (by assumption)) rfl | exact Holds.rowCell (Holds.f1 H) (fun _ => rfl) (by first | assumption | exact atD_get (by assumption)) rfl | exact Holds.rowCell0 (Holds.f1 H) (fun _ => rfl) (by first | assumption | exact atD_get (by assumption)) rfl | exact Holds.ownCell (Holds.f1 H) (fun _ => rfl) (by first | assumption | exact atD_get (by assumption)) rfl | exact Holds.ownCell0 (Holds.f1 H) (fun _ => rfl) (by first | assumption | exact atD_get (by assumption)) rfl | exact Holds.rowCell (Holds.f2 H) (fun _ => rfl) (by first | assumption | exact atD_get (by assumption)) rfl | exact Holds.rowCell0 (Holds.f2 H) (fun _ => rfl) (by first | assumption | exact atD_get (by assumption)) rfl | exact Holds.ownCell (Holds.f2 H) (fun _ => rfl) (by first | assumption | exact atD_get (by assumption)) rfl | exact Holds.ownCell0 (Holds.f2 H) (fun _ => rfl) (by first | assumption | exact atD_get (by assumption)) rfl | exact Holds.rowCell (Holds.f3 H) (fun _ => rfl) (by first | assumption | exact atD_get (by assumption)) rfl | exact Holds.rowCell0 (Holds.f3 H) (fun _ => rfl) (by first | assumption | exact atD_get (by assumption)) rfl | exact Holds.ownCell (Holds.f3 H) (fun _ => rfl) (by first | assumption | exact atD_get (by assumption)) rfl | exact Holds.ownCell0 (Holds.f3 H) (fun _ => rfl) (by first | assumption | exact atD_get (by assumption)) rfl | exact Holds.rowCell (Holds.f4 H) (fun _ => rfl) (by first | assumption | exact atD_get (by assumption)) rfl | exact Holds.rowCell0 (Holds.f4 H) (fun _ => rfl) (by first | assumption | exact atD_get (by assumption)) rfl | exact Holds.ownCell (Holds.f4 H) (fun _ => rfl) (by first | assumption | exact atD_get (by assumption)) rfl | exact Holds.ownCell0 (Holds.f4 H) (fun _ => rfl) (by first | assumption | exact atD_get (by assumption)) rfl | assumption) ?_
      | refine VcL.loadR tabOk rfl rfl rfl rfl rfl rfl (by first | exact RdW.rd (by assumption) H | exact RdW.rd (by assumption) (Holds.drop H) | exact RdW.rd (by assumption) (Holds.drop (Holds.drop H)) | exact RdW.rd (by assumption) (Holds.drop (Holds.drop (Holds.drop H))) | assumption) rfl ?_
      | refine VcL.loadN tabOk rfl rfl rfl rfl rfl rfl (by first | exact H | exact (Holds.f1 H) | exact (Holds.f2 H) | exact (Holds.f3 H) | exact (Holds.f4 H) | exact (Holds.f5 H) | exact (Holds.f6 H)) (by exact rfl) ?_
      | refine VcL.loadRowN0 tabOk rfl rfl rfl rfl rfl rfl H (fun _ => rfl) (by first | assumption | exact atD_get (by assumption)) (by exact rfl) (by exact rfl) (by exact rfl) ?_
      | refine VcL.loadRowN tabOk rfl rfl rfl rfl rfl rfl H (fun _ => rfl) (by first | assumption | exact atD_get (by assumption)) (by exact rfl) (by exact rfl) (by exact rfl) ?_
      | refine VcL.loadOwnN0 tabOk rfl rfl rfl rfl rfl rfl H (fun _ => rfl) (by first | assumption | exact atD_get (by assumption)) (by exact rfl) (by exact rfl) (by exact rfl) ?_
      | refine VcL.loadOwnN tabOk rfl rfl rfl rfl rfl rfl H (fun _ => rfl) (by first | assumption | exact atD_get (by assumption)) (by exact rfl) (by exact rfl) (by exact rfl) ?_
      | refine VcL.loadRowN0 tabOk rfl rfl rfl rfl rfl rfl (Holds.f1 H) (fun _ => rfl) (by first | assumption | exact atD_get (by assumption)) (by exact rfl) (by exact rfl) (by exact rfl) ?_
      | refine VcL.loadRowN tabOk rfl rfl rfl rfl rfl rfl (Holds.f1 H) (fun _ => rfl) (by first | assumption | exact atD_get (by assumption)) (by exact rfl) (by exact rfl) (by exact rfl) ?_
      | refine VcL.loadOwnN0 tabOk rfl rfl rfl rfl rfl rfl (Holds.f1 H) (fun _ => rfl) (by first | assumption | exact atD_get (by assumption)) (by exact rfl) (by exact rfl) (by exact rfl) ?_
      | refine VcL.loadOwnN tabOk rfl rfl rfl rfl rfl rfl (Holds.f1 H) (fun _ => rfl) (by first | assumption | exact atD_get (by assumption)) (by exact rfl) (by exact rfl) (by exact rfl) ?_
      | refine VcL.loadRowN0 tabOk rfl rfl rfl rfl rfl rfl (Holds.f2 H) (fun _ => rfl) (by first | assumption | exact atD_get (by assumption)) (by exact rfl) (by exact rfl) (by exact rfl) ?_
      | refine VcL.loadRowN tabOk rfl rfl rfl rfl rfl rfl (Holds.f2 H) (fun _ => rfl) (by first | assumption | exact atD_get (by assumption)) (by exact rfl) (by exact rfl) (by exact rfl) ?_
      | refine VcL.loadOwnN0 tabOk rfl rfl rfl rfl rfl rfl (Holds.f2 H) (fun _ => rfl) (by first | assumption | exact atD_get (by assumption)) (by exact rfl) (by exact rfl) (by exact rfl) ?_
      | refine VcL.loadOwnN tabOk rfl rfl rfl rfl rfl rfl (Holds.f2 H) (fun _ => rfl) (by first | assumption | exact atD_get (by assumption)) (by exact rfl) (by exact rfl) (by exact rfl) ?_
      | refine VcL.loadRowN0 tabOk rfl rfl rfl rfl rfl rfl (Holds.f3 H) (fun _ => rfl) (by first | assumption | exact atD_get (by assumption)) (by exact rfl) (by exact rfl) (by exact rfl) ?_
      | refine VcL.loadRowN tabOk rfl rfl rfl rfl rfl rfl (Holds.f3 H) (fun _ => rfl) (by first | assumption | exact atD_get (by assumption)) (by exact rfl) (by exact rfl) (by exact rfl) ?_
      | refine VcL.loadOwnN0 tabOk rfl rfl rfl rfl rfl rfl (Holds.f3 H) (fun _ => rfl) (by first | assumption | exact atD_get (by assumption)) (by exact rfl) (by exact rfl) (by exact rfl) ?_
      | refine VcL.loadOwnN tabOk rfl rfl rfl rfl rfl rfl (Holds.f3 H) (fun _ => rfl) (by first | assumption | exact atD_get (by assumption)) (by exact rfl) (by exact rfl) (by exact rfl) ?_
      | refine VcL.loadRowN0 tabOk rfl rfl rfl rfl rfl rfl (Holds.f4 H) (fun _ => rfl) (by first | assumption | exact atD_get (by assumption)) (by exact rfl) (by exact rfl) (by exact rfl) ?_
      | refine VcL.loadRowN tabOk rfl rfl rfl rfl rfl rfl (Holds.f4 H) (fun _ => rfl) (by first | assumption | exact atD_get (by assumption)) (by exact rfl) (by exact rfl) (by exact rfl) ?_
      | refine VcL.loadOwnN0 tabOk rfl rfl rfl rfl rfl rfl (Holds.f4 H) (fun _ => rfl) (by first | assumption | exact atD_get (by assumption)) (by exact rfl) (by exact rfl) (by exact rfl) ?_
      | refine VcL.loadOwnN tabOk rfl rfl rfl rfl rfl rfl (Holds.f4 H) (fun _ => rfl) (by first | assumption | exact atD_get (by assumption)) (by exact rfl) (by exact rfl) (by exact rfl) ?_)
      | (show VcL _ _ _ _ (⟨_, .binOp _ _ _ _ _, _, _, _, _⟩ :: _) _ _ _; first
      | refine VcL.shl rfl rfl (by first | assumption | rfl) rfl rfl rfl ?_
      | refine VcL.shr rfl rfl (by first | assumption | rfl) rfl rfl rfl ?_
      | refine VcL.eqS tabOk rfl rfl rfl rfl rfl rfl (by kernel_rfl) (by kernel_rfl) rfl rfl (by first | exact .inl rfl | exact .inr rfl) ?_)
      | (show VcL _ _ _ _ (⟨_, .indexAddr _ _ _, _, _, _, _⟩ :: _) _ _ _; first
      | refine VcL.indexAddr0 tabOk rfl rfl rfl rfl rfl rfl (by omega) (by omega) ?_
      | refine VcL.indexAddr tabOk rfl rfl rfl rfl rfl rfl (by omega) (by omega) ?_
      | refine VcL.indexArr0 tabOk rfl rfl rfl rfl rfl rfl (by omega) (by omega) ?_
      | refine VcL.indexArr tabOk rfl rfl rfl rfl rfl rfl (by omega) (by omega) ?_)
      | (show VcL _ _ _ _ (⟨_, .call ⟨.value (.func F_journal_SameDisk), _, _⟩, _, _, _, _⟩ :: _) _ _ _; first
      | (refine VcL.callF ok_journal_SameDisk rfl rfl rfl rfl (Rets.mono (SameDisk_any (D := C) (C := C) (Holds.re [0, 1] H rfl) (by omega)) ?_); rintro _ w ⟨rfl, H⟩; rw [hcC]))
      | (show VcL _ _ _ _ (⟨_, .call ⟨.value (.func F_tithinglaw16_Awake), _, _⟩, _, _, _, _⟩ :: _) _ _ _; first
      | (refine VcL.callF ok_tithinglaw16_Awake rfl rfl rfl rfl (Rets.mono (Awake_any H) ?_); rintro _ w ⟨rfl, H⟩))
      | (refine VcL.guard rfl rfl rfl rfl (fun h => ?_) (fun h => ?_) <;> first | (cases h; done) | (exfalso; simp only [decide_eq_true_eq, decide_eq_false_iff_not, Bool.not_eq_true', Bool.not_eq_false'] at h; omega) | (with_reducible have hp := of_decide_eq_true h) | (with_reducible have hp := of_decide_eq_false h) | (with_reducible have hp := ndec_t h) | (with_reducible have hp := ndec_f h) | skip))
            | (show Vc _ _ _ _ _ _; first
      | refine Vc.seq ?_
      | refine Vc.region ?_
      | refine Vc.condT rfl ?_
      | refine Vc.condF rfl ?_
      | refine Vc.ret ?_
      | refine Vc.skip ?_
      | refine Vc.block ?_
      | refine Vc.exit ?_
      | (refine Vc.cond rfl (fun h => ?_) (fun h => ?_) <;> first | (cases h; done) | (exfalso; simp only [decide_eq_true_eq, decide_eq_false_iff_not, Bool.not_eq_true', Bool.not_eq_false'] at h; omega) | (with_reducible have hp := of_decide_eq_true h) | (with_reducible have hp := of_decide_eq_false h) | (with_reducible have hp := ndec_t h) | (with_reducible have hp := ndec_f h) | skip))
            | (show KSeq _ _ _ _ _ _ _; first
      | refine KSeq.normal ?_
      | refine KSeq.ret ?_
      | refine KSeq.exit ?_)
            | (show KBlock _ _ _ _ _ _; first
      | refine KBlock.normal ?_
      | refine KBlock.here ?_
      | refine KBlock.on rfl ?_
      | refine KBlock.ret ?_)
            | refine KLoop.exit ?_
            | refine KLoop.ret ?_
            | refine KCut.exit ?_
            | refine KCut.ret ?_
            | (show KEnd _ _ _ _ _ _ _; first
      | refine KEnd.fin (Or.inr rfl) ⟨_, (ResL.tmp rfl ResL.nil), ?_⟩
      | refine KEnd.fin (Or.inl rfl) ⟨_, (ResL.tmp rfl ResL.nil), ?_⟩))
          exact ⟨by simp [resVal], Holds.less H.drop.drop.drop hJ⟩
end Go.Proofs.Ytoahfjfknljacaa.V
