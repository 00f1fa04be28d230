/- Spans, as the document has them. -/
import Derived.Test.YtbhlkgiaepechaaVA
namespace Go.Proofs.Ytbhlkgiaepechaa.V
open Go Go.Proofs.YtbhlkgiaepechaaV
set_option linter.unusedVariables false
set_option linter.unusedSimpArgs false
set_option maxHeartbeats 1000000
attribute [local irreducible] IntKind.wrap
variable {I : Imm} {w : World} {L : List Asn}
theorem rIsSpan_any (H : Holds I w L) (s : Sp) : Rets Try.prog F_tithingref20_isSpan #[spV s] w fun v w' => v = .bool (isSp s) ∧ Holds I w' L := by
  refine ok_tithingref20_isSpan.rets rfl ?_
  repeat' (first
    | (show VcL _ _ _ _ _ _ _ _; first
      | refine VcL.pures tabOk rfl ?_
      | refine VcL.nil ?_
      | (show VcL _ _ _ _ (⟨_, .load _ _, _, _, _, _⟩ :: _) _ _ _; first
      | refine VcL.load1 tabOk rfl rfl rfl rfl rfl (by first | exact Holds.cell H rfl | exact Holds.cell (Holds.f1 H) rfl | exact Holds.cell (Holds.f2 H) rfl | exact Holds.cell (Holds.f3 H) rfl | exact Holds.cell (Holds.f4 H) rfl | exact Holds.cell (Holds.f5 H) rfl | exact Holds.cell (Holds.f6 H) rfl | exact RdW.get (by assumption) rfl H | exact RdW.get0 (by assumption) rfl H | exact RdW.get (by assumption) rfl (Holds.drop H) | exact RdW.get0 (by assumption) rfl (Holds.drop H) | exact RdW.get (by assumption) rfl (Holds.drop (Holds.drop H)) | exact RdW.get0 (by assumption) rfl (Holds.drop (Holds.drop H)) | exact RdW.get (by assumption) rfl (Holds.drop (Holds.drop (Holds.drop H))) | exact RdW.get0 (by assumption) rfl (Holds.drop (Holds.drop (Holds.drop H))) | assumption) ?_
      | refine VcL.loadR tabOk rfl rfl rfl rfl rfl rfl (by first | exact RdW.rd (by assumption) H | exact RdW.rd (by assumption) (Holds.drop H) | exact RdW.rd (by assumption) (Holds.drop (Holds.drop H)) | exact RdW.rd (by assumption) (Holds.drop (Holds.drop (Holds.drop H))) | assumption) rfl ?_
      | refine VcL.loadN tabOk rfl rfl rfl rfl rfl rfl (by first | exact H | exact (Holds.f1 H) | exact (Holds.f2 H) | exact (Holds.f3 H) | exact (Holds.f4 H) | exact (Holds.f5 H) | exact (Holds.f6 H)) (by exact rfl) ?_)
      | (show VcL _ _ _ _ (⟨_, .binOp _ _ _ _ _, _, _, _, _⟩ :: _) _ _ _; first
      | refine VcL.eqS tabOk rfl rfl rfl rfl rfl rfl (by kernel_rfl) (by kernel_rfl) rfl rfl (by first | exact .inl rfl | exact .inr rfl) ?_)
      | refine VcL.box H rfl rfl rfl rfl rfl (fun b w H => ?_)
      | (refine VcL.guard rfl rfl rfl rfl (fun h => ?_) (fun h => ?_) <;> first | (cases h; done) | (exfalso; simp only [decide_eq_true_eq, decide_eq_false_iff_not] at h; omega) | (with_reducible have hp := of_decide_eq_true h) | (with_reducible have hp := of_decide_eq_false h) | (with_reducible have hp := ndec_t h) | (with_reducible have hp := ndec_f h) | skip))
    | (show Vc _ _ _ _ _ _; first
      | refine Vc.seq ?_
      | refine Vc.region ?_
      | refine Vc.condT rfl ?_
      | refine Vc.condF rfl ?_
      | refine Vc.ret ?_
      | refine Vc.skip ?_
      | refine Vc.block ?_
      | refine Vc.exit ?_
      | (refine Vc.cond rfl (fun h => ?_) (fun h => ?_) <;> first | (cases h; done) | (exfalso; simp only [decide_eq_true_eq, decide_eq_false_iff_not] at h; omega) | (with_reducible have hp := of_decide_eq_true h) | (with_reducible have hp := of_decide_eq_false h) | (with_reducible have hp := ndec_t h) | (with_reducible have hp := ndec_f h) | skip))
    | (show KSeq _ _ _ _ _ _ _; first
      | refine KSeq.normal ?_
      | refine KSeq.ret ?_
      | refine KSeq.exit ?_)
    | (show KBlock _ _ _ _ _; first
      | refine KBlock.normal ?_
      | refine KBlock.here ?_
      | refine KBlock.on rfl ?_
      | refine KBlock.ret ?_)
    | refine KLoop.exit ?_
    | refine KLoop.ret ?_
    | refine KCut.exit ?_
    | refine KCut.ret ?_
    | (show KEnd _ _ _ _ _ _; first
      | refine KEnd.mk (Or.inr rfl) ⟨_, (ResL.tmp rfl ResL.nil), ?_⟩
      | refine KEnd.mk (Or.inl rfl) ⟨_, (ResL.tmp rfl ResL.nil), ?_⟩))
  all_goals (refine ⟨?_, H.drop⟩; unfold isSp inB; simp_all [resVal] <;> (intros; omega))
def meetR0 (a b : Sp) : Bool := decide (a.many = -1) || decide (b.from' < IntKind.i64.wrap (a.from' + a.many))
def meetR (a b : Sp) : Bool := if b.from' < a.from' then meetR0 b a else meetR0 a b
theorem rMeet_any (H : Holds I w L) (a b : Sp) : Rets Try.prog F_tithingref20_meet #[spV a, spV b] w fun v w' => v = .bool (meetR a b) ∧ Holds I w' L := by
  refine ok_tithingref20_meet.rets rfl ?_
  repeat' (first
    | (show VcL _ _ _ _ _ _ _ _; first
      | refine VcL.pures tabOk rfl ?_
      | refine VcL.nil ?_
      | (show VcL _ _ _ _ (⟨_, .load _ _, _, _, _, _⟩ :: _) _ _ _; first
      | refine VcL.load1 tabOk rfl rfl rfl rfl rfl (by first | exact Holds.cell H rfl | exact Holds.cell (Holds.f1 H) rfl | exact Holds.cell (Holds.f2 H) rfl | exact Holds.cell (Holds.f3 H) rfl | exact Holds.cell (Holds.f4 H) rfl | exact Holds.cell (Holds.f5 H) rfl | exact Holds.cell (Holds.f6 H) rfl | exact RdW.get (by assumption) rfl H | exact RdW.get0 (by assumption) rfl H | exact RdW.get (by assumption) rfl (Holds.drop H) | exact RdW.get0 (by assumption) rfl (Holds.drop H) | exact RdW.get (by assumption) rfl (Holds.drop (Holds.drop H)) | exact RdW.get0 (by assumption) rfl (Holds.drop (Holds.drop H)) | exact RdW.get (by assumption) rfl (Holds.drop (Holds.drop (Holds.drop H))) | exact RdW.get0 (by assumption) rfl (Holds.drop (Holds.drop (Holds.drop H))) | assumption) ?_
      | refine VcL.loadR tabOk rfl rfl rfl rfl rfl rfl (by first | exact RdW.rd (by assumption) H | exact RdW.rd (by assumption) (Holds.drop H) | exact RdW.rd (by assumption) (Holds.drop (Holds.drop H)) | exact RdW.rd (by assumption) (Holds.drop (Holds.drop (Holds.drop H))) | assumption) rfl ?_
      | refine VcL.loadN tabOk rfl rfl rfl rfl rfl rfl (by first | exact H | exact (Holds.f1 H) | exact (Holds.f2 H) | exact (Holds.f3 H) | exact (Holds.f4 H) | exact (Holds.f5 H) | exact (Holds.f6 H)) (by exact rfl) ?_)
      | (show VcL _ _ _ _ (⟨_, .binOp _ _ _ _ _, _, _, _, _⟩ :: _) _ _ _; first
      | refine VcL.eqS tabOk rfl rfl rfl rfl rfl rfl (by kernel_rfl) (by kernel_rfl) rfl rfl (by first | exact .inl rfl | exact .inr rfl) ?_)
      | refine VcL.box H rfl rfl rfl rfl rfl (fun b w H => ?_)
      | (show VcL _ _ _ _ (⟨_, .store _ _ _, _, _, _, _⟩ :: _) _ _ _; first
      | refine VcL.store tabOk rfl (by first | exact H | exact (Holds.f1 H) | exact (Holds.f2 H) | exact (Holds.f3 H) | exact (Holds.f4 H) | exact (Holds.f5 H) | exact (Holds.f6 H)) rfl rfl (by exact rfl) (by exact rfl) (by exact rfl) (by exact rfl) (fun w H => ?_))
      | (refine VcL.guard rfl rfl rfl rfl (fun h => ?_) (fun h => ?_) <;> first | (cases h; done) | (exfalso; simp only [decide_eq_true_eq, decide_eq_false_iff_not] at h; omega) | (with_reducible have hp := of_decide_eq_true h) | (with_reducible have hp := of_decide_eq_false h) | (with_reducible have hp := ndec_t h) | (with_reducible have hp := ndec_f h) | skip))
    | (show Vc _ _ _ _ _ _; first
      | refine Vc.seq ?_
      | refine Vc.region ?_
      | refine Vc.condT rfl ?_
      | refine Vc.condF rfl ?_
      | refine Vc.ret ?_
      | refine Vc.skip ?_
      | refine Vc.block ?_
      | refine Vc.exit ?_
      | (refine Vc.cond rfl (fun h => ?_) (fun h => ?_) <;> first | (cases h; done) | (exfalso; simp only [decide_eq_true_eq, decide_eq_false_iff_not] at h; omega) | (with_reducible have hp := of_decide_eq_true h) | (with_reducible have hp := of_decide_eq_false h) | (with_reducible have hp := ndec_t h) | (with_reducible have hp := ndec_f h) | skip))
    | (show KSeq _ _ _ _ _ _ _; first
      | refine KSeq.normal ?_
      | refine KSeq.ret ?_
      | refine KSeq.exit ?_)
    | (show KBlock _ _ _ _ _; first
      | refine KBlock.normal ?_
      | refine KBlock.here ?_
      | refine KBlock.on rfl ?_
      | refine KBlock.ret ?_)
    | refine KLoop.exit ?_
    | refine KLoop.ret ?_
    | refine KCut.exit ?_
    | refine KCut.ret ?_
    | (show KEnd _ _ _ _ _ _; first
      | refine KEnd.mk (Or.inr rfl) ⟨_, (ResL.tmp rfl ResL.nil), ?_⟩
      | refine KEnd.mk (Or.inl rfl) ⟨_, (ResL.tmp rfl ResL.nil), ?_⟩))
  all_goals (refine ⟨?_, H.drop.drop⟩; unfold meetR; first | rw [if_pos (by assumption)] | rw [if_neg (by assumption)])
  all_goals (unfold meetR0; simp_all [resVal])
def rOkAt (l : List Sp) (k : Nat) : Bool := isSp (spAt l k) && (decide (k = 0) || !decide ((spAt l k).from' < (spAt l (k - 1)).from')) && (List.range k).all fun j => !meetR (spAt l j) (spAt l k)
def rValidS (l : List Sp) : Bool := (List.range l.length).all (rOkAt l) && decide (l.length ≤ 60)
theorem rValidS_no {l : List Sp} {k : Nat} (hk : k < l.length) (h : rOkAt l k = false) : rValidS l = false := by
  unfold rValidS
  have : (List.range l.length).all (rOkAt l) = false := by
    rw [List.all_eq_false]
    exact ⟨k, List.mem_range.2 hk, by simp [h]⟩
  rw [this]; rfl
theorem rValid_any (H : Holds I w L) {v : Value} {l : List Sp} (hv : SlS I L v l) (hl : l.length ≤ 1000000) : Rets Try.prog F_tithingref20_Valid #[v] w fun u w' => u = .bool (rValidS l) ∧ Holds I w' L := by
  obtain ⟨A, cap, rfl, hcap⟩ := hv.form
  refine ok_tithingref20_Valid.rets rfl ?_
  repeat' (first
    | (show VcL _ _ _ _ _ _ _ _; first
      | refine VcL.pures tabOk rfl ?_
      | refine VcL.nil ?_
      | (show VcL _ _ _ _ (⟨_, .load _ _, _, _, _, _⟩ :: _) _ _ _; first
      | refine VcL.load1 tabOk rfl rfl rfl rfl rfl (by first | exact Holds.cell H rfl | exact Holds.cell (Holds.f1 H) rfl | exact Holds.cell (Holds.f2 H) rfl | exact Holds.cell (Holds.f3 H) rfl | exact Holds.cell (Holds.f4 H) rfl | exact Holds.cell (Holds.f5 H) rfl | exact Holds.cell (Holds.f6 H) rfl | exact RdW.get (by assumption) rfl H | exact RdW.get0 (by assumption) rfl H | exact RdW.get (by assumption) rfl (Holds.drop H) | exact RdW.get0 (by assumption) rfl (Holds.drop H) | exact RdW.get (by assumption) rfl (Holds.drop (Holds.drop H)) | exact RdW.get0 (by assumption) rfl (Holds.drop (Holds.drop H)) | exact RdW.get (by assumption) rfl (Holds.drop (Holds.drop (Holds.drop H))) | exact RdW.get0 (by assumption) rfl (Holds.drop (Holds.drop (Holds.drop H))) | assumption) ?_
      | refine VcL.loadR tabOk rfl rfl rfl rfl rfl rfl (by first | exact RdW.rd (by assumption) H | exact RdW.rd (by assumption) (Holds.drop H) | exact RdW.rd (by assumption) (Holds.drop (Holds.drop H)) | exact RdW.rd (by assumption) (Holds.drop (Holds.drop (Holds.drop H))) | assumption) rfl ?_
      | refine VcL.loadN tabOk rfl rfl rfl rfl rfl rfl (by first | exact H | exact (Holds.f1 H) | exact (Holds.f2 H) | exact (Holds.f3 H) | exact (Holds.f4 H) | exact (Holds.f5 H) | exact (Holds.f6 H)) (by exact rfl) ?_)
      | (show VcL _ _ _ _ (⟨_, .binOp _ _ _ _ _, _, _, _, _⟩ :: _) _ _ _; first
      | refine VcL.eqS tabOk rfl rfl rfl rfl rfl rfl (by kernel_rfl) (by kernel_rfl) rfl rfl (by first | exact .inl rfl | exact .inr rfl) ?_)
      | (show VcL _ _ _ _ (⟨_, .indexAddr _ _ _, _, _, _, _⟩ :: _) _ _ _; first
      | refine VcL.indexAddr0 tabOk rfl rfl rfl rfl rfl rfl (by omega) (by omega) ?_
      | refine VcL.indexAddr tabOk rfl rfl rfl rfl rfl rfl (by omega) (by omega) ?_)
      | (show VcL _ _ _ _ (⟨_, .call ⟨.value (.func F_tithingref20_isSpan), _, _⟩, _, _, _, _⟩ :: _) _ _ _; first
      | (refine VcL.callF ok_tithingref20_isSpan rfl rfl rfl rfl (Rets.mono (rIsSpan_any H _) ?_); rintro _ w ⟨rfl, H⟩))
      | (show VcL _ _ _ _ (⟨_, .call ⟨.value (.func F_tithingref20_meet), _, _⟩, _, _, _, _⟩ :: _) _ _ _; first
      | (refine VcL.callF ok_tithingref20_meet rfl rfl rfl rfl (Rets.mono (rMeet_any H _ _) ?_); rintro _ w ⟨rfl, H⟩))
      | (refine VcL.guard rfl rfl rfl rfl (fun h => ?_) (fun h => ?_) <;> first | (cases h; done) | (exfalso; simp only [decide_eq_true_eq, decide_eq_false_iff_not] at h; omega) | (with_reducible have hp := of_decide_eq_true h) | (with_reducible have hp := of_decide_eq_false h) | (with_reducible have hp := ndec_t h) | (with_reducible have hp := ndec_f h) | skip))
    | (show VcD _ _ _ _ _ _ _ _ _; first
      | refine VcD.pures tabOk (by first | exact H | exact Holds.drop H | exact Holds.drop (Holds.drop H)) rfl ?_
      | refine VcD.done ?_
      | (show VcD _ _ _ _ _ (.take _ _) _ _ _; first
      | refine VcD.load1 tabOk rfl rfl rfl rfl rfl rfl (by first | exact H | exact Holds.drop H | exact Holds.drop (Holds.drop H)) (by intro w_ hw_; first | exact Holds.cell hw_ rfl | exact Holds.cell (Holds.f1 hw_) rfl | exact Holds.cell (Holds.f2 hw_) rfl | exact Holds.cell (Holds.f3 hw_) rfl | exact Holds.cell (Holds.f4 hw_) rfl | exact Holds.cell (Holds.f5 hw_) rfl | exact Holds.cell (Holds.f6 hw_) rfl | exact RdW.get (by assumption) rfl hw_ | exact RdW.get0 (by assumption) rfl hw_ | exact RdW.get (by assumption) rfl (Holds.drop hw_) | exact RdW.get0 (by assumption) rfl (Holds.drop hw_) | exact RdW.get (by assumption) rfl (Holds.drop (Holds.drop hw_)) | exact RdW.get0 (by assumption) rfl (Holds.drop (Holds.drop hw_)) | exact RdW.get (by assumption) rfl (Holds.drop (Holds.drop (Holds.drop hw_))) | exact RdW.get0 (by assumption) rfl (Holds.drop (Holds.drop (Holds.drop hw_))) | assumption) (by exact rfl) ?_
      | refine VcD.loadR tabOk rfl rfl rfl rfl rfl rfl rfl (by first | exact H | exact Holds.drop H | exact Holds.drop (Holds.drop H)) (by intro w_ hw_; first | exact RdW.rd (by assumption) hw_ | exact RdW.rd (by assumption) (Holds.drop hw_) | exact RdW.rd (by assumption) (Holds.drop (Holds.drop hw_)) | exact RdW.rd (by assumption) (Holds.drop (Holds.drop (Holds.drop hw_))) | assumption) rfl ?_
      | refine VcD.loadN tabOk rfl rfl rfl rfl rfl rfl rfl (by first | exact H | exact Holds.drop H | exact Holds.drop (Holds.drop H)) (by intro w_ hw_; first | exact hw_ | exact (Holds.f1 hw_) | exact (Holds.f2 hw_) | exact (Holds.f3 hw_) | exact (Holds.f4 hw_) | exact (Holds.f5 hw_) | exact (Holds.f6 hw_)) (by exact rfl) ?_
      | refine VcD.indexAddr0 tabOk rfl rfl rfl rfl rfl rfl rfl (by first | exact H | exact Holds.drop H | exact Holds.drop (Holds.drop H)) (by omega) (by omega) ?_
      | refine VcD.indexAddr tabOk rfl rfl rfl rfl rfl rfl rfl (by first | exact H | exact Holds.drop H | exact Holds.drop (Holds.drop H)) (by omega) (by omega) ?_
      | refine VcD.eqS tabOk rfl rfl rfl rfl rfl rfl (by first | exact H | exact Holds.drop H | exact Holds.drop (Holds.drop H)) rfl (by kernel_rfl) (by kernel_rfl) rfl rfl (by first | exact .inl rfl | exact .inr rfl) ?_
      | (refine VcD.guardT rfl rfl rfl rfl rfl (fun h => ?_) (fun h => ?_) <;> first | (cases h; done) | (exfalso; simp only [decide_eq_true_eq, decide_eq_false_iff_not] at h; omega) | (with_reducible have hp := of_decide_eq_true h) | (with_reducible have hp := of_decide_eq_false h) | (with_reducible have hp := ndec_t h) | (with_reducible have hp := ndec_f h) | skip))
      | (show VcD _ _ _ _ _ (.only _ _) _ _ _; first
      | (refine VcD.callF (f := F_tithingref20_isSpan) rfl ok_tithingref20_isSpan rfl rfl rfl rfl (Rets.mono (rIsSpan_any H _) ?_); rintro _ w ⟨rfl, H⟩; refine ⟨(by first | exact H | exact Holds.drop H | exact Holds.drop (Holds.drop H)), ?_⟩)
      | (refine VcD.callF (f := F_tithingref20_meet) rfl ok_tithingref20_meet rfl rfl rfl rfl (Rets.mono (rMeet_any H _ _) ?_); rintro _ w ⟨rfl, H⟩; refine ⟨(by first | exact H | exact Holds.drop H | exact Holds.drop (Holds.drop H)), ?_⟩)
      | refine VcD.skip rfl rfl rfl (by first | exact H | exact Holds.drop H | exact Holds.drop (Holds.drop H)) ?_
      | (refine VcD.guardO rfl rfl rfl rfl rfl (fun h => ?_) (fun h => ?_) <;> first | (cases h; done) | (exfalso; simp only [decide_eq_true_eq, decide_eq_false_iff_not] at h; omega) | (with_reducible have hp := of_decide_eq_true h) | (with_reducible have hp := of_decide_eq_false h) | (with_reducible have hp := ndec_t h) | (with_reducible have hp := ndec_f h) | skip))
      | (show VcD _ _ _ _ _ (.two _ _ _ _) _ _ _; refine VcD.two ?_ ?_))
    | (show EfO _ _ _ _ _ _ _ _ _; first
      | (refine EfO.call (f := F_tithingref20_isSpan) rfl rfl rfl rfl (OpC.call ok_tithingref20_isSpan rfl) (Rets.mono (rIsSpan_any H _) ?_); rintro _ w ⟨rfl, H⟩; refine ⟨(by first | exact H | exact Holds.drop H | exact Holds.drop (Holds.drop H)), ?_⟩)
      | (refine EfO.call (f := F_tithingref20_meet) rfl rfl rfl rfl (OpC.call ok_tithingref20_meet rfl) (Rets.mono (rMeet_any H _ _) ?_); rintro _ w ⟨rfl, H⟩; refine ⟨(by first | exact H | exact Holds.drop H | exact Holds.drop (Holds.drop H)), ?_⟩))
    | (show Vc _ _ _ _ _ _; first
      | refine Vc.seq ?_
      | refine Vc.region ?_
      | refine Vc.condT rfl ?_
      | refine Vc.condF rfl ?_
      | refine Vc.ret ?_
      | refine Vc.skip ?_
      | refine Vc.block ?_
      | refine Vc.exit ?_
      | refine Vc.drawnH (id := 6) H (.take 0 (.take 1 (.take 2 (.take 3 (.only 4 (.take 5 (.take 6 (.take 7 (.take 8 (.take 9 (.take 10 (.take 11 (.take 15 (.take 16 (.take 17 (.take 12 (.take 13 (.take 14 (.take 18 (.take 19 (.take 20 (.take 21 (.take 22 (.take 23 .done)))))))))))))))))))))))) mixed (by kernel_rfl) (fun w H => ?_)
      | refine Vc.drawnH (id := 11) H (.take 0 (.take 1 (.take 4 (.take 5 (.take 2 (.take 3 (.take 6 (.take 7 (.only 8 .done))))))))) mixed (by kernel_rfl) (fun w H => ?_)
      | (refine Vc.cond rfl (fun h => ?_) (fun h => ?_) <;> first | (cases h; done) | (exfalso; simp only [decide_eq_true_eq, decide_eq_false_iff_not] at h; omega) | (with_reducible have hp := of_decide_eq_true h) | (with_reducible have hp := of_decide_eq_false h) | (with_reducible have hp := ndec_t h) | (with_reducible have hp := ndec_f h) | skip))
    | (show KSeq _ _ _ _ _ _ _; first
      | refine KSeq.normal ?_
      | refine KSeq.ret ?_
      | refine KSeq.exit ?_)
    | (show KBlock _ _ _ _ _; first
      | refine KBlock.normal ?_
      | refine KBlock.here ?_
      | refine KBlock.on rfl ?_
      | refine KBlock.ret ?_)
    | refine KLoop.exit ?_
    | refine KLoop.ret ?_
    | refine KCut.exit ?_
    | refine KCut.ret ?_
    | (show KEnd _ _ _ _ _ _; first
      | refine KEnd.mk (Or.inr rfl) ⟨_, (ResL.tmp rfl ResL.nil), ?_⟩
      | refine KEnd.mk (Or.inl rfl) ⟨_, (ResL.tmp rfl ResL.nil), ?_⟩))
  · refine ⟨?_, H⟩
    have e : (decide (l.length ≤ 60)) = false := decide_eq_false (by omega)
    unfold rValidS
    rw [e, Bool.and_false]
    rfl
  refine Vc.loopS [(0, _)] (fun k : Nat => [(3, .int .i64 k)]) (fun k w => Holds I w L ∧ k ≤ l.length ∧ (List.range k).all (rOkAt l) = true) (fun k _ => l.length - k) 0 ⟨rfl, trivial⟩ ⟨rfl, trivial⟩ ⟨H, Nat.zero_le _, rfl⟩ ?_
  rintro k w ⟨H, hk, hall⟩
  by_cases hlt : k < l.length
  · obtain ⟨b, o, rfl, hr⟩ := hv.at (by omega)
    have hx := hr.elem spC_len (spAt_get hlt)
    have hy : 0 < k → RdW I L b (o + (k - 1) * 3) (spC (spAt l (k - 1))) := fun h => hr.elem (k := k - 1) spC_len (spAt_get (by omega))
    repeat' (first
      | rw [wrap_pred k (by omega) (by omega)]
      | (have hyk := hy (by omega); clear hy)
      | (show VcL _ _ _ _ _ _ _ _; first
      | refine VcL.pures tabOk rfl ?_
      | refine VcL.nil ?_
      | (show VcL _ _ _ _ (⟨_, .load _ _, _, _, _, _⟩ :: _) _ _ _; first
      | refine VcL.load1 tabOk rfl rfl rfl rfl rfl (by first | exact Holds.cell H rfl | exact Holds.cell (Holds.f1 H) rfl | exact Holds.cell (Holds.f2 H) rfl | exact Holds.cell (Holds.f3 H) rfl | exact Holds.cell (Holds.f4 H) rfl | exact Holds.cell (Holds.f5 H) rfl | exact Holds.cell (Holds.f6 H) rfl | exact RdW.get (by assumption) rfl H | exact RdW.get0 (by assumption) rfl H | exact RdW.get (by assumption) rfl (Holds.drop H) | exact RdW.get0 (by assumption) rfl (Holds.drop H) | exact RdW.get (by assumption) rfl (Holds.drop (Holds.drop H)) | exact RdW.get0 (by assumption) rfl (Holds.drop (Holds.drop H)) | exact RdW.get (by assumption) rfl (Holds.drop (Holds.drop (Holds.drop H))) | exact RdW.get0 (by assumption) rfl (Holds.drop (Holds.drop (Holds.drop H))) | assumption) ?_
      | refine VcL.loadR tabOk rfl rfl rfl rfl rfl rfl (by first | exact RdW.rd (by assumption) H | exact RdW.rd (by assumption) (Holds.drop H) | exact RdW.rd (by assumption) (Holds.drop (Holds.drop H)) | exact RdW.rd (by assumption) (Holds.drop (Holds.drop (Holds.drop H))) | assumption) rfl ?_
      | refine VcL.loadN tabOk rfl rfl rfl rfl rfl rfl (by first | exact H | exact (Holds.f1 H) | exact (Holds.f2 H) | exact (Holds.f3 H) | exact (Holds.f4 H) | exact (Holds.f5 H) | exact (Holds.f6 H)) (by exact rfl) ?_)
      | (show VcL _ _ _ _ (⟨_, .binOp _ _ _ _ _, _, _, _, _⟩ :: _) _ _ _; first
      | refine VcL.eqS tabOk rfl rfl rfl rfl rfl rfl (by kernel_rfl) (by kernel_rfl) rfl rfl (by first | exact .inl rfl | exact .inr rfl) ?_)
      | (show VcL _ _ _ _ (⟨_, .indexAddr _ _ _, _, _, _, _⟩ :: _) _ _ _; first
      | refine VcL.indexAddr0 tabOk rfl rfl rfl rfl rfl rfl (by omega) (by omega) ?_
      | refine VcL.indexAddr tabOk rfl rfl rfl rfl rfl rfl (by omega) (by omega) ?_)
      | (show VcL _ _ _ _ (⟨_, .call ⟨.value (.func F_tithingref20_isSpan), _, _⟩, _, _, _, _⟩ :: _) _ _ _; first
      | (refine VcL.callF ok_tithingref20_isSpan rfl rfl rfl rfl (Rets.mono (rIsSpan_any H _) ?_); rintro _ w ⟨rfl, H⟩))
      | (show VcL _ _ _ _ (⟨_, .call ⟨.value (.func F_tithingref20_meet), _, _⟩, _, _, _, _⟩ :: _) _ _ _; first
      | (refine VcL.callF ok_tithingref20_meet rfl rfl rfl rfl (Rets.mono (rMeet_any H _ _) ?_); rintro _ w ⟨rfl, H⟩))
      | (refine VcL.guard rfl rfl rfl rfl (fun h => ?_) (fun h => ?_) <;> first | (cases h; done) | (exfalso; simp only [decide_eq_true_eq, decide_eq_false_iff_not] at h; omega) | (with_reducible have hp := of_decide_eq_true h) | (with_reducible have hp := of_decide_eq_false h) | (with_reducible have hp := ndec_t h) | (with_reducible have hp := ndec_f h) | skip))
      | (show VcD _ _ _ _ _ _ _ _ _; first
      | refine VcD.pures tabOk (by first | exact H | exact Holds.drop H | exact Holds.drop (Holds.drop H)) rfl ?_
      | refine VcD.done ?_
      | (show VcD _ _ _ _ _ (.take _ _) _ _ _; first
      | refine VcD.load1 tabOk rfl rfl rfl rfl rfl rfl (by first | exact H | exact Holds.drop H | exact Holds.drop (Holds.drop H)) (by intro w_ hw_; first | exact Holds.cell hw_ rfl | exact Holds.cell (Holds.f1 hw_) rfl | exact Holds.cell (Holds.f2 hw_) rfl | exact Holds.cell (Holds.f3 hw_) rfl | exact Holds.cell (Holds.f4 hw_) rfl | exact Holds.cell (Holds.f5 hw_) rfl | exact Holds.cell (Holds.f6 hw_) rfl | exact RdW.get (by assumption) rfl hw_ | exact RdW.get0 (by assumption) rfl hw_ | exact RdW.get (by assumption) rfl (Holds.drop hw_) | exact RdW.get0 (by assumption) rfl (Holds.drop hw_) | exact RdW.get (by assumption) rfl (Holds.drop (Holds.drop hw_)) | exact RdW.get0 (by assumption) rfl (Holds.drop (Holds.drop hw_)) | exact RdW.get (by assumption) rfl (Holds.drop (Holds.drop (Holds.drop hw_))) | exact RdW.get0 (by assumption) rfl (Holds.drop (Holds.drop (Holds.drop hw_))) | assumption) (by exact rfl) ?_
      | refine VcD.loadR tabOk rfl rfl rfl rfl rfl rfl rfl (by first | exact H | exact Holds.drop H | exact Holds.drop (Holds.drop H)) (by intro w_ hw_; first | exact RdW.rd (by assumption) hw_ | exact RdW.rd (by assumption) (Holds.drop hw_) | exact RdW.rd (by assumption) (Holds.drop (Holds.drop hw_)) | exact RdW.rd (by assumption) (Holds.drop (Holds.drop (Holds.drop hw_))) | assumption) rfl ?_
      | refine VcD.loadN tabOk rfl rfl rfl rfl rfl rfl rfl (by first | exact H | exact Holds.drop H | exact Holds.drop (Holds.drop H)) (by intro w_ hw_; first | exact hw_ | exact (Holds.f1 hw_) | exact (Holds.f2 hw_) | exact (Holds.f3 hw_) | exact (Holds.f4 hw_) | exact (Holds.f5 hw_) | exact (Holds.f6 hw_)) (by exact rfl) ?_
      | refine VcD.indexAddr0 tabOk rfl rfl rfl rfl rfl rfl rfl (by first | exact H | exact Holds.drop H | exact Holds.drop (Holds.drop H)) (by omega) (by omega) ?_
      | refine VcD.indexAddr tabOk rfl rfl rfl rfl rfl rfl rfl (by first | exact H | exact Holds.drop H | exact Holds.drop (Holds.drop H)) (by omega) (by omega) ?_
      | refine VcD.eqS tabOk rfl rfl rfl rfl rfl rfl (by first | exact H | exact Holds.drop H | exact Holds.drop (Holds.drop H)) rfl (by kernel_rfl) (by kernel_rfl) rfl rfl (by first | exact .inl rfl | exact .inr rfl) ?_
      | (refine VcD.guardT rfl rfl rfl rfl rfl (fun h => ?_) (fun h => ?_) <;> first | (cases h; done) | (exfalso; simp only [decide_eq_true_eq, decide_eq_false_iff_not] at h; omega) | (with_reducible have hp := of_decide_eq_true h) | (with_reducible have hp := of_decide_eq_false h) | (with_reducible have hp := ndec_t h) | (with_reducible have hp := ndec_f h) | skip))
      | (show VcD _ _ _ _ _ (.only _ _) _ _ _; first
      | (refine VcD.callF (f := F_tithingref20_isSpan) rfl ok_tithingref20_isSpan rfl rfl rfl rfl (Rets.mono (rIsSpan_any H _) ?_); rintro _ w ⟨rfl, H⟩; refine ⟨(by first | exact H | exact Holds.drop H | exact Holds.drop (Holds.drop H)), ?_⟩)
      | (refine VcD.callF (f := F_tithingref20_meet) rfl ok_tithingref20_meet rfl rfl rfl rfl (Rets.mono (rMeet_any H _ _) ?_); rintro _ w ⟨rfl, H⟩; refine ⟨(by first | exact H | exact Holds.drop H | exact Holds.drop (Holds.drop H)), ?_⟩)
      | refine VcD.skip rfl rfl rfl (by first | exact H | exact Holds.drop H | exact Holds.drop (Holds.drop H)) ?_
      | (refine VcD.guardO rfl rfl rfl rfl rfl (fun h => ?_) (fun h => ?_) <;> first | (cases h; done) | (exfalso; simp only [decide_eq_true_eq, decide_eq_false_iff_not] at h; omega) | (with_reducible have hp := of_decide_eq_true h) | (with_reducible have hp := of_decide_eq_false h) | (with_reducible have hp := ndec_t h) | (with_reducible have hp := ndec_f h) | skip))
      | (show VcD _ _ _ _ _ (.two _ _ _ _) _ _ _; refine VcD.two ?_ ?_))
      | (show EfO _ _ _ _ _ _ _ _ _; first
      | (refine EfO.call (f := F_tithingref20_isSpan) rfl rfl rfl rfl (OpC.call ok_tithingref20_isSpan rfl) (Rets.mono (rIsSpan_any H _) ?_); rintro _ w ⟨rfl, H⟩; refine ⟨(by first | exact H | exact Holds.drop H | exact Holds.drop (Holds.drop H)), ?_⟩)
      | (refine EfO.call (f := F_tithingref20_meet) rfl rfl rfl rfl (OpC.call ok_tithingref20_meet rfl) (Rets.mono (rMeet_any H _ _) ?_); rintro _ w ⟨rfl, H⟩; refine ⟨(by first | exact H | exact Holds.drop H | exact Holds.drop (Holds.drop H)), ?_⟩))
      | (show Vc _ _ _ _ _ _; first
      | refine Vc.seq ?_
      | refine Vc.region ?_
      | refine Vc.condT rfl ?_
      | refine Vc.condF rfl ?_
      | refine Vc.ret ?_
      | refine Vc.skip ?_
      | refine Vc.block ?_
      | refine Vc.exit ?_
      | refine Vc.drawnH (id := 6) H (.take 0 (.take 1 (.take 2 (.take 3 (.only 4 (.take 5 (.take 6 (.take 7 (.take 8 (.take 9 (.take 10 (.take 11 (.take 15 (.take 16 (.take 17 (.take 12 (.take 13 (.take 14 (.take 18 (.take 19 (.take 20 (.take 21 (.take 22 (.take 23 .done)))))))))))))))))))))))) mixed (by kernel_rfl) (fun w H => ?_)
      | refine Vc.drawnH (id := 11) H (.take 0 (.take 1 (.take 4 (.take 5 (.take 2 (.take 3 (.take 6 (.take 7 (.only 8 .done))))))))) mixed (by kernel_rfl) (fun w H => ?_)
      | (refine Vc.cond rfl (fun h => ?_) (fun h => ?_) <;> first | (cases h; done) | (exfalso; simp only [decide_eq_true_eq, decide_eq_false_iff_not] at h; omega) | (with_reducible have hp := of_decide_eq_true h) | (with_reducible have hp := of_decide_eq_false h) | (with_reducible have hp := ndec_t h) | (with_reducible have hp := ndec_f h) | skip))
      | (show KSeq _ _ _ _ _ _ _; first
      | refine KSeq.normal ?_
      | refine KSeq.ret ?_
      | refine KSeq.exit ?_)
      | (show KBlock _ _ _ _ _; first
      | refine KBlock.normal ?_
      | refine KBlock.here ?_
      | refine KBlock.on rfl ?_
      | refine KBlock.ret ?_)
      | refine KLoop.exit ?_
      | refine KLoop.ret ?_
      | refine KCut.exit ?_
      | refine KCut.ret ?_
      | (show KEnd _ _ _ _ _ _; first
      | refine KEnd.mk (Or.inr rfl) ⟨_, (ResL.tmp rfl ResL.nil), ?_⟩
      | refine KEnd.mk (Or.inl rfl) ⟨_, (ResL.tmp rfl ResL.nil), ?_⟩))
    all_goals first
      | (refine ⟨?_, H⟩; rw [rValidS_no hlt (by unfold rOkAt; simp_all <;> omega)]; rfl)
      | skip
    all_goals
      refine Vc.loopS [(0, _), (3, _)] (fun j : Nat => [(4, .int .i64 j)]) (fun j w => Holds I w L ∧ j ≤ k ∧ (List.range j).all (fun j => !meetR (spAt l j) (spAt l k)) = true) (fun j _ => k - j) 0 ⟨rfl, trivial⟩ ⟨rfl, rfl, trivial⟩ ⟨H, Nat.zero_le _, rfl⟩ ?_
      rintro j w ⟨H, hj, hin⟩
      by_cases hjl : j < k
      · have hz := hr.elem (k := j) spC_len (spAt_get (by omega))
        repeat' (first
          | rw [wrap_pred k (by omega) (by omega)]
          | (have hyk := hy (by omega); clear hy)
          | (show VcL _ _ _ _ _ _ _ _; first
      | refine VcL.pures tabOk rfl ?_
      | refine VcL.nil ?_
      | (show VcL _ _ _ _ (⟨_, .load _ _, _, _, _, _⟩ :: _) _ _ _; first
      | refine VcL.load1 tabOk rfl rfl rfl rfl rfl (by first | exact Holds.cell H rfl | exact Holds.cell (Holds.f1 H) rfl | exact Holds.cell (Holds.f2 H) rfl | exact Holds.cell (Holds.f3 H) rfl | exact Holds.cell (Holds.f4 H) rfl | exact Holds.cell (Holds.f5 H) rfl | exact Holds.cell (Holds.f6 H) rfl | exact RdW.get (by assumption) rfl H | exact RdW.get0 (by assumption) rfl H | exact RdW.get (by assumption) rfl (Holds.drop H) | exact RdW.get0 (by assumption) rfl (Holds.drop H) | exact RdW.get (by assumption) rfl (Holds.drop (Holds.drop H)) | exact RdW.get0 (by assumption) rfl (Holds.drop (Holds.drop H)) | exact RdW.get (by assumption) rfl (Holds.drop (Holds.drop (Holds.drop H))) | exact RdW.get0 (by assumption) rfl (Holds.drop (Holds.drop (Holds.drop H))) | assumption) ?_
      | refine VcL.loadR tabOk rfl rfl rfl rfl rfl rfl (by first | exact RdW.rd (by assumption) H | exact RdW.rd (by assumption) (Holds.drop H) | exact RdW.rd (by assumption) (Holds.drop (Holds.drop H)) | exact RdW.rd (by assumption) (Holds.drop (Holds.drop (Holds.drop H))) | assumption) rfl ?_
      | refine VcL.loadN tabOk rfl rfl rfl rfl rfl rfl (by first | exact H | exact (Holds.f1 H) | exact (Holds.f2 H) | exact (Holds.f3 H) | exact (Holds.f4 H) | exact (Holds.f5 H) | exact (Holds.f6 H)) (by exact rfl) ?_)
      | (show VcL _ _ _ _ (⟨_, .binOp _ _ _ _ _, _, _, _, _⟩ :: _) _ _ _; first
      | refine VcL.eqS tabOk rfl rfl rfl rfl rfl rfl (by kernel_rfl) (by kernel_rfl) rfl rfl (by first | exact .inl rfl | exact .inr rfl) ?_)
      | (show VcL _ _ _ _ (⟨_, .indexAddr _ _ _, _, _, _, _⟩ :: _) _ _ _; first
      | refine VcL.indexAddr0 tabOk rfl rfl rfl rfl rfl rfl (by omega) (by omega) ?_
      | refine VcL.indexAddr tabOk rfl rfl rfl rfl rfl rfl (by omega) (by omega) ?_)
      | (show VcL _ _ _ _ (⟨_, .call ⟨.value (.func F_tithingref20_isSpan), _, _⟩, _, _, _, _⟩ :: _) _ _ _; first
      | (refine VcL.callF ok_tithingref20_isSpan rfl rfl rfl rfl (Rets.mono (rIsSpan_any H _) ?_); rintro _ w ⟨rfl, H⟩))
      | (show VcL _ _ _ _ (⟨_, .call ⟨.value (.func F_tithingref20_meet), _, _⟩, _, _, _, _⟩ :: _) _ _ _; first
      | (refine VcL.callF ok_tithingref20_meet rfl rfl rfl rfl (Rets.mono (rMeet_any H _ _) ?_); rintro _ w ⟨rfl, H⟩))
      | (refine VcL.guard rfl rfl rfl rfl (fun h => ?_) (fun h => ?_) <;> first | (cases h; done) | (exfalso; simp only [decide_eq_true_eq, decide_eq_false_iff_not] at h; omega) | (with_reducible have hp := of_decide_eq_true h) | (with_reducible have hp := of_decide_eq_false h) | (with_reducible have hp := ndec_t h) | (with_reducible have hp := ndec_f h) | skip))
          | (show VcD _ _ _ _ _ _ _ _ _; first
      | refine VcD.pures tabOk (by first | exact H | exact Holds.drop H | exact Holds.drop (Holds.drop H)) rfl ?_
      | refine VcD.done ?_
      | (show VcD _ _ _ _ _ (.take _ _) _ _ _; first
      | refine VcD.load1 tabOk rfl rfl rfl rfl rfl rfl (by first | exact H | exact Holds.drop H | exact Holds.drop (Holds.drop H)) (by intro w_ hw_; first | exact Holds.cell hw_ rfl | exact Holds.cell (Holds.f1 hw_) rfl | exact Holds.cell (Holds.f2 hw_) rfl | exact Holds.cell (Holds.f3 hw_) rfl | exact Holds.cell (Holds.f4 hw_) rfl | exact Holds.cell (Holds.f5 hw_) rfl | exact Holds.cell (Holds.f6 hw_) rfl | exact RdW.get (by assumption) rfl hw_ | exact RdW.get0 (by assumption) rfl hw_ | exact RdW.get (by assumption) rfl (Holds.drop hw_) | exact RdW.get0 (by assumption) rfl (Holds.drop hw_) | exact RdW.get (by assumption) rfl (Holds.drop (Holds.drop hw_)) | exact RdW.get0 (by assumption) rfl (Holds.drop (Holds.drop hw_)) | exact RdW.get (by assumption) rfl (Holds.drop (Holds.drop (Holds.drop hw_))) | exact RdW.get0 (by assumption) rfl (Holds.drop (Holds.drop (Holds.drop hw_))) | assumption) (by exact rfl) ?_
      | refine VcD.loadR tabOk rfl rfl rfl rfl rfl rfl rfl (by first | exact H | exact Holds.drop H | exact Holds.drop (Holds.drop H)) (by intro w_ hw_; first | exact RdW.rd (by assumption) hw_ | exact RdW.rd (by assumption) (Holds.drop hw_) | exact RdW.rd (by assumption) (Holds.drop (Holds.drop hw_)) | exact RdW.rd (by assumption) (Holds.drop (Holds.drop (Holds.drop hw_))) | assumption) rfl ?_
      | refine VcD.loadN tabOk rfl rfl rfl rfl rfl rfl rfl (by first | exact H | exact Holds.drop H | exact Holds.drop (Holds.drop H)) (by intro w_ hw_; first | exact hw_ | exact (Holds.f1 hw_) | exact (Holds.f2 hw_) | exact (Holds.f3 hw_) | exact (Holds.f4 hw_) | exact (Holds.f5 hw_) | exact (Holds.f6 hw_)) (by exact rfl) ?_
      | refine VcD.indexAddr0 tabOk rfl rfl rfl rfl rfl rfl rfl (by first | exact H | exact Holds.drop H | exact Holds.drop (Holds.drop H)) (by omega) (by omega) ?_
      | refine VcD.indexAddr tabOk rfl rfl rfl rfl rfl rfl rfl (by first | exact H | exact Holds.drop H | exact Holds.drop (Holds.drop H)) (by omega) (by omega) ?_
      | refine VcD.eqS tabOk rfl rfl rfl rfl rfl rfl (by first | exact H | exact Holds.drop H | exact Holds.drop (Holds.drop H)) rfl (by kernel_rfl) (by kernel_rfl) rfl rfl (by first | exact .inl rfl | exact .inr rfl) ?_
      | (refine VcD.guardT rfl rfl rfl rfl rfl (fun h => ?_) (fun h => ?_) <;> first | (cases h; done) | (exfalso; simp only [decide_eq_true_eq, decide_eq_false_iff_not] at h; omega) | (with_reducible have hp := of_decide_eq_true h) | (with_reducible have hp := of_decide_eq_false h) | (with_reducible have hp := ndec_t h) | (with_reducible have hp := ndec_f h) | skip))
      | (show VcD _ _ _ _ _ (.only _ _) _ _ _; first
      | (refine VcD.callF (f := F_tithingref20_isSpan) rfl ok_tithingref20_isSpan rfl rfl rfl rfl (Rets.mono (rIsSpan_any H _) ?_); rintro _ w ⟨rfl, H⟩; refine ⟨(by first | exact H | exact Holds.drop H | exact Holds.drop (Holds.drop H)), ?_⟩)
      | (refine VcD.callF (f := F_tithingref20_meet) rfl ok_tithingref20_meet rfl rfl rfl rfl (Rets.mono (rMeet_any H _ _) ?_); rintro _ w ⟨rfl, H⟩; refine ⟨(by first | exact H | exact Holds.drop H | exact Holds.drop (Holds.drop H)), ?_⟩)
      | refine VcD.skip rfl rfl rfl (by first | exact H | exact Holds.drop H | exact Holds.drop (Holds.drop H)) ?_
      | (refine VcD.guardO rfl rfl rfl rfl rfl (fun h => ?_) (fun h => ?_) <;> first | (cases h; done) | (exfalso; simp only [decide_eq_true_eq, decide_eq_false_iff_not] at h; omega) | (with_reducible have hp := of_decide_eq_true h) | (with_reducible have hp := of_decide_eq_false h) | (with_reducible have hp := ndec_t h) | (with_reducible have hp := ndec_f h) | skip))
      | (show VcD _ _ _ _ _ (.two _ _ _ _) _ _ _; refine VcD.two ?_ ?_))
          | (show EfO _ _ _ _ _ _ _ _ _; first
      | (refine EfO.call (f := F_tithingref20_isSpan) rfl rfl rfl rfl (OpC.call ok_tithingref20_isSpan rfl) (Rets.mono (rIsSpan_any H _) ?_); rintro _ w ⟨rfl, H⟩; refine ⟨(by first | exact H | exact Holds.drop H | exact Holds.drop (Holds.drop H)), ?_⟩)
      | (refine EfO.call (f := F_tithingref20_meet) rfl rfl rfl rfl (OpC.call ok_tithingref20_meet rfl) (Rets.mono (rMeet_any H _ _) ?_); rintro _ w ⟨rfl, H⟩; refine ⟨(by first | exact H | exact Holds.drop H | exact Holds.drop (Holds.drop H)), ?_⟩))
          | (show Vc _ _ _ _ _ _; first
      | refine Vc.seq ?_
      | refine Vc.region ?_
      | refine Vc.condT rfl ?_
      | refine Vc.condF rfl ?_
      | refine Vc.ret ?_
      | refine Vc.skip ?_
      | refine Vc.block ?_
      | refine Vc.exit ?_
      | refine Vc.drawnH (id := 6) H (.take 0 (.take 1 (.take 2 (.take 3 (.only 4 (.take 5 (.take 6 (.take 7 (.take 8 (.take 9 (.take 10 (.take 11 (.take 15 (.take 16 (.take 17 (.take 12 (.take 13 (.take 14 (.take 18 (.take 19 (.take 20 (.take 21 (.take 22 (.take 23 .done)))))))))))))))))))))))) mixed (by kernel_rfl) (fun w H => ?_)
      | refine Vc.drawnH (id := 11) H (.take 0 (.take 1 (.take 4 (.take 5 (.take 2 (.take 3 (.take 6 (.take 7 (.only 8 .done))))))))) mixed (by kernel_rfl) (fun w H => ?_)
      | (refine Vc.cond rfl (fun h => ?_) (fun h => ?_) <;> first | (cases h; done) | (exfalso; simp only [decide_eq_true_eq, decide_eq_false_iff_not] at h; omega) | (with_reducible have hp := of_decide_eq_true h) | (with_reducible have hp := of_decide_eq_false h) | (with_reducible have hp := ndec_t h) | (with_reducible have hp := ndec_f h) | skip))
          | (show KSeq _ _ _ _ _ _ _; first
      | refine KSeq.normal ?_
      | refine KSeq.ret ?_
      | refine KSeq.exit ?_)
          | (show KBlock _ _ _ _ _; first
      | refine KBlock.normal ?_
      | refine KBlock.here ?_
      | refine KBlock.on rfl ?_
      | refine KBlock.ret ?_)
          | refine KLoop.exit ?_
          | refine KLoop.ret ?_
          | refine KCut.exit ?_
          | refine KCut.ret ?_
          | (show KEnd _ _ _ _ _ _; first
      | refine KEnd.mk (Or.inr rfl) ⟨_, (ResL.tmp rfl ResL.nil), ?_⟩
      | refine KEnd.mk (Or.inl rfl) ⟨_, (ResL.tmp rfl ResL.nil), ?_⟩))
        all_goals first
          | (refine ⟨?_, H⟩
             rw [rValidS_no hlt (by
               unfold rOkAt
               have : ((List.range k).all fun j => !meetR (spAt l j) (spAt l k)) = false := by
                 rw [List.all_eq_false]
                 exact ⟨j, List.mem_range.2 hjl, by simp_all⟩
               rw [this, Bool.and_false])]
             rfl)
          | (refine KLoop.again (j + 1) ⟨got_succ rfl (by omega), trivial⟩ ⟨rfl, rfl, trivial⟩ ⟨H, hjl, ?_⟩ (by omega)
             rw [range_succ_all, hin]
             simp_all)
      ·
        repeat' (first
          | rw [wrap_pred k (by omega) (by omega)]
          | (have hyk := hy (by omega); clear hy)
          | (show VcL _ _ _ _ _ _ _ _; first
      | refine VcL.pures tabOk rfl ?_
      | refine VcL.nil ?_
      | (show VcL _ _ _ _ (⟨_, .load _ _, _, _, _, _⟩ :: _) _ _ _; first
      | refine VcL.load1 tabOk rfl rfl rfl rfl rfl (by first | exact Holds.cell H rfl | exact Holds.cell (Holds.f1 H) rfl | exact Holds.cell (Holds.f2 H) rfl | exact Holds.cell (Holds.f3 H) rfl | exact Holds.cell (Holds.f4 H) rfl | exact Holds.cell (Holds.f5 H) rfl | exact Holds.cell (Holds.f6 H) rfl | exact RdW.get (by assumption) rfl H | exact RdW.get0 (by assumption) rfl H | exact RdW.get (by assumption) rfl (Holds.drop H) | exact RdW.get0 (by assumption) rfl (Holds.drop H) | exact RdW.get (by assumption) rfl (Holds.drop (Holds.drop H)) | exact RdW.get0 (by assumption) rfl (Holds.drop (Holds.drop H)) | exact RdW.get (by assumption) rfl (Holds.drop (Holds.drop (Holds.drop H))) | exact RdW.get0 (by assumption) rfl (Holds.drop (Holds.drop (Holds.drop H))) | assumption) ?_
      | refine VcL.loadR tabOk rfl rfl rfl rfl rfl rfl (by first | exact RdW.rd (by assumption) H | exact RdW.rd (by assumption) (Holds.drop H) | exact RdW.rd (by assumption) (Holds.drop (Holds.drop H)) | exact RdW.rd (by assumption) (Holds.drop (Holds.drop (Holds.drop H))) | assumption) rfl ?_
      | refine VcL.loadN tabOk rfl rfl rfl rfl rfl rfl (by first | exact H | exact (Holds.f1 H) | exact (Holds.f2 H) | exact (Holds.f3 H) | exact (Holds.f4 H) | exact (Holds.f5 H) | exact (Holds.f6 H)) (by exact rfl) ?_)
      | (show VcL _ _ _ _ (⟨_, .binOp _ _ _ _ _, _, _, _, _⟩ :: _) _ _ _; first
      | refine VcL.eqS tabOk rfl rfl rfl rfl rfl rfl (by kernel_rfl) (by kernel_rfl) rfl rfl (by first | exact .inl rfl | exact .inr rfl) ?_)
      | (show VcL _ _ _ _ (⟨_, .indexAddr _ _ _, _, _, _, _⟩ :: _) _ _ _; first
      | refine VcL.indexAddr0 tabOk rfl rfl rfl rfl rfl rfl (by omega) (by omega) ?_
      | refine VcL.indexAddr tabOk rfl rfl rfl rfl rfl rfl (by omega) (by omega) ?_)
      | (show VcL _ _ _ _ (⟨_, .call ⟨.value (.func F_tithingref20_isSpan), _, _⟩, _, _, _, _⟩ :: _) _ _ _; first
      | (refine VcL.callF ok_tithingref20_isSpan rfl rfl rfl rfl (Rets.mono (rIsSpan_any H _) ?_); rintro _ w ⟨rfl, H⟩))
      | (show VcL _ _ _ _ (⟨_, .call ⟨.value (.func F_tithingref20_meet), _, _⟩, _, _, _, _⟩ :: _) _ _ _; first
      | (refine VcL.callF ok_tithingref20_meet rfl rfl rfl rfl (Rets.mono (rMeet_any H _ _) ?_); rintro _ w ⟨rfl, H⟩))
      | (refine VcL.guard rfl rfl rfl rfl (fun h => ?_) (fun h => ?_) <;> first | (cases h; done) | (exfalso; simp only [decide_eq_true_eq, decide_eq_false_iff_not] at h; omega) | (with_reducible have hp := of_decide_eq_true h) | (with_reducible have hp := of_decide_eq_false h) | (with_reducible have hp := ndec_t h) | (with_reducible have hp := ndec_f h) | skip))
          | (show VcD _ _ _ _ _ _ _ _ _; first
      | refine VcD.pures tabOk (by first | exact H | exact Holds.drop H | exact Holds.drop (Holds.drop H)) rfl ?_
      | refine VcD.done ?_
      | (show VcD _ _ _ _ _ (.take _ _) _ _ _; first
      | refine VcD.load1 tabOk rfl rfl rfl rfl rfl rfl (by first | exact H | exact Holds.drop H | exact Holds.drop (Holds.drop H)) (by intro w_ hw_; first | exact Holds.cell hw_ rfl | exact Holds.cell (Holds.f1 hw_) rfl | exact Holds.cell (Holds.f2 hw_) rfl | exact Holds.cell (Holds.f3 hw_) rfl | exact Holds.cell (Holds.f4 hw_) rfl | exact Holds.cell (Holds.f5 hw_) rfl | exact Holds.cell (Holds.f6 hw_) rfl | exact RdW.get (by assumption) rfl hw_ | exact RdW.get0 (by assumption) rfl hw_ | exact RdW.get (by assumption) rfl (Holds.drop hw_) | exact RdW.get0 (by assumption) rfl (Holds.drop hw_) | exact RdW.get (by assumption) rfl (Holds.drop (Holds.drop hw_)) | exact RdW.get0 (by assumption) rfl (Holds.drop (Holds.drop hw_)) | exact RdW.get (by assumption) rfl (Holds.drop (Holds.drop (Holds.drop hw_))) | exact RdW.get0 (by assumption) rfl (Holds.drop (Holds.drop (Holds.drop hw_))) | assumption) (by exact rfl) ?_
      | refine VcD.loadR tabOk rfl rfl rfl rfl rfl rfl rfl (by first | exact H | exact Holds.drop H | exact Holds.drop (Holds.drop H)) (by intro w_ hw_; first | exact RdW.rd (by assumption) hw_ | exact RdW.rd (by assumption) (Holds.drop hw_) | exact RdW.rd (by assumption) (Holds.drop (Holds.drop hw_)) | exact RdW.rd (by assumption) (Holds.drop (Holds.drop (Holds.drop hw_))) | assumption) rfl ?_
      | refine VcD.loadN tabOk rfl rfl rfl rfl rfl rfl rfl (by first | exact H | exact Holds.drop H | exact Holds.drop (Holds.drop H)) (by intro w_ hw_; first | exact hw_ | exact (Holds.f1 hw_) | exact (Holds.f2 hw_) | exact (Holds.f3 hw_) | exact (Holds.f4 hw_) | exact (Holds.f5 hw_) | exact (Holds.f6 hw_)) (by exact rfl) ?_
      | refine VcD.indexAddr0 tabOk rfl rfl rfl rfl rfl rfl rfl (by first | exact H | exact Holds.drop H | exact Holds.drop (Holds.drop H)) (by omega) (by omega) ?_
      | refine VcD.indexAddr tabOk rfl rfl rfl rfl rfl rfl rfl (by first | exact H | exact Holds.drop H | exact Holds.drop (Holds.drop H)) (by omega) (by omega) ?_
      | refine VcD.eqS tabOk rfl rfl rfl rfl rfl rfl (by first | exact H | exact Holds.drop H | exact Holds.drop (Holds.drop H)) rfl (by kernel_rfl) (by kernel_rfl) rfl rfl (by first | exact .inl rfl | exact .inr rfl) ?_
      | (refine VcD.guardT rfl rfl rfl rfl rfl (fun h => ?_) (fun h => ?_) <;> first | (cases h; done) | (exfalso; simp only [decide_eq_true_eq, decide_eq_false_iff_not] at h; omega) | (with_reducible have hp := of_decide_eq_true h) | (with_reducible have hp := of_decide_eq_false h) | (with_reducible have hp := ndec_t h) | (with_reducible have hp := ndec_f h) | skip))
      | (show VcD _ _ _ _ _ (.only _ _) _ _ _; first
      | (refine VcD.callF (f := F_tithingref20_isSpan) rfl ok_tithingref20_isSpan rfl rfl rfl rfl (Rets.mono (rIsSpan_any H _) ?_); rintro _ w ⟨rfl, H⟩; refine ⟨(by first | exact H | exact Holds.drop H | exact Holds.drop (Holds.drop H)), ?_⟩)
      | (refine VcD.callF (f := F_tithingref20_meet) rfl ok_tithingref20_meet rfl rfl rfl rfl (Rets.mono (rMeet_any H _ _) ?_); rintro _ w ⟨rfl, H⟩; refine ⟨(by first | exact H | exact Holds.drop H | exact Holds.drop (Holds.drop H)), ?_⟩)
      | refine VcD.skip rfl rfl rfl (by first | exact H | exact Holds.drop H | exact Holds.drop (Holds.drop H)) ?_
      | (refine VcD.guardO rfl rfl rfl rfl rfl (fun h => ?_) (fun h => ?_) <;> first | (cases h; done) | (exfalso; simp only [decide_eq_true_eq, decide_eq_false_iff_not] at h; omega) | (with_reducible have hp := of_decide_eq_true h) | (with_reducible have hp := of_decide_eq_false h) | (with_reducible have hp := ndec_t h) | (with_reducible have hp := ndec_f h) | skip))
      | (show VcD _ _ _ _ _ (.two _ _ _ _) _ _ _; refine VcD.two ?_ ?_))
          | (show EfO _ _ _ _ _ _ _ _ _; first
      | (refine EfO.call (f := F_tithingref20_isSpan) rfl rfl rfl rfl (OpC.call ok_tithingref20_isSpan rfl) (Rets.mono (rIsSpan_any H _) ?_); rintro _ w ⟨rfl, H⟩; refine ⟨(by first | exact H | exact Holds.drop H | exact Holds.drop (Holds.drop H)), ?_⟩)
      | (refine EfO.call (f := F_tithingref20_meet) rfl rfl rfl rfl (OpC.call ok_tithingref20_meet rfl) (Rets.mono (rMeet_any H _ _) ?_); rintro _ w ⟨rfl, H⟩; refine ⟨(by first | exact H | exact Holds.drop H | exact Holds.drop (Holds.drop H)), ?_⟩))
          | (show Vc _ _ _ _ _ _; first
      | refine Vc.seq ?_
      | refine Vc.region ?_
      | refine Vc.condT rfl ?_
      | refine Vc.condF rfl ?_
      | refine Vc.ret ?_
      | refine Vc.skip ?_
      | refine Vc.block ?_
      | refine Vc.exit ?_
      | refine Vc.drawnH (id := 6) H (.take 0 (.take 1 (.take 2 (.take 3 (.only 4 (.take 5 (.take 6 (.take 7 (.take 8 (.take 9 (.take 10 (.take 11 (.take 15 (.take 16 (.take 17 (.take 12 (.take 13 (.take 14 (.take 18 (.take 19 (.take 20 (.take 21 (.take 22 (.take 23 .done)))))))))))))))))))))))) mixed (by kernel_rfl) (fun w H => ?_)
      | refine Vc.drawnH (id := 11) H (.take 0 (.take 1 (.take 4 (.take 5 (.take 2 (.take 3 (.take 6 (.take 7 (.only 8 .done))))))))) mixed (by kernel_rfl) (fun w H => ?_)
      | (refine Vc.cond rfl (fun h => ?_) (fun h => ?_) <;> first | (cases h; done) | (exfalso; simp only [decide_eq_true_eq, decide_eq_false_iff_not] at h; omega) | (with_reducible have hp := of_decide_eq_true h) | (with_reducible have hp := of_decide_eq_false h) | (with_reducible have hp := ndec_t h) | (with_reducible have hp := ndec_f h) | skip))
          | (show KSeq _ _ _ _ _ _ _; first
      | refine KSeq.normal ?_
      | refine KSeq.ret ?_
      | refine KSeq.exit ?_)
          | (show KBlock _ _ _ _ _; first
      | refine KBlock.normal ?_
      | refine KBlock.here ?_
      | refine KBlock.on rfl ?_
      | refine KBlock.ret ?_)
          | refine KLoop.exit ?_
          | refine KLoop.ret ?_
          | refine KCut.exit ?_
          | refine KCut.ret ?_
          | (show KEnd _ _ _ _ _ _; first
      | refine KEnd.mk (Or.inr rfl) ⟨_, (ResL.tmp rfl ResL.nil), ?_⟩
      | refine KEnd.mk (Or.inl rfl) ⟨_, (ResL.tmp rfl ResL.nil), ?_⟩))
        obtain rfl : j = k := by omega
        refine KLoop.again (j + 1) ⟨got_succ rfl (by omega), trivial⟩ ⟨rfl, trivial⟩ ⟨H, hlt, ?_⟩ (by omega)
        rw [range_succ_all, hall]
        unfold rOkAt
        simp_all <;> omega
  ·
    repeat' (first
      | rw [wrap_pred k (by omega) (by omega)]
      | (have hyk := hy (by omega); clear hy)
      | (show VcL _ _ _ _ _ _ _ _; first
      | refine VcL.pures tabOk rfl ?_
      | refine VcL.nil ?_
      | (show VcL _ _ _ _ (⟨_, .load _ _, _, _, _, _⟩ :: _) _ _ _; first
      | refine VcL.load1 tabOk rfl rfl rfl rfl rfl (by first | exact Holds.cell H rfl | exact Holds.cell (Holds.f1 H) rfl | exact Holds.cell (Holds.f2 H) rfl | exact Holds.cell (Holds.f3 H) rfl | exact Holds.cell (Holds.f4 H) rfl | exact Holds.cell (Holds.f5 H) rfl | exact Holds.cell (Holds.f6 H) rfl | exact RdW.get (by assumption) rfl H | exact RdW.get0 (by assumption) rfl H | exact RdW.get (by assumption) rfl (Holds.drop H) | exact RdW.get0 (by assumption) rfl (Holds.drop H) | exact RdW.get (by assumption) rfl (Holds.drop (Holds.drop H)) | exact RdW.get0 (by assumption) rfl (Holds.drop (Holds.drop H)) | exact RdW.get (by assumption) rfl (Holds.drop (Holds.drop (Holds.drop H))) | exact RdW.get0 (by assumption) rfl (Holds.drop (Holds.drop (Holds.drop H))) | assumption) ?_
      | refine VcL.loadR tabOk rfl rfl rfl rfl rfl rfl (by first | exact RdW.rd (by assumption) H | exact RdW.rd (by assumption) (Holds.drop H) | exact RdW.rd (by assumption) (Holds.drop (Holds.drop H)) | exact RdW.rd (by assumption) (Holds.drop (Holds.drop (Holds.drop H))) | assumption) rfl ?_
      | refine VcL.loadN tabOk rfl rfl rfl rfl rfl rfl (by first | exact H | exact (Holds.f1 H) | exact (Holds.f2 H) | exact (Holds.f3 H) | exact (Holds.f4 H) | exact (Holds.f5 H) | exact (Holds.f6 H)) (by exact rfl) ?_)
      | (show VcL _ _ _ _ (⟨_, .binOp _ _ _ _ _, _, _, _, _⟩ :: _) _ _ _; first
      | refine VcL.eqS tabOk rfl rfl rfl rfl rfl rfl (by kernel_rfl) (by kernel_rfl) rfl rfl (by first | exact .inl rfl | exact .inr rfl) ?_)
      | (show VcL _ _ _ _ (⟨_, .indexAddr _ _ _, _, _, _, _⟩ :: _) _ _ _; first
      | refine VcL.indexAddr0 tabOk rfl rfl rfl rfl rfl rfl (by omega) (by omega) ?_
      | refine VcL.indexAddr tabOk rfl rfl rfl rfl rfl rfl (by omega) (by omega) ?_)
      | (show VcL _ _ _ _ (⟨_, .call ⟨.value (.func F_tithingref20_isSpan), _, _⟩, _, _, _, _⟩ :: _) _ _ _; first
      | (refine VcL.callF ok_tithingref20_isSpan rfl rfl rfl rfl (Rets.mono (rIsSpan_any H _) ?_); rintro _ w ⟨rfl, H⟩))
      | (show VcL _ _ _ _ (⟨_, .call ⟨.value (.func F_tithingref20_meet), _, _⟩, _, _, _, _⟩ :: _) _ _ _; first
      | (refine VcL.callF ok_tithingref20_meet rfl rfl rfl rfl (Rets.mono (rMeet_any H _ _) ?_); rintro _ w ⟨rfl, H⟩))
      | (refine VcL.guard rfl rfl rfl rfl (fun h => ?_) (fun h => ?_) <;> first | (cases h; done) | (exfalso; simp only [decide_eq_true_eq, decide_eq_false_iff_not] at h; omega) | (with_reducible have hp := of_decide_eq_true h) | (with_reducible have hp := of_decide_eq_false h) | (with_reducible have hp := ndec_t h) | (with_reducible have hp := ndec_f h) | skip))
      | (show VcD _ _ _ _ _ _ _ _ _; first
      | refine VcD.pures tabOk (by first | exact H | exact Holds.drop H | exact Holds.drop (Holds.drop H)) rfl ?_
      | refine VcD.done ?_
      | (show VcD _ _ _ _ _ (.take _ _) _ _ _; first
      | refine VcD.load1 tabOk rfl rfl rfl rfl rfl rfl (by first | exact H | exact Holds.drop H | exact Holds.drop (Holds.drop H)) (by intro w_ hw_; first | exact Holds.cell hw_ rfl | exact Holds.cell (Holds.f1 hw_) rfl | exact Holds.cell (Holds.f2 hw_) rfl | exact Holds.cell (Holds.f3 hw_) rfl | exact Holds.cell (Holds.f4 hw_) rfl | exact Holds.cell (Holds.f5 hw_) rfl | exact Holds.cell (Holds.f6 hw_) rfl | exact RdW.get (by assumption) rfl hw_ | exact RdW.get0 (by assumption) rfl hw_ | exact RdW.get (by assumption) rfl (Holds.drop hw_) | exact RdW.get0 (by assumption) rfl (Holds.drop hw_) | exact RdW.get (by assumption) rfl (Holds.drop (Holds.drop hw_)) | exact RdW.get0 (by assumption) rfl (Holds.drop (Holds.drop hw_)) | exact RdW.get (by assumption) rfl (Holds.drop (Holds.drop (Holds.drop hw_))) | exact RdW.get0 (by assumption) rfl (Holds.drop (Holds.drop (Holds.drop hw_))) | assumption) (by exact rfl) ?_
      | refine VcD.loadR tabOk rfl rfl rfl rfl rfl rfl rfl (by first | exact H | exact Holds.drop H | exact Holds.drop (Holds.drop H)) (by intro w_ hw_; first | exact RdW.rd (by assumption) hw_ | exact RdW.rd (by assumption) (Holds.drop hw_) | exact RdW.rd (by assumption) (Holds.drop (Holds.drop hw_)) | exact RdW.rd (by assumption) (Holds.drop (Holds.drop (Holds.drop hw_))) | assumption) rfl ?_
      | refine VcD.loadN tabOk rfl rfl rfl rfl rfl rfl rfl (by first | exact H | exact Holds.drop H | exact Holds.drop (Holds.drop H)) (by intro w_ hw_; first | exact hw_ | exact (Holds.f1 hw_) | exact (Holds.f2 hw_) | exact (Holds.f3 hw_) | exact (Holds.f4 hw_) | exact (Holds.f5 hw_) | exact (Holds.f6 hw_)) (by exact rfl) ?_
      | refine VcD.indexAddr0 tabOk rfl rfl rfl rfl rfl rfl rfl (by first | exact H | exact Holds.drop H | exact Holds.drop (Holds.drop H)) (by omega) (by omega) ?_
      | refine VcD.indexAddr tabOk rfl rfl rfl rfl rfl rfl rfl (by first | exact H | exact Holds.drop H | exact Holds.drop (Holds.drop H)) (by omega) (by omega) ?_
      | refine VcD.eqS tabOk rfl rfl rfl rfl rfl rfl (by first | exact H | exact Holds.drop H | exact Holds.drop (Holds.drop H)) rfl (by kernel_rfl) (by kernel_rfl) rfl rfl (by first | exact .inl rfl | exact .inr rfl) ?_
      | (refine VcD.guardT rfl rfl rfl rfl rfl (fun h => ?_) (fun h => ?_) <;> first | (cases h; done) | (exfalso; simp only [decide_eq_true_eq, decide_eq_false_iff_not] at h; omega) | (with_reducible have hp := of_decide_eq_true h) | (with_reducible have hp := of_decide_eq_false h) | (with_reducible have hp := ndec_t h) | (with_reducible have hp := ndec_f h) | skip))
      | (show VcD _ _ _ _ _ (.only _ _) _ _ _; first
      | (refine VcD.callF (f := F_tithingref20_isSpan) rfl ok_tithingref20_isSpan rfl rfl rfl rfl (Rets.mono (rIsSpan_any H _) ?_); rintro _ w ⟨rfl, H⟩; refine ⟨(by first | exact H | exact Holds.drop H | exact Holds.drop (Holds.drop H)), ?_⟩)
      | (refine VcD.callF (f := F_tithingref20_meet) rfl ok_tithingref20_meet rfl rfl rfl rfl (Rets.mono (rMeet_any H _ _) ?_); rintro _ w ⟨rfl, H⟩; refine ⟨(by first | exact H | exact Holds.drop H | exact Holds.drop (Holds.drop H)), ?_⟩)
      | refine VcD.skip rfl rfl rfl (by first | exact H | exact Holds.drop H | exact Holds.drop (Holds.drop H)) ?_
      | (refine VcD.guardO rfl rfl rfl rfl rfl (fun h => ?_) (fun h => ?_) <;> first | (cases h; done) | (exfalso; simp only [decide_eq_true_eq, decide_eq_false_iff_not] at h; omega) | (with_reducible have hp := of_decide_eq_true h) | (with_reducible have hp := of_decide_eq_false h) | (with_reducible have hp := ndec_t h) | (with_reducible have hp := ndec_f h) | skip))
      | (show VcD _ _ _ _ _ (.two _ _ _ _) _ _ _; refine VcD.two ?_ ?_))
      | (show EfO _ _ _ _ _ _ _ _ _; first
      | (refine EfO.call (f := F_tithingref20_isSpan) rfl rfl rfl rfl (OpC.call ok_tithingref20_isSpan rfl) (Rets.mono (rIsSpan_any H _) ?_); rintro _ w ⟨rfl, H⟩; refine ⟨(by first | exact H | exact Holds.drop H | exact Holds.drop (Holds.drop H)), ?_⟩)
      | (refine EfO.call (f := F_tithingref20_meet) rfl rfl rfl rfl (OpC.call ok_tithingref20_meet rfl) (Rets.mono (rMeet_any H _ _) ?_); rintro _ w ⟨rfl, H⟩; refine ⟨(by first | exact H | exact Holds.drop H | exact Holds.drop (Holds.drop H)), ?_⟩))
      | (show Vc _ _ _ _ _ _; first
      | refine Vc.seq ?_
      | refine Vc.region ?_
      | refine Vc.condT rfl ?_
      | refine Vc.condF rfl ?_
      | refine Vc.ret ?_
      | refine Vc.skip ?_
      | refine Vc.block ?_
      | refine Vc.exit ?_
      | refine Vc.drawnH (id := 6) H (.take 0 (.take 1 (.take 2 (.take 3 (.only 4 (.take 5 (.take 6 (.take 7 (.take 8 (.take 9 (.take 10 (.take 11 (.take 15 (.take 16 (.take 17 (.take 12 (.take 13 (.take 14 (.take 18 (.take 19 (.take 20 (.take 21 (.take 22 (.take 23 .done)))))))))))))))))))))))) mixed (by kernel_rfl) (fun w H => ?_)
      | refine Vc.drawnH (id := 11) H (.take 0 (.take 1 (.take 4 (.take 5 (.take 2 (.take 3 (.take 6 (.take 7 (.only 8 .done))))))))) mixed (by kernel_rfl) (fun w H => ?_)
      | (refine Vc.cond rfl (fun h => ?_) (fun h => ?_) <;> first | (cases h; done) | (exfalso; simp only [decide_eq_true_eq, decide_eq_false_iff_not] at h; omega) | (with_reducible have hp := of_decide_eq_true h) | (with_reducible have hp := of_decide_eq_false h) | (with_reducible have hp := ndec_t h) | (with_reducible have hp := ndec_f h) | skip))
      | (show KSeq _ _ _ _ _ _ _; first
      | refine KSeq.normal ?_
      | refine KSeq.ret ?_
      | refine KSeq.exit ?_)
      | (show KBlock _ _ _ _ _; first
      | refine KBlock.normal ?_
      | refine KBlock.here ?_
      | refine KBlock.on rfl ?_
      | refine KBlock.ret ?_)
      | refine KLoop.exit ?_
      | refine KLoop.ret ?_
      | refine KCut.exit ?_
      | refine KCut.ret ?_
      | (show KEnd _ _ _ _ _ _; first
      | refine KEnd.mk (Or.inr rfl) ⟨_, (ResL.tmp rfl ResL.nil), ?_⟩
      | refine KEnd.mk (Or.inl rfl) ⟨_, (ResL.tmp rfl ResL.nil), ?_⟩))
    refine ⟨?_, H⟩
    obtain rfl : k = l.length := by omega
    have e : (decide (l.length ≤ 60)) = true := decide_eq_true (by omega)
    unfold rValidS
    rw [hall, e]
    rfl
theorem rMeetT_any (H : Holds I w L) (a b : Sp) : Rets Try.prog F_tithingref20_Meet #[spV a, spV b] w fun u w' => u = (if isSp a && isSp b then .tuple #[.bool (meetR a b), .int .i64 0] else .tuple #[.bool false, .int .i64 2]) ∧ Holds I w' L := by
  refine ok_tithingref20_Meet.rets rfl ?_
  repeat' (first
    | (show VcL _ _ _ _ _ _ _ _; first
      | refine VcL.pures tabOk rfl ?_
      | refine VcL.nil ?_
      | (show VcL _ _ _ _ (⟨_, .load _ _, _, _, _, _⟩ :: _) _ _ _; first
      | refine VcL.load1 tabOk rfl rfl rfl rfl rfl (by first | exact Holds.cell H rfl | exact Holds.cell (Holds.f1 H) rfl | exact Holds.cell (Holds.f2 H) rfl | exact Holds.cell (Holds.f3 H) rfl | exact Holds.cell (Holds.f4 H) rfl | exact Holds.cell (Holds.f5 H) rfl | exact Holds.cell (Holds.f6 H) rfl | exact RdW.get (by assumption) rfl H | exact RdW.get0 (by assumption) rfl H | exact RdW.get (by assumption) rfl (Holds.drop H) | exact RdW.get0 (by assumption) rfl (Holds.drop H) | exact RdW.get (by assumption) rfl (Holds.drop (Holds.drop H)) | exact RdW.get0 (by assumption) rfl (Holds.drop (Holds.drop H)) | exact RdW.get (by assumption) rfl (Holds.drop (Holds.drop (Holds.drop H))) | exact RdW.get0 (by assumption) rfl (Holds.drop (Holds.drop (Holds.drop H))) | assumption) ?_
      | refine VcL.loadR tabOk rfl rfl rfl rfl rfl rfl (by first | exact RdW.rd (by assumption) H | exact RdW.rd (by assumption) (Holds.drop H) | exact RdW.rd (by assumption) (Holds.drop (Holds.drop H)) | exact RdW.rd (by assumption) (Holds.drop (Holds.drop (Holds.drop H))) | assumption) rfl ?_
      | refine VcL.loadN tabOk rfl rfl rfl rfl rfl rfl (by first | exact H | exact (Holds.f1 H) | exact (Holds.f2 H) | exact (Holds.f3 H) | exact (Holds.f4 H) | exact (Holds.f5 H) | exact (Holds.f6 H)) (by exact rfl) ?_)
      | refine VcL.box H rfl rfl rfl rfl rfl (fun b w H => ?_)
      | (show VcL _ _ _ _ (⟨_, .call ⟨.value (.func F_tithingref20_isSpan), _, _⟩, _, _, _, _⟩ :: _) _ _ _; first
      | (refine VcL.callF ok_tithingref20_isSpan rfl rfl rfl rfl (Rets.mono (rIsSpan_any H _) ?_); rintro _ w ⟨rfl, H⟩))
      | (show VcL _ _ _ _ (⟨_, .call ⟨.value (.func F_tithingref20_meet), _, _⟩, _, _, _, _⟩ :: _) _ _ _; first
      | (refine VcL.callF ok_tithingref20_meet rfl rfl rfl rfl (Rets.mono (rMeet_any H _ _) ?_); rintro _ w ⟨rfl, H⟩))
      | (refine VcL.guard rfl rfl rfl rfl (fun h => ?_) (fun h => ?_) <;> first | (cases h; done) | (exfalso; simp only [decide_eq_true_eq, decide_eq_false_iff_not] at h; omega) | (with_reducible have hp := of_decide_eq_true h) | (with_reducible have hp := of_decide_eq_false h) | (with_reducible have hp := ndec_t h) | (with_reducible have hp := ndec_f h) | skip))
    | (show Vc _ _ _ _ _ _; first
      | refine Vc.seq ?_
      | refine Vc.region ?_
      | refine Vc.condT rfl ?_
      | refine Vc.condF rfl ?_
      | refine Vc.ret ?_
      | refine Vc.skip ?_
      | refine Vc.block ?_
      | refine Vc.exit ?_
      | (refine Vc.cond rfl (fun h => ?_) (fun h => ?_) <;> first | (cases h; done) | (exfalso; simp only [decide_eq_true_eq, decide_eq_false_iff_not] at h; omega) | (with_reducible have hp := of_decide_eq_true h) | (with_reducible have hp := of_decide_eq_false h) | (with_reducible have hp := ndec_t h) | (with_reducible have hp := ndec_f h) | skip))
    | (show KSeq _ _ _ _ _ _ _; first
      | refine KSeq.normal ?_
      | refine KSeq.ret ?_
      | refine KSeq.exit ?_)
    | (show KBlock _ _ _ _ _; first
      | refine KBlock.normal ?_
      | refine KBlock.here ?_
      | refine KBlock.on rfl ?_
      | refine KBlock.ret ?_)
    | refine KLoop.exit ?_
    | refine KLoop.ret ?_
    | refine KCut.exit ?_
    | refine KCut.ret ?_
    | (show KEnd _ _ _ _ _ _; first
      | refine KEnd.mk (Or.inr rfl) ⟨_, (ResL.tmp rfl (ResL.tmp rfl ResL.nil)), ?_⟩
      | refine KEnd.mk (Or.inl rfl) ⟨_, (ResL.tmp rfl (ResL.tmp rfl ResL.nil)), ?_⟩))
  all_goals (refine ⟨?_, H.drop.drop⟩; simp_all [resVal])
end Go.Proofs.Ytbhlkgiaepechaa.V
