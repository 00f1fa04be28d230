/- Spans: which are spans, which meet. -/
import Derived.Test.YtngnddnbhlbjbaaVcHead
namespace Go.Proofs.Ytngnddnbhlbjbaa.V
open Go Go.Proofs.YtngnddnbhlbjbaaV
set_option linter.unusedVariables false
set_option linter.unusedSimpArgs false
set_option maxHeartbeats 1000000
attribute [local irreducible] IntKind.wrap
/-- A span. -/
structure Sp where mk ::
  by' : Int
  from' : Int
  many : Int
def spC (s : Sp) : List Value := [.int .i64 s.by', .int .i64 s.from', .int .i64 s.many]
def spV (s : Sp) : Value := .agg (spC s).toArray
def inB (x lo hi : Int) : Bool := decide (lo ≤ x) && decide (x ≤ hi)
def isSp (s : Sp) : Bool := decide (1 ≤ s.by') && (inB s.from' 0 2147483647 && (decide (s.many = -1) || inB s.many 1 2147483647))
variable {I : Imm} {w : World} {L : List Asn}
theorem within_any (H : Holds I w L) (x lo hi : Int) :
    Rets Try.prog F_lock_within #[.int .i64 x, .int .i64 lo, .int .i64 hi] w fun v w' => v = .bool (inB x lo hi) ∧ Holds I w' L := by
  refine ok_lock_within.rets rfl ?_
  repeat' (first
    | (show VcL _ _ _ _ _ _ _ _; first
      | refine VcL.pures tabOk rfl ?_
      | refine VcL.nil ?_
      | (show VcL _ _ _ _ (⟨_, .binOp _ _ _ _ _, _, _, _, _⟩ :: _) _ _ _; first
      | refine VcL.eqS tabOk rfl rfl rfl rfl rfl rfl (by kernel_rfl) (by kernel_rfl) rfl rfl (by first | exact .inl rfl | exact .inr rfl) ?_)
      | (refine VcL.guard rfl rfl rfl rfl (fun h => ?_) (fun h => ?_) <;> first | (cases h; done) | (exfalso; simp only [decide_eq_true_eq, decide_eq_false_iff_not] at h; omega) | (with_reducible have hp := of_decide_eq_true h) | (with_reducible have hp := of_decide_eq_false h) | (with_reducible have hp := ndec_t h) | (with_reducible have hp := ndec_f h) | skip))
    | (show Vc _ _ _ _ _ _; first
      | refine Vc.seq ?_
      | refine Vc.region ?_
      | refine Vc.condT rfl ?_
      | refine Vc.condF rfl ?_
      | refine Vc.ret ?_
      | refine Vc.skip ?_
      | refine Vc.block ?_
      | refine Vc.exit ?_
      | (refine Vc.cond rfl (fun h => ?_) (fun h => ?_) <;> first | (cases h; done) | (exfalso; simp only [decide_eq_true_eq, decide_eq_false_iff_not] at h; omega) | (with_reducible have hp := of_decide_eq_true h) | (with_reducible have hp := of_decide_eq_false h) | (with_reducible have hp := ndec_t h) | (with_reducible have hp := ndec_f h) | skip))
    | (show KSeq _ _ _ _ _ _ _; first
      | refine KSeq.normal ?_
      | refine KSeq.ret ?_
      | refine KSeq.exit ?_)
    | (show KBlock _ _ _ _ _; first
      | refine KBlock.normal ?_
      | refine KBlock.here ?_
      | refine KBlock.on rfl ?_
      | refine KBlock.ret ?_)
    | refine KLoop.exit ?_
    | refine KLoop.ret ?_
    | refine KCut.exit ?_
    | refine KCut.ret ?_
    | (show KEnd _ _ _ _ _ _; first
      | refine KEnd.mk (Or.inr rfl) ⟨_, (ResL.tmp rfl ResL.nil), ?_⟩
      | refine KEnd.mk (Or.inl rfl) ⟨_, (ResL.tmp rfl ResL.nil), ?_⟩))
  all_goals (unfold inB; rw [h]; exact ⟨rfl, H⟩)
theorem isSpan_any (H : Holds I w L) (s : Sp) : Rets Try.prog F_lock_isSpan #[spV s] w fun v w' => v = .bool (isSp s) ∧ Holds I w' L := by
  refine ok_lock_isSpan.rets rfl ?_
  repeat' (first
    | (show VcL _ _ _ _ _ _ _ _; first
      | refine VcL.pures tabOk rfl ?_
      | refine VcL.nil ?_
      | (show VcL _ _ _ _ (⟨_, .load _ _, _, _, _, _⟩ :: _) _ _ _; first
      | refine VcL.load1 tabOk rfl rfl rfl rfl rfl (by first | exact Holds.cell H rfl | exact Holds.cell (Holds.f1 H) rfl | exact Holds.cell (Holds.f2 H) rfl | exact Holds.cell (Holds.f3 H) rfl | exact Holds.cell (Holds.f4 H) rfl | exact Holds.cell (Holds.f5 H) rfl | exact Holds.cell (Holds.f6 H) rfl | exact RdW.get (by assumption) rfl H | exact RdW.get0 (by assumption) rfl H | exact RdW.get (by assumption) rfl (Holds.drop H) | exact RdW.get0 (by assumption) rfl (Holds.drop H) | exact RdW.get (by assumption) rfl (Holds.drop (Holds.drop H)) | exact RdW.get0 (by assumption) rfl (Holds.drop (Holds.drop H)) | exact RdW.get (by assumption) rfl (Holds.drop (Holds.drop (Holds.drop H))) | exact RdW.get0 (by assumption) rfl (Holds.drop (Holds.drop (Holds.drop H))) | assumption) ?_
      | refine VcL.loadR tabOk rfl rfl rfl rfl rfl rfl (by first | exact RdW.rd (by assumption) H | exact RdW.rd (by assumption) (Holds.drop H) | exact RdW.rd (by assumption) (Holds.drop (Holds.drop H)) | exact RdW.rd (by assumption) (Holds.drop (Holds.drop (Holds.drop H))) | assumption) rfl ?_
      | refine VcL.loadN tabOk rfl rfl rfl rfl rfl rfl (by first | exact H | exact (Holds.f1 H) | exact (Holds.f2 H) | exact (Holds.f3 H) | exact (Holds.f4 H) | exact (Holds.f5 H) | exact (Holds.f6 H)) (by exact rfl) ?_)
      | (show VcL _ _ _ _ (⟨_, .binOp _ _ _ _ _, _, _, _, _⟩ :: _) _ _ _; first
      | refine VcL.eqS tabOk rfl rfl rfl rfl rfl rfl (by kernel_rfl) (by kernel_rfl) rfl rfl (by first | exact .inl rfl | exact .inr rfl) ?_)
      | refine VcL.box H rfl rfl rfl rfl rfl (fun b w H => ?_)
      | (show VcL _ _ _ _ (⟨_, .call ⟨.value (.func F_lock_within), _, _⟩, _, _, _, _⟩ :: _) _ _ _; first
      | (refine VcL.callF ok_lock_within rfl rfl rfl rfl (Rets.mono (within_any H _ _ _) ?_); rintro _ w ⟨rfl, H⟩))
      | (refine VcL.guard rfl rfl rfl rfl (fun h => ?_) (fun h => ?_) <;> first | (cases h; done) | (exfalso; simp only [decide_eq_true_eq, decide_eq_false_iff_not] at h; omega) | (with_reducible have hp := of_decide_eq_true h) | (with_reducible have hp := of_decide_eq_false h) | (with_reducible have hp := ndec_t h) | (with_reducible have hp := ndec_f h) | skip))
    | (show Vc _ _ _ _ _ _; first
      | refine Vc.seq ?_
      | refine Vc.region ?_
      | refine Vc.condT rfl ?_
      | refine Vc.condF rfl ?_
      | refine Vc.ret ?_
      | refine Vc.skip ?_
      | refine Vc.block ?_
      | refine Vc.exit ?_
      | (refine Vc.cond rfl (fun h => ?_) (fun h => ?_) <;> first | (cases h; done) | (exfalso; simp only [decide_eq_true_eq, decide_eq_false_iff_not] at h; omega) | (with_reducible have hp := of_decide_eq_true h) | (with_reducible have hp := of_decide_eq_false h) | (with_reducible have hp := ndec_t h) | (with_reducible have hp := ndec_f h) | skip))
    | (show KSeq _ _ _ _ _ _ _; first
      | refine KSeq.normal ?_
      | refine KSeq.ret ?_
      | refine KSeq.exit ?_)
    | (show KBlock _ _ _ _ _; first
      | refine KBlock.normal ?_
      | refine KBlock.here ?_
      | refine KBlock.on rfl ?_
      | refine KBlock.ret ?_)
    | refine KLoop.exit ?_
    | refine KLoop.ret ?_
    | refine KCut.exit ?_
    | refine KCut.ret ?_
    | (show KEnd _ _ _ _ _ _; first
      | refine KEnd.mk (Or.inr rfl) ⟨_, (ResL.tmp rfl ResL.nil), ?_⟩
      | refine KEnd.mk (Or.inl rfl) ⟨_, (ResL.tmp rfl ResL.nil), ?_⟩))
  all_goals (refine ⟨?_, H.drop⟩; unfold isSp; simp only [resVal, *, decide_true, decide_false, not_true_eq_false, not_false_eq_true, Bool.true_and, Bool.false_and, Bool.and_true, Bool.and_false, Bool.true_or, Bool.false_or, Bool.or_true, Bool.or_false, Bool.not_true, Bool.not_false])
def behindS (s : Sp) : Int := if s.many = -1 then 1099511627776 else IntKind.i64.wrap (s.from' + s.many)
theorem behind_any (H : Holds I w L) (s : Sp) : Rets Try.prog F_lock_behind #[spV s] w fun v w' => v = .int .i64 (behindS s) ∧ Holds I w' L := by
  refine ok_lock_behind.rets rfl ?_
  repeat' (first
    | (show VcL _ _ _ _ _ _ _ _; first
      | refine VcL.pures tabOk rfl ?_
      | refine VcL.nil ?_
      | (show VcL _ _ _ _ (⟨_, .load _ _, _, _, _, _⟩ :: _) _ _ _; first
      | refine VcL.load1 tabOk rfl rfl rfl rfl rfl (by first | exact Holds.cell H rfl | exact Holds.cell (Holds.f1 H) rfl | exact Holds.cell (Holds.f2 H) rfl | exact Holds.cell (Holds.f3 H) rfl | exact Holds.cell (Holds.f4 H) rfl | exact Holds.cell (Holds.f5 H) rfl | exact Holds.cell (Holds.f6 H) rfl | exact RdW.get (by assumption) rfl H | exact RdW.get0 (by assumption) rfl H | exact RdW.get (by assumption) rfl (Holds.drop H) | exact RdW.get0 (by assumption) rfl (Holds.drop H) | exact RdW.get (by assumption) rfl (Holds.drop (Holds.drop H)) | exact RdW.get0 (by assumption) rfl (Holds.drop (Holds.drop H)) | exact RdW.get (by assumption) rfl (Holds.drop (Holds.drop (Holds.drop H))) | exact RdW.get0 (by assumption) rfl (Holds.drop (Holds.drop (Holds.drop H))) | assumption) ?_
      | refine VcL.loadR tabOk rfl rfl rfl rfl rfl rfl (by first | exact RdW.rd (by assumption) H | exact RdW.rd (by assumption) (Holds.drop H) | exact RdW.rd (by assumption) (Holds.drop (Holds.drop H)) | exact RdW.rd (by assumption) (Holds.drop (Holds.drop (Holds.drop H))) | assumption) rfl ?_
      | refine VcL.loadN tabOk rfl rfl rfl rfl rfl rfl (by first | exact H | exact (Holds.f1 H) | exact (Holds.f2 H) | exact (Holds.f3 H) | exact (Holds.f4 H) | exact (Holds.f5 H) | exact (Holds.f6 H)) (by exact rfl) ?_)
      | (show VcL _ _ _ _ (⟨_, .binOp _ _ _ _ _, _, _, _, _⟩ :: _) _ _ _; first
      | refine VcL.eqS tabOk rfl rfl rfl rfl rfl rfl (by kernel_rfl) (by kernel_rfl) rfl rfl (by first | exact .inl rfl | exact .inr rfl) ?_)
      | refine VcL.box H rfl rfl rfl rfl rfl (fun b w H => ?_)
      | (refine VcL.guard rfl rfl rfl rfl (fun h => ?_) (fun h => ?_) <;> first | (cases h; done) | (exfalso; simp only [decide_eq_true_eq, decide_eq_false_iff_not] at h; omega) | (with_reducible have hp := of_decide_eq_true h) | (with_reducible have hp := of_decide_eq_false h) | (with_reducible have hp := ndec_t h) | (with_reducible have hp := ndec_f h) | skip))
    | (show Vc _ _ _ _ _ _; first
      | refine Vc.seq ?_
      | refine Vc.region ?_
      | refine Vc.condT rfl ?_
      | refine Vc.condF rfl ?_
      | refine Vc.ret ?_
      | refine Vc.skip ?_
      | refine Vc.block ?_
      | refine Vc.exit ?_
      | (refine Vc.cond rfl (fun h => ?_) (fun h => ?_) <;> first | (cases h; done) | (exfalso; simp only [decide_eq_true_eq, decide_eq_false_iff_not] at h; omega) | (with_reducible have hp := of_decide_eq_true h) | (with_reducible have hp := of_decide_eq_false h) | (with_reducible have hp := ndec_t h) | (with_reducible have hp := ndec_f h) | skip))
    | (show KSeq _ _ _ _ _ _ _; first
      | refine KSeq.normal ?_
      | refine KSeq.ret ?_
      | refine KSeq.exit ?_)
    | (show KBlock _ _ _ _ _; first
      | refine KBlock.normal ?_
      | refine KBlock.here ?_
      | refine KBlock.on rfl ?_
      | refine KBlock.ret ?_)
    | refine KLoop.exit ?_
    | refine KLoop.ret ?_
    | refine KCut.exit ?_
    | refine KCut.ret ?_
    | (show KEnd _ _ _ _ _ _; first
      | refine KEnd.mk (Or.inr rfl) ⟨_, (ResL.tmp rfl ResL.nil), ?_⟩
      | refine KEnd.mk (Or.inl rfl) ⟨_, (ResL.tmp rfl ResL.nil), ?_⟩))
  all_goals (refine ⟨?_, H.drop⟩; unfold behindS; simp_all [resVal])
def meetS (a b : Sp) : Bool := decide (max a.from' b.from' < min (behindS a) (behindS b))
theorem meet_any (H : Holds I w L) (a b : Sp) : Rets Try.prog F_lock_meet #[spV a, spV b] w fun v w' => v = .bool (meetS a b) ∧ Holds I w' L := by
  refine ok_lock_meet.rets rfl ?_
  repeat' (first
    | (show VcL _ _ _ _ _ _ _ _; first
      | refine VcL.pures tabOk rfl ?_
      | refine VcL.nil ?_
      | (show VcL _ _ _ _ (⟨_, .load _ _, _, _, _, _⟩ :: _) _ _ _; first
      | refine VcL.load1 tabOk rfl rfl rfl rfl rfl (by first | exact Holds.cell H rfl | exact Holds.cell (Holds.f1 H) rfl | exact Holds.cell (Holds.f2 H) rfl | exact Holds.cell (Holds.f3 H) rfl | exact Holds.cell (Holds.f4 H) rfl | exact Holds.cell (Holds.f5 H) rfl | exact Holds.cell (Holds.f6 H) rfl | exact RdW.get (by assumption) rfl H | exact RdW.get0 (by assumption) rfl H | exact RdW.get (by assumption) rfl (Holds.drop H) | exact RdW.get0 (by assumption) rfl (Holds.drop H) | exact RdW.get (by assumption) rfl (Holds.drop (Holds.drop H)) | exact RdW.get0 (by assumption) rfl (Holds.drop (Holds.drop H)) | exact RdW.get (by assumption) rfl (Holds.drop (Holds.drop (Holds.drop H))) | exact RdW.get0 (by assumption) rfl (Holds.drop (Holds.drop (Holds.drop H))) | assumption) ?_
      | refine VcL.loadR tabOk rfl rfl rfl rfl rfl rfl (by first | exact RdW.rd (by assumption) H | exact RdW.rd (by assumption) (Holds.drop H) | exact RdW.rd (by assumption) (Holds.drop (Holds.drop H)) | exact RdW.rd (by assumption) (Holds.drop (Holds.drop (Holds.drop H))) | assumption) rfl ?_
      | refine VcL.loadN tabOk rfl rfl rfl rfl rfl rfl (by first | exact H | exact (Holds.f1 H) | exact (Holds.f2 H) | exact (Holds.f3 H) | exact (Holds.f4 H) | exact (Holds.f5 H) | exact (Holds.f6 H)) (by exact rfl) ?_)
      | (show VcL _ _ _ _ (⟨_, .binOp _ _ _ _ _, _, _, _, _⟩ :: _) _ _ _; first
      | refine VcL.eqS tabOk rfl rfl rfl rfl rfl rfl (by kernel_rfl) (by kernel_rfl) rfl rfl (by first | exact .inl rfl | exact .inr rfl) ?_)
      | refine VcL.box H rfl rfl rfl rfl rfl (fun b w H => ?_)
      | (show VcL _ _ _ _ (⟨_, .call ⟨.value (.func F_lock_behind), _, _⟩, _, _, _, _⟩ :: _) _ _ _; first
      | (refine VcL.callF ok_lock_behind rfl rfl rfl rfl (Rets.mono (behind_any H _) ?_); rintro _ w ⟨rfl, H⟩))
      | (refine VcL.guard rfl rfl rfl rfl (fun h => ?_) (fun h => ?_) <;> first | (cases h; done) | (exfalso; simp only [decide_eq_true_eq, decide_eq_false_iff_not] at h; omega) | (with_reducible have hp := of_decide_eq_true h) | (with_reducible have hp := of_decide_eq_false h) | (with_reducible have hp := ndec_t h) | (with_reducible have hp := ndec_f h) | skip))
    | (show VcD _ _ _ _ _ _ _ _ _; first
      | refine VcD.pures tabOk (by first | exact H | exact Holds.drop H | exact Holds.drop (Holds.drop H)) rfl ?_
      | refine VcD.done ?_
      | (show VcD _ _ _ _ _ (.take _ _) _ _ _; first
      | refine VcD.load1 tabOk rfl rfl rfl rfl rfl rfl (by first | exact H | exact Holds.drop H | exact Holds.drop (Holds.drop H)) (by intro w_ hw_; first | exact Holds.cell hw_ rfl | exact Holds.cell (Holds.f1 hw_) rfl | exact Holds.cell (Holds.f2 hw_) rfl | exact Holds.cell (Holds.f3 hw_) rfl | exact Holds.cell (Holds.f4 hw_) rfl | exact Holds.cell (Holds.f5 hw_) rfl | exact Holds.cell (Holds.f6 hw_) rfl | exact RdW.get (by assumption) rfl hw_ | exact RdW.get0 (by assumption) rfl hw_ | exact RdW.get (by assumption) rfl (Holds.drop hw_) | exact RdW.get0 (by assumption) rfl (Holds.drop hw_) | exact RdW.get (by assumption) rfl (Holds.drop (Holds.drop hw_)) | exact RdW.get0 (by assumption) rfl (Holds.drop (Holds.drop hw_)) | exact RdW.get (by assumption) rfl (Holds.drop (Holds.drop (Holds.drop hw_))) | exact RdW.get0 (by assumption) rfl (Holds.drop (Holds.drop (Holds.drop hw_))) | assumption) (by exact rfl) ?_
      | refine VcD.loadR tabOk rfl rfl rfl rfl rfl rfl rfl (by first | exact H | exact Holds.drop H | exact Holds.drop (Holds.drop H)) (by intro w_ hw_; first | exact RdW.rd (by assumption) hw_ | exact RdW.rd (by assumption) (Holds.drop hw_) | exact RdW.rd (by assumption) (Holds.drop (Holds.drop hw_)) | exact RdW.rd (by assumption) (Holds.drop (Holds.drop (Holds.drop hw_))) | assumption) rfl ?_
      | refine VcD.loadN tabOk rfl rfl rfl rfl rfl rfl rfl (by first | exact H | exact Holds.drop H | exact Holds.drop (Holds.drop H)) (by intro w_ hw_; first | exact hw_ | exact (Holds.f1 hw_) | exact (Holds.f2 hw_) | exact (Holds.f3 hw_) | exact (Holds.f4 hw_) | exact (Holds.f5 hw_) | exact (Holds.f6 hw_)) (by exact rfl) ?_
      | refine VcD.eqS tabOk rfl rfl rfl rfl rfl rfl (by first | exact H | exact Holds.drop H | exact Holds.drop (Holds.drop H)) rfl (by kernel_rfl) (by kernel_rfl) rfl rfl (by first | exact .inl rfl | exact .inr rfl) ?_
      | (refine VcD.guardT rfl rfl rfl rfl rfl (fun h => ?_) (fun h => ?_) <;> first | (cases h; done) | (exfalso; simp only [decide_eq_true_eq, decide_eq_false_iff_not] at h; omega) | (with_reducible have hp := of_decide_eq_true h) | (with_reducible have hp := of_decide_eq_false h) | (with_reducible have hp := ndec_t h) | (with_reducible have hp := ndec_f h) | skip))
      | (show VcD _ _ _ _ _ (.only _ _) _ _ _; first
      | (refine VcD.callF (f := F_lock_behind) rfl ok_lock_behind rfl rfl rfl rfl (Rets.mono (behind_any H _) ?_); rintro _ w ⟨rfl, H⟩; refine ⟨(by first | exact H | exact Holds.drop H | exact Holds.drop (Holds.drop H)), ?_⟩)
      | refine VcD.skip rfl rfl rfl (by first | exact H | exact Holds.drop H | exact Holds.drop (Holds.drop H)) ?_
      | (refine VcD.guardO rfl rfl rfl rfl rfl (fun h => ?_) (fun h => ?_) <;> first | (cases h; done) | (exfalso; simp only [decide_eq_true_eq, decide_eq_false_iff_not] at h; omega) | (with_reducible have hp := of_decide_eq_true h) | (with_reducible have hp := of_decide_eq_false h) | (with_reducible have hp := ndec_t h) | (with_reducible have hp := ndec_f h) | skip))
      | (show VcD _ _ _ _ _ (.two _ _ _ _) _ _ _; refine VcD.two ?_ ?_))
    | (show EfO _ _ _ _ _ _ _ _ _; first
      | (refine EfO.call (f := F_lock_behind) rfl rfl rfl rfl (OpC.call ok_lock_behind rfl) (Rets.mono (behind_any H _) ?_); rintro _ w ⟨rfl, H⟩; refine ⟨(by first | exact H | exact Holds.drop H | exact Holds.drop (Holds.drop H)), ?_⟩))
    | (show Vc _ _ _ _ _ _; first
      | refine Vc.seq ?_
      | refine Vc.region ?_
      | refine Vc.condT rfl ?_
      | refine Vc.condF rfl ?_
      | refine Vc.ret ?_
      | refine Vc.skip ?_
      | refine Vc.block ?_
      | refine Vc.exit ?_
      | refine Vc.drawnH (id := 1) H (.take 0 (.take 2 (.take 1 (.take 3 (.take 4 (.take 5 (.take 7 (.only 6 (.only 8 (.take 9 (.take 10 (.take 11 .done)))))))))))) mixed (by kernel_rfl) (fun w H => ?_)
      | (refine Vc.cond rfl (fun h => ?_) (fun h => ?_) <;> first | (cases h; done) | (exfalso; simp only [decide_eq_true_eq, decide_eq_false_iff_not] at h; omega) | (with_reducible have hp := of_decide_eq_true h) | (with_reducible have hp := of_decide_eq_false h) | (with_reducible have hp := ndec_t h) | (with_reducible have hp := ndec_f h) | skip))
    | (show KSeq _ _ _ _ _ _ _; first
      | refine KSeq.normal ?_
      | refine KSeq.ret ?_
      | refine KSeq.exit ?_)
    | (show KBlock _ _ _ _ _; first
      | refine KBlock.normal ?_
      | refine KBlock.here ?_
      | refine KBlock.on rfl ?_
      | refine KBlock.ret ?_)
    | refine KLoop.exit ?_
    | refine KLoop.ret ?_
    | refine KCut.exit ?_
    | refine KCut.ret ?_
    | (show KEnd _ _ _ _ _ _; first
      | refine KEnd.mk (Or.inr rfl) ⟨_, (ResL.tmp rfl ResL.nil), ?_⟩
      | refine KEnd.mk (Or.inl rfl) ⟨_, (ResL.tmp rfl ResL.nil), ?_⟩))
  all_goals exact ⟨rfl, H.drop.drop⟩

def spAt (l : List Sp) (k : Nat) : Sp := l.getD k ⟨0, 0, 0⟩
theorem spAt_get {l : List Sp} {k : Nat} (h : k < l.length) : l[k]? = some (spAt l k) := by unfold spAt; rw [List.getD_eq_getElem?_getD, List.getElem?_eq_getElem h]; rfl
def okAt (l : List Sp) (k : Nat) : Bool := isSp (spAt l k) && (decide (k = 0) || (decide ((spAt l (k - 1)).from' < (spAt l k).from') && !meetS (spAt l (k - 1)) (spAt l k)))
def validS (l : List Sp) : Bool := (List.range l.length).all (okAt l) && decide (l.length ≤ 60)
theorem spC_len (s : Sp) : (spC s).length = 3 := rfl
abbrev SlS (I : Imm) (L : List Asn) (v : Value) (l : List Sp) : Prop := SlR I L v 3 l.length (l.flatMap spC)
theorem range_succ_all (p : Nat → Bool) (k : Nat) : (List.range (k + 1)).all p = ((List.range k).all p && p k) := by rw [List.range_succ, List.all_append]; simp
theorem validS_no {l : List Sp} {k : Nat} (hk : k < l.length) (h : okAt l k = false) : validS l = false := by
  unfold validS
  have : (List.range l.length).all (okAt l) = false := by
    rw [List.all_eq_false]
    exact ⟨k, List.mem_range.2 hk, by simp [h]⟩
  rw [this]; rfl
theorem Valid_any (H : Holds I w L) {v : Value} {l : List Sp} (hv : SlS I L v l) (hl : l.length ≤ 1000000) : Rets Try.prog F_lock_Valid #[v] w fun u w' => u = .bool (validS l) ∧ Holds I w' L := by
  obtain ⟨A, cap, rfl, hcap⟩ := hv.form
  refine ok_lock_Valid.rets rfl ?_
  repeat' (first
    | (show VcL _ _ _ _ _ _ _ _; first
      | refine VcL.pures tabOk rfl ?_
      | refine VcL.nil ?_
      | (show VcL _ _ _ _ (⟨_, .load _ _, _, _, _, _⟩ :: _) _ _ _; first
      | refine VcL.load1 tabOk rfl rfl rfl rfl rfl (by first | exact Holds.cell H rfl | exact Holds.cell (Holds.f1 H) rfl | exact Holds.cell (Holds.f2 H) rfl | exact Holds.cell (Holds.f3 H) rfl | exact Holds.cell (Holds.f4 H) rfl | exact Holds.cell (Holds.f5 H) rfl | exact Holds.cell (Holds.f6 H) rfl | exact RdW.get (by assumption) rfl H | exact RdW.get0 (by assumption) rfl H | exact RdW.get (by assumption) rfl (Holds.drop H) | exact RdW.get0 (by assumption) rfl (Holds.drop H) | exact RdW.get (by assumption) rfl (Holds.drop (Holds.drop H)) | exact RdW.get0 (by assumption) rfl (Holds.drop (Holds.drop H)) | exact RdW.get (by assumption) rfl (Holds.drop (Holds.drop (Holds.drop H))) | exact RdW.get0 (by assumption) rfl (Holds.drop (Holds.drop (Holds.drop H))) | assumption) ?_
      | refine VcL.loadR tabOk rfl rfl rfl rfl rfl rfl (by first | exact RdW.rd (by assumption) H | exact RdW.rd (by assumption) (Holds.drop H) | exact RdW.rd (by assumption) (Holds.drop (Holds.drop H)) | exact RdW.rd (by assumption) (Holds.drop (Holds.drop (Holds.drop H))) | assumption) rfl ?_
      | refine VcL.loadN tabOk rfl rfl rfl rfl rfl rfl (by first | exact H | exact (Holds.f1 H) | exact (Holds.f2 H) | exact (Holds.f3 H) | exact (Holds.f4 H) | exact (Holds.f5 H) | exact (Holds.f6 H)) (by exact rfl) ?_)
      | (show VcL _ _ _ _ (⟨_, .binOp _ _ _ _ _, _, _, _, _⟩ :: _) _ _ _; first
      | refine VcL.eqS tabOk rfl rfl rfl rfl rfl rfl (by kernel_rfl) (by kernel_rfl) rfl rfl (by first | exact .inl rfl | exact .inr rfl) ?_)
      | (show VcL _ _ _ _ (⟨_, .indexAddr _ _ _, _, _, _, _⟩ :: _) _ _ _; first
      | refine VcL.indexAddr0 tabOk rfl rfl rfl rfl rfl rfl (by omega) (by omega) ?_
      | refine VcL.indexAddr tabOk rfl rfl rfl rfl rfl rfl (by omega) (by omega) ?_
      | refine VcL.indexArr0 tabOk rfl rfl rfl rfl rfl rfl (by omega) (by omega) ?_
      | refine VcL.indexArr tabOk rfl rfl rfl rfl rfl rfl (by omega) (by omega) ?_)
      | refine VcL.alloc tabOk H rfl rfl rfl rfl (fun b w H => ?_)
      | (show VcL _ _ _ _ (⟨_, .store _ _ _, _, _, _, _⟩ :: _) _ _ _; first
      | refine VcL.store tabOk rfl (by first | exact H | exact (Holds.f1 H) | exact (Holds.f2 H) | exact (Holds.f3 H) | exact (Holds.f4 H) | exact (Holds.f5 H) | exact (Holds.f6 H)) rfl rfl (by exact rfl) (by exact rfl) (by exact rfl) (by exact rfl) (fun w H => ?_))
      | (show VcL _ _ _ _ (⟨_, .call ⟨.value (.func F_lock_isSpan), _, _⟩, _, _, _, _⟩ :: _) _ _ _; first
      | (refine VcL.callF ok_lock_isSpan rfl rfl rfl rfl (Rets.mono (isSpan_any H _) ?_); rintro _ w ⟨rfl, H⟩))
      | (show VcL _ _ _ _ (⟨_, .call ⟨.value (.func F_lock_meet), _, _⟩, _, _, _, _⟩ :: _) _ _ _; first
      | (refine VcL.callF ok_lock_meet rfl rfl rfl rfl (Rets.mono (meet_any H _ _) ?_); rintro _ w ⟨rfl, H⟩))
      | (refine VcL.guard rfl rfl rfl rfl (fun h => ?_) (fun h => ?_) <;> first | (cases h; done) | (exfalso; simp only [decide_eq_true_eq, decide_eq_false_iff_not] at h; omega) | (with_reducible have hp := of_decide_eq_true h) | (with_reducible have hp := of_decide_eq_false h) | (with_reducible have hp := ndec_t h) | (with_reducible have hp := ndec_f h) | skip))
    | (show VcD _ _ _ _ _ _ _ _ _; first
      | refine VcD.pures tabOk (by first | exact H | exact Holds.drop H | exact Holds.drop (Holds.drop H)) rfl ?_
      | refine VcD.done ?_
      | (show VcD _ _ _ _ _ (.take _ _) _ _ _; first
      | refine VcD.load1 tabOk rfl rfl rfl rfl rfl rfl (by first | exact H | exact Holds.drop H | exact Holds.drop (Holds.drop H)) (by intro w_ hw_; first | exact Holds.cell hw_ rfl | exact Holds.cell (Holds.f1 hw_) rfl | exact Holds.cell (Holds.f2 hw_) rfl | exact Holds.cell (Holds.f3 hw_) rfl | exact Holds.cell (Holds.f4 hw_) rfl | exact Holds.cell (Holds.f5 hw_) rfl | exact Holds.cell (Holds.f6 hw_) rfl | exact RdW.get (by assumption) rfl hw_ | exact RdW.get0 (by assumption) rfl hw_ | exact RdW.get (by assumption) rfl (Holds.drop hw_) | exact RdW.get0 (by assumption) rfl (Holds.drop hw_) | exact RdW.get (by assumption) rfl (Holds.drop (Holds.drop hw_)) | exact RdW.get0 (by assumption) rfl (Holds.drop (Holds.drop hw_)) | exact RdW.get (by assumption) rfl (Holds.drop (Holds.drop (Holds.drop hw_))) | exact RdW.get0 (by assumption) rfl (Holds.drop (Holds.drop (Holds.drop hw_))) | assumption) (by exact rfl) ?_
      | refine VcD.loadR tabOk rfl rfl rfl rfl rfl rfl rfl (by first | exact H | exact Holds.drop H | exact Holds.drop (Holds.drop H)) (by intro w_ hw_; first | exact RdW.rd (by assumption) hw_ | exact RdW.rd (by assumption) (Holds.drop hw_) | exact RdW.rd (by assumption) (Holds.drop (Holds.drop hw_)) | exact RdW.rd (by assumption) (Holds.drop (Holds.drop (Holds.drop hw_))) | assumption) rfl ?_
      | refine VcD.loadN tabOk rfl rfl rfl rfl rfl rfl rfl (by first | exact H | exact Holds.drop H | exact Holds.drop (Holds.drop H)) (by intro w_ hw_; first | exact hw_ | exact (Holds.f1 hw_) | exact (Holds.f2 hw_) | exact (Holds.f3 hw_) | exact (Holds.f4 hw_) | exact (Holds.f5 hw_) | exact (Holds.f6 hw_)) (by exact rfl) ?_
      | refine VcD.indexAddr0 tabOk rfl rfl rfl rfl rfl rfl rfl (by first | exact H | exact Holds.drop H | exact Holds.drop (Holds.drop H)) (by omega) (by omega) ?_
      | refine VcD.indexAddr tabOk rfl rfl rfl rfl rfl rfl rfl (by first | exact H | exact Holds.drop H | exact Holds.drop (Holds.drop H)) (by omega) (by omega) ?_
      | refine VcD.indexArr0 tabOk rfl rfl rfl rfl rfl rfl rfl (by first | exact H | exact Holds.drop H | exact Holds.drop (Holds.drop H)) (by omega) (by omega) ?_
      | refine VcD.indexArr tabOk rfl rfl rfl rfl rfl rfl rfl (by first | exact H | exact Holds.drop H | exact Holds.drop (Holds.drop H)) (by omega) (by omega) ?_
      | refine VcD.eqS tabOk rfl rfl rfl rfl rfl rfl (by first | exact H | exact Holds.drop H | exact Holds.drop (Holds.drop H)) rfl (by kernel_rfl) (by kernel_rfl) rfl rfl (by first | exact .inl rfl | exact .inr rfl) ?_
      | (refine VcD.guardT rfl rfl rfl rfl rfl (fun h => ?_) (fun h => ?_) <;> first | (cases h; done) | (exfalso; simp only [decide_eq_true_eq, decide_eq_false_iff_not] at h; omega) | (with_reducible have hp := of_decide_eq_true h) | (with_reducible have hp := of_decide_eq_false h) | (with_reducible have hp := ndec_t h) | (with_reducible have hp := ndec_f h) | skip))
      | (show VcD _ _ _ _ _ (.only _ _) _ _ _; first
      | (refine VcD.callF (f := F_lock_isSpan) rfl ok_lock_isSpan rfl rfl rfl rfl (Rets.mono (isSpan_any H _) ?_); rintro _ w ⟨rfl, H⟩; refine ⟨(by first | exact H | exact Holds.drop H | exact Holds.drop (Holds.drop H)), ?_⟩)
      | (refine VcD.callF (f := F_lock_meet) rfl ok_lock_meet rfl rfl rfl rfl (Rets.mono (meet_any H _ _) ?_); rintro _ w ⟨rfl, H⟩; refine ⟨(by first | exact H | exact Holds.drop H | exact Holds.drop (Holds.drop H)), ?_⟩)
      | refine VcD.skip rfl rfl rfl (by first | exact H | exact Holds.drop H | exact Holds.drop (Holds.drop H)) ?_
      | (refine VcD.guardO rfl rfl rfl rfl rfl (fun h => ?_) (fun h => ?_) <;> first | (cases h; done) | (exfalso; simp only [decide_eq_true_eq, decide_eq_false_iff_not] at h; omega) | (with_reducible have hp := of_decide_eq_true h) | (with_reducible have hp := of_decide_eq_false h) | (with_reducible have hp := ndec_t h) | (with_reducible have hp := ndec_f h) | skip))
      | (show VcD _ _ _ _ _ (.two _ _ _ _) _ _ _; refine VcD.two ?_ ?_))
    | (show EfO _ _ _ _ _ _ _ _ _; first
      | (refine EfO.call (f := F_lock_isSpan) rfl rfl rfl rfl (OpC.call ok_lock_isSpan rfl) (Rets.mono (isSpan_any H _) ?_); rintro _ w ⟨rfl, H⟩; refine ⟨(by first | exact H | exact Holds.drop H | exact Holds.drop (Holds.drop H)), ?_⟩)
      | (refine EfO.call (f := F_lock_meet) rfl rfl rfl rfl (OpC.call ok_lock_meet rfl) (Rets.mono (meet_any H _ _) ?_); rintro _ w ⟨rfl, H⟩; refine ⟨(by first | exact H | exact Holds.drop H | exact Holds.drop (Holds.drop H)), ?_⟩))
    | (show Vc _ _ _ _ _ _; first
      | refine Vc.seq ?_
      | refine Vc.region ?_
      | refine Vc.condT rfl ?_
      | refine Vc.condF rfl ?_
      | refine Vc.ret ?_
      | refine Vc.skip ?_
      | refine Vc.block ?_
      | refine Vc.exit ?_
      | refine Vc.drawnH (id := 4) H (.take 0 (.only 1 (.take 2 (.take 3 (.take 4 (.take 5 (.take 6 (.take 7 (.take 9 (.take 10 (.take 11 (.take 8 (.take 12 (.take 13 (.take 14 (.take 15 (.take 16 (.take 17 (.take 18 (.take 19 (.take 20 (.take 21 (.take 22 (.only 23 (.take 24 (.take 25 (.take 26 .done))))))))))))))))))))))))))) mixed (by kernel_rfl) (fun w H => ?_)
      | (refine Vc.cond rfl (fun h => ?_) (fun h => ?_) <;> first | (cases h; done) | (exfalso; simp only [decide_eq_true_eq, decide_eq_false_iff_not] at h; omega) | (with_reducible have hp := of_decide_eq_true h) | (with_reducible have hp := of_decide_eq_false h) | (with_reducible have hp := ndec_t h) | (with_reducible have hp := ndec_f h) | skip))
    | (show KSeq _ _ _ _ _ _ _; first
      | refine KSeq.normal ?_
      | refine KSeq.ret ?_
      | refine KSeq.exit ?_)
    | (show KBlock _ _ _ _ _; first
      | refine KBlock.normal ?_
      | refine KBlock.here ?_
      | refine KBlock.on rfl ?_
      | refine KBlock.ret ?_)
    | refine KLoop.exit ?_
    | refine KLoop.ret ?_
    | refine KCut.exit ?_
    | refine KCut.ret ?_
    | (show KEnd _ _ _ _ _ _; first
      | refine KEnd.mk (Or.inr rfl) ⟨_, (ResL.tmp rfl ResL.nil), ?_⟩
      | refine KEnd.mk (Or.inl rfl) ⟨_, (ResL.tmp rfl ResL.nil), ?_⟩))
  refine Vc.loopS [(0, _), (5, _), (6, _)] (fun k : Nat => [(7, .int .i64 k)]) (fun k w => Holds I w L ∧ k ≤ l.length ∧ (List.range k).all (okAt l) = true) (fun k _ => l.length - k) 0 ⟨rfl, trivial⟩ ⟨rfl, rfl, rfl, trivial⟩ ⟨H, Nat.zero_le _, rfl⟩ ?_
  rintro k w ⟨H, hk, hall⟩
  by_cases hlt : k < l.length
  · obtain ⟨b, o, rfl, hr⟩ := hv.at (by omega)
    have hx := hr.elem spC_len (spAt_get hlt)
    rcases Nat.eq_zero_or_pos k with rfl | h0
    ·
      repeat' (first
        | (show VcL _ _ _ _ _ _ _ _; first
      | refine VcL.pures tabOk rfl ?_
      | refine VcL.nil ?_
      | (show VcL _ _ _ _ (⟨_, .load _ _, _, _, _, _⟩ :: _) _ _ _; first
      | refine VcL.load1 tabOk rfl rfl rfl rfl rfl (by first | exact Holds.cell H rfl | exact Holds.cell (Holds.f1 H) rfl | exact Holds.cell (Holds.f2 H) rfl | exact Holds.cell (Holds.f3 H) rfl | exact Holds.cell (Holds.f4 H) rfl | exact Holds.cell (Holds.f5 H) rfl | exact Holds.cell (Holds.f6 H) rfl | exact RdW.get (by assumption) rfl H | exact RdW.get0 (by assumption) rfl H | exact RdW.get (by assumption) rfl (Holds.drop H) | exact RdW.get0 (by assumption) rfl (Holds.drop H) | exact RdW.get (by assumption) rfl (Holds.drop (Holds.drop H)) | exact RdW.get0 (by assumption) rfl (Holds.drop (Holds.drop H)) | exact RdW.get (by assumption) rfl (Holds.drop (Holds.drop (Holds.drop H))) | exact RdW.get0 (by assumption) rfl (Holds.drop (Holds.drop (Holds.drop H))) | assumption) ?_
      | refine VcL.loadR tabOk rfl rfl rfl rfl rfl rfl (by first | exact RdW.rd (by assumption) H | exact RdW.rd (by assumption) (Holds.drop H) | exact RdW.rd (by assumption) (Holds.drop (Holds.drop H)) | exact RdW.rd (by assumption) (Holds.drop (Holds.drop (Holds.drop H))) | assumption) rfl ?_
      | refine VcL.loadN tabOk rfl rfl rfl rfl rfl rfl (by first | exact H | exact (Holds.f1 H) | exact (Holds.f2 H) | exact (Holds.f3 H) | exact (Holds.f4 H) | exact (Holds.f5 H) | exact (Holds.f6 H)) (by exact rfl) ?_)
      | (show VcL _ _ _ _ (⟨_, .binOp _ _ _ _ _, _, _, _, _⟩ :: _) _ _ _; first
      | refine VcL.eqS tabOk rfl rfl rfl rfl rfl rfl (by kernel_rfl) (by kernel_rfl) rfl rfl (by first | exact .inl rfl | exact .inr rfl) ?_)
      | (show VcL _ _ _ _ (⟨_, .indexAddr _ _ _, _, _, _, _⟩ :: _) _ _ _; first
      | refine VcL.indexAddr0 tabOk rfl rfl rfl rfl rfl rfl (by omega) (by omega) ?_
      | refine VcL.indexAddr tabOk rfl rfl rfl rfl rfl rfl (by omega) (by omega) ?_
      | refine VcL.indexArr0 tabOk rfl rfl rfl rfl rfl rfl (by omega) (by omega) ?_
      | refine VcL.indexArr tabOk rfl rfl rfl rfl rfl rfl (by omega) (by omega) ?_)
      | refine VcL.alloc tabOk H rfl rfl rfl rfl (fun b w H => ?_)
      | (show VcL _ _ _ _ (⟨_, .store _ _ _, _, _, _, _⟩ :: _) _ _ _; first
      | refine VcL.store tabOk rfl (by first | exact H | exact (Holds.f1 H) | exact (Holds.f2 H) | exact (Holds.f3 H) | exact (Holds.f4 H) | exact (Holds.f5 H) | exact (Holds.f6 H)) rfl rfl (by exact rfl) (by exact rfl) (by exact rfl) (by exact rfl) (fun w H => ?_))
      | (show VcL _ _ _ _ (⟨_, .call ⟨.value (.func F_lock_isSpan), _, _⟩, _, _, _, _⟩ :: _) _ _ _; first
      | (refine VcL.callF ok_lock_isSpan rfl rfl rfl rfl (Rets.mono (isSpan_any H _) ?_); rintro _ w ⟨rfl, H⟩))
      | (show VcL _ _ _ _ (⟨_, .call ⟨.value (.func F_lock_meet), _, _⟩, _, _, _, _⟩ :: _) _ _ _; first
      | (refine VcL.callF ok_lock_meet rfl rfl rfl rfl (Rets.mono (meet_any H _ _) ?_); rintro _ w ⟨rfl, H⟩))
      | (refine VcL.guard rfl rfl rfl rfl (fun h => ?_) (fun h => ?_) <;> first | (cases h; done) | (exfalso; simp only [decide_eq_true_eq, decide_eq_false_iff_not] at h; omega) | (with_reducible have hp := of_decide_eq_true h) | (with_reducible have hp := of_decide_eq_false h) | (with_reducible have hp := ndec_t h) | (with_reducible have hp := ndec_f h) | skip))
        | (show VcD _ _ _ _ _ _ _ _ _; first
      | refine VcD.pures tabOk (by first | exact H | exact Holds.drop H | exact Holds.drop (Holds.drop H)) rfl ?_
      | refine VcD.done ?_
      | (show VcD _ _ _ _ _ (.take _ _) _ _ _; first
      | refine VcD.load1 tabOk rfl rfl rfl rfl rfl rfl (by first | exact H | exact Holds.drop H | exact Holds.drop (Holds.drop H)) (by intro w_ hw_; first | exact Holds.cell hw_ rfl | exact Holds.cell (Holds.f1 hw_) rfl | exact Holds.cell (Holds.f2 hw_) rfl | exact Holds.cell (Holds.f3 hw_) rfl | exact Holds.cell (Holds.f4 hw_) rfl | exact Holds.cell (Holds.f5 hw_) rfl | exact Holds.cell (Holds.f6 hw_) rfl | exact RdW.get (by assumption) rfl hw_ | exact RdW.get0 (by assumption) rfl hw_ | exact RdW.get (by assumption) rfl (Holds.drop hw_) | exact RdW.get0 (by assumption) rfl (Holds.drop hw_) | exact RdW.get (by assumption) rfl (Holds.drop (Holds.drop hw_)) | exact RdW.get0 (by assumption) rfl (Holds.drop (Holds.drop hw_)) | exact RdW.get (by assumption) rfl (Holds.drop (Holds.drop (Holds.drop hw_))) | exact RdW.get0 (by assumption) rfl (Holds.drop (Holds.drop (Holds.drop hw_))) | assumption) (by exact rfl) ?_
      | refine VcD.loadR tabOk rfl rfl rfl rfl rfl rfl rfl (by first | exact H | exact Holds.drop H | exact Holds.drop (Holds.drop H)) (by intro w_ hw_; first | exact RdW.rd (by assumption) hw_ | exact RdW.rd (by assumption) (Holds.drop hw_) | exact RdW.rd (by assumption) (Holds.drop (Holds.drop hw_)) | exact RdW.rd (by assumption) (Holds.drop (Holds.drop (Holds.drop hw_))) | assumption) rfl ?_
      | refine VcD.loadN tabOk rfl rfl rfl rfl rfl rfl rfl (by first | exact H | exact Holds.drop H | exact Holds.drop (Holds.drop H)) (by intro w_ hw_; first | exact hw_ | exact (Holds.f1 hw_) | exact (Holds.f2 hw_) | exact (Holds.f3 hw_) | exact (Holds.f4 hw_) | exact (Holds.f5 hw_) | exact (Holds.f6 hw_)) (by exact rfl) ?_
      | refine VcD.indexAddr0 tabOk rfl rfl rfl rfl rfl rfl rfl (by first | exact H | exact Holds.drop H | exact Holds.drop (Holds.drop H)) (by omega) (by omega) ?_
      | refine VcD.indexAddr tabOk rfl rfl rfl rfl rfl rfl rfl (by first | exact H | exact Holds.drop H | exact Holds.drop (Holds.drop H)) (by omega) (by omega) ?_
      | refine VcD.indexArr0 tabOk rfl rfl rfl rfl rfl rfl rfl (by first | exact H | exact Holds.drop H | exact Holds.drop (Holds.drop H)) (by omega) (by omega) ?_
      | refine VcD.indexArr tabOk rfl rfl rfl rfl rfl rfl rfl (by first | exact H | exact Holds.drop H | exact Holds.drop (Holds.drop H)) (by omega) (by omega) ?_
      | refine VcD.eqS tabOk rfl rfl rfl rfl rfl rfl (by first | exact H | exact Holds.drop H | exact Holds.drop (Holds.drop H)) rfl (by kernel_rfl) (by kernel_rfl) rfl rfl (by first | exact .inl rfl | exact .inr rfl) ?_
      | (refine VcD.guardT rfl rfl rfl rfl rfl (fun h => ?_) (fun h => ?_) <;> first | (cases h; done) | (exfalso; simp only [decide_eq_true_eq, decide_eq_false_iff_not] at h; omega) | (with_reducible have hp := of_decide_eq_true h) | (with_reducible have hp := of_decide_eq_false h) | (with_reducible have hp := ndec_t h) | (with_reducible have hp := ndec_f h) | skip))
      | (show VcD _ _ _ _ _ (.only _ _) _ _ _; first
      | (refine VcD.callF (f := F_lock_isSpan) rfl ok_lock_isSpan rfl rfl rfl rfl (Rets.mono (isSpan_any H _) ?_); rintro _ w ⟨rfl, H⟩; refine ⟨(by first | exact H | exact Holds.drop H | exact Holds.drop (Holds.drop H)), ?_⟩)
      | (refine VcD.callF (f := F_lock_meet) rfl ok_lock_meet rfl rfl rfl rfl (Rets.mono (meet_any H _ _) ?_); rintro _ w ⟨rfl, H⟩; refine ⟨(by first | exact H | exact Holds.drop H | exact Holds.drop (Holds.drop H)), ?_⟩)
      | refine VcD.skip rfl rfl rfl (by first | exact H | exact Holds.drop H | exact Holds.drop (Holds.drop H)) ?_
      | (refine VcD.guardO rfl rfl rfl rfl rfl (fun h => ?_) (fun h => ?_) <;> first | (cases h; done) | (exfalso; simp only [decide_eq_true_eq, decide_eq_false_iff_not] at h; omega) | (with_reducible have hp := of_decide_eq_true h) | (with_reducible have hp := of_decide_eq_false h) | (with_reducible have hp := ndec_t h) | (with_reducible have hp := ndec_f h) | skip))
      | (show VcD _ _ _ _ _ (.two _ _ _ _) _ _ _; refine VcD.two ?_ ?_))
        | (show EfO _ _ _ _ _ _ _ _ _; first
      | (refine EfO.call (f := F_lock_isSpan) rfl rfl rfl rfl (OpC.call ok_lock_isSpan rfl) (Rets.mono (isSpan_any H _) ?_); rintro _ w ⟨rfl, H⟩; refine ⟨(by first | exact H | exact Holds.drop H | exact Holds.drop (Holds.drop H)), ?_⟩)
      | (refine EfO.call (f := F_lock_meet) rfl rfl rfl rfl (OpC.call ok_lock_meet rfl) (Rets.mono (meet_any H _ _) ?_); rintro _ w ⟨rfl, H⟩; refine ⟨(by first | exact H | exact Holds.drop H | exact Holds.drop (Holds.drop H)), ?_⟩))
        | (show Vc _ _ _ _ _ _; first
      | refine Vc.seq ?_
      | refine Vc.region ?_
      | refine Vc.condT rfl ?_
      | refine Vc.condF rfl ?_
      | refine Vc.ret ?_
      | refine Vc.skip ?_
      | refine Vc.block ?_
      | refine Vc.exit ?_
      | refine Vc.drawnH (id := 4) H (.take 0 (.only 1 (.take 2 (.take 3 (.take 4 (.take 5 (.take 6 (.take 7 (.take 9 (.take 10 (.take 11 (.take 8 (.take 12 (.take 13 (.take 14 (.take 15 (.take 16 (.take 17 (.take 18 (.take 19 (.take 20 (.take 21 (.take 22 (.only 23 (.take 24 (.take 25 (.take 26 .done))))))))))))))))))))))))))) mixed (by kernel_rfl) (fun w H => ?_)
      | (refine Vc.cond rfl (fun h => ?_) (fun h => ?_) <;> first | (cases h; done) | (exfalso; simp only [decide_eq_true_eq, decide_eq_false_iff_not] at h; omega) | (with_reducible have hp := of_decide_eq_true h) | (with_reducible have hp := of_decide_eq_false h) | (with_reducible have hp := ndec_t h) | (with_reducible have hp := ndec_f h) | skip))
        | (show KSeq _ _ _ _ _ _ _; first
      | refine KSeq.normal ?_
      | refine KSeq.ret ?_
      | refine KSeq.exit ?_)
        | (show KBlock _ _ _ _ _; first
      | refine KBlock.normal ?_
      | refine KBlock.here ?_
      | refine KBlock.on rfl ?_
      | refine KBlock.ret ?_)
        | refine KLoop.exit ?_
        | refine KLoop.ret ?_
        | refine KCut.exit ?_
        | refine KCut.ret ?_
        | (show KEnd _ _ _ _ _ _; first
      | refine KEnd.mk (Or.inr rfl) ⟨_, (ResL.tmp rfl ResL.nil), ?_⟩
      | refine KEnd.mk (Or.inl rfl) ⟨_, (ResL.tmp rfl ResL.nil), ?_⟩))
      · refine ⟨?_, H.drop⟩
        rw [validS_no hlt (by unfold okAt; simp_all)]
        rfl
      · refine KLoop.again 1 ⟨got_succ rfl (by omega), trivial⟩ ⟨rfl, rfl, rfl, trivial⟩ ⟨H.drop, hlt, ?_⟩ (by omega)
        rw [range_succ_all, hall]
        unfold okAt
        simp_all
    · obtain ⟨m, rfl⟩ : ∃ m, k = m + 1 := ⟨k - 1, by omega⟩
      have hw : IntKind.i64.wrap (((m + 1 : Nat) : Int) - 1) = (m : Int) := by rw [wrap_i64 (by omega) (by omega)]; omega
      have hy := hr.elem (k := m) spC_len (spAt_get (by omega))
      repeat' (first
        | rw [hw]
        | (show VcL _ _ _ _ _ _ _ _; first
      | refine VcL.pures tabOk rfl ?_
      | refine VcL.nil ?_
      | (show VcL _ _ _ _ (⟨_, .load _ _, _, _, _, _⟩ :: _) _ _ _; first
      | refine VcL.load1 tabOk rfl rfl rfl rfl rfl (by first | exact Holds.cell H rfl | exact Holds.cell (Holds.f1 H) rfl | exact Holds.cell (Holds.f2 H) rfl | exact Holds.cell (Holds.f3 H) rfl | exact Holds.cell (Holds.f4 H) rfl | exact Holds.cell (Holds.f5 H) rfl | exact Holds.cell (Holds.f6 H) rfl | exact RdW.get (by assumption) rfl H | exact RdW.get0 (by assumption) rfl H | exact RdW.get (by assumption) rfl (Holds.drop H) | exact RdW.get0 (by assumption) rfl (Holds.drop H) | exact RdW.get (by assumption) rfl (Holds.drop (Holds.drop H)) | exact RdW.get0 (by assumption) rfl (Holds.drop (Holds.drop H)) | exact RdW.get (by assumption) rfl (Holds.drop (Holds.drop (Holds.drop H))) | exact RdW.get0 (by assumption) rfl (Holds.drop (Holds.drop (Holds.drop H))) | assumption) ?_
      | refine VcL.loadR tabOk rfl rfl rfl rfl rfl rfl (by first | exact RdW.rd (by assumption) H | exact RdW.rd (by assumption) (Holds.drop H) | exact RdW.rd (by assumption) (Holds.drop (Holds.drop H)) | exact RdW.rd (by assumption) (Holds.drop (Holds.drop (Holds.drop H))) | assumption) rfl ?_
      | refine VcL.loadN tabOk rfl rfl rfl rfl rfl rfl (by first | exact H | exact (Holds.f1 H) | exact (Holds.f2 H) | exact (Holds.f3 H) | exact (Holds.f4 H) | exact (Holds.f5 H) | exact (Holds.f6 H)) (by exact rfl) ?_)
      | (show VcL _ _ _ _ (⟨_, .binOp _ _ _ _ _, _, _, _, _⟩ :: _) _ _ _; first
      | refine VcL.eqS tabOk rfl rfl rfl rfl rfl rfl (by kernel_rfl) (by kernel_rfl) rfl rfl (by first | exact .inl rfl | exact .inr rfl) ?_)
      | (show VcL _ _ _ _ (⟨_, .indexAddr _ _ _, _, _, _, _⟩ :: _) _ _ _; first
      | refine VcL.indexAddr0 tabOk rfl rfl rfl rfl rfl rfl (by omega) (by omega) ?_
      | refine VcL.indexAddr tabOk rfl rfl rfl rfl rfl rfl (by omega) (by omega) ?_
      | refine VcL.indexArr0 tabOk rfl rfl rfl rfl rfl rfl (by omega) (by omega) ?_
      | refine VcL.indexArr tabOk rfl rfl rfl rfl rfl rfl (by omega) (by omega) ?_)
      | refine VcL.alloc tabOk H rfl rfl rfl rfl (fun b w H => ?_)
      | (show VcL _ _ _ _ (⟨_, .store _ _ _, _, _, _, _⟩ :: _) _ _ _; first
      | refine VcL.store tabOk rfl (by first | exact H | exact (Holds.f1 H) | exact (Holds.f2 H) | exact (Holds.f3 H) | exact (Holds.f4 H) | exact (Holds.f5 H) | exact (Holds.f6 H)) rfl rfl (by exact rfl) (by exact rfl) (by exact rfl) (by exact rfl) (fun w H => ?_))
      | (show VcL _ _ _ _ (⟨_, .call ⟨.value (.func F_lock_isSpan), _, _⟩, _, _, _, _⟩ :: _) _ _ _; first
      | (refine VcL.callF ok_lock_isSpan rfl rfl rfl rfl (Rets.mono (isSpan_any H _) ?_); rintro _ w ⟨rfl, H⟩))
      | (show VcL _ _ _ _ (⟨_, .call ⟨.value (.func F_lock_meet), _, _⟩, _, _, _, _⟩ :: _) _ _ _; first
      | (refine VcL.callF ok_lock_meet rfl rfl rfl rfl (Rets.mono (meet_any H _ _) ?_); rintro _ w ⟨rfl, H⟩))
      | (refine VcL.guard rfl rfl rfl rfl (fun h => ?_) (fun h => ?_) <;> first | (cases h; done) | (exfalso; simp only [decide_eq_true_eq, decide_eq_false_iff_not] at h; omega) | (with_reducible have hp := of_decide_eq_true h) | (with_reducible have hp := of_decide_eq_false h) | (with_reducible have hp := ndec_t h) | (with_reducible have hp := ndec_f h) | skip))
        | (show VcD _ _ _ _ _ _ _ _ _; first
      | refine VcD.pures tabOk (by first | exact H | exact Holds.drop H | exact Holds.drop (Holds.drop H)) rfl ?_
      | refine VcD.done ?_
      | (show VcD _ _ _ _ _ (.take _ _) _ _ _; first
      | refine VcD.load1 tabOk rfl rfl rfl rfl rfl rfl (by first | exact H | exact Holds.drop H | exact Holds.drop (Holds.drop H)) (by intro w_ hw_; first | exact Holds.cell hw_ rfl | exact Holds.cell (Holds.f1 hw_) rfl | exact Holds.cell (Holds.f2 hw_) rfl | exact Holds.cell (Holds.f3 hw_) rfl | exact Holds.cell (Holds.f4 hw_) rfl | exact Holds.cell (Holds.f5 hw_) rfl | exact Holds.cell (Holds.f6 hw_) rfl | exact RdW.get (by assumption) rfl hw_ | exact RdW.get0 (by assumption) rfl hw_ | exact RdW.get (by assumption) rfl (Holds.drop hw_) | exact RdW.get0 (by assumption) rfl (Holds.drop hw_) | exact RdW.get (by assumption) rfl (Holds.drop (Holds.drop hw_)) | exact RdW.get0 (by assumption) rfl (Holds.drop (Holds.drop hw_)) | exact RdW.get (by assumption) rfl (Holds.drop (Holds.drop (Holds.drop hw_))) | exact RdW.get0 (by assumption) rfl (Holds.drop (Holds.drop (Holds.drop hw_))) | assumption) (by exact rfl) ?_
      | refine VcD.loadR tabOk rfl rfl rfl rfl rfl rfl rfl (by first | exact H | exact Holds.drop H | exact Holds.drop (Holds.drop H)) (by intro w_ hw_; first | exact RdW.rd (by assumption) hw_ | exact RdW.rd (by assumption) (Holds.drop hw_) | exact RdW.rd (by assumption) (Holds.drop (Holds.drop hw_)) | exact RdW.rd (by assumption) (Holds.drop (Holds.drop (Holds.drop hw_))) | assumption) rfl ?_
      | refine VcD.loadN tabOk rfl rfl rfl rfl rfl rfl rfl (by first | exact H | exact Holds.drop H | exact Holds.drop (Holds.drop H)) (by intro w_ hw_; first | exact hw_ | exact (Holds.f1 hw_) | exact (Holds.f2 hw_) | exact (Holds.f3 hw_) | exact (Holds.f4 hw_) | exact (Holds.f5 hw_) | exact (Holds.f6 hw_)) (by exact rfl) ?_
      | refine VcD.indexAddr0 tabOk rfl rfl rfl rfl rfl rfl rfl (by first | exact H | exact Holds.drop H | exact Holds.drop (Holds.drop H)) (by omega) (by omega) ?_
      | refine VcD.indexAddr tabOk rfl rfl rfl rfl rfl rfl rfl (by first | exact H | exact Holds.drop H | exact Holds.drop (Holds.drop H)) (by omega) (by omega) ?_
      | refine VcD.indexArr0 tabOk rfl rfl rfl rfl rfl rfl rfl (by first | exact H | exact Holds.drop H | exact Holds.drop (Holds.drop H)) (by omega) (by omega) ?_
      | refine VcD.indexArr tabOk rfl rfl rfl rfl rfl rfl rfl (by first | exact H | exact Holds.drop H | exact Holds.drop (Holds.drop H)) (by omega) (by omega) ?_
      | refine VcD.eqS tabOk rfl rfl rfl rfl rfl rfl (by first | exact H | exact Holds.drop H | exact Holds.drop (Holds.drop H)) rfl (by kernel_rfl) (by kernel_rfl) rfl rfl (by first | exact .inl rfl | exact .inr rfl) ?_
      | (refine VcD.guardT rfl rfl rfl rfl rfl (fun h => ?_) (fun h => ?_) <;> first | (cases h; done) | (exfalso; simp only [decide_eq_true_eq, decide_eq_false_iff_not] at h; omega) | (with_reducible have hp := of_decide_eq_true h) | (with_reducible have hp := of_decide_eq_false h) | (with_reducible have hp := ndec_t h) | (with_reducible have hp := ndec_f h) | skip))
      | (show VcD _ _ _ _ _ (.only _ _) _ _ _; first
      | (refine VcD.callF (f := F_lock_isSpan) rfl ok_lock_isSpan rfl rfl rfl rfl (Rets.mono (isSpan_any H _) ?_); rintro _ w ⟨rfl, H⟩; refine ⟨(by first | exact H | exact Holds.drop H | exact Holds.drop (Holds.drop H)), ?_⟩)
      | (refine VcD.callF (f := F_lock_meet) rfl ok_lock_meet rfl rfl rfl rfl (Rets.mono (meet_any H _ _) ?_); rintro _ w ⟨rfl, H⟩; refine ⟨(by first | exact H | exact Holds.drop H | exact Holds.drop (Holds.drop H)), ?_⟩)
      | refine VcD.skip rfl rfl rfl (by first | exact H | exact Holds.drop H | exact Holds.drop (Holds.drop H)) ?_
      | (refine VcD.guardO rfl rfl rfl rfl rfl (fun h => ?_) (fun h => ?_) <;> first | (cases h; done) | (exfalso; simp only [decide_eq_true_eq, decide_eq_false_iff_not] at h; omega) | (with_reducible have hp := of_decide_eq_true h) | (with_reducible have hp := of_decide_eq_false h) | (with_reducible have hp := ndec_t h) | (with_reducible have hp := ndec_f h) | skip))
      | (show VcD _ _ _ _ _ (.two _ _ _ _) _ _ _; refine VcD.two ?_ ?_))
        | (show EfO _ _ _ _ _ _ _ _ _; first
      | (refine EfO.call (f := F_lock_isSpan) rfl rfl rfl rfl (OpC.call ok_lock_isSpan rfl) (Rets.mono (isSpan_any H _) ?_); rintro _ w ⟨rfl, H⟩; refine ⟨(by first | exact H | exact Holds.drop H | exact Holds.drop (Holds.drop H)), ?_⟩)
      | (refine EfO.call (f := F_lock_meet) rfl rfl rfl rfl (OpC.call ok_lock_meet rfl) (Rets.mono (meet_any H _ _) ?_); rintro _ w ⟨rfl, H⟩; refine ⟨(by first | exact H | exact Holds.drop H | exact Holds.drop (Holds.drop H)), ?_⟩))
        | (show Vc _ _ _ _ _ _; first
      | refine Vc.seq ?_
      | refine Vc.region ?_
      | refine Vc.condT rfl ?_
      | refine Vc.condF rfl ?_
      | refine Vc.ret ?_
      | refine Vc.skip ?_
      | refine Vc.block ?_
      | refine Vc.exit ?_
      | refine Vc.drawnH (id := 4) H (.take 0 (.only 1 (.take 2 (.take 3 (.take 4 (.take 5 (.take 6 (.take 7 (.take 9 (.take 10 (.take 11 (.take 8 (.take 12 (.take 13 (.take 14 (.take 15 (.take 16 (.take 17 (.take 18 (.take 19 (.take 20 (.take 21 (.take 22 (.only 23 (.take 24 (.take 25 (.take 26 .done))))))))))))))))))))))))))) mixed (by kernel_rfl) (fun w H => ?_)
      | (refine Vc.cond rfl (fun h => ?_) (fun h => ?_) <;> first | (cases h; done) | (exfalso; simp only [decide_eq_true_eq, decide_eq_false_iff_not] at h; omega) | (with_reducible have hp := of_decide_eq_true h) | (with_reducible have hp := of_decide_eq_false h) | (with_reducible have hp := ndec_t h) | (with_reducible have hp := ndec_f h) | skip))
        | (show KSeq _ _ _ _ _ _ _; first
      | refine KSeq.normal ?_
      | refine KSeq.ret ?_
      | refine KSeq.exit ?_)
        | (show KBlock _ _ _ _ _; first
      | refine KBlock.normal ?_
      | refine KBlock.here ?_
      | refine KBlock.on rfl ?_
      | refine KBlock.ret ?_)
        | refine KLoop.exit ?_
        | refine KLoop.ret ?_
        | refine KCut.exit ?_
        | refine KCut.ret ?_
        | (show KEnd _ _ _ _ _ _; first
      | refine KEnd.mk (Or.inr rfl) ⟨_, (ResL.tmp rfl ResL.nil), ?_⟩
      | refine KEnd.mk (Or.inl rfl) ⟨_, (ResL.tmp rfl ResL.nil), ?_⟩))
      · refine ⟨?_, H.drop⟩
        rw [validS_no hlt (by unfold okAt; simp_all)]
        rfl
      · refine ⟨?_, H.drop⟩
        rw [validS_no hlt (by unfold okAt; simp_all; intro; omega)]
        rfl
      · refine ⟨?_, H.drop⟩
        rw [validS_no hlt (by unfold okAt; simp_all)]
        rfl
      · refine KLoop.again (m + 1 + 1) ⟨got_succ rfl (by omega), trivial⟩ ⟨rfl, rfl, rfl, trivial⟩ ⟨H.drop, hlt, ?_⟩ (by omega)
        rw [range_succ_all, hall]
        unfold okAt
        simp_all
  ·
    repeat' (first
      | rw [hw]
      | (show VcL _ _ _ _ _ _ _ _; first
      | refine VcL.pures tabOk rfl ?_
      | refine VcL.nil ?_
      | (show VcL _ _ _ _ (⟨_, .load _ _, _, _, _, _⟩ :: _) _ _ _; first
      | refine VcL.load1 tabOk rfl rfl rfl rfl rfl (by first | exact Holds.cell H rfl | exact Holds.cell (Holds.f1 H) rfl | exact Holds.cell (Holds.f2 H) rfl | exact Holds.cell (Holds.f3 H) rfl | exact Holds.cell (Holds.f4 H) rfl | exact Holds.cell (Holds.f5 H) rfl | exact Holds.cell (Holds.f6 H) rfl | exact RdW.get (by assumption) rfl H | exact RdW.get0 (by assumption) rfl H | exact RdW.get (by assumption) rfl (Holds.drop H) | exact RdW.get0 (by assumption) rfl (Holds.drop H) | exact RdW.get (by assumption) rfl (Holds.drop (Holds.drop H)) | exact RdW.get0 (by assumption) rfl (Holds.drop (Holds.drop H)) | exact RdW.get (by assumption) rfl (Holds.drop (Holds.drop (Holds.drop H))) | exact RdW.get0 (by assumption) rfl (Holds.drop (Holds.drop (Holds.drop H))) | assumption) ?_
      | refine VcL.loadR tabOk rfl rfl rfl rfl rfl rfl (by first | exact RdW.rd (by assumption) H | exact RdW.rd (by assumption) (Holds.drop H) | exact RdW.rd (by assumption) (Holds.drop (Holds.drop H)) | exact RdW.rd (by assumption) (Holds.drop (Holds.drop (Holds.drop H))) | assumption) rfl ?_
      | refine VcL.loadN tabOk rfl rfl rfl rfl rfl rfl (by first | exact H | exact (Holds.f1 H) | exact (Holds.f2 H) | exact (Holds.f3 H) | exact (Holds.f4 H) | exact (Holds.f5 H) | exact (Holds.f6 H)) (by exact rfl) ?_)
      | (show VcL _ _ _ _ (⟨_, .binOp _ _ _ _ _, _, _, _, _⟩ :: _) _ _ _; first
      | refine VcL.eqS tabOk rfl rfl rfl rfl rfl rfl (by kernel_rfl) (by kernel_rfl) rfl rfl (by first | exact .inl rfl | exact .inr rfl) ?_)
      | (show VcL _ _ _ _ (⟨_, .indexAddr _ _ _, _, _, _, _⟩ :: _) _ _ _; first
      | refine VcL.indexAddr0 tabOk rfl rfl rfl rfl rfl rfl (by omega) (by omega) ?_
      | refine VcL.indexAddr tabOk rfl rfl rfl rfl rfl rfl (by omega) (by omega) ?_
      | refine VcL.indexArr0 tabOk rfl rfl rfl rfl rfl rfl (by omega) (by omega) ?_
      | refine VcL.indexArr tabOk rfl rfl rfl rfl rfl rfl (by omega) (by omega) ?_)
      | refine VcL.alloc tabOk H rfl rfl rfl rfl (fun b w H => ?_)
      | (show VcL _ _ _ _ (⟨_, .store _ _ _, _, _, _, _⟩ :: _) _ _ _; first
      | refine VcL.store tabOk rfl (by first | exact H | exact (Holds.f1 H) | exact (Holds.f2 H) | exact (Holds.f3 H) | exact (Holds.f4 H) | exact (Holds.f5 H) | exact (Holds.f6 H)) rfl rfl (by exact rfl) (by exact rfl) (by exact rfl) (by exact rfl) (fun w H => ?_))
      | (show VcL _ _ _ _ (⟨_, .call ⟨.value (.func F_lock_isSpan), _, _⟩, _, _, _, _⟩ :: _) _ _ _; first
      | (refine VcL.callF ok_lock_isSpan rfl rfl rfl rfl (Rets.mono (isSpan_any H _) ?_); rintro _ w ⟨rfl, H⟩))
      | (show VcL _ _ _ _ (⟨_, .call ⟨.value (.func F_lock_meet), _, _⟩, _, _, _, _⟩ :: _) _ _ _; first
      | (refine VcL.callF ok_lock_meet rfl rfl rfl rfl (Rets.mono (meet_any H _ _) ?_); rintro _ w ⟨rfl, H⟩))
      | (refine VcL.guard rfl rfl rfl rfl (fun h => ?_) (fun h => ?_) <;> first | (cases h; done) | (exfalso; simp only [decide_eq_true_eq, decide_eq_false_iff_not] at h; omega) | (with_reducible have hp := of_decide_eq_true h) | (with_reducible have hp := of_decide_eq_false h) | (with_reducible have hp := ndec_t h) | (with_reducible have hp := ndec_f h) | skip))
      | (show VcD _ _ _ _ _ _ _ _ _; first
      | refine VcD.pures tabOk (by first | exact H | exact Holds.drop H | exact Holds.drop (Holds.drop H)) rfl ?_
      | refine VcD.done ?_
      | (show VcD _ _ _ _ _ (.take _ _) _ _ _; first
      | refine VcD.load1 tabOk rfl rfl rfl rfl rfl rfl (by first | exact H | exact Holds.drop H | exact Holds.drop (Holds.drop H)) (by intro w_ hw_; first | exact Holds.cell hw_ rfl | exact Holds.cell (Holds.f1 hw_) rfl | exact Holds.cell (Holds.f2 hw_) rfl | exact Holds.cell (Holds.f3 hw_) rfl | exact Holds.cell (Holds.f4 hw_) rfl | exact Holds.cell (Holds.f5 hw_) rfl | exact Holds.cell (Holds.f6 hw_) rfl | exact RdW.get (by assumption) rfl hw_ | exact RdW.get0 (by assumption) rfl hw_ | exact RdW.get (by assumption) rfl (Holds.drop hw_) | exact RdW.get0 (by assumption) rfl (Holds.drop hw_) | exact RdW.get (by assumption) rfl (Holds.drop (Holds.drop hw_)) | exact RdW.get0 (by assumption) rfl (Holds.drop (Holds.drop hw_)) | exact RdW.get (by assumption) rfl (Holds.drop (Holds.drop (Holds.drop hw_))) | exact RdW.get0 (by assumption) rfl (Holds.drop (Holds.drop (Holds.drop hw_))) | assumption) (by exact rfl) ?_
      | refine VcD.loadR tabOk rfl rfl rfl rfl rfl rfl rfl (by first | exact H | exact Holds.drop H | exact Holds.drop (Holds.drop H)) (by intro w_ hw_; first | exact RdW.rd (by assumption) hw_ | exact RdW.rd (by assumption) (Holds.drop hw_) | exact RdW.rd (by assumption) (Holds.drop (Holds.drop hw_)) | exact RdW.rd (by assumption) (Holds.drop (Holds.drop (Holds.drop hw_))) | assumption) rfl ?_
      | refine VcD.loadN tabOk rfl rfl rfl rfl rfl rfl rfl (by first | exact H | exact Holds.drop H | exact Holds.drop (Holds.drop H)) (by intro w_ hw_; first | exact hw_ | exact (Holds.f1 hw_) | exact (Holds.f2 hw_) | exact (Holds.f3 hw_) | exact (Holds.f4 hw_) | exact (Holds.f5 hw_) | exact (Holds.f6 hw_)) (by exact rfl) ?_
      | refine VcD.indexAddr0 tabOk rfl rfl rfl rfl rfl rfl rfl (by first | exact H | exact Holds.drop H | exact Holds.drop (Holds.drop H)) (by omega) (by omega) ?_
      | refine VcD.indexAddr tabOk rfl rfl rfl rfl rfl rfl rfl (by first | exact H | exact Holds.drop H | exact Holds.drop (Holds.drop H)) (by omega) (by omega) ?_
      | refine VcD.indexArr0 tabOk rfl rfl rfl rfl rfl rfl rfl (by first | exact H | exact Holds.drop H | exact Holds.drop (Holds.drop H)) (by omega) (by omega) ?_
      | refine VcD.indexArr tabOk rfl rfl rfl rfl rfl rfl rfl (by first | exact H | exact Holds.drop H | exact Holds.drop (Holds.drop H)) (by omega) (by omega) ?_
      | refine VcD.eqS tabOk rfl rfl rfl rfl rfl rfl (by first | exact H | exact Holds.drop H | exact Holds.drop (Holds.drop H)) rfl (by kernel_rfl) (by kernel_rfl) rfl rfl (by first | exact .inl rfl | exact .inr rfl) ?_
      | (refine VcD.guardT rfl rfl rfl rfl rfl (fun h => ?_) (fun h => ?_) <;> first | (cases h; done) | (exfalso; simp only [decide_eq_true_eq, decide_eq_false_iff_not] at h; omega) | (with_reducible have hp := of_decide_eq_true h) | (with_reducible have hp := of_decide_eq_false h) | (with_reducible have hp := ndec_t h) | (with_reducible have hp := ndec_f h) | skip))
      | (show VcD _ _ _ _ _ (.only _ _) _ _ _; first
      | (refine VcD.callF (f := F_lock_isSpan) rfl ok_lock_isSpan rfl rfl rfl rfl (Rets.mono (isSpan_any H _) ?_); rintro _ w ⟨rfl, H⟩; refine ⟨(by first | exact H | exact Holds.drop H | exact Holds.drop (Holds.drop H)), ?_⟩)
      | (refine VcD.callF (f := F_lock_meet) rfl ok_lock_meet rfl rfl rfl rfl (Rets.mono (meet_any H _ _) ?_); rintro _ w ⟨rfl, H⟩; refine ⟨(by first | exact H | exact Holds.drop H | exact Holds.drop (Holds.drop H)), ?_⟩)
      | refine VcD.skip rfl rfl rfl (by first | exact H | exact Holds.drop H | exact Holds.drop (Holds.drop H)) ?_
      | (refine VcD.guardO rfl rfl rfl rfl rfl (fun h => ?_) (fun h => ?_) <;> first | (cases h; done) | (exfalso; simp only [decide_eq_true_eq, decide_eq_false_iff_not] at h; omega) | (with_reducible have hp := of_decide_eq_true h) | (with_reducible have hp := of_decide_eq_false h) | (with_reducible have hp := ndec_t h) | (with_reducible have hp := ndec_f h) | skip))
      | (show VcD _ _ _ _ _ (.two _ _ _ _) _ _ _; refine VcD.two ?_ ?_))
      | (show EfO _ _ _ _ _ _ _ _ _; first
      | (refine EfO.call (f := F_lock_isSpan) rfl rfl rfl rfl (OpC.call ok_lock_isSpan rfl) (Rets.mono (isSpan_any H _) ?_); rintro _ w ⟨rfl, H⟩; refine ⟨(by first | exact H | exact Holds.drop H | exact Holds.drop (Holds.drop H)), ?_⟩)
      | (refine EfO.call (f := F_lock_meet) rfl rfl rfl rfl (OpC.call ok_lock_meet rfl) (Rets.mono (meet_any H _ _) ?_); rintro _ w ⟨rfl, H⟩; refine ⟨(by first | exact H | exact Holds.drop H | exact Holds.drop (Holds.drop H)), ?_⟩))
      | (show Vc _ _ _ _ _ _; first
      | refine Vc.seq ?_
      | refine Vc.region ?_
      | refine Vc.condT rfl ?_
      | refine Vc.condF rfl ?_
      | refine Vc.ret ?_
      | refine Vc.skip ?_
      | refine Vc.block ?_
      | refine Vc.exit ?_
      | refine Vc.drawnH (id := 4) H (.take 0 (.only 1 (.take 2 (.take 3 (.take 4 (.take 5 (.take 6 (.take 7 (.take 9 (.take 10 (.take 11 (.take 8 (.take 12 (.take 13 (.take 14 (.take 15 (.take 16 (.take 17 (.take 18 (.take 19 (.take 20 (.take 21 (.take 22 (.only 23 (.take 24 (.take 25 (.take 26 .done))))))))))))))))))))))))))) mixed (by kernel_rfl) (fun w H => ?_)
      | (refine Vc.cond rfl (fun h => ?_) (fun h => ?_) <;> first | (cases h; done) | (exfalso; simp only [decide_eq_true_eq, decide_eq_false_iff_not] at h; omega) | (with_reducible have hp := of_decide_eq_true h) | (with_reducible have hp := of_decide_eq_false h) | (with_reducible have hp := ndec_t h) | (with_reducible have hp := ndec_f h) | skip))
      | (show KSeq _ _ _ _ _ _ _; first
      | refine KSeq.normal ?_
      | refine KSeq.ret ?_
      | refine KSeq.exit ?_)
      | (show KBlock _ _ _ _ _; first
      | refine KBlock.normal ?_
      | refine KBlock.here ?_
      | refine KBlock.on rfl ?_
      | refine KBlock.ret ?_)
      | refine KLoop.exit ?_
      | refine KLoop.ret ?_
      | refine KCut.exit ?_
      | refine KCut.ret ?_
      | (show KEnd _ _ _ _ _ _; first
      | refine KEnd.mk (Or.inr rfl) ⟨_, (ResL.tmp rfl ResL.nil), ?_⟩
      | refine KEnd.mk (Or.inl rfl) ⟨_, (ResL.tmp rfl ResL.nil), ?_⟩))
    refine ⟨?_, H⟩
    obtain rfl : k = l.length := by omega
    unfold validS
    rw [hall, Bool.true_and]
    show Value.bool (decide ((l.length : Int) ≤ 60)) = Value.bool (decide (l.length ≤ 60))
    have e : ((l.length : Int) ≤ 60) ↔ (l.length ≤ 60) := by omega
    rw [decide_eq_decide.2 e]
end Go.Proofs.Ytngnddnbhlbjbaa.V
