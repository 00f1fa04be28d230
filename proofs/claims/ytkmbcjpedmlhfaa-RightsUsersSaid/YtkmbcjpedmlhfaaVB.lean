/- Texts, folded: the program's way and the document's. -/
import Derived.Test.YtkmbcjpedmlhfaaVcHead
namespace Go.Proofs.Ytkmbcjpedmlhfaa.V
open Go Go.Proofs.YtkmbcjpedmlhfaaV
set_option linter.unusedVariables false
set_option linter.unusedSimpArgs false
set_option maxHeartbeats 1000000
attribute [local irreducible] IntKind.wrap
variable {I : Imm} {w : World} {L : List Asn}
abbrev bsS (s : ByteArray) : List UInt8 := s.data.toList
def foldB (c : UInt8) : UInt8 := if 97 ≤ c.toNat ∧ c.toNat ≤ 122 then UInt8.ofNat (c.toNat - 32) else if 160 ≤ c.toNat ∧ c.toNat ≤ 191 then UInt8.ofNat (c.toNat + 32) else c
theorem foldB_nat (c : UInt8) : (foldB c).toNat = if 97 ≤ c.toNat ∧ c.toNat ≤ 122 then c.toNat - 32 else if 160 ≤ c.toNat ∧ c.toNat ≤ 191 then c.toNat + 32 else c.toNat := by
  have h := c.toNat_lt
  unfold foldB
  split
  · rw [UInt8.toNat_ofNat']; omega
  · split
    · rw [UInt8.toNat_ofNat']; omega
    · rfl
theorem fold_any (H : Holds I w L) (c : UInt8) : Rets Try.prog F_octet_fold #[byteV c] w fun u w' => u = byteV (foldB c) ∧ Holds I w' L := by
  have hc := c.toNat_lt
  show Rets Try.prog F_octet_fold #[.int .u8 (c.toNat : Int)] w fun u w' => u = .int .u8 ((foldB c).toNat : Int) ∧ Holds I w' L
  rw [foldB_nat]
  refine ok_octet_fold.rets rfl ?_
  repeat' (first
    | (show VcL _ _ _ _ _ _ _ _; first
      | refine VcL.pures tabOk rfl ?_
      | refine VcL.nil ?_
      | (show VcL _ _ _ _ (⟨_, .binOp _ _ _ _ _, _, _, _, _⟩ :: _) _ _ _; first
      | refine VcL.shl rfl rfl (by first | assumption | rfl) rfl rfl rfl ?_
      | refine VcL.shr rfl rfl (by first | assumption | rfl) rfl rfl rfl ?_
      | refine VcL.eqS tabOk rfl rfl rfl rfl rfl rfl (by kernel_rfl) (by kernel_rfl) rfl rfl (by first | exact .inl rfl | exact .inr rfl) ?_)
      | (refine VcL.guard rfl rfl rfl rfl (fun h => ?_) (fun h => ?_) <;> first | (cases h; done) | (exfalso; simp only [decide_eq_true_eq, decide_eq_false_iff_not] at h; omega) | (with_reducible have hp := of_decide_eq_true h) | (with_reducible have hp := of_decide_eq_false h) | (with_reducible have hp := ndec_t h) | (with_reducible have hp := ndec_f h) | skip))
    | (show Vc _ _ _ _ _ _; first
      | refine Vc.seq ?_
      | refine Vc.region ?_
      | refine Vc.condT rfl ?_
      | refine Vc.condF rfl ?_
      | refine Vc.ret ?_
      | refine Vc.skip ?_
      | refine Vc.block ?_
      | refine Vc.exit ?_
      | (refine Vc.cond rfl (fun h => ?_) (fun h => ?_) <;> first | (cases h; done) | (exfalso; simp only [decide_eq_true_eq, decide_eq_false_iff_not] at h; omega) | (with_reducible have hp := of_decide_eq_true h) | (with_reducible have hp := of_decide_eq_false h) | (with_reducible have hp := ndec_t h) | (with_reducible have hp := ndec_f h) | skip))
    | (show KSeq _ _ _ _ _ _ _; first
      | refine KSeq.normal ?_
      | refine KSeq.ret ?_
      | refine KSeq.exit ?_)
    | (show KBlock _ _ _ _ _ _; first
      | refine KBlock.normal ?_
      | refine KBlock.here ?_
      | refine KBlock.on rfl ?_
      | refine KBlock.ret ?_)
    | refine KLoop.exit ?_
    | refine KLoop.ret ?_
    | refine KCut.exit ?_
    | refine KCut.ret ?_
    | (show KEnd _ _ _ _ _ _ _; first
      | refine KEnd.fin (Or.inr rfl) ⟨_, (ResL.tmp rfl ResL.nil), ?_⟩
      | refine KEnd.fin (Or.inl rfl) ⟨_, (ResL.tmp rfl ResL.nil), ?_⟩))
  all_goals (refine ⟨?_, H⟩; simp only [resVal, Value.int.injEq, true_and])
  all_goals (repeat rw [wrap_u8])
  all_goals ((repeat' split) <;> omega)
theorem Upper_any (H : Holds I w L) (c : UInt8) : Rets Try.prog F_tithingref01_Upper #[byteV c] w fun u w' => u = byteV (foldB c) ∧ Holds I w' L := by
  have hc := c.toNat_lt
  show Rets Try.prog F_tithingref01_Upper #[.int .u8 (c.toNat : Int)] w fun u w' => u = .int .u8 ((foldB c).toNat : Int) ∧ Holds I w' L
  rw [foldB_nat]
  refine ok_tithingref01_Upper.rets rfl ?_
  repeat' (first
    | (show VcL _ _ _ _ _ _ _ _; first
      | refine VcL.pures tabOk rfl ?_
      | refine VcL.nil ?_
      | (show VcL _ _ _ _ (⟨_, .binOp _ _ _ _ _, _, _, _, _⟩ :: _) _ _ _; first
      | refine VcL.shl rfl rfl (by first | assumption | rfl) rfl rfl rfl ?_
      | refine VcL.shr rfl rfl (by first | assumption | rfl) rfl rfl rfl ?_
      | refine VcL.eqS tabOk rfl rfl rfl rfl rfl rfl (by kernel_rfl) (by kernel_rfl) rfl rfl (by first | exact .inl rfl | exact .inr rfl) ?_)
      | (refine VcL.guard rfl rfl rfl rfl (fun h => ?_) (fun h => ?_) <;> first | (cases h; done) | (exfalso; simp only [decide_eq_true_eq, decide_eq_false_iff_not] at h; omega) | (with_reducible have hp := of_decide_eq_true h) | (with_reducible have hp := of_decide_eq_false h) | (with_reducible have hp := ndec_t h) | (with_reducible have hp := ndec_f h) | skip))
    | (show Vc _ _ _ _ _ _; first
      | refine Vc.seq ?_
      | refine Vc.region ?_
      | refine Vc.condT rfl ?_
      | refine Vc.condF rfl ?_
      | refine Vc.ret ?_
      | refine Vc.skip ?_
      | refine Vc.block ?_
      | refine Vc.exit ?_
      | (refine Vc.cond rfl (fun h => ?_) (fun h => ?_) <;> first | (cases h; done) | (exfalso; simp only [decide_eq_true_eq, decide_eq_false_iff_not] at h; omega) | (with_reducible have hp := of_decide_eq_true h) | (with_reducible have hp := of_decide_eq_false h) | (with_reducible have hp := ndec_t h) | (with_reducible have hp := ndec_f h) | skip))
    | (show KSeq _ _ _ _ _ _ _; first
      | refine KSeq.normal ?_
      | refine KSeq.ret ?_
      | refine KSeq.exit ?_)
    | (show KBlock _ _ _ _ _ _; first
      | refine KBlock.normal ?_
      | refine KBlock.here ?_
      | refine KBlock.on rfl ?_
      | refine KBlock.ret ?_)
    | refine KLoop.exit ?_
    | refine KLoop.ret ?_
    | refine KCut.exit ?_
    | refine KCut.ret ?_
    | (show KEnd _ _ _ _ _ _ _; first
      | refine KEnd.fin (Or.inr rfl) ⟨_, (ResL.tmp rfl ResL.nil), ?_⟩
      | refine KEnd.fin (Or.inl rfl) ⟨_, (ResL.tmp rfl ResL.nil), ?_⟩))
  all_goals (refine ⟨?_, H⟩; simp only [resVal, Value.int.injEq, true_and])
  all_goals (repeat rw [wrap_u8])
  all_goals ((repeat' split) <;> omega)
def foldS (s : ByteArray) : List UInt8 := (bsS s).map foldB
def eqT (a b : ByteArray) : Bool := decide (foldS a = foldS b)
/-- The first k are folded. -/
def half (l : List UInt8) (k : Nat) : List UInt8 := (l.take k).map foldB ++ l.drop k
theorem half_len (l : List UInt8) (k : Nat) : (half l k).length = l.length := by unfold half; simp; omega
theorem half_at {l : List UInt8} {k : Nat} (h : k < l.length) : (half l k)[k]? = some (atD l k) := by
  unfold half
  rw [List.getElem?_append_right (by simp; omega)]
  simp only [List.length_map, List.length_take, Nat.min_eq_left (Nat.le_of_lt h), Nat.sub_self]
  rw [List.getElem?_drop, Nat.add_zero, atD_get h]
theorem half_set {l : List UInt8} {k : Nat} (h : k < l.length) : (half l k).set k (foldB (atD l k)) = half l (k + 1) := by
  unfold half
  rw [List.set_append_right _ _ (by simp; omega)]
  simp only [List.length_map, List.length_take, Nat.min_eq_left (Nat.le_of_lt h), Nat.sub_self]
  rw [drop_atD h, take_atD h]
  simp
theorem Fold_any (H : Holds I w L) (s : ByteArray) (hs : s.size ≤ 140737488355328) : Rets Try.prog F_octet_Fold #[.string s] w fun u w' => u = .string ⟨(foldS s).toArray⟩ ∧ Holds I w' L := by
  have hl : (bsS s).length = s.size := ba_len s
  refine ok_octet_Fold.rets rfl ?_
  repeat' (first
    | (refine VcL.toBytes tabOk H rfl rfl rfl rfl rfl rfl rfl rfl rfl rfl (fun sv w H => ?_))
    | (show VcL _ _ _ _ _ _ _ _; first
      | refine VcL.pures tabOk rfl ?_
      | refine VcL.nil ?_
      | (show VcL _ _ _ _ (⟨_, .load _ _, _, _, _, _⟩ :: _) _ _ _; first
      | refine VcL.load1 tabOk rfl rfl rfl rfl rfl (by first | exact Holds.cell H rfl | exact Holds.cell (Holds.f1 H) rfl | exact Holds.cell (Holds.f2 H) rfl | exact Holds.cell (Holds.f3 H) rfl | exact Holds.cell (Holds.f4 H) rfl | exact Holds.cell (Holds.f5 H) rfl | exact Holds.cell (Holds.f6 H) rfl | exact RdW.get (by assumption) rfl H | exact RdW.get0 (by assumption) rfl H | exact RdW.get (by assumption) rfl (Holds.drop H) | exact RdW.get0 (by assumption) rfl (Holds.drop H) | exact RdW.get (by assumption) rfl (Holds.drop (Holds.drop H)) | exact RdW.get0 (by assumption) rfl (Holds.drop (Holds.drop H)) | exact RdW.get (by assumption) rfl (Holds.drop (Holds.drop (Holds.drop H))) | exact RdW.get0 (by assumption) rfl (Holds.drop (Holds.drop (Holds.drop H))) | exact Holds.rowCell H (fun _ => rfl) (by first | assumption | exact atD_get (by assumption)) rfl | exact Holds.rowCell0 H (fun _ => rfl) (by first | assumption | exact atD_get (by assumption)) rfl | exact Holds.ownCell H (fun _ => rfl) (by first | assumption | exact atD_get (by assumption)) rfl | exact Holds.ownCell0 H (fun _ => rfl) (by first | assumption | exact atD_get (by assumption)) rfl | exact Holds.rowCell (Holds.f1 H) (fun _ => rfl) (by first | assumption | exact atD_get (by assumption)) rfl | exact Holds.rowCell0 (Holds.f1 H) (fun _ => rfl) (by first | assumption | exact atD_get (by assumption)) rfl | exact Holds.ownCell (Holds.f1 H) (fun _ => rfl) (by first | assumption | exact atD_get (by assumption)) rfl | exact Holds.ownCell0 (Holds.f1 H) (fun _ => rfl) (by first | assumption | exact atD_get (by assumption)) rfl | exact Holds.rowCell (Holds.f2 H) (fun _ => rfl) (by first | assumption | exact atD_get (by assumption)) rfl | exact Holds.rowCell0 (Holds.f2 H) (fun _ => rfl) (by first | assumption | exact atD_get (by assumption)) rfl | exact Holds.ownCell (Holds.f2 H) (fun _ => rfl) (by first | assumption | exact atD_get (by assumption)) rfl | exact Holds.ownCell0 (Holds.f2 H) (fun _ => rfl) (by first | assumption | exact atD_get (by assumption)) rfl | exact Holds.rowCell (Holds.f3 H) (fun _ => rfl) (by first | assumption | exact atD_get (by assumption)) rfl | exact Holds.rowCell0 (Holds.f3 H) (fun _ => rfl) (by first | assumption | exact atD_get (by assumption)) rfl | exact Holds.ownCell (Holds.f3 H) (fun _ => rfl) (by first | assumption | exact atD_get (by assumption)) rfl | exact Holds.ownCell0 (Holds.f3 H) (fun _ => rfl) (by first | assumption | exact atD_get (by assumption)) rfl | exact Holds.rowCell (Holds.f4 H) (fun _ => rfl) (by first | assumption | exact atD_get (by assumption)) rfl | exact Holds.rowCell0 (Holds.f4 H) (fun _ => rfl) (by first | assumption | exact atD_get (by assumption)) rfl | exact Holds.ownCell (Holds.f4 H) (fun _ => rfl) (by first | assumption | exact atD_get (by assumption)) rfl | exact Holds.ownCell0 (Holds.f4 H) (fun _ => rfl) (by first | assumption | exact atD_get (by assumption)) rfl | assumption) ?_
      | refine VcL.loadR tabOk rfl rfl rfl rfl rfl rfl (by first | exact RdW.rd (by assumption) H | exact RdW.rd (by assumption) (Holds.drop H) | exact RdW.rd (by assumption) (Holds.drop (Holds.drop H)) | exact RdW.rd (by assumption) (Holds.drop (Holds.drop (Holds.drop H))) | assumption) rfl ?_
      | refine VcL.loadN tabOk rfl rfl rfl rfl rfl rfl (by first | exact H | exact (Holds.f1 H) | exact (Holds.f2 H) | exact (Holds.f3 H) | exact (Holds.f4 H) | exact (Holds.f5 H) | exact (Holds.f6 H)) (by exact rfl) ?_
      | refine VcL.loadRowN0 tabOk rfl rfl rfl rfl rfl rfl H (fun _ => rfl) (by first | assumption | exact atD_get (by assumption)) (by exact rfl) (by exact rfl) (by exact rfl) ?_
      | refine VcL.loadRowN tabOk rfl rfl rfl rfl rfl rfl H (fun _ => rfl) (by first | assumption | exact atD_get (by assumption)) (by exact rfl) (by exact rfl) (by exact rfl) ?_
      | refine VcL.loadOwnN0 tabOk rfl rfl rfl rfl rfl rfl H (fun _ => rfl) (by first | assumption | exact atD_get (by assumption)) (by exact rfl) (by exact rfl) (by exact rfl) ?_
      | refine VcL.loadOwnN tabOk rfl rfl rfl rfl rfl rfl H (fun _ => rfl) (by first | assumption | exact atD_get (by assumption)) (by exact rfl) (by exact rfl) (by exact rfl) ?_
      | refine VcL.loadRowN0 tabOk rfl rfl rfl rfl rfl rfl (Holds.f1 H) (fun _ => rfl) (by first | assumption | exact atD_get (by assumption)) (by exact rfl) (by exact rfl) (by exact rfl) ?_
      | refine VcL.loadRowN tabOk rfl rfl rfl rfl rfl rfl (Holds.f1 H) (fun _ => rfl) (by first | assumption | exact atD_get (by assumption)) (by exact rfl) (by exact rfl) (by exact rfl) ?_
      | refine VcL.loadOwnN0 tabOk rfl rfl rfl rfl rfl rfl (Holds.f1 H) (fun _ => rfl) (by first | assumption | exact atD_get (by assumption)) (by exact rfl) (by exact rfl) (by exact rfl) ?_
      | refine VcL.loadOwnN tabOk rfl rfl rfl rfl rfl rfl (Holds.f1 H) (fun _ => rfl) (by first | assumption | exact atD_get (by assumption)) (by exact rfl) (by exact rfl) (by exact rfl) ?_
      | refine VcL.loadRowN0 tabOk rfl rfl rfl rfl rfl rfl (Holds.f2 H) (fun _ => rfl) (by first | assumption | exact atD_get (by assumption)) (by exact rfl) (by exact rfl) (by exact rfl) ?_
      | refine VcL.loadRowN tabOk rfl rfl rfl rfl rfl rfl (Holds.f2 H) (fun _ => rfl) (by first | assumption | exact atD_get (by assumption)) (by exact rfl) (by exact rfl) (by exact rfl) ?_
      | refine VcL.loadOwnN0 tabOk rfl rfl rfl rfl rfl rfl (Holds.f2 H) (fun _ => rfl) (by first | assumption | exact atD_get (by assumption)) (by exact rfl) (by exact rfl) (by exact rfl) ?_
      | refine VcL.loadOwnN tabOk rfl rfl rfl rfl rfl rfl (Holds.f2 H) (fun _ => rfl) (by first | assumption | exact atD_get (by assumption)) (by exact rfl) (by exact rfl) (by exact rfl) ?_
      | refine VcL.loadRowN0 tabOk rfl rfl rfl rfl rfl rfl (Holds.f3 H) (fun _ => rfl) (by first | assumption | exact atD_get (by assumption)) (by exact rfl) (by exact rfl) (by exact rfl) ?_
      | refine VcL.loadRowN tabOk rfl rfl rfl rfl rfl rfl (Holds.f3 H) (fun _ => rfl) (by first | assumption | exact atD_get (by assumption)) (by exact rfl) (by exact rfl) (by exact rfl) ?_
      | refine VcL.loadOwnN0 tabOk rfl rfl rfl rfl rfl rfl (Holds.f3 H) (fun _ => rfl) (by first | assumption | exact atD_get (by assumption)) (by exact rfl) (by exact rfl) (by exact rfl) ?_
      | refine VcL.loadOwnN tabOk rfl rfl rfl rfl rfl rfl (Holds.f3 H) (fun _ => rfl) (by first | assumption | exact atD_get (by assumption)) (by exact rfl) (by exact rfl) (by exact rfl) ?_
      | refine VcL.loadRowN0 tabOk rfl rfl rfl rfl rfl rfl (Holds.f4 H) (fun _ => rfl) (by first | assumption | exact atD_get (by assumption)) (by exact rfl) (by exact rfl) (by exact rfl) ?_
      | refine VcL.loadRowN tabOk rfl rfl rfl rfl rfl rfl (Holds.f4 H) (fun _ => rfl) (by first | assumption | exact atD_get (by assumption)) (by exact rfl) (by exact rfl) (by exact rfl) ?_
      | refine VcL.loadOwnN0 tabOk rfl rfl rfl rfl rfl rfl (Holds.f4 H) (fun _ => rfl) (by first | assumption | exact atD_get (by assumption)) (by exact rfl) (by exact rfl) (by exact rfl) ?_
      | refine VcL.loadOwnN tabOk rfl rfl rfl rfl rfl rfl (Holds.f4 H) (fun _ => rfl) (by first | assumption | exact atD_get (by assumption)) (by exact rfl) (by exact rfl) (by exact rfl) ?_)
      | (show VcL _ _ _ _ (⟨_, .binOp _ _ _ _ _, _, _, _, _⟩ :: _) _ _ _; first
      | refine VcL.shl rfl rfl (by first | assumption | rfl) rfl rfl rfl ?_
      | refine VcL.shr rfl rfl (by first | assumption | rfl) rfl rfl rfl ?_
      | refine VcL.eqS tabOk rfl rfl rfl rfl rfl rfl (by kernel_rfl) (by kernel_rfl) rfl rfl (by first | exact .inl rfl | exact .inr rfl) ?_)
      | (show VcL _ _ _ _ (⟨_, .indexAddr _ _ _, _, _, _, _⟩ :: _) _ _ _; first
      | refine VcL.indexAddr0 tabOk rfl rfl rfl rfl rfl rfl (by omega) (by omega) ?_
      | refine VcL.indexAddr tabOk rfl rfl rfl rfl rfl rfl (by omega) (by omega) ?_
      | refine VcL.indexArr0 tabOk rfl rfl rfl rfl rfl rfl (by omega) (by omega) ?_
      | refine VcL.indexArr tabOk rfl rfl rfl rfl rfl rfl (by omega) (by omega) ?_)
      | (show VcL _ _ _ _ (⟨_, .store _ _ _, _, _, _, _⟩ :: _) _ _ _; first
      | refine VcL.store tabOk rfl (by first | exact H | exact (Holds.f1 H) | exact (Holds.f2 H) | exact (Holds.f3 H) | exact (Holds.f4 H) | exact (Holds.f5 H) | exact (Holds.f6 H)) rfl rfl (by exact rfl) (by exact rfl) (by exact rfl) (by exact rfl) (fun w H => ?_))
      | (refine VcL.guard rfl rfl rfl rfl (fun h => ?_) (fun h => ?_) <;> first | (cases h; done) | (exfalso; simp only [decide_eq_true_eq, decide_eq_false_iff_not] at h; omega) | (with_reducible have hp := of_decide_eq_true h) | (with_reducible have hp := of_decide_eq_false h) | (with_reducible have hp := ndec_t h) | (with_reducible have hp := ndec_f h) | skip))
    | (show Vc _ _ _ _ _ _; first
      | refine Vc.seq ?_
      | refine Vc.region ?_
      | refine Vc.condT rfl ?_
      | refine Vc.condF rfl ?_
      | refine Vc.ret ?_
      | refine Vc.skip ?_
      | refine Vc.block ?_
      | refine Vc.exit ?_
      | (refine Vc.cond rfl (fun h => ?_) (fun h => ?_) <;> first | (cases h; done) | (exfalso; simp only [decide_eq_true_eq, decide_eq_false_iff_not] at h; omega) | (with_reducible have hp := of_decide_eq_true h) | (with_reducible have hp := of_decide_eq_false h) | (with_reducible have hp := ndec_t h) | (with_reducible have hp := ndec_f h) | skip))
    | (show KSeq _ _ _ _ _ _ _; first
      | refine KSeq.normal ?_
      | refine KSeq.ret ?_
      | refine KSeq.exit ?_)
    | (show KBlock _ _ _ _ _ _; first
      | refine KBlock.normal ?_
      | refine KBlock.here ?_
      | refine KBlock.on rfl ?_
      | refine KBlock.ret ?_)
    | refine KLoop.exit ?_
    | refine KLoop.ret ?_
    | refine KCut.exit ?_
    | refine KCut.ret ?_
    | (show KEnd _ _ _ _ _ _ _; first
      | refine KEnd.fin (Or.inr rfl) ⟨_, (ResL.tmp rfl ResL.nil), ?_⟩
      | refine KEnd.fin (Or.inl rfl) ⟨_, (ResL.tmp rfl ResL.nil), ?_⟩))
  obtain ⟨_, a, c, rfl⟩ := H.own_len
  repeat' (first
    | (refine VcL.toBytes tabOk H rfl rfl rfl rfl rfl rfl rfl rfl rfl rfl (fun sv w H => ?_))
    | (show VcL _ _ _ _ _ _ _ _; first
      | refine VcL.pures tabOk rfl ?_
      | refine VcL.nil ?_
      | (show VcL _ _ _ _ (⟨_, .load _ _, _, _, _, _⟩ :: _) _ _ _; first
      | refine VcL.load1 tabOk rfl rfl rfl rfl rfl (by first | exact Holds.cell H rfl | exact Holds.cell (Holds.f1 H) rfl | exact Holds.cell (Holds.f2 H) rfl | exact Holds.cell (Holds.f3 H) rfl | exact Holds.cell (Holds.f4 H) rfl | exact Holds.cell (Holds.f5 H) rfl | exact Holds.cell (Holds.f6 H) rfl | exact RdW.get (by assumption) rfl H | exact RdW.get0 (by assumption) rfl H | exact RdW.get (by assumption) rfl (Holds.drop H) | exact RdW.get0 (by assumption) rfl (Holds.drop H) | exact RdW.get (by assumption) rfl (Holds.drop (Holds.drop H)) | exact RdW.get0 (by assumption) rfl (Holds.drop (Holds.drop H)) | exact RdW.get (by assumption) rfl (Holds.drop (Holds.drop (Holds.drop H))) | exact RdW.get0 (by assumption) rfl (Holds.drop (Holds.drop (Holds.drop H))) | exact Holds.rowCell H (fun _ => rfl) (by first | assumption | exact atD_get (by assumption)) rfl | exact Holds.rowCell0 H (fun _ => rfl) (by first | assumption | exact atD_get (by assumption)) rfl | exact Holds.ownCell H (fun _ => rfl) (by first | assumption | exact atD_get (by assumption)) rfl | exact Holds.ownCell0 H (fun _ => rfl) (by first | assumption | exact atD_get (by assumption)) rfl | exact Holds.rowCell (Holds.f1 H) (fun _ => rfl) (by first | assumption | exact atD_get (by assumption)) rfl | exact Holds.rowCell0 (Holds.f1 H) (fun _ => rfl) (by first | assumption | exact atD_get (by assumption)) rfl | exact Holds.ownCell (Holds.f1 H) (fun _ => rfl) (by first | assumption | exact atD_get (by assumption)) rfl | exact Holds.ownCell0 (Holds.f1 H) (fun _ => rfl) (by first | assumption | exact atD_get (by assumption)) rfl | exact Holds.rowCell (Holds.f2 H) (fun _ => rfl) (by first | assumption | exact atD_get (by assumption)) rfl | exact Holds.rowCell0 (Holds.f2 H) (fun _ => rfl) (by first | assumption | exact atD_get (by assumption)) rfl | exact Holds.ownCell (Holds.f2 H) (fun _ => rfl) (by first | assumption | exact atD_get (by assumption)) rfl | exact Holds.ownCell0 (Holds.f2 H) (fun _ => rfl) (by first | assumption | exact atD_get (by assumption)) rfl | exact Holds.rowCell (Holds.f3 H) (fun _ => rfl) (by first | assumption | exact atD_get (by assumption)) rfl | exact Holds.rowCell0 (Holds.f3 H) (fun _ => rfl) (by first | assumption | exact atD_get (by assumption)) rfl | exact Holds.ownCell (Holds.f3 H) (fun _ => rfl) (by first | assumption | exact atD_get (by assumption)) rfl | exact Holds.ownCell0 (Holds.f3 H) (fun _ => rfl) (by first | assumption | exact atD_get (by assumption)) rfl | exact Holds.rowCell (Holds.f4 H) (fun _ => rfl) (by first | assumption | exact atD_get (by assumption)) rfl | exact Holds.rowCell0 (Holds.f4 H) (fun _ => rfl) (by first | assumption | exact atD_get (by assumption)) rfl | exact Holds.ownCell (Holds.f4 H) (fun _ => rfl) (by first | assumption | exact atD_get (by assumption)) rfl | exact Holds.ownCell0 (Holds.f4 H) (fun _ => rfl) (by first | assumption | exact atD_get (by assumption)) rfl | assumption) ?_
      | refine VcL.loadR tabOk rfl rfl rfl rfl rfl rfl (by first | exact RdW.rd (by assumption) H | exact RdW.rd (by assumption) (Holds.drop H) | exact RdW.rd (by assumption) (Holds.drop (Holds.drop H)) | exact RdW.rd (by assumption) (Holds.drop (Holds.drop (Holds.drop H))) | assumption) rfl ?_
      | refine VcL.loadN tabOk rfl rfl rfl rfl rfl rfl (by first | exact H | exact (Holds.f1 H) | exact (Holds.f2 H) | exact (Holds.f3 H) | exact (Holds.f4 H) | exact (Holds.f5 H) | exact (Holds.f6 H)) (by exact rfl) ?_
      | refine VcL.loadRowN0 tabOk rfl rfl rfl rfl rfl rfl H (fun _ => rfl) (by first | assumption | exact atD_get (by assumption)) (by exact rfl) (by exact rfl) (by exact rfl) ?_
      | refine VcL.loadRowN tabOk rfl rfl rfl rfl rfl rfl H (fun _ => rfl) (by first | assumption | exact atD_get (by assumption)) (by exact rfl) (by exact rfl) (by exact rfl) ?_
      | refine VcL.loadOwnN0 tabOk rfl rfl rfl rfl rfl rfl H (fun _ => rfl) (by first | assumption | exact atD_get (by assumption)) (by exact rfl) (by exact rfl) (by exact rfl) ?_
      | refine VcL.loadOwnN tabOk rfl rfl rfl rfl rfl rfl H (fun _ => rfl) (by first | assumption | exact atD_get (by assumption)) (by exact rfl) (by exact rfl) (by exact rfl) ?_
      | refine VcL.loadRowN0 tabOk rfl rfl rfl rfl rfl rfl (Holds.f1 H) (fun _ => rfl) (by first | assumption | exact atD_get (by assumption)) (by exact rfl) (by exact rfl) (by exact rfl) ?_
      | refine VcL.loadRowN tabOk rfl rfl rfl rfl rfl rfl (Holds.f1 H) (fun _ => rfl) (by first | assumption | exact atD_get (by assumption)) (by exact rfl) (by exact rfl) (by exact rfl) ?_
      | refine VcL.loadOwnN0 tabOk rfl rfl rfl rfl rfl rfl (Holds.f1 H) (fun _ => rfl) (by first | assumption | exact atD_get (by assumption)) (by exact rfl) (by exact rfl) (by exact rfl) ?_
      | refine VcL.loadOwnN tabOk rfl rfl rfl rfl rfl rfl (Holds.f1 H) (fun _ => rfl) (by first | assumption | exact atD_get (by assumption)) (by exact rfl) (by exact rfl) (by exact rfl) ?_
      | refine VcL.loadRowN0 tabOk rfl rfl rfl rfl rfl rfl (Holds.f2 H) (fun _ => rfl) (by first | assumption | exact atD_get (by assumption)) (by exact rfl) (by exact rfl) (by exact rfl) ?_
      | refine VcL.loadRowN tabOk rfl rfl rfl rfl rfl rfl (Holds.f2 H) (fun _ => rfl) (by first | assumption | exact atD_get (by assumption)) (by exact rfl) (by exact rfl) (by exact rfl) ?_
      | refine VcL.loadOwnN0 tabOk rfl rfl rfl rfl rfl rfl (Holds.f2 H) (fun _ => rfl) (by first | assumption | exact atD_get (by assumption)) (by exact rfl) (by exact rfl) (by exact rfl) ?_
      | refine VcL.loadOwnN tabOk rfl rfl rfl rfl rfl rfl (Holds.f2 H) (fun _ => rfl) (by first | assumption | exact atD_get (by assumption)) (by exact rfl) (by exact rfl) (by exact rfl) ?_
      | refine VcL.loadRowN0 tabOk rfl rfl rfl rfl rfl rfl (Holds.f3 H) (fun _ => rfl) (by first | assumption | exact atD_get (by assumption)) (by exact rfl) (by exact rfl) (by exact rfl) ?_
      | refine VcL.loadRowN tabOk rfl rfl rfl rfl rfl rfl (Holds.f3 H) (fun _ => rfl) (by first | assumption | exact atD_get (by assumption)) (by exact rfl) (by exact rfl) (by exact rfl) ?_
      | refine VcL.loadOwnN0 tabOk rfl rfl rfl rfl rfl rfl (Holds.f3 H) (fun _ => rfl) (by first | assumption | exact atD_get (by assumption)) (by exact rfl) (by exact rfl) (by exact rfl) ?_
      | refine VcL.loadOwnN tabOk rfl rfl rfl rfl rfl rfl (Holds.f3 H) (fun _ => rfl) (by first | assumption | exact atD_get (by assumption)) (by exact rfl) (by exact rfl) (by exact rfl) ?_
      | refine VcL.loadRowN0 tabOk rfl rfl rfl rfl rfl rfl (Holds.f4 H) (fun _ => rfl) (by first | assumption | exact atD_get (by assumption)) (by exact rfl) (by exact rfl) (by exact rfl) ?_
      | refine VcL.loadRowN tabOk rfl rfl rfl rfl rfl rfl (Holds.f4 H) (fun _ => rfl) (by first | assumption | exact atD_get (by assumption)) (by exact rfl) (by exact rfl) (by exact rfl) ?_
      | refine VcL.loadOwnN0 tabOk rfl rfl rfl rfl rfl rfl (Holds.f4 H) (fun _ => rfl) (by first | assumption | exact atD_get (by assumption)) (by exact rfl) (by exact rfl) (by exact rfl) ?_
      | refine VcL.loadOwnN tabOk rfl rfl rfl rfl rfl rfl (Holds.f4 H) (fun _ => rfl) (by first | assumption | exact atD_get (by assumption)) (by exact rfl) (by exact rfl) (by exact rfl) ?_)
      | (show VcL _ _ _ _ (⟨_, .binOp _ _ _ _ _, _, _, _, _⟩ :: _) _ _ _; first
      | refine VcL.shl rfl rfl (by first | assumption | rfl) rfl rfl rfl ?_
      | refine VcL.shr rfl rfl (by first | assumption | rfl) rfl rfl rfl ?_
      | refine VcL.eqS tabOk rfl rfl rfl rfl rfl rfl (by kernel_rfl) (by kernel_rfl) rfl rfl (by first | exact .inl rfl | exact .inr rfl) ?_)
      | (show VcL _ _ _ _ (⟨_, .indexAddr _ _ _, _, _, _, _⟩ :: _) _ _ _; first
      | refine VcL.indexAddr0 tabOk rfl rfl rfl rfl rfl rfl (by omega) (by omega) ?_
      | refine VcL.indexAddr tabOk rfl rfl rfl rfl rfl rfl (by omega) (by omega) ?_
      | refine VcL.indexArr0 tabOk rfl rfl rfl rfl rfl rfl (by omega) (by omega) ?_
      | refine VcL.indexArr tabOk rfl rfl rfl rfl rfl rfl (by omega) (by omega) ?_)
      | (show VcL _ _ _ _ (⟨_, .store _ _ _, _, _, _, _⟩ :: _) _ _ _; first
      | refine VcL.store tabOk rfl (by first | exact H | exact (Holds.f1 H) | exact (Holds.f2 H) | exact (Holds.f3 H) | exact (Holds.f4 H) | exact (Holds.f5 H) | exact (Holds.f6 H)) rfl rfl (by exact rfl) (by exact rfl) (by exact rfl) (by exact rfl) (fun w H => ?_))
      | (refine VcL.guard rfl rfl rfl rfl (fun h => ?_) (fun h => ?_) <;> first | (cases h; done) | (exfalso; simp only [decide_eq_true_eq, decide_eq_false_iff_not] at h; omega) | (with_reducible have hp := of_decide_eq_true h) | (with_reducible have hp := of_decide_eq_false h) | (with_reducible have hp := ndec_t h) | (with_reducible have hp := ndec_f h) | skip))
    | (show Vc _ _ _ _ _ _; first
      | refine Vc.seq ?_
      | refine Vc.region ?_
      | refine Vc.condT rfl ?_
      | refine Vc.condF rfl ?_
      | refine Vc.ret ?_
      | refine Vc.skip ?_
      | refine Vc.block ?_
      | refine Vc.exit ?_
      | (refine Vc.cond rfl (fun h => ?_) (fun h => ?_) <;> first | (cases h; done) | (exfalso; simp only [decide_eq_true_eq, decide_eq_false_iff_not] at h; omega) | (with_reducible have hp := of_decide_eq_true h) | (with_reducible have hp := of_decide_eq_false h) | (with_reducible have hp := ndec_t h) | (with_reducible have hp := ndec_f h) | skip))
    | (show KSeq _ _ _ _ _ _ _; first
      | refine KSeq.normal ?_
      | refine KSeq.ret ?_
      | refine KSeq.exit ?_)
    | (show KBlock _ _ _ _ _ _; first
      | refine KBlock.normal ?_
      | refine KBlock.here ?_
      | refine KBlock.on rfl ?_
      | refine KBlock.ret ?_)
    | refine KLoop.exit ?_
    | refine KLoop.ret ?_
    | refine KCut.exit ?_
    | refine KCut.ret ?_
    | (show KEnd _ _ _ _ _ _ _; first
      | refine KEnd.fin (Or.inr rfl) ⟨_, (ResL.tmp rfl ResL.nil), ?_⟩
      | refine KEnd.fin (Or.inl rfl) ⟨_, (ResL.tmp rfl ResL.nil), ?_⟩))
  refine Vc.loopS [(3, _), (8, _), (9, _)] (fun k : Nat => [(10, .int .i64 k)]) (fun k w => k ≤ s.size ∧ Holds I w (own (.slice a s.size c) 5 1 s.size ((half (bsS s) k).map byteV) :: L)) (fun k _ => s.size - k) 0 ⟨rfl, trivial⟩ ⟨rfl, rfl, rfl, trivial⟩ ⟨Nat.zero_le _, by simpa [half] using H⟩ ?_
  rintro k w ⟨hk, H⟩
  by_cases hlt : k < s.size
  · rcases H.own_cases with ⟨h1, h2, _⟩ | ⟨b, o, cap, pre, rest, h1, h2, h3, h4, h5, HB⟩
    · omega
    · clear H
      injection h1 with h6 h7 h8
      subst h6; subst h8; subst h4
      have H := HB
      clear HB
      have hx : RdW I (blk b 5 (pre ++ (half (bsS s) k).map byteV ++ rest) :: L) b (pre.length + k * 1) [byteV (atD (bsS s) k)] := by
        have : RdW I (blk b 5 (pre ++ (half (bsS s) k).map byteV ++ rest) :: L) b pre.length ((half (bsS s) k).flatMap byC) := ⟨fun w H => by rw [by_flat]; exact H.rd rfl⟩
        exact this.elem byC_len (half_at (by omega))
      repeat' (first
        | (refine VcL.toBytes tabOk H rfl rfl rfl rfl rfl rfl rfl rfl rfl rfl (fun sv w H => ?_))
        | (refine VcL.storeAt tabOk rfl H rfl (by exact rfl) (by exact rfl) (by exact rfl) (by simp only [List.length_append, List.length_map, half_len, hl, List.length_cons, List.length_nil]; omega) rfl (fun w H => ?_))
        | (show VcL _ _ _ _ _ _ _ _; first
      | refine VcL.pures tabOk rfl ?_
      | refine VcL.nil ?_
      | (show VcL _ _ _ _ (⟨_, .load _ _, _, _, _, _⟩ :: _) _ _ _; first
      | refine VcL.load1 tabOk rfl rfl rfl rfl rfl (by first | exact Holds.cell H rfl | exact Holds.cell (Holds.f1 H) rfl | exact Holds.cell (Holds.f2 H) rfl | exact Holds.cell (Holds.f3 H) rfl | exact Holds.cell (Holds.f4 H) rfl | exact Holds.cell (Holds.f5 H) rfl | exact Holds.cell (Holds.f6 H) rfl | exact RdW.get (by assumption) rfl H | exact RdW.get0 (by assumption) rfl H | exact RdW.get (by assumption) rfl (Holds.drop H) | exact RdW.get0 (by assumption) rfl (Holds.drop H) | exact RdW.get (by assumption) rfl (Holds.drop (Holds.drop H)) | exact RdW.get0 (by assumption) rfl (Holds.drop (Holds.drop H)) | exact RdW.get (by assumption) rfl (Holds.drop (Holds.drop (Holds.drop H))) | exact RdW.get0 (by assumption) rfl (Holds.drop (Holds.drop (Holds.drop H))) | exact Holds.rowCell H (fun _ => rfl) (by first | assumption | exact atD_get (by assumption)) rfl | exact Holds.rowCell0 H (fun _ => rfl) (by first | assumption | exact atD_get (by assumption)) rfl | exact Holds.ownCell H (fun _ => rfl) (by first | assumption | exact atD_get (by assumption)) rfl | exact Holds.ownCell0 H (fun _ => rfl) (by first | assumption | exact atD_get (by assumption)) rfl | exact Holds.rowCell (Holds.f1 H) (fun _ => rfl) (by first | assumption | exact atD_get (by assumption)) rfl | exact Holds.rowCell0 (Holds.f1 H) (fun _ => rfl) (by first | assumption | exact atD_get (by assumption)) rfl | exact Holds.ownCell (Holds.f1 H) (fun _ => rfl) (by first | assumption | exact atD_get (by assumption)) rfl | exact Holds.ownCell0 (Holds.f1 H) (fun _ => rfl) (by first | assumption | exact atD_get (by assumption)) rfl | exact Holds.rowCell (Holds.f2 H) (fun _ => rfl) (by first | assumption | exact atD_get (by assumption)) rfl | exact Holds.rowCell0 (Holds.f2 H) (fun _ => rfl) (by first | assumption | exact atD_get (by assumption)) rfl | exact Holds.ownCell (Holds.f2 H) (fun _ => rfl) (by first | assumption | exact atD_get (by assumption)) rfl | exact Holds.ownCell0 (Holds.f2 H) (fun _ => rfl) (by first | assumption | exact atD_get (by assumption)) rfl | exact Holds.rowCell (Holds.f3 H) (fun _ => rfl) (by first | assumption | exact atD_get (by assumption)) rfl | exact Holds.rowCell0 (Holds.f3 H) (fun _ => rfl) (by first | assumption | exact atD_get (by assumption)) rfl | exact Holds.ownCell (Holds.f3 H) (fun _ => rfl) (by first | assumption | exact atD_get (by assumption)) rfl | exact Holds.ownCell0 (Holds.f3 H) (fun _ => rfl) (by first | assumption | exact atD_get (by assumption)) rfl | exact Holds.rowCell (Holds.f4 H) (fun _ => rfl) (by first | assumption | exact atD_get (by assumption)) rfl | exact Holds.rowCell0 (Holds.f4 H) (fun _ => rfl) (by first | assumption | exact atD_get (by assumption)) rfl | exact Holds.ownCell (Holds.f4 H) (fun _ => rfl) (by first | assumption | exact atD_get (by assumption)) rfl | exact Holds.ownCell0 (Holds.f4 H) (fun _ => rfl) (by first | assumption | exact atD_get (by assumption)) rfl | assumption) ?_
      | refine VcL.loadR tabOk rfl rfl rfl rfl rfl rfl (by first | exact RdW.rd (by assumption) H | exact RdW.rd (by assumption) (Holds.drop H) | exact RdW.rd (by assumption) (Holds.drop (Holds.drop H)) | exact RdW.rd (by assumption) (Holds.drop (Holds.drop (Holds.drop H))) | assumption) rfl ?_
      | refine VcL.loadN tabOk rfl rfl rfl rfl rfl rfl (by first | exact H | exact (Holds.f1 H) | exact (Holds.f2 H) | exact (Holds.f3 H) | exact (Holds.f4 H) | exact (Holds.f5 H) | exact (Holds.f6 H)) (by exact rfl) ?_
      | refine VcL.loadRowN0 tabOk rfl rfl rfl rfl rfl rfl H (fun _ => rfl) (by first | assumption | exact atD_get (by assumption)) (by exact rfl) (by exact rfl) (by exact rfl) ?_
      | refine VcL.loadRowN tabOk rfl rfl rfl rfl rfl rfl H (fun _ => rfl) (by first | assumption | exact atD_get (by assumption)) (by exact rfl) (by exact rfl) (by exact rfl) ?_
      | refine VcL.loadOwnN0 tabOk rfl rfl rfl rfl rfl rfl H (fun _ => rfl) (by first | assumption | exact atD_get (by assumption)) (by exact rfl) (by exact rfl) (by exact rfl) ?_
      | refine VcL.loadOwnN tabOk rfl rfl rfl rfl rfl rfl H (fun _ => rfl) (by first | assumption | exact atD_get (by assumption)) (by exact rfl) (by exact rfl) (by exact rfl) ?_
      | refine VcL.loadRowN0 tabOk rfl rfl rfl rfl rfl rfl (Holds.f1 H) (fun _ => rfl) (by first | assumption | exact atD_get (by assumption)) (by exact rfl) (by exact rfl) (by exact rfl) ?_
      | refine VcL.loadRowN tabOk rfl rfl rfl rfl rfl rfl (Holds.f1 H) (fun _ => rfl) (by first | assumption | exact atD_get (by assumption)) (by exact rfl) (by exact rfl) (by exact rfl) ?_
      | refine VcL.loadOwnN0 tabOk rfl rfl rfl rfl rfl rfl (Holds.f1 H) (fun _ => rfl) (by first | assumption | exact atD_get (by assumption)) (by exact rfl) (by exact rfl) (by exact rfl) ?_
      | refine VcL.loadOwnN tabOk rfl rfl rfl rfl rfl rfl (Holds.f1 H) (fun _ => rfl) (by first | assumption | exact atD_get (by assumption)) (by exact rfl) (by exact rfl) (by exact rfl) ?_
      | refine VcL.loadRowN0 tabOk rfl rfl rfl rfl rfl rfl (Holds.f2 H) (fun _ => rfl) (by first | assumption | exact atD_get (by assumption)) (by exact rfl) (by exact rfl) (by exact rfl) ?_
      | refine VcL.loadRowN tabOk rfl rfl rfl rfl rfl rfl (Holds.f2 H) (fun _ => rfl) (by first | assumption | exact atD_get (by assumption)) (by exact rfl) (by exact rfl) (by exact rfl) ?_
      | refine VcL.loadOwnN0 tabOk rfl rfl rfl rfl rfl rfl (Holds.f2 H) (fun _ => rfl) (by first | assumption | exact atD_get (by assumption)) (by exact rfl) (by exact rfl) (by exact rfl) ?_
      | refine VcL.loadOwnN tabOk rfl rfl rfl rfl rfl rfl (Holds.f2 H) (fun _ => rfl) (by first | assumption | exact atD_get (by assumption)) (by exact rfl) (by exact rfl) (by exact rfl) ?_
      | refine VcL.loadRowN0 tabOk rfl rfl rfl rfl rfl rfl (Holds.f3 H) (fun _ => rfl) (by first | assumption | exact atD_get (by assumption)) (by exact rfl) (by exact rfl) (by exact rfl) ?_
      | refine VcL.loadRowN tabOk rfl rfl rfl rfl rfl rfl (Holds.f3 H) (fun _ => rfl) (by first | assumption | exact atD_get (by assumption)) (by exact rfl) (by exact rfl) (by exact rfl) ?_
      | refine VcL.loadOwnN0 tabOk rfl rfl rfl rfl rfl rfl (Holds.f3 H) (fun _ => rfl) (by first | assumption | exact atD_get (by assumption)) (by exact rfl) (by exact rfl) (by exact rfl) ?_
      | refine VcL.loadOwnN tabOk rfl rfl rfl rfl rfl rfl (Holds.f3 H) (fun _ => rfl) (by first | assumption | exact atD_get (by assumption)) (by exact rfl) (by exact rfl) (by exact rfl) ?_
      | refine VcL.loadRowN0 tabOk rfl rfl rfl rfl rfl rfl (Holds.f4 H) (fun _ => rfl) (by first | assumption | exact atD_get (by assumption)) (by exact rfl) (by exact rfl) (by exact rfl) ?_
      | refine VcL.loadRowN tabOk rfl rfl rfl rfl rfl rfl (Holds.f4 H) (fun _ => rfl) (by first | assumption | exact atD_get (by assumption)) (by exact rfl) (by exact rfl) (by exact rfl) ?_
      | refine VcL.loadOwnN0 tabOk rfl rfl rfl rfl rfl rfl (Holds.f4 H) (fun _ => rfl) (by first | assumption | exact atD_get (by assumption)) (by exact rfl) (by exact rfl) (by exact rfl) ?_
      | refine VcL.loadOwnN tabOk rfl rfl rfl rfl rfl rfl (Holds.f4 H) (fun _ => rfl) (by first | assumption | exact atD_get (by assumption)) (by exact rfl) (by exact rfl) (by exact rfl) ?_)
      | (show VcL _ _ _ _ (⟨_, .binOp _ _ _ _ _, _, _, _, _⟩ :: _) _ _ _; first
      | refine VcL.shl rfl rfl (by first | assumption | rfl) rfl rfl rfl ?_
      | refine VcL.shr rfl rfl (by first | assumption | rfl) rfl rfl rfl ?_
      | refine VcL.eqS tabOk rfl rfl rfl rfl rfl rfl (by kernel_rfl) (by kernel_rfl) rfl rfl (by first | exact .inl rfl | exact .inr rfl) ?_)
      | (show VcL _ _ _ _ (⟨_, .indexAddr _ _ _, _, _, _, _⟩ :: _) _ _ _; first
      | refine VcL.indexAddr0 tabOk rfl rfl rfl rfl rfl rfl (by omega) (by omega) ?_
      | refine VcL.indexAddr tabOk rfl rfl rfl rfl rfl rfl (by omega) (by omega) ?_
      | refine VcL.indexArr0 tabOk rfl rfl rfl rfl rfl rfl (by omega) (by omega) ?_
      | refine VcL.indexArr tabOk rfl rfl rfl rfl rfl rfl (by omega) (by omega) ?_)
      | (show VcL _ _ _ _ (⟨_, .store _ _ _, _, _, _, _⟩ :: _) _ _ _; first
      | refine VcL.store tabOk rfl (by first | exact H | exact (Holds.f1 H) | exact (Holds.f2 H) | exact (Holds.f3 H) | exact (Holds.f4 H) | exact (Holds.f5 H) | exact (Holds.f6 H)) rfl rfl (by exact rfl) (by exact rfl) (by exact rfl) (by exact rfl) (fun w H => ?_))
      | (show VcL _ _ _ _ (⟨_, .call ⟨.value (.func F_octet_fold), _, _⟩, _, _, _, _⟩ :: _) _ _ _; first
      | (refine VcL.callF ok_octet_fold rfl rfl rfl rfl (Rets.mono (fold_any H (atD (bsS s) k)) ?_); rintro _ w ⟨rfl, H⟩))
      | (refine VcL.guard rfl rfl rfl rfl (fun h => ?_) (fun h => ?_) <;> first | (cases h; done) | (exfalso; simp only [decide_eq_true_eq, decide_eq_false_iff_not] at h; omega) | (with_reducible have hp := of_decide_eq_true h) | (with_reducible have hp := of_decide_eq_false h) | (with_reducible have hp := ndec_t h) | (with_reducible have hp := ndec_f h) | skip))
        | (show Vc _ _ _ _ _ _; first
      | refine Vc.seq ?_
      | refine Vc.region ?_
      | refine Vc.condT rfl ?_
      | refine Vc.condF rfl ?_
      | refine Vc.ret ?_
      | refine Vc.skip ?_
      | refine Vc.block ?_
      | refine Vc.exit ?_
      | (refine Vc.cond rfl (fun h => ?_) (fun h => ?_) <;> first | (cases h; done) | (exfalso; simp only [decide_eq_true_eq, decide_eq_false_iff_not] at h; omega) | (with_reducible have hp := of_decide_eq_true h) | (with_reducible have hp := of_decide_eq_false h) | (with_reducible have hp := ndec_t h) | (with_reducible have hp := ndec_f h) | skip))
        | (show KSeq _ _ _ _ _ _ _; first
      | refine KSeq.normal ?_
      | refine KSeq.ret ?_
      | refine KSeq.exit ?_)
        | (show KBlock _ _ _ _ _ _; first
      | refine KBlock.normal ?_
      | refine KBlock.here ?_
      | refine KBlock.on rfl ?_
      | refine KBlock.ret ?_)
        | refine KLoop.exit ?_
        | refine KLoop.ret ?_
        | refine KCut.exit ?_
        | refine KCut.ret ?_
        | (show KEnd _ _ _ _ _ _ _; first
      | refine KEnd.fin (Or.inr rfl) ⟨_, (ResL.tmp rfl ResL.nil), ?_⟩
      | refine KEnd.fin (Or.inl rfl) ⟨_, (ResL.tmp rfl ResL.nil), ?_⟩))
      refine KLoop.again (k + 1) ⟨got_succ rfl (by omega), trivial⟩ ⟨rfl, rfl, rfl, trivial⟩ ⟨hlt, ?_⟩ (by omega)
      have e := over_row byC_len (pre := pre) (rest := rest) (y := foldB (atD (bsS s) k)) (half_at (l := bsS s) (k := k) (by omega))
      rw [half_set (by omega), by_flat, by_flat] at e
      have H : Holds I w (blk b 5 (over (pre ++ (half (bsS s) k).map byteV ++ rest) (pre.length + k * 1) (byC (foldB (atD (bsS s) k)))) :: L) := H
      rw [e] at H
      exact H.own_mk h2 (by simp [half_len, hl]) h5
  · obtain rfl : k = s.size := by omega
    have e1 : half (bsS s) s.size = foldS s := by unfold half foldS; rw [← hl, List.take_length, List.drop_length, List.append_nil]
    rw [e1] at H
    repeat' (first
      | (refine VcL.toBytes tabOk H rfl rfl rfl rfl rfl rfl rfl rfl rfl rfl (fun sv w H => ?_))
      | (refine VcL.storeAt tabOk rfl H rfl (by exact rfl) (by exact rfl) (by exact rfl) (by simp only [List.length_append, List.length_map, half_len, hl, List.length_cons, List.length_nil]; omega) rfl (fun w H => ?_))
      | (refine VcL.ofBytes tabOk rfl rfl rfl rfl rfl rfl rfl H.own_src ⟨_, _, rfl⟩ rfl rfl rfl ?_)
      | (show VcL _ _ _ _ _ _ _ _; first
      | refine VcL.pures tabOk rfl ?_
      | refine VcL.nil ?_
      | (show VcL _ _ _ _ (⟨_, .load _ _, _, _, _, _⟩ :: _) _ _ _; first
      | refine VcL.load1 tabOk rfl rfl rfl rfl rfl (by first | exact Holds.cell H rfl | exact Holds.cell (Holds.f1 H) rfl | exact Holds.cell (Holds.f2 H) rfl | exact Holds.cell (Holds.f3 H) rfl | exact Holds.cell (Holds.f4 H) rfl | exact Holds.cell (Holds.f5 H) rfl | exact Holds.cell (Holds.f6 H) rfl | exact RdW.get (by assumption) rfl H | exact RdW.get0 (by assumption) rfl H | exact RdW.get (by assumption) rfl (Holds.drop H) | exact RdW.get0 (by assumption) rfl (Holds.drop H) | exact RdW.get (by assumption) rfl (Holds.drop (Holds.drop H)) | exact RdW.get0 (by assumption) rfl (Holds.drop (Holds.drop H)) | exact RdW.get (by assumption) rfl (Holds.drop (Holds.drop (Holds.drop H))) | exact RdW.get0 (by assumption) rfl (Holds.drop (Holds.drop (Holds.drop H))) | exact Holds.rowCell H (fun _ => rfl) (by first | assumption | exact atD_get (by assumption)) rfl | exact Holds.rowCell0 H (fun _ => rfl) (by first | assumption | exact atD_get (by assumption)) rfl | exact Holds.ownCell H (fun _ => rfl) (by first | assumption | exact atD_get (by assumption)) rfl | exact Holds.ownCell0 H (fun _ => rfl) (by first | assumption | exact atD_get (by assumption)) rfl | exact Holds.rowCell (Holds.f1 H) (fun _ => rfl) (by first | assumption | exact atD_get (by assumption)) rfl | exact Holds.rowCell0 (Holds.f1 H) (fun _ => rfl) (by first | assumption | exact atD_get (by assumption)) rfl | exact Holds.ownCell (Holds.f1 H) (fun _ => rfl) (by first | assumption | exact atD_get (by assumption)) rfl | exact Holds.ownCell0 (Holds.f1 H) (fun _ => rfl) (by first | assumption | exact atD_get (by assumption)) rfl | exact Holds.rowCell (Holds.f2 H) (fun _ => rfl) (by first | assumption | exact atD_get (by assumption)) rfl | exact Holds.rowCell0 (Holds.f2 H) (fun _ => rfl) (by first | assumption | exact atD_get (by assumption)) rfl | exact Holds.ownCell (Holds.f2 H) (fun _ => rfl) (by first | assumption | exact atD_get (by assumption)) rfl | exact Holds.ownCell0 (Holds.f2 H) (fun _ => rfl) (by first | assumption | exact atD_get (by assumption)) rfl | exact Holds.rowCell (Holds.f3 H) (fun _ => rfl) (by first | assumption | exact atD_get (by assumption)) rfl | exact Holds.rowCell0 (Holds.f3 H) (fun _ => rfl) (by first | assumption | exact atD_get (by assumption)) rfl | exact Holds.ownCell (Holds.f3 H) (fun _ => rfl) (by first | assumption | exact atD_get (by assumption)) rfl | exact Holds.ownCell0 (Holds.f3 H) (fun _ => rfl) (by first | assumption | exact atD_get (by assumption)) rfl | exact Holds.rowCell (Holds.f4 H) (fun _ => rfl) (by first | assumption | exact atD_get (by assumption)) rfl | exact Holds.rowCell0 (Holds.f4 H) (fun _ => rfl) (by first | assumption | exact atD_get (by assumption)) rfl | exact Holds.ownCell (Holds.f4 H) (fun _ => rfl) (by first | assumption | exact atD_get (by assumption)) rfl | exact Holds.ownCell0 (Holds.f4 H) (fun _ => rfl) (by first | assumption | exact atD_get (by assumption)) rfl | assumption) ?_
      | refine VcL.loadR tabOk rfl rfl rfl rfl rfl rfl (by first | exact RdW.rd (by assumption) H | exact RdW.rd (by assumption) (Holds.drop H) | exact RdW.rd (by assumption) (Holds.drop (Holds.drop H)) | exact RdW.rd (by assumption) (Holds.drop (Holds.drop (Holds.drop H))) | assumption) rfl ?_
      | refine VcL.loadN tabOk rfl rfl rfl rfl rfl rfl (by first | exact H | exact (Holds.f1 H) | exact (Holds.f2 H) | exact (Holds.f3 H) | exact (Holds.f4 H) | exact (Holds.f5 H) | exact (Holds.f6 H)) (by exact rfl) ?_
      | refine VcL.loadRowN0 tabOk rfl rfl rfl rfl rfl rfl H (fun _ => rfl) (by first | assumption | exact atD_get (by assumption)) (by exact rfl) (by exact rfl) (by exact rfl) ?_
      | refine VcL.loadRowN tabOk rfl rfl rfl rfl rfl rfl H (fun _ => rfl) (by first | assumption | exact atD_get (by assumption)) (by exact rfl) (by exact rfl) (by exact rfl) ?_
      | refine VcL.loadOwnN0 tabOk rfl rfl rfl rfl rfl rfl H (fun _ => rfl) (by first | assumption | exact atD_get (by assumption)) (by exact rfl) (by exact rfl) (by exact rfl) ?_
      | refine VcL.loadOwnN tabOk rfl rfl rfl rfl rfl rfl H (fun _ => rfl) (by first | assumption | exact atD_get (by assumption)) (by exact rfl) (by exact rfl) (by exact rfl) ?_
      | refine VcL.loadRowN0 tabOk rfl rfl rfl rfl rfl rfl (Holds.f1 H) (fun _ => rfl) (by first | assumption | exact atD_get (by assumption)) (by exact rfl) (by exact rfl) (by exact rfl) ?_
      | refine VcL.loadRowN tabOk rfl rfl rfl rfl rfl rfl (Holds.f1 H) (fun _ => rfl) (by first | assumption | exact atD_get (by assumption)) (by exact rfl) (by exact rfl) (by exact rfl) ?_
      | refine VcL.loadOwnN0 tabOk rfl rfl rfl rfl rfl rfl (Holds.f1 H) (fun _ => rfl) (by first | assumption | exact atD_get (by assumption)) (by exact rfl) (by exact rfl) (by exact rfl) ?_
      | refine VcL.loadOwnN tabOk rfl rfl rfl rfl rfl rfl (Holds.f1 H) (fun _ => rfl) (by first | assumption | exact atD_get (by assumption)) (by exact rfl) (by exact rfl) (by exact rfl) ?_
      | refine VcL.loadRowN0 tabOk rfl rfl rfl rfl rfl rfl (Holds.f2 H) (fun _ => rfl) (by first | assumption | exact atD_get (by assumption)) (by exact rfl) (by exact rfl) (by exact rfl) ?_
      | refine VcL.loadRowN tabOk rfl rfl rfl rfl rfl rfl (Holds.f2 H) (fun _ => rfl) (by first | assumption | exact atD_get (by assumption)) (by exact rfl) (by exact rfl) (by exact rfl) ?_
      | refine VcL.loadOwnN0 tabOk rfl rfl rfl rfl rfl rfl (Holds.f2 H) (fun _ => rfl) (by first | assumption | exact atD_get (by assumption)) (by exact rfl) (by exact rfl) (by exact rfl) ?_
      | refine VcL.loadOwnN tabOk rfl rfl rfl rfl rfl rfl (Holds.f2 H) (fun _ => rfl) (by first | assumption | exact atD_get (by assumption)) (by exact rfl) (by exact rfl) (by exact rfl) ?_
      | refine VcL.loadRowN0 tabOk rfl rfl rfl rfl rfl rfl (Holds.f3 H) (fun _ => rfl) (by first | assumption | exact atD_get (by assumption)) (by exact rfl) (by exact rfl) (by exact rfl) ?_
      | refine VcL.loadRowN tabOk rfl rfl rfl rfl rfl rfl (Holds.f3 H) (fun _ => rfl) (by first | assumption | exact atD_get (by assumption)) (by exact rfl) (by exact rfl) (by exact rfl) ?_
      | refine VcL.loadOwnN0 tabOk rfl rfl rfl rfl rfl rfl (Holds.f3 H) (fun _ => rfl) (by first | assumption | exact atD_get (by assumption)) (by exact rfl) (by exact rfl) (by exact rfl) ?_
      | refine VcL.loadOwnN tabOk rfl rfl rfl rfl rfl rfl (Holds.f3 H) (fun _ => rfl) (by first | assumption | exact atD_get (by assumption)) (by exact rfl) (by exact rfl) (by exact rfl) ?_
      | refine VcL.loadRowN0 tabOk rfl rfl rfl rfl rfl rfl (Holds.f4 H) (fun _ => rfl) (by first | assumption | exact atD_get (by assumption)) (by exact rfl) (by exact rfl) (by exact rfl) ?_
      | refine VcL.loadRowN tabOk rfl rfl rfl rfl rfl rfl (Holds.f4 H) (fun _ => rfl) (by first | assumption | exact atD_get (by assumption)) (by exact rfl) (by exact rfl) (by exact rfl) ?_
      | refine VcL.loadOwnN0 tabOk rfl rfl rfl rfl rfl rfl (Holds.f4 H) (fun _ => rfl) (by first | assumption | exact atD_get (by assumption)) (by exact rfl) (by exact rfl) (by exact rfl) ?_
      | refine VcL.loadOwnN tabOk rfl rfl rfl rfl rfl rfl (Holds.f4 H) (fun _ => rfl) (by first | assumption | exact atD_get (by assumption)) (by exact rfl) (by exact rfl) (by exact rfl) ?_)
      | (show VcL _ _ _ _ (⟨_, .binOp _ _ _ _ _, _, _, _, _⟩ :: _) _ _ _; first
      | refine VcL.shl rfl rfl (by first | assumption | rfl) rfl rfl rfl ?_
      | refine VcL.shr rfl rfl (by first | assumption | rfl) rfl rfl rfl ?_
      | refine VcL.eqS tabOk rfl rfl rfl rfl rfl rfl (by kernel_rfl) (by kernel_rfl) rfl rfl (by first | exact .inl rfl | exact .inr rfl) ?_)
      | (show VcL _ _ _ _ (⟨_, .indexAddr _ _ _, _, _, _, _⟩ :: _) _ _ _; first
      | refine VcL.indexAddr0 tabOk rfl rfl rfl rfl rfl rfl (by omega) (by omega) ?_
      | refine VcL.indexAddr tabOk rfl rfl rfl rfl rfl rfl (by omega) (by omega) ?_
      | refine VcL.indexArr0 tabOk rfl rfl rfl rfl rfl rfl (by omega) (by omega) ?_
      | refine VcL.indexArr tabOk rfl rfl rfl rfl rfl rfl (by omega) (by omega) ?_)
      | (show VcL _ _ _ _ (⟨_, .store _ _ _, _, _, _, _⟩ :: _) _ _ _; first
      | refine VcL.store tabOk rfl (by first | exact H | exact (Holds.f1 H) | exact (Holds.f2 H) | exact (Holds.f3 H) | exact (Holds.f4 H) | exact (Holds.f5 H) | exact (Holds.f6 H)) rfl rfl (by exact rfl) (by exact rfl) (by exact rfl) (by exact rfl) (fun w H => ?_))
      | (show VcL _ _ _ _ (⟨_, .call ⟨.value (.func F_octet_fold), _, _⟩, _, _, _, _⟩ :: _) _ _ _; first
      | (refine VcL.callF ok_octet_fold rfl rfl rfl rfl (Rets.mono (fold_any H (atD (bsS s) k)) ?_); rintro _ w ⟨rfl, H⟩))
      | (refine VcL.guard rfl rfl rfl rfl (fun h => ?_) (fun h => ?_) <;> first | (cases h; done) | (exfalso; simp only [decide_eq_true_eq, decide_eq_false_iff_not] at h; omega) | (with_reducible have hp := of_decide_eq_true h) | (with_reducible have hp := of_decide_eq_false h) | (with_reducible have hp := ndec_t h) | (with_reducible have hp := ndec_f h) | skip))
      | (show Vc _ _ _ _ _ _; first
      | refine Vc.seq ?_
      | refine Vc.region ?_
      | refine Vc.condT rfl ?_
      | refine Vc.condF rfl ?_
      | refine Vc.ret ?_
      | refine Vc.skip ?_
      | refine Vc.block ?_
      | refine Vc.exit ?_
      | (refine Vc.cond rfl (fun h => ?_) (fun h => ?_) <;> first | (cases h; done) | (exfalso; simp only [decide_eq_true_eq, decide_eq_false_iff_not] at h; omega) | (with_reducible have hp := of_decide_eq_true h) | (with_reducible have hp := of_decide_eq_false h) | (with_reducible have hp := ndec_t h) | (with_reducible have hp := ndec_f h) | skip))
      | (show KSeq _ _ _ _ _ _ _; first
      | refine KSeq.normal ?_
      | refine KSeq.ret ?_
      | refine KSeq.exit ?_)
      | (show KBlock _ _ _ _ _ _; first
      | refine KBlock.normal ?_
      | refine KBlock.here ?_
      | refine KBlock.on rfl ?_
      | refine KBlock.ret ?_)
      | refine KLoop.exit ?_
      | refine KLoop.ret ?_
      | refine KCut.exit ?_
      | refine KCut.ret ?_
      | (show KEnd _ _ _ _ _ _ _; first
      | refine KEnd.fin (Or.inr rfl) ⟨_, (ResL.tmp rfl ResL.nil), ?_⟩
      | refine KEnd.fin (Or.inl rfl) ⟨_, (ResL.tmp rfl ResL.nil), ?_⟩))
    exact ⟨rfl, H.drop⟩
theorem Equal_any (H : Holds I w L) (a b : ByteArray) (ha : a.size ≤ 140737488355328) (hb : b.size ≤ 140737488355328) : Rets Try.prog F_octet_Equal #[.string a, .string b] w fun u w' => u = .bool (eqT a b) ∧ Holds I w' L := by
  refine ok_octet_Equal.rets rfl ?_
  repeat' (first
    | (show VcL _ _ _ _ _ _ _ _; first
      | refine VcL.pures tabOk rfl ?_
      | refine VcL.nil ?_
      | (show VcL _ _ _ _ (⟨_, .binOp _ _ _ _ _, _, _, _, _⟩ :: _) _ _ _; first
      | refine VcL.shl rfl rfl (by first | assumption | rfl) rfl rfl rfl ?_
      | refine VcL.shr rfl rfl (by first | assumption | rfl) rfl rfl rfl ?_
      | refine VcL.eqS tabOk rfl rfl rfl rfl rfl rfl (by kernel_rfl) (by kernel_rfl) rfl rfl (by first | exact .inl rfl | exact .inr rfl) ?_)
      | (show VcL _ _ _ _ (⟨_, .call ⟨.value (.func F_octet_Fold), _, _⟩, _, _, _, _⟩ :: _) _ _ _; first
      | (refine VcL.callF ok_octet_Fold rfl rfl rfl rfl (Rets.mono (Fold_any H a ha) ?_); rintro _ w ⟨rfl, H⟩))
      | (show VcL _ _ _ _ (⟨_, .call ⟨.value (.func F_octet_Fold), _, _⟩, _, _, _, _⟩ :: _) _ _ _; first
      | (refine VcL.callF ok_octet_Fold rfl rfl rfl rfl (Rets.mono (Fold_any H b hb) ?_); rintro _ w ⟨rfl, H⟩))
      | (refine VcL.guard rfl rfl rfl rfl (fun h => ?_) (fun h => ?_) <;> first | (cases h; done) | (exfalso; simp only [decide_eq_true_eq, decide_eq_false_iff_not] at h; omega) | (with_reducible have hp := of_decide_eq_true h) | (with_reducible have hp := of_decide_eq_false h) | (with_reducible have hp := ndec_t h) | (with_reducible have hp := ndec_f h) | skip))
    | (show Vc _ _ _ _ _ _; first
      | refine Vc.seq ?_
      | refine Vc.region ?_
      | refine Vc.condT rfl ?_
      | refine Vc.condF rfl ?_
      | refine Vc.ret ?_
      | refine Vc.skip ?_
      | refine Vc.block ?_
      | refine Vc.exit ?_
      | (refine Vc.cond rfl (fun h => ?_) (fun h => ?_) <;> first | (cases h; done) | (exfalso; simp only [decide_eq_true_eq, decide_eq_false_iff_not] at h; omega) | (with_reducible have hp := of_decide_eq_true h) | (with_reducible have hp := of_decide_eq_false h) | (with_reducible have hp := ndec_t h) | (with_reducible have hp := ndec_f h) | skip))
    | (show KSeq _ _ _ _ _ _ _; first
      | refine KSeq.normal ?_
      | refine KSeq.ret ?_
      | refine KSeq.exit ?_)
    | (show KBlock _ _ _ _ _ _; first
      | refine KBlock.normal ?_
      | refine KBlock.here ?_
      | refine KBlock.on rfl ?_
      | refine KBlock.ret ?_)
    | refine KLoop.exit ?_
    | refine KLoop.ret ?_
    | refine KCut.exit ?_
    | refine KCut.ret ?_
    | (show KEnd _ _ _ _ _ _ _; first
      | refine KEnd.fin (Or.inr rfl) ⟨_, (ResL.tmp rfl ResL.nil), ?_⟩
      | refine KEnd.fin (Or.inl rfl) ⟨_, (ResL.tmp rfl ResL.nil), ?_⟩))
  refine ⟨?_, H⟩
  unfold eqT
  rw [ba_beq]
  simp [resVal]
/-- Both stand alike so far. -/
def alike (a b : ByteArray) (k : Nat) : Prop := ∀ j, j < k → foldB (atD (bsS a) j) = foldB (atD (bsS b) j)
theorem eqT_len {a b : ByteArray} (h : eqT a b = true) : a.size = b.size := by
  unfold eqT foldS at h
  have := congrArg List.length (of_decide_eq_true h)
  simpa using this
theorem eqT_of {a b : ByteArray} (hn : a.size = b.size) (h : alike a b a.size) : eqT a b = true := by
  unfold eqT foldS
  refine decide_eq_true (List.ext_getElem? fun j => ?_)
  rw [List.getElem?_map, List.getElem?_map]
  by_cases hj : j < a.size
  · rw [atD_get (by rw [ba_len]; exact hj), atD_get (by rw [ba_len]; omega)]
    simp only [Option.map_some]
    rw [h j hj]
  · rw [List.getElem?_eq_none (by rw [ba_len]; omega), List.getElem?_eq_none (by rw [ba_len]; omega)]
theorem eqT_not {a b : ByteArray} {j : Nat} (hj : j < a.size) (h : foldB (atD (bsS a) j) ≠ foldB (atD (bsS b) j)) : eqT a b = false := by
  rw [← Bool.not_eq_true]
  intro he
  have hn := eqT_len he
  unfold eqT foldS at he
  have h2 := congrArg (fun l => l[j]?) (of_decide_eq_true he)
  simp only [List.getElem?_map] at h2
  rw [atD_get (by rw [ba_len]; exact hj), atD_get (by rw [ba_len]; omega)] at h2
  exact h (by simpa using h2)
theorem Order_any (H : Holds I w L) (a b : ByteArray) (ha : a.size ≤ 140737488355328) (hb : b.size ≤ 140737488355328) : Rets Try.prog F_tithingref01_Order #[.string a, .string b] w fun u w' => ∃ r : Int, u = .int .i64 r ∧ (decide (r = 0) = eqT a b) ∧ Holds I w' L := by
  refine ok_tithingref01_Order.rets rfl ?_
  repeat' (first
    | (show VcL _ _ _ _ _ _ _ _; first
      | refine VcL.pures tabOk rfl ?_
      | refine VcL.nil ?_
      | (show VcL _ _ _ _ (⟨_, .binOp _ _ _ _ _, _, _, _, _⟩ :: _) _ _ _; first
      | refine VcL.shl rfl rfl (by first | assumption | rfl) rfl rfl rfl ?_
      | refine VcL.shr rfl rfl (by first | assumption | rfl) rfl rfl rfl ?_
      | refine VcL.eqS tabOk rfl rfl rfl rfl rfl rfl (by kernel_rfl) (by kernel_rfl) rfl rfl (by first | exact .inl rfl | exact .inr rfl) ?_)
      | (show VcL _ _ _ _ (⟨_, .index _ _ _, _, _, _, _⟩ :: _) _ _ _; first
      | refine VcL.index tabOk rfl rfl rfl rfl rfl rfl rfl (by omega) (by omega) ?_)
      | (refine VcL.guard rfl rfl rfl rfl (fun h => ?_) (fun h => ?_) <;> first | (cases h; done) | (exfalso; simp only [decide_eq_true_eq, decide_eq_false_iff_not] at h; omega) | (with_reducible have hp := of_decide_eq_true h) | (with_reducible have hp := of_decide_eq_false h) | (with_reducible have hp := ndec_t h) | (with_reducible have hp := ndec_f h) | skip))
    | (show VcD _ _ _ _ _ _ _ _ _; first
      | refine VcD.pures tabOk rfl ?_
      | refine VcD.done ?_
      | (show VcD _ _ _ _ _ (.pure _ _) _ _ _; first
      | refine VcD.index tabOk rfl rfl rfl rfl rfl rfl rfl rfl (by omega) (by omega) ?_
      | (refine VcD.guardP rfl rfl rfl rfl rfl (fun h => ?_) (fun h => ?_) <;> first | (cases h; done) | (exfalso; simp only [decide_eq_true_eq, decide_eq_false_iff_not] at h; omega) | (with_reducible have hp := of_decide_eq_true h) | (with_reducible have hp := of_decide_eq_false h) | (with_reducible have hp := ndec_t h) | (with_reducible have hp := ndec_f h) | skip))
      | (show VcD _ _ _ _ _ (.take _ _) _ _ _; first
      | (refine VcD.guardT rfl rfl rfl rfl rfl (fun h => ?_) (fun h => ?_) <;> first | (cases h; done) | (exfalso; simp only [decide_eq_true_eq, decide_eq_false_iff_not] at h; omega) | (with_reducible have hp := of_decide_eq_true h) | (with_reducible have hp := of_decide_eq_false h) | (with_reducible have hp := ndec_t h) | (with_reducible have hp := ndec_f h) | skip))
      | (show VcD _ _ _ _ _ (.only _ _) _ _ _; first
      | refine VcD.skip rfl rfl rfl (by first | exact H | exact Holds.drop H | exact Holds.drop (Holds.drop H)) ?_
      | (refine VcD.guardO rfl rfl rfl rfl rfl (fun h => ?_) (fun h => ?_) <;> first | (cases h; done) | (exfalso; simp only [decide_eq_true_eq, decide_eq_false_iff_not] at h; omega) | (with_reducible have hp := of_decide_eq_true h) | (with_reducible have hp := of_decide_eq_false h) | (with_reducible have hp := ndec_t h) | (with_reducible have hp := ndec_f h) | skip))
      | (show VcD _ _ _ _ _ (.two _ _ _ _) _ _ _; refine VcD.two ?_ ?_))
    | (show Vc _ _ _ _ _ _; first
      | refine Vc.seq ?_
      | refine Vc.region ?_
      | refine Vc.condT rfl ?_
      | refine Vc.condF rfl ?_
      | refine Vc.ret ?_
      | refine Vc.skip ?_
      | refine Vc.block ?_
      | refine Vc.exit ?_
      | refine Vc.drawnH (id := 4) H (.pure 0 (.pure 1 (.pure 4 (.pure 5 (.pure 2 (.pure 6 (.only 3 (.only 7 (.pure 8 (.pure 9 .done)))))))))) mixed (by kernel_rfl) (fun w H => ?_)
      | (refine Vc.cond rfl (fun h => ?_) (fun h => ?_) <;> first | (cases h; done) | (exfalso; simp only [decide_eq_true_eq, decide_eq_false_iff_not] at h; omega) | (with_reducible have hp := of_decide_eq_true h) | (with_reducible have hp := of_decide_eq_false h) | (with_reducible have hp := ndec_t h) | (with_reducible have hp := ndec_f h) | skip))
    | (show KSeq _ _ _ _ _ _ _; first
      | refine KSeq.normal ?_
      | refine KSeq.ret ?_
      | refine KSeq.exit ?_)
    | (show KBlock _ _ _ _ _ _; first
      | refine KBlock.normal ?_
      | refine KBlock.here ?_
      | refine KBlock.on rfl ?_
      | refine KBlock.ret ?_)
    | refine KLoop.exit ?_
    | refine KLoop.ret ?_
    | refine KCut.exit ?_
    | refine KCut.ret ?_
    | (show KEnd _ _ _ _ _ _ _; first
      | refine KEnd.fin (Or.inr rfl) ⟨_, (ResL.tmp rfl ResL.nil), ?_⟩
      | refine KEnd.fin (Or.inl rfl) ⟨_, (ResL.tmp rfl ResL.nil), ?_⟩))
  refine Vc.loopS [(0, _), (1, _)] (fun k : Nat => [(5, .int .i64 k)]) (fun k w => Holds I w L ∧ k ≤ a.size ∧ k ≤ b.size ∧ alike a b k) (fun k _ => a.size - k) 0 ⟨rfl, trivial⟩ ⟨rfl, rfl, trivial⟩ ⟨H, by omega, by omega, fun j hj => by omega⟩ ?_
  rintro k w ⟨H, hka, hkb, hal⟩
  by_cases hlt : k < a.size ∧ k < b.size
  · obtain ⟨hla, hlb⟩ := hlt
    have ea := ba_at a hla
    have eb := ba_at b hlb
    have hua := (foldB (atD (bsS a) k)).toNat_lt
    have hub := (foldB (atD (bsS b) k)).toNat_lt
    have hua := (foldB (a[k]'hla)).toNat_lt
    have hub := (foldB (b[k]'hlb)).toNat_lt
    repeat' (first
      | (show VcL _ _ _ _ _ _ _ _; first
      | refine VcL.pures tabOk rfl ?_
      | refine VcL.nil ?_
      | (show VcL _ _ _ _ (⟨_, .binOp _ _ _ _ _, _, _, _, _⟩ :: _) _ _ _; first
      | refine VcL.shl rfl rfl (by first | assumption | rfl) rfl rfl rfl ?_
      | refine VcL.shr rfl rfl (by first | assumption | rfl) rfl rfl rfl ?_
      | refine VcL.eqS tabOk rfl rfl rfl rfl rfl rfl (by kernel_rfl) (by kernel_rfl) rfl rfl (by first | exact .inl rfl | exact .inr rfl) ?_)
      | (show VcL _ _ _ _ (⟨_, .index _ _ _, _, _, _, _⟩ :: _) _ _ _; first
      | refine VcL.index tabOk rfl rfl rfl rfl rfl rfl rfl (by omega) (by omega) ?_)
      | (show VcL _ _ _ _ (⟨_, .call ⟨.value (.func F_tithingref01_Upper), _, _⟩, _, _, _, _⟩ :: _) _ _ _; first
      | (refine VcL.callF ok_tithingref01_Upper rfl rfl rfl rfl (Rets.mono (Upper_any H (a[k]'hla)) ?_); rintro _ w ⟨rfl, H⟩))
      | (show VcL _ _ _ _ (⟨_, .call ⟨.value (.func F_tithingref01_Upper), _, _⟩, _, _, _, _⟩ :: _) _ _ _; first
      | (refine VcL.callF ok_tithingref01_Upper rfl rfl rfl rfl (Rets.mono (Upper_any H (b[k]'hlb)) ?_); rintro _ w ⟨rfl, H⟩))
      | (refine VcL.guard rfl rfl rfl rfl (fun h => ?_) (fun h => ?_) <;> first | (cases h; done) | (exfalso; simp only [decide_eq_true_eq, decide_eq_false_iff_not] at h; omega) | (with_reducible have hp := of_decide_eq_true h) | (with_reducible have hp := of_decide_eq_false h) | (with_reducible have hp := ndec_t h) | (with_reducible have hp := ndec_f h) | skip))
      | (show VcD _ _ _ _ _ _ _ _ _; first
      | refine VcD.pures tabOk rfl ?_
      | refine VcD.done ?_
      | (show VcD _ _ _ _ _ (.pure _ _) _ _ _; first
      | refine VcD.index tabOk rfl rfl rfl rfl rfl rfl rfl rfl (by omega) (by omega) ?_
      | (refine VcD.guardP rfl rfl rfl rfl rfl (fun h => ?_) (fun h => ?_) <;> first | (cases h; done) | (exfalso; simp only [decide_eq_true_eq, decide_eq_false_iff_not] at h; omega) | (with_reducible have hp := of_decide_eq_true h) | (with_reducible have hp := of_decide_eq_false h) | (with_reducible have hp := ndec_t h) | (with_reducible have hp := ndec_f h) | skip))
      | (show VcD _ _ _ _ _ (.take _ _) _ _ _; first
      | (refine VcD.guardT rfl rfl rfl rfl rfl (fun h => ?_) (fun h => ?_) <;> first | (cases h; done) | (exfalso; simp only [decide_eq_true_eq, decide_eq_false_iff_not] at h; omega) | (with_reducible have hp := of_decide_eq_true h) | (with_reducible have hp := of_decide_eq_false h) | (with_reducible have hp := ndec_t h) | (with_reducible have hp := ndec_f h) | skip))
      | (show VcD _ _ _ _ _ (.only _ _) _ _ _; first
      | (refine VcD.callF (f := F_tithingref01_Upper) rfl ok_tithingref01_Upper rfl rfl rfl rfl (Rets.mono (Upper_any H (a[k]'hla)) ?_); rintro _ w ⟨rfl, H⟩; refine ⟨(by first | exact H | exact Holds.drop H | exact Holds.drop (Holds.drop H)), ?_⟩)
      | (refine VcD.callF (f := F_tithingref01_Upper) rfl ok_tithingref01_Upper rfl rfl rfl rfl (Rets.mono (Upper_any H (b[k]'hlb)) ?_); rintro _ w ⟨rfl, H⟩; refine ⟨(by first | exact H | exact Holds.drop H | exact Holds.drop (Holds.drop H)), ?_⟩)
      | refine VcD.skip rfl rfl rfl (by first | exact H | exact Holds.drop H | exact Holds.drop (Holds.drop H)) ?_
      | (refine VcD.guardO rfl rfl rfl rfl rfl (fun h => ?_) (fun h => ?_) <;> first | (cases h; done) | (exfalso; simp only [decide_eq_true_eq, decide_eq_false_iff_not] at h; omega) | (with_reducible have hp := of_decide_eq_true h) | (with_reducible have hp := of_decide_eq_false h) | (with_reducible have hp := ndec_t h) | (with_reducible have hp := ndec_f h) | skip))
      | (show VcD _ _ _ _ _ (.two _ _ _ _) _ _ _; refine VcD.two ?_ ?_))
      | (show EfO _ _ _ _ _ _ _ _ _; first
      | (refine EfO.call (f := F_tithingref01_Upper) rfl rfl rfl rfl (OpC.call ok_tithingref01_Upper rfl) (Rets.mono (Upper_any H (a[k]'hla)) ?_); rintro _ w ⟨rfl, H⟩; refine ⟨(by first | exact H | exact Holds.drop H | exact Holds.drop (Holds.drop H)), ?_⟩)
      | (refine EfO.call (f := F_tithingref01_Upper) rfl rfl rfl rfl (OpC.call ok_tithingref01_Upper rfl) (Rets.mono (Upper_any H (b[k]'hlb)) ?_); rintro _ w ⟨rfl, H⟩; refine ⟨(by first | exact H | exact Holds.drop H | exact Holds.drop (Holds.drop H)), ?_⟩))
      | (show Vc _ _ _ _ _ _; first
      | refine Vc.seq ?_
      | refine Vc.region ?_
      | refine Vc.condT rfl ?_
      | refine Vc.condF rfl ?_
      | refine Vc.ret ?_
      | refine Vc.skip ?_
      | refine Vc.block ?_
      | refine Vc.exit ?_
      | refine Vc.drawnH (id := 4) H (.pure 0 (.pure 1 (.pure 4 (.pure 5 (.pure 2 (.pure 6 (.only 3 (.only 7 (.pure 8 (.pure 9 .done)))))))))) mixed (by kernel_rfl) (fun w H => ?_)
      | (refine Vc.cond rfl (fun h => ?_) (fun h => ?_) <;> first | (cases h; done) | (exfalso; simp only [decide_eq_true_eq, decide_eq_false_iff_not] at h; omega) | (with_reducible have hp := of_decide_eq_true h) | (with_reducible have hp := of_decide_eq_false h) | (with_reducible have hp := ndec_t h) | (with_reducible have hp := ndec_f h) | skip))
      | (show KSeq _ _ _ _ _ _ _; first
      | refine KSeq.normal ?_
      | refine KSeq.ret ?_
      | refine KSeq.exit ?_)
      | (show KBlock _ _ _ _ _ _; first
      | refine KBlock.normal ?_
      | refine KBlock.here ?_
      | refine KBlock.on rfl ?_
      | refine KBlock.ret ?_)
      | refine KLoop.exit ?_
      | refine KLoop.ret ?_
      | refine KCut.exit ?_
      | refine KCut.ret ?_
      | (show KEnd _ _ _ _ _ _ _; first
      | refine KEnd.fin (Or.inr rfl) ⟨_, (ResL.tmp rfl ResL.nil), ?_⟩
      | refine KEnd.fin (Or.inl rfl) ⟨_, (ResL.tmp rfl ResL.nil), ?_⟩))
    · refine ⟨-1, rfl, ?_, H⟩
      rw [eqT_not hla (by rw [← ea, ← eb]; intro e; rw [e] at hp; exact absurd hp (by omega))]; rfl
    · refine ⟨1, rfl, ?_, H⟩
      rw [eqT_not hla (by rw [← ea, ← eb]; intro e; rw [e] at hp; exact absurd hp (by omega))]; rfl
    · refine KLoop.again (k + 1) ⟨got_succ rfl (by omega), trivial⟩ ⟨rfl, rfl, trivial⟩ ⟨H, by omega, by omega, fun j hj => ?_⟩ (by omega)
      rcases Nat.lt_or_ge j k with h1 | h1
      · exact hal j h1
      · obtain rfl : j = k := by omega
        rw [← ea, ← eb]
        exact UInt8.toNat_inj.1 (by omega)
  ·
    repeat' (first
      | (show VcL _ _ _ _ _ _ _ _; first
      | refine VcL.pures tabOk rfl ?_
      | refine VcL.nil ?_
      | (show VcL _ _ _ _ (⟨_, .binOp _ _ _ _ _, _, _, _, _⟩ :: _) _ _ _; first
      | refine VcL.shl rfl rfl (by first | assumption | rfl) rfl rfl rfl ?_
      | refine VcL.shr rfl rfl (by first | assumption | rfl) rfl rfl rfl ?_
      | refine VcL.eqS tabOk rfl rfl rfl rfl rfl rfl (by kernel_rfl) (by kernel_rfl) rfl rfl (by first | exact .inl rfl | exact .inr rfl) ?_)
      | (show VcL _ _ _ _ (⟨_, .index _ _ _, _, _, _, _⟩ :: _) _ _ _; first
      | refine VcL.index tabOk rfl rfl rfl rfl rfl rfl rfl (by omega) (by omega) ?_)
      | (show VcL _ _ _ _ (⟨_, .call ⟨.value (.func F_tithingref01_Upper), _, _⟩, _, _, _, _⟩ :: _) _ _ _; first
      | (refine VcL.callF ok_tithingref01_Upper rfl rfl rfl rfl (Rets.mono (Upper_any H (a[k]'hla)) ?_); rintro _ w ⟨rfl, H⟩))
      | (show VcL _ _ _ _ (⟨_, .call ⟨.value (.func F_tithingref01_Upper), _, _⟩, _, _, _, _⟩ :: _) _ _ _; first
      | (refine VcL.callF ok_tithingref01_Upper rfl rfl rfl rfl (Rets.mono (Upper_any H (b[k]'hlb)) ?_); rintro _ w ⟨rfl, H⟩))
      | (refine VcL.guard rfl rfl rfl rfl (fun h => ?_) (fun h => ?_) <;> first | (cases h; done) | (exfalso; simp only [decide_eq_true_eq, decide_eq_false_iff_not] at h; omega) | (with_reducible have hp := of_decide_eq_true h) | (with_reducible have hp := of_decide_eq_false h) | (with_reducible have hp := ndec_t h) | (with_reducible have hp := ndec_f h) | skip))
      | (show VcD _ _ _ _ _ _ _ _ _; first
      | refine VcD.pures tabOk rfl ?_
      | refine VcD.done ?_
      | (show VcD _ _ _ _ _ (.pure _ _) _ _ _; first
      | refine VcD.index tabOk rfl rfl rfl rfl rfl rfl rfl rfl (by omega) (by omega) ?_
      | (refine VcD.guardP rfl rfl rfl rfl rfl (fun h => ?_) (fun h => ?_) <;> first | (cases h; done) | (exfalso; simp only [decide_eq_true_eq, decide_eq_false_iff_not] at h; omega) | (with_reducible have hp := of_decide_eq_true h) | (with_reducible have hp := of_decide_eq_false h) | (with_reducible have hp := ndec_t h) | (with_reducible have hp := ndec_f h) | skip))
      | (show VcD _ _ _ _ _ (.take _ _) _ _ _; first
      | (refine VcD.guardT rfl rfl rfl rfl rfl (fun h => ?_) (fun h => ?_) <;> first | (cases h; done) | (exfalso; simp only [decide_eq_true_eq, decide_eq_false_iff_not] at h; omega) | (with_reducible have hp := of_decide_eq_true h) | (with_reducible have hp := of_decide_eq_false h) | (with_reducible have hp := ndec_t h) | (with_reducible have hp := ndec_f h) | skip))
      | (show VcD _ _ _ _ _ (.only _ _) _ _ _; first
      | (refine VcD.callF (f := F_tithingref01_Upper) rfl ok_tithingref01_Upper rfl rfl rfl rfl (Rets.mono (Upper_any H (a[k]'hla)) ?_); rintro _ w ⟨rfl, H⟩; refine ⟨(by first | exact H | exact Holds.drop H | exact Holds.drop (Holds.drop H)), ?_⟩)
      | (refine VcD.callF (f := F_tithingref01_Upper) rfl ok_tithingref01_Upper rfl rfl rfl rfl (Rets.mono (Upper_any H (b[k]'hlb)) ?_); rintro _ w ⟨rfl, H⟩; refine ⟨(by first | exact H | exact Holds.drop H | exact Holds.drop (Holds.drop H)), ?_⟩)
      | refine VcD.skip rfl rfl rfl (by first | exact H | exact Holds.drop H | exact Holds.drop (Holds.drop H)) ?_
      | (refine VcD.guardO rfl rfl rfl rfl rfl (fun h => ?_) (fun h => ?_) <;> first | (cases h; done) | (exfalso; simp only [decide_eq_true_eq, decide_eq_false_iff_not] at h; omega) | (with_reducible have hp := of_decide_eq_true h) | (with_reducible have hp := of_decide_eq_false h) | (with_reducible have hp := ndec_t h) | (with_reducible have hp := ndec_f h) | skip))
      | (show VcD _ _ _ _ _ (.two _ _ _ _) _ _ _; refine VcD.two ?_ ?_))
      | (show EfO _ _ _ _ _ _ _ _ _; first
      | (refine EfO.call (f := F_tithingref01_Upper) rfl rfl rfl rfl (OpC.call ok_tithingref01_Upper rfl) (Rets.mono (Upper_any H (a[k]'hla)) ?_); rintro _ w ⟨rfl, H⟩; refine ⟨(by first | exact H | exact Holds.drop H | exact Holds.drop (Holds.drop H)), ?_⟩)
      | (refine EfO.call (f := F_tithingref01_Upper) rfl rfl rfl rfl (OpC.call ok_tithingref01_Upper rfl) (Rets.mono (Upper_any H (b[k]'hlb)) ?_); rintro _ w ⟨rfl, H⟩; refine ⟨(by first | exact H | exact Holds.drop H | exact Holds.drop (Holds.drop H)), ?_⟩))
      | (show Vc _ _ _ _ _ _; first
      | refine Vc.seq ?_
      | refine Vc.region ?_
      | refine Vc.condT rfl ?_
      | refine Vc.condF rfl ?_
      | refine Vc.ret ?_
      | refine Vc.skip ?_
      | refine Vc.block ?_
      | refine Vc.exit ?_
      | refine Vc.drawnH (id := 4) H (.pure 0 (.pure 1 (.pure 4 (.pure 5 (.pure 2 (.pure 6 (.only 3 (.only 7 (.pure 8 (.pure 9 .done)))))))))) mixed (by kernel_rfl) (fun w H => ?_)
      | (refine Vc.cond rfl (fun h => ?_) (fun h => ?_) <;> first | (cases h; done) | (exfalso; simp only [decide_eq_true_eq, decide_eq_false_iff_not] at h; omega) | (with_reducible have hp := of_decide_eq_true h) | (with_reducible have hp := of_decide_eq_false h) | (with_reducible have hp := ndec_t h) | (with_reducible have hp := ndec_f h) | skip))
      | (show KSeq _ _ _ _ _ _ _; first
      | refine KSeq.normal ?_
      | refine KSeq.ret ?_
      | refine KSeq.exit ?_)
      | (show KBlock _ _ _ _ _ _; first
      | refine KBlock.normal ?_
      | refine KBlock.here ?_
      | refine KBlock.on rfl ?_
      | refine KBlock.ret ?_)
      | refine KLoop.exit ?_
      | refine KLoop.ret ?_
      | refine KCut.exit ?_
      | refine KCut.ret ?_
      | (show KEnd _ _ _ _ _ _ _; first
      | refine KEnd.fin (Or.inr rfl) ⟨_, (ResL.tmp rfl ResL.nil), ?_⟩
      | refine KEnd.fin (Or.inl rfl) ⟨_, (ResL.tmp rfl ResL.nil), ?_⟩))
    all_goals first
      | (exfalso; omega)
      | (refine ⟨-1, rfl, ?_, H⟩
         have : eqT a b = false := by rw [← Bool.not_eq_true]; intro he; have := eqT_len he; omega
         rw [this]; rfl)
      | (refine ⟨1, rfl, ?_, H⟩
         have : eqT a b = false := by rw [← Bool.not_eq_true]; intro he; have := eqT_len he; omega
         rw [this]; rfl)
      | (refine ⟨0, rfl, ?_, H⟩
         have hn : a.size = b.size := by omega
         rw [eqT_of hn (by have : k = a.size := by omega
                           rwa [this] at hal)]
         rfl)
theorem EqualR_any (H : Holds I w L) (a b : ByteArray) (ha : a.size ≤ 140737488355328) (hb : b.size ≤ 140737488355328) : Rets Try.prog F_tithingref01_Equal #[.string a, .string b] w fun u w' => u = .bool (eqT a b) ∧ Holds I w' L := by
  refine ok_tithingref01_Equal.rets rfl ?_
  repeat' (first
    | (show VcL _ _ _ _ _ _ _ _; first
      | refine VcL.pures tabOk rfl ?_
      | refine VcL.nil ?_
      | (show VcL _ _ _ _ (⟨_, .binOp _ _ _ _ _, _, _, _, _⟩ :: _) _ _ _; first
      | refine VcL.shl rfl rfl (by first | assumption | rfl) rfl rfl rfl ?_
      | refine VcL.shr rfl rfl (by first | assumption | rfl) rfl rfl rfl ?_
      | refine VcL.eqS tabOk rfl rfl rfl rfl rfl rfl (by kernel_rfl) (by kernel_rfl) rfl rfl (by first | exact .inl rfl | exact .inr rfl) ?_)
      | (show VcL _ _ _ _ (⟨_, .call ⟨.value (.func F_tithingref01_Order), _, _⟩, _, _, _, _⟩ :: _) _ _ _; first
      | (refine VcL.callF ok_tithingref01_Order rfl rfl rfl rfl (Rets.mono (Order_any H a b ha hb) ?_); rintro _ w ⟨r, rfl, hr, H⟩))
      | (refine VcL.guard rfl rfl rfl rfl (fun h => ?_) (fun h => ?_) <;> first | (cases h; done) | (exfalso; simp only [decide_eq_true_eq, decide_eq_false_iff_not] at h; omega) | (with_reducible have hp := of_decide_eq_true h) | (with_reducible have hp := of_decide_eq_false h) | (with_reducible have hp := ndec_t h) | (with_reducible have hp := ndec_f h) | skip))
    | (show Vc _ _ _ _ _ _; first
      | refine Vc.seq ?_
      | refine Vc.region ?_
      | refine Vc.condT rfl ?_
      | refine Vc.condF rfl ?_
      | refine Vc.ret ?_
      | refine Vc.skip ?_
      | refine Vc.block ?_
      | refine Vc.exit ?_
      | (refine Vc.cond rfl (fun h => ?_) (fun h => ?_) <;> first | (cases h; done) | (exfalso; simp only [decide_eq_true_eq, decide_eq_false_iff_not] at h; omega) | (with_reducible have hp := of_decide_eq_true h) | (with_reducible have hp := of_decide_eq_false h) | (with_reducible have hp := ndec_t h) | (with_reducible have hp := ndec_f h) | skip))
    | (show KSeq _ _ _ _ _ _ _; first
      | refine KSeq.normal ?_
      | refine KSeq.ret ?_
      | refine KSeq.exit ?_)
    | (show KBlock _ _ _ _ _ _; first
      | refine KBlock.normal ?_
      | refine KBlock.here ?_
      | refine KBlock.on rfl ?_
      | refine KBlock.ret ?_)
    | refine KLoop.exit ?_
    | refine KLoop.ret ?_
    | refine KCut.exit ?_
    | refine KCut.ret ?_
    | (show KEnd _ _ _ _ _ _ _; first
      | refine KEnd.fin (Or.inr rfl) ⟨_, (ResL.tmp rfl ResL.nil), ?_⟩
      | refine KEnd.fin (Or.inl rfl) ⟨_, (ResL.tmp rfl ResL.nil), ?_⟩))
  exact ⟨by rw [← hr]; rfl, H⟩
end Go.Proofs.Ytkmbcjpedmlhfaa.V
