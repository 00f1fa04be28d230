/- Nil disks and stores, and such that are zero values. -/
import Derived.Test.YtoahfjfknljacaaVCC
namespace Go.Proofs.Ytoahfjfknljacaa.V
open Go Go.Proofs.YtoahfjfknljacaaV
set_option linter.unusedVariables false
set_option linter.unusedSimpArgs false
set_option maxHeartbeats 1000000
set_option maxRecDepth 4000
attribute [local irreducible] IntKind.wrap
variable {I : Imm} {w : World} {L : List Asn}
structure NoD (I : Imm) (L : List Asn) (x : Value) : Prop where mk ::
  out : ∀ {w : World} (A : List Asn), Holds I w (A ++ L) → Rets Try.prog F_journal_Disk_none #[x] w fun u w' => u = .bool true ∧ Holds I w' (A ++ L)
structure NoS (I : Imm) (L : List Asn) (x : Value) : Prop where mk ::
  out : ∀ {w : World} (A : List Asn), Holds I w (A ++ L) → Rets Try.prog F_journal_Store_none #[x] w fun u w' => u = .bool true ∧ Holds I w' (A ++ L)
theorem NoD.nil : NoD I L (.pointer none) := ⟨fun A H => noneNil_any H⟩
theorem NoS.nil : NoS I L (.pointer none) := ⟨fun A H => noneSNil_any H⟩
theorem NoD.zero {d : Nat} {x y z : Value} (h : RdW I L d 0 [.slice none 0 0, x, y, z]) : NoD I L (ptr d) := ⟨fun A H => noneD0_any H (h.ups A)⟩
theorem NoS.zero {d : Nat} {h : Int} {dead : Bool} (hd : RdW I L d 0 [.pointer none, .int .i64 h, .bool dead]) : NoS I L (ptr d) := ⟨fun A H => noneS0_any H (hd.ups A)⟩
theorem NoD.go {x : Value} (h : NoD I L x) (H : Holds I w L) : Rets Try.prog F_journal_Disk_none #[x] w fun u w' => u = .bool true ∧ Holds I w' L := h.out [] H
theorem NoS.go {x : Value} (h : NoS I L x) (H : Holds I w L) : Rets Try.prog F_journal_Store_none #[x] w fun u w' => u = .bool true ∧ Holds I w' L := h.out [] H
theorem NoD.up {x : Value} {a : Asn} (h : NoD I L x) : NoD I (a :: L) x := ⟨fun A H => by rw [List.append_cons] at H ⊢; exact h.out _ H⟩
theorem NoS.up {x : Value} {a : Asn} (h : NoS I L x) : NoS I (a :: L) x := ⟨fun A H => by rw [List.append_cons] at H ⊢; exact h.out _ H⟩
theorem ReadN_any (H : Holds I w L) {x : Value} (hN : NoD I L x) (k : Int) : Rets Try.prog F_journal_Disk_Read #[x, .int .i64 k] w fun u w' => u = .tuple #[.slice none 0 0, .int .i64 7] ∧ Holds I w' L := by
  refine ok_journal_Disk_Read.rets rfl ?_
  repeat' (first
    | (show VcL _ _ _ _ _ _ _ _; first
      | refine VcL.pures tabOk rfl ?_
      | refine VcL.nil ?_
      | refine VcL.box H rfl rfl rfl rfl rfl (fun b w H => ?_)
      | refine VcL.alloc tabOk H rfl rfl rfl rfl (fun b w H => ?_)
      | (show VcL _ _ _ _ (⟨_, .store _ _ _, _, _, _, _⟩ :: _) _ _ _; refine VcL.store tabOk rfl (by exact (Holds.f1 H)) rfl rfl (by exact rfl) (by exact rfl) (by exact rfl) (by exact rfl) (fun w H => ?_))
      | (show VcL _ _ _ _ (⟨_, .call ⟨.value (.func F_journal_Disk_none), _, _⟩, _, _, _, _⟩ :: _) _ _ _; (refine VcL.callF ok_journal_Disk_none rfl rfl rfl rfl (Rets.mono (hN.up.up.up.go H) ?_); rintro _ w ⟨rfl, H⟩)))
    | (show Vc _ _ _ _ _ _; first
      | refine Vc.seq ?_
      | refine Vc.region ?_
      | refine Vc.condT rfl ?_
      | refine Vc.ret ?_
      | refine Vc.block ?_)
    | (show KSeq _ _ _ _ _ _ _; first
      | refine KSeq.normal ?_
      | refine KSeq.ret ?_)
    | (show KBlock _ _ _ _ _ _; refine KBlock.ret ?_)
    | (show KEnd _ _ _ _ _ _ _; refine KEnd.fin (Or.inr rfl) ⟨_, (ResL.cell rfl (LoadV.one tabOk rfl (by exact Holds.cell (Holds.f1 H) rfl)) (ResL.cell rfl (LoadV.one tabOk rfl (by exact Holds.cell H rfl)) ResL.nil)), ?_⟩))
  all_goals exact ⟨rfl, by first | exact H | exact H.drop.drop.drop⟩
theorem OpenN_any (H : Holds I w L) {x : Value} (hN : NoD I L x) (k : Int) : Rets Try.prog F_journal_Open #[x, .int .i64 k] w fun u w' => u = .tuple #[.pointer none, .int .i64 7] ∧ Holds I w' L := by
  refine ok_journal_Open.rets rfl ?_
  repeat' (first
    | (show VcL _ _ _ _ _ _ _ _; first
      | refine VcL.pures tabOk rfl ?_
      | refine VcL.nil ?_
      | (show VcL _ _ _ _ (⟨_, .call ⟨.value (.func F_journal_Disk_none), _, _⟩, _, _, _, _⟩ :: _) _ _ _; (refine VcL.callF ok_journal_Disk_none rfl rfl rfl rfl (Rets.mono (hN.go H) ?_); rintro _ w ⟨rfl, H⟩)))
    | (show Vc _ _ _ _ _ _; first
      | refine Vc.seq ?_
      | refine Vc.region ?_
      | refine Vc.condT rfl ?_
      | refine Vc.ret ?_
      | refine Vc.block ?_)
    | (show KSeq _ _ _ _ _ _ _; first
      | refine KSeq.normal ?_
      | refine KSeq.ret ?_)
    | (show KBlock _ _ _ _ _ _; refine KBlock.ret ?_)
    | (show KEnd _ _ _ _ _ _ _; refine KEnd.fin (Or.inr rfl) ⟨_, (ResL.tmp rfl (ResL.tmp rfl ResL.nil)), ?_⟩))
  all_goals exact ⟨rfl, by first | exact H | exact H.drop.drop.drop⟩
theorem WriteN_any (H : Holds I w L) {x v : Value} (hN : NoD I L x) (k : Int) : Rets Try.prog F_journal_Disk_Write #[x, .int .i64 k, v] w fun u w' => u = .int .i64 7 ∧ Holds I w' L := by
  refine ok_journal_Disk_Write.rets rfl ?_
  repeat' (first
    | (show VcL _ _ _ _ _ _ _ _; first
      | refine VcL.pures tabOk rfl ?_
      | refine VcL.nil ?_
      | (show VcL _ _ _ _ (⟨_, .call ⟨.value (.func F_journal_Disk_none), _, _⟩, _, _, _, _⟩ :: _) _ _ _; (refine VcL.callF ok_journal_Disk_none rfl rfl rfl rfl (Rets.mono (hN.go H) ?_); rintro _ w ⟨rfl, H⟩)))
    | (show Vc _ _ _ _ _ _; first
      | refine Vc.seq ?_
      | refine Vc.region ?_
      | refine Vc.condT rfl ?_
      | refine Vc.ret ?_
      | refine Vc.block ?_)
    | (show KSeq _ _ _ _ _ _ _; first
      | refine KSeq.normal ?_
      | refine KSeq.ret ?_)
    | (show KBlock _ _ _ _ _ _; refine KBlock.ret ?_)
    | (show KEnd _ _ _ _ _ _ _; refine KEnd.fin (Or.inr rfl) ⟨_, (ResL.tmp rfl ResL.nil), ?_⟩))
  all_goals exact ⟨rfl, by first | exact H | exact H.drop.drop.drop⟩
theorem FlushN_any (H : Holds I w L) {x : Value} (hN : NoD I L x) : Rets Try.prog F_journal_Disk_Flush #[x] w fun u w' => u = .int .i64 7 ∧ Holds I w' L := by
  refine ok_journal_Disk_Flush.rets rfl ?_
  repeat' (first
    | (show VcL _ _ _ _ _ _ _ _; first
      | refine VcL.pures tabOk rfl ?_
      | refine VcL.nil ?_
      | (show VcL _ _ _ _ (⟨_, .call ⟨.value (.func F_journal_Disk_none), _, _⟩, _, _, _, _⟩ :: _) _ _ _; (refine VcL.callF ok_journal_Disk_none rfl rfl rfl rfl (Rets.mono (hN.go H) ?_); rintro _ w ⟨rfl, H⟩)))
    | (show Vc _ _ _ _ _ _; first
      | refine Vc.seq ?_
      | refine Vc.region ?_
      | refine Vc.condT rfl ?_
      | refine Vc.ret ?_
      | refine Vc.block ?_)
    | (show KSeq _ _ _ _ _ _ _; first
      | refine KSeq.normal ?_
      | refine KSeq.ret ?_)
    | (show KBlock _ _ _ _ _ _; refine KBlock.ret ?_)
    | (show KEnd _ _ _ _ _ _ _; refine KEnd.fin (Or.inr rfl) ⟨_, (ResL.tmp rfl ResL.nil), ?_⟩))
  all_goals exact ⟨rfl, by first | exact H | exact H.drop.drop.drop⟩
theorem CrashN_any (H : Holds I w L) {x v : Value} (hN : NoD I L x) (k : Int) : Rets Try.prog F_journal_Disk_Crash #[x, v, .int .i64 k] w fun u w' => u = .int .i64 7 ∧ Holds I w' L := by
  refine ok_journal_Disk_Crash.rets rfl ?_
  repeat' (first
    | (show VcL _ _ _ _ _ _ _ _; first
      | refine VcL.pures tabOk rfl ?_
      | refine VcL.nil ?_
      | (show VcL _ _ _ _ (⟨_, .call ⟨.value (.func F_journal_Disk_none), _, _⟩, _, _, _, _⟩ :: _) _ _ _; (refine VcL.callF ok_journal_Disk_none rfl rfl rfl rfl (Rets.mono (hN.go H) ?_); rintro _ w ⟨rfl, H⟩)))
    | (show Vc _ _ _ _ _ _; first
      | refine Vc.seq ?_
      | refine Vc.region ?_
      | refine Vc.condT rfl ?_
      | refine Vc.ret ?_
      | refine Vc.block ?_)
    | (show KSeq _ _ _ _ _ _ _; first
      | refine KSeq.normal ?_
      | refine KSeq.ret ?_)
    | (show KBlock _ _ _ _ _ _; refine KBlock.ret ?_)
    | (show KEnd _ _ _ _ _ _ _; refine KEnd.fin (Or.inr rfl) ⟨_, (ResL.tmp rfl ResL.nil), ?_⟩))
  all_goals exact ⟨rfl, by first | exact H | exact H.drop.drop.drop⟩
theorem StopN_any (H : Holds I w L) {x : Value} (hN : NoD I L x) (k : Int) : Rets Try.prog F_journal_Disk_Stop #[x, .int .i64 k] w fun u w' => u = .int .i64 7 ∧ Holds I w' L := by
  refine ok_journal_Disk_Stop.rets rfl ?_
  repeat' (first
    | (show VcL _ _ _ _ _ _ _ _; first
      | refine VcL.pures tabOk rfl ?_
      | refine VcL.nil ?_
      | (show VcL _ _ _ _ (⟨_, .call ⟨.value (.func F_journal_Disk_none), _, _⟩, _, _, _, _⟩ :: _) _ _ _; (refine VcL.callF ok_journal_Disk_none rfl rfl rfl rfl (Rets.mono (hN.go H) ?_); rintro _ w ⟨rfl, H⟩)))
    | (show Vc _ _ _ _ _ _; first
      | refine Vc.seq ?_
      | refine Vc.region ?_
      | refine Vc.condT rfl ?_
      | refine Vc.ret ?_)
    | (show KSeq _ _ _ _ _ _ _; first
      | refine KSeq.normal ?_
      | refine KSeq.ret ?_)
    | (show KEnd _ _ _ _ _ _ _; refine KEnd.fin (Or.inr rfl) ⟨_, (ResL.tmp rfl ResL.nil), ?_⟩))
  all_goals exact ⟨rfl, by first | exact H | exact H.drop.drop.drop⟩
theorem WaitingN_any (H : Holds I w L) {x : Value} (hN : NoD I L x) : Rets Try.prog F_journal_Disk_Waiting #[x] w fun u w' => u = .int .i64 0 ∧ Holds I w' L := by
  refine ok_journal_Disk_Waiting.rets rfl ?_
  repeat' (first
    | (show VcL _ _ _ _ _ _ _ _; first
      | refine VcL.pures tabOk rfl ?_
      | refine VcL.nil ?_
      | (show VcL _ _ _ _ (⟨_, .call ⟨.value (.func F_journal_Disk_none), _, _⟩, _, _, _, _⟩ :: _) _ _ _; (refine VcL.callF ok_journal_Disk_none rfl rfl rfl rfl (Rets.mono (hN.go H) ?_); rintro _ w ⟨rfl, H⟩)))
    | (show Vc _ _ _ _ _ _; first
      | refine Vc.seq ?_
      | refine Vc.region ?_
      | refine Vc.condT rfl ?_
      | refine Vc.ret ?_)
    | (show KSeq _ _ _ _ _ _ _; first
      | refine KSeq.normal ?_
      | refine KSeq.ret ?_)
    | (show KEnd _ _ _ _ _ _ _; refine KEnd.fin (Or.inr rfl) ⟨_, (ResL.tmp rfl ResL.nil), ?_⟩))
  all_goals exact ⟨rfl, by first | exact H | exact H.drop.drop.drop⟩
theorem WritesN_any (H : Holds I w L) {x : Value} (hN : NoD I L x) : Rets Try.prog F_journal_Disk_Writes #[x] w fun u w' => u = .int .i64 0 ∧ Holds I w' L := by
  refine ok_journal_Disk_Writes.rets rfl ?_
  repeat' (first
    | (show VcL _ _ _ _ _ _ _ _; first
      | refine VcL.pures tabOk rfl ?_
      | refine VcL.nil ?_
      | (show VcL _ _ _ _ (⟨_, .call ⟨.value (.func F_journal_Disk_none), _, _⟩, _, _, _, _⟩ :: _) _ _ _; (refine VcL.callF ok_journal_Disk_none rfl rfl rfl rfl (Rets.mono (hN.go H) ?_); rintro _ w ⟨rfl, H⟩)))
    | (show Vc _ _ _ _ _ _; first
      | refine Vc.seq ?_
      | refine Vc.region ?_
      | refine Vc.condT rfl ?_
      | refine Vc.ret ?_)
    | (show KSeq _ _ _ _ _ _ _; first
      | refine KSeq.normal ?_
      | refine KSeq.ret ?_)
    | (show KEnd _ _ _ _ _ _ _; refine KEnd.fin (Or.inr rfl) ⟨_, (ResL.tmp rfl ResL.nil), ?_⟩))
  all_goals exact ⟨rfl, by first | exact H | exact H.drop.drop.drop⟩
theorem BlocksN_any (H : Holds I w L) {x : Value} (hN : NoD I L x) : Rets Try.prog F_journal_Disk_Blocks #[x] w fun u w' => u = .int .i64 0 ∧ Holds I w' L := by
  refine ok_journal_Disk_Blocks.rets rfl ?_
  repeat' (first
    | (show VcL _ _ _ _ _ _ _ _; first
      | refine VcL.pures tabOk rfl ?_
      | refine VcL.nil ?_
      | (show VcL _ _ _ _ (⟨_, .call ⟨.value (.func F_journal_Disk_none), _, _⟩, _, _, _, _⟩ :: _) _ _ _; (refine VcL.callF ok_journal_Disk_none rfl rfl rfl rfl (Rets.mono (hN.go H) ?_); rintro _ w ⟨rfl, H⟩)))
    | (show Vc _ _ _ _ _ _; first
      | refine Vc.seq ?_
      | refine Vc.region ?_
      | refine Vc.condT rfl ?_
      | refine Vc.ret ?_)
    | (show KSeq _ _ _ _ _ _ _; first
      | refine KSeq.normal ?_
      | refine KSeq.ret ?_)
    | (show KEnd _ _ _ _ _ _ _; refine KEnd.fin (Or.inr rfl) ⟨_, (ResL.tmp rfl ResL.nil), ?_⟩))
  all_goals exact ⟨rfl, by first | exact H | exact H.drop.drop.drop⟩
theorem CopyN_any (H : Holds I w L) {x : Value} (hN : NoD I L x) : Rets Try.prog F_journal_Disk_Copy #[x] w fun u w' => u = .pointer none ∧ Holds I w' L := by
  refine ok_journal_Disk_Copy.rets rfl ?_
  repeat' (first
    | (show VcL _ _ _ _ _ _ _ _; first
      | refine VcL.pures tabOk rfl ?_
      | refine VcL.nil ?_
      | (show VcL _ _ _ _ (⟨_, .call ⟨.value (.func F_journal_Disk_none), _, _⟩, _, _, _, _⟩ :: _) _ _ _; (refine VcL.callF ok_journal_Disk_none rfl rfl rfl rfl (Rets.mono (hN.go H) ?_); rintro _ w ⟨rfl, H⟩)))
    | (show Vc _ _ _ _ _ _; first
      | refine Vc.seq ?_
      | refine Vc.region ?_
      | refine Vc.condT rfl ?_
      | refine Vc.ret ?_)
    | (show KSeq _ _ _ _ _ _ _; first
      | refine KSeq.normal ?_
      | refine KSeq.ret ?_)
    | (show KEnd _ _ _ _ _ _ _; refine KEnd.fin (Or.inr rfl) ⟨_, (ResL.tmp rfl ResL.nil), ?_⟩))
  all_goals exact ⟨rfl, by first | exact H | exact H.drop.drop.drop⟩
theorem SameDiskN_any (H : Holds I w L) {x y : Value} (hx : NoD I L x) (hy : NoD I L y) : Rets Try.prog F_journal_SameDisk #[x, y] w fun u w' => u = .bool true ∧ Holds I w' L := by
  refine ok_journal_SameDisk.rets rfl ?_
  repeat' (first
    | (show VcL _ _ _ _ _ _ _ _; first
      | refine VcL.pures tabOk rfl ?_
      | refine VcL.nil ?_
      | (show VcL _ _ _ _ (⟨_, .call ⟨.value (.func F_journal_Disk_none), _, _⟩, _, _, _, _⟩ :: _) _ _ _; (refine VcL.callF ok_journal_Disk_none rfl rfl rfl rfl (Rets.mono (hy.out [] H) ?_); rintro _ w ⟨rfl, H⟩))
      | (show VcL _ _ _ _ (⟨_, .call ⟨.value (.func F_journal_Disk_none), _, _⟩, _, _, _, _⟩ :: _) _ _ _; (refine VcL.callF ok_journal_Disk_none rfl rfl rfl rfl (Rets.mono (hx.go H) ?_); rintro _ w ⟨rfl, H⟩))
      | (refine VcL.guard rfl rfl rfl rfl (fun h => ?_) (fun h => ?_) <;> first | (cases h; done) | skip))
    | (show Vc _ _ _ _ _ _; first
      | refine Vc.seq ?_
      | refine Vc.region ?_
      | refine Vc.condT rfl ?_
      | refine Vc.ret ?_)
    | (show KSeq _ _ _ _ _ _ _; first
      | refine KSeq.normal ?_
      | refine KSeq.ret ?_)
    | (show KEnd _ _ _ _ _ _ _; refine KEnd.fin (Or.inr rfl) ⟨_, (ResL.tmp rfl ResL.nil), ?_⟩))
  all_goals exact ⟨rfl, by first | exact H | exact H.drop.drop.drop⟩
theorem SReadN_any (H : Holds I w L) {x : Value} (hN : NoS I L x) (k : Int) : Rets Try.prog F_journal_Store_Read #[x, .int .i64 k] w fun u w' => u = .tuple #[.slice none 0 0, .int .i64 7] ∧ Holds I w' L := by
  refine ok_journal_Store_Read.rets rfl ?_
  repeat' (first
    | (show VcL _ _ _ _ _ _ _ _; first
      | refine VcL.pures tabOk rfl ?_
      | refine VcL.nil ?_
      | (show VcL _ _ _ _ (⟨_, .call ⟨.value (.func F_journal_Store_none), _, _⟩, _, _, _, _⟩ :: _) _ _ _; (refine VcL.callF ok_journal_Store_none rfl rfl rfl rfl (Rets.mono (hN.go H) ?_); rintro _ w ⟨rfl, H⟩)))
    | (show Vc _ _ _ _ _ _; first
      | refine Vc.seq ?_
      | refine Vc.region ?_
      | refine Vc.condT rfl ?_
      | refine Vc.ret ?_
      | refine Vc.block ?_)
    | (show KSeq _ _ _ _ _ _ _; first
      | refine KSeq.normal ?_
      | refine KSeq.ret ?_)
    | (show KBlock _ _ _ _ _ _; refine KBlock.ret ?_)
    | (show KEnd _ _ _ _ _ _ _; refine KEnd.fin (Or.inr rfl) ⟨_, (ResL.tmp rfl (ResL.tmp rfl ResL.nil)), ?_⟩))
  all_goals exact ⟨rfl, by first | exact H | exact H.drop.drop.drop⟩
theorem CommitN_any (H : Holds I w L) {x v : Value} (hN : NoS I L x) : Rets Try.prog F_journal_Store_Commit #[x, v] w fun u w' => u = .int .i64 7 ∧ Holds I w' L := by
  refine ok_journal_Store_Commit.rets rfl ?_
  repeat' (first
    | (show VcL _ _ _ _ _ _ _ _; first
      | refine VcL.pures tabOk rfl ?_
      | refine VcL.nil ?_
      | (show VcL _ _ _ _ (⟨_, .call ⟨.value (.func F_journal_Store_none), _, _⟩, _, _, _, _⟩ :: _) _ _ _; (refine VcL.callF ok_journal_Store_none rfl rfl rfl rfl (Rets.mono (hN.go H) ?_); rintro _ w ⟨rfl, H⟩)))
    | (show Vc _ _ _ _ _ _; first
      | refine Vc.seq ?_
      | refine Vc.region ?_
      | refine Vc.condT rfl ?_
      | refine Vc.ret ?_
      | refine Vc.block ?_)
    | (show KSeq _ _ _ _ _ _ _; first
      | refine KSeq.normal ?_
      | refine KSeq.ret ?_)
    | (show KBlock _ _ _ _ _ _; refine KBlock.ret ?_)
    | (show KEnd _ _ _ _ _ _ _; refine KEnd.fin (Or.inr rfl) ⟨_, (ResL.tmp rfl ResL.nil), ?_⟩))
  all_goals exact ⟨rfl, by first | exact H | exact H.drop.drop.drop⟩
theorem DiskN_any (H : Holds I w L) {x : Value} (hN : NoS I L x) : Rets Try.prog F_journal_Store_Disk #[x] w fun u w' => u = .pointer none ∧ Holds I w' L := by
  refine ok_journal_Store_Disk.rets rfl ?_
  repeat' (first
    | (show VcL _ _ _ _ _ _ _ _; first
      | refine VcL.pures tabOk rfl ?_
      | refine VcL.nil ?_
      | (show VcL _ _ _ _ (⟨_, .call ⟨.value (.func F_journal_Store_none), _, _⟩, _, _, _, _⟩ :: _) _ _ _; (refine VcL.callF ok_journal_Store_none rfl rfl rfl rfl (Rets.mono (hN.go H) ?_); rintro _ w ⟨rfl, H⟩)))
    | (show Vc _ _ _ _ _ _; first
      | refine Vc.seq ?_
      | refine Vc.region ?_
      | refine Vc.condT rfl ?_
      | refine Vc.ret ?_)
    | (show KSeq _ _ _ _ _ _ _; first
      | refine KSeq.normal ?_
      | refine KSeq.ret ?_)
    | (show KEnd _ _ _ _ _ _ _; refine KEnd.fin (Or.inr rfl) ⟨_, (ResL.tmp rfl ResL.nil), ?_⟩))
  all_goals exact ⟨rfl, by first | exact H | exact H.drop.drop.drop⟩
theorem HomeN_any (H : Holds I w L) {x : Value} (hN : NoS I L x) : Rets Try.prog F_journal_Store_Home #[x] w fun u w' => u = .int .i64 0 ∧ Holds I w' L := by
  refine ok_journal_Store_Home.rets rfl ?_
  repeat' (first
    | (show VcL _ _ _ _ _ _ _ _; first
      | refine VcL.pures tabOk rfl ?_
      | refine VcL.nil ?_
      | (show VcL _ _ _ _ (⟨_, .call ⟨.value (.func F_journal_Store_none), _, _⟩, _, _, _, _⟩ :: _) _ _ _; (refine VcL.callF ok_journal_Store_none rfl rfl rfl rfl (Rets.mono (hN.go H) ?_); rintro _ w ⟨rfl, H⟩)))
    | (show Vc _ _ _ _ _ _; first
      | refine Vc.seq ?_
      | refine Vc.region ?_
      | refine Vc.condT rfl ?_
      | refine Vc.ret ?_)
    | (show KSeq _ _ _ _ _ _ _; first
      | refine KSeq.normal ?_
      | refine KSeq.ret ?_)
    | (show KEnd _ _ _ _ _ _ _; refine KEnd.fin (Or.inr rfl) ⟨_, (ResL.tmp rfl ResL.nil), ?_⟩))
  all_goals exact ⟨rfl, by first | exact H | exact H.drop.drop.drop⟩
end Go.Proofs.Ytoahfjfknljacaa.V
