/- The law about nils. -/
import Derived.Test.YtoahfjfknljacaaVKK
namespace Go.Proofs.Ytoahfjfknljacaa.V
open Go Go.Proofs.YtoahfjfknljacaaV
set_option linter.unusedVariables false
set_option linter.unusedSimpArgs false
set_option maxHeartbeats 1000000
set_option maxRecDepth 4000
attribute [local irreducible] IntKind.wrap
variable {I : Imm} {w : World} {L : List Asn}
def v1 (x : Value) : List Value := [x]
theorem v1_len (x : Value) : (v1 x).length = 1 := rfl
theorem JournalNils_any (H : Holds I w L) {n : Int} {v : Value} {l : List Bool} (hv : SlI I v 1 l.length (l.flatMap boC)) (hl : l.length ≤ 140737488355328) :
    Rets Try.prog F_tithinglaw16_JournalNils #[.int .i64 n, v] w fun u w' => u = .bool true ∧ Holds I w' L := by
  obtain ⟨A, cap, rfl, hcap⟩ := hv.form
  by_cases hbig : 300 < l.length
  ·
    refine ok_tithinglaw16_JournalNils.rets rfl ?_
    repeat' (first
      | (show VcL _ _ _ _ _ _ _ _; first
      | refine VcL.pures tabOk rfl ?_
      | refine VcL.nil ?_
      | (show VcL _ _ _ _ (⟨_, .call ⟨.value (.func F_tithinglaw16_Awake), _, _⟩, _, _, _, _⟩ :: _) _ _ _; (refine VcL.callF ok_tithinglaw16_Awake rfl rfl rfl rfl (Rets.mono (Awake_any H) ?_); rintro _ w ⟨rfl, H⟩)))
      | (show Vc _ _ _ _ _ _; first
      | refine Vc.seq ?_
      | refine Vc.region ?_
      | refine Vc.ret ?_
      | (refine Vc.cond rfl (fun h => ?_) (fun h => ?_) <;> first | (exfalso; simp only [decide_eq_true_eq, decide_eq_false_iff_not, Bool.not_eq_true', Bool.not_eq_false'] at h; omega) | (with_reducible have hp := of_decide_eq_true h)))
      | (show KSeq _ _ _ _ _ _ _; first
      | refine KSeq.normal ?_
      | refine KSeq.ret ?_)
      | (show KEnd _ _ _ _ _ _ _; refine KEnd.fin (Or.inr rfl) ⟨_, (ResL.tmp rfl ResL.nil), ?_⟩))
    exact ⟨rfl, H⟩
  ·
    refine ok_tithinglaw16_JournalNils.rets rfl ?_
    repeat' (first
      | (show VcL _ _ _ _ _ _ _ _; first
      | refine VcL.pures tabOk rfl ?_
      | refine VcL.nil ?_
      | refine VcL.box H rfl rfl rfl rfl rfl (fun b w H => ?_)
      | refine VcL.buildSlice tabOk H rfl rfl rfl rfl rfl rfl (fun sv w H => ?_))
      | (show Vc _ _ _ _ _ _; first
      | refine Vc.seq ?_
      | refine Vc.region ?_
      | refine Vc.skip ?_
      | refine Vc.block ?_
      | (refine Vc.cond rfl (fun h => ?_) (fun h => ?_) <;> first | (exfalso; simp only [decide_eq_true_eq, decide_eq_false_iff_not, Bool.not_eq_true', Bool.not_eq_false'] at h; omega) | (with_reducible have hp := of_decide_eq_false h)))
      | (show KSeq _ _ _ _ _ _ _; refine KSeq.normal ?_))
    obtain ⟨d, rfl⟩ : ∃ d, d = b := ⟨b, rfl⟩
    obtain ⟨xs, hxs⟩ : ∃ xs : List Value, [.pointer none, ptr d] = xs := ⟨_, rfl⟩
    have hxl : xs.length = 2 := by rw [← hxs]; rfl
    have H : Holds I w (own sv 24 1 2 (xs.flatMap v1) :: blk d 76 [.slice none 0 0, .slice none 0 0, .int .i64 0, .int .i64 0] :: L) := by rw [← hxs]; exact H
    obtain ⟨b1, o1, cap1, rfl, hcap1⟩ := Holds.own_some (by omega) H
    have hNo : ∀ k, k < 2 → NoD I (own (.slice (some ⟨b1, o1, none⟩) 2 cap1) 24 1 2 (xs.flatMap v1) :: blk d 76 [.slice none 0 0, .slice none 0 0, .int .i64 0, .int .i64 0] :: L) (atD xs k) := fun k hk => by
      rw [← hxs]
      match k, hk with
      | 0, _ => exact NoD.nil
      | 1, _ => exact NoD.up (NoD.zero Holds.toW)
    refine Vc.loopS [(0, _), (1, _), (5, _)] (fun k : Nat => [(6, .int .i64 k)]) (fun k w => k ≤ 2 ∧ Holds I w (own (.slice (some ⟨b1, o1, none⟩) 2 cap1) 24 1 2 (xs.flatMap v1) :: blk d 76 [.slice none 0 0, .slice none 0 0, .int .i64 0, .int .i64 0] :: L)) (fun k _ => 2 - k) 0 ⟨rfl, trivial⟩ ⟨rfl, rfl, rfl, trivial⟩ ⟨Nat.zero_le _, H⟩ ?_
    clear H
    rintro k w ⟨hk, H⟩
    by_cases hlt : k < 2
    · have hN := hNo k hlt
      have hz : xs[k]? = some (atD xs k) := atD_get (by omega)
      obtain ⟨x, hx⟩ : ∃ x, atD xs k = x := ⟨_, rfl⟩
      rw [hx] at hN hz
      repeat' (first
        | (show VcL _ _ _ _ _ _ _ _; first
      | refine VcL.pures tabOk rfl ?_
      | refine VcL.nil ?_
      | (show VcL _ _ _ _ (⟨_, .load _ _, _, _, _, _⟩ :: _) _ _ _; refine VcL.load1 tabOk rfl rfl rfl rfl rfl (by exact Holds.ownCell0 H (fun _ => rfl) (by assumption) rfl) ?_)
      | (show VcL _ _ _ _ (⟨_, .indexAddr _ _ _, _, _, _, _⟩ :: _) _ _ _; refine VcL.indexAddr tabOk rfl rfl rfl rfl rfl rfl (by omega) (by omega) ?_)
      | (show VcL _ _ _ _ (⟨_, .call ⟨.value (.func F_journal_Disk_Read), _, _⟩, _, _, _, _⟩ :: _) _ _ _; (refine VcL.callF ok_journal_Disk_Read rfl rfl rfl rfl (Rets.mono (ReadN_any H hN n) ?_); rintro _ w ⟨rfl, H⟩))
      | (show VcL _ _ _ _ (⟨_, .call ⟨.value (.func F_journal_Open), _, _⟩, _, _, _, _⟩ :: _) _ _ _; (refine VcL.callF ok_journal_Open rfl rfl rfl rfl (Rets.mono (OpenN_any H hN n) ?_); rintro _ w ⟨rfl, H⟩))
      | (show VcL _ _ _ _ (⟨_, .call ⟨.value (.func F_tithinglaw16_Full), _, _⟩, _, _, _, _⟩ :: _) _ _ _; (refine VcL.callF ok_tithinglaw16_Full rfl rfl rfl rfl (Rets.mono (Full_any H 1) ?_); rintro _ w H; have H := Holds.drop H))
      | (show VcL _ _ _ _ (⟨_, .call ⟨.value (.func F_journal_Disk_Write), _, _⟩, _, _, _, _⟩ :: _) _ _ _; (refine VcL.callF ok_journal_Disk_Write rfl rfl rfl rfl (Rets.mono (WriteN_any H hN n) ?_); rintro _ w ⟨rfl, H⟩))
      | (show VcL _ _ _ _ (⟨_, .call ⟨.value (.func F_journal_Disk_Flush), _, _⟩, _, _, _, _⟩ :: _) _ _ _; (refine VcL.callF ok_journal_Disk_Flush rfl rfl rfl rfl (Rets.mono (FlushN_any H hN) ?_); rintro _ w ⟨rfl, H⟩))
      | (show VcL _ _ _ _ (⟨_, .call ⟨.value (.func F_journal_Disk_Crash), _, _⟩, _, _, _, _⟩ :: _) _ _ _; (refine VcL.callF ok_journal_Disk_Crash rfl rfl rfl rfl (Rets.mono (CrashN_any H hN n) ?_); rintro _ w ⟨rfl, H⟩))
      | (show VcL _ _ _ _ (⟨_, .call ⟨.value (.func F_journal_Disk_Stop), _, _⟩, _, _, _, _⟩ :: _) _ _ _; (refine VcL.callF ok_journal_Disk_Stop rfl rfl rfl rfl (Rets.mono (StopN_any H hN n) ?_); rintro _ w ⟨rfl, H⟩))
      | (show VcL _ _ _ _ (⟨_, .call ⟨.value (.func F_journal_Disk_Waiting), _, _⟩, _, _, _, _⟩ :: _) _ _ _; (refine VcL.callF ok_journal_Disk_Waiting rfl rfl rfl rfl (Rets.mono (WaitingN_any H hN) ?_); rintro _ w ⟨rfl, H⟩))
      | (show VcL _ _ _ _ (⟨_, .call ⟨.value (.func F_journal_Disk_Writes), _, _⟩, _, _, _, _⟩ :: _) _ _ _; (refine VcL.callF ok_journal_Disk_Writes rfl rfl rfl rfl (Rets.mono (WritesN_any H hN) ?_); rintro _ w ⟨rfl, H⟩))
      | (show VcL _ _ _ _ (⟨_, .call ⟨.value (.func F_journal_Disk_Blocks), _, _⟩, _, _, _, _⟩ :: _) _ _ _; (refine VcL.callF ok_journal_Disk_Blocks rfl rfl rfl rfl (Rets.mono (BlocksN_any H hN) ?_); rintro _ w ⟨rfl, H⟩))
      | (show VcL _ _ _ _ (⟨_, .call ⟨.value (.func F_journal_Disk_Copy), _, _⟩, _, _, _, _⟩ :: _) _ _ _; (refine VcL.callF ok_journal_Disk_Copy rfl rfl rfl rfl (Rets.mono (CopyN_any H hN) ?_); rintro _ w ⟨rfl, H⟩))
      | (refine VcL.guard rfl rfl rfl rfl (fun h => ?_) (fun h => ?_) <;> first | (cases h; done) | (with_reducible have hp := ndec_f h) | skip))
        | (show Vc _ _ _ _ _ _; first
      | refine Vc.seq ?_
      | refine Vc.region ?_
      | refine Vc.condF rfl ?_
      | refine Vc.skip ?_
      | refine Vc.block ?_
      | (refine Vc.cond rfl (fun h => ?_) (fun h => ?_) <;> first | (exfalso; simp only [decide_eq_true_eq, decide_eq_false_iff_not, Bool.not_eq_true', Bool.not_eq_false'] at h; omega) | (with_reducible have hp := of_decide_eq_true h)))
        | (show KSeq _ _ _ _ _ _ _; refine KSeq.normal ?_)
        | (show KBlock _ _ _ _ _ _; refine KBlock.normal ?_))
      exact KLoop.again (k + 1) ⟨got_succ rfl (by omega), trivial⟩ ⟨rfl, rfl, rfl, trivial⟩ ⟨hlt, H⟩ (by omega)
    · obtain rfl : k = 2 := by omega
      repeat' (first
        | (show VcL _ _ _ _ _ _ _ _; first
      | refine VcL.pures tabOk rfl ?_
      | refine VcL.nil ?_
      | refine VcL.box H rfl rfl rfl rfl rfl (fun b w H => ?_)
      | refine VcL.buildSlice tabOk H rfl rfl rfl rfl rfl rfl (fun sv w H => ?_))
        | (show Vc _ _ _ _ _ _; first
      | refine Vc.seq ?_
      | refine Vc.region ?_
      | refine Vc.condF rfl ?_
      | refine Vc.block ?_
      | refine Vc.exit ?_)
        | (show KSeq _ _ _ _ _ _ _; first
      | refine KSeq.normal ?_
      | refine KSeq.exit ?_)
        | (show KBlock _ _ _ _ _ _; refine KBlock.here ?_)
        | refine KLoop.exit ?_)
      have H := Holds.drop2 (Holds.drop2 H)
      clear hNo
      obtain ⟨e, rfl⟩ : ∃ e, e = b := ⟨b, rfl⟩
      obtain ⟨ys, hys⟩ : ∃ ys : List Value, [.pointer none, ptr e] = ys := ⟨_, rfl⟩
      have hyl : ys.length = 2 := by rw [← hys]; rfl
      have H : Holds I w (own sv 33 1 2 (ys.flatMap v1) :: blk e 82 [.pointer none, .int .i64 0, .bool false] :: L) := by rw [← hys]; exact H
      obtain ⟨b2, o2, cap2, rfl, hcap2⟩ := Holds.own_some (by omega) H
      have hNo : ∀ k, k < 2 → NoS I (own (.slice (some ⟨b2, o2, none⟩) 2 cap2) 33 1 2 (ys.flatMap v1) :: blk e 82 [.pointer none, .int .i64 0, .bool false] :: L) (atD ys k) := fun k hk => by
        rw [← hys]
        match k, hk with
        | 0, _ => exact NoS.nil
        | 1, _ => exact NoS.up (NoS.zero Holds.toW)
      refine Vc.loopS [(0, _), (12, _)] (fun k : Nat => [(13, .int .i64 k)]) (fun k w => k ≤ 2 ∧ Holds I w (own (.slice (some ⟨b2, o2, none⟩) 2 cap2) 33 1 2 (ys.flatMap v1) :: blk e 82 [.pointer none, .int .i64 0, .bool false] :: L)) (fun k _ => 2 - k) 0 ⟨rfl, trivial⟩ ⟨rfl, rfl, trivial⟩ ⟨Nat.zero_le _, H⟩ ?_
      clear H
      rintro k w ⟨hk, H⟩
      by_cases hlt : k < 2
      · have hN := hNo k hlt
        have hz : ys[k]? = some (atD ys k) := atD_get (by omega)
        obtain ⟨x, hx⟩ : ∃ x, atD ys k = x := ⟨_, rfl⟩
        rw [hx] at hN hz
        repeat' (first
          | (show VcL _ _ _ _ _ _ _ _; first
      | refine VcL.pures tabOk rfl ?_
      | refine VcL.nil ?_
      | (show VcL _ _ _ _ (⟨_, .load _ _, _, _, _, _⟩ :: _) _ _ _; refine VcL.load1 tabOk rfl rfl rfl rfl rfl (by exact Holds.ownCell0 H (fun _ => rfl) (by assumption) rfl) ?_)
      | (show VcL _ _ _ _ (⟨_, .indexAddr _ _ _, _, _, _, _⟩ :: _) _ _ _; refine VcL.indexAddr tabOk rfl rfl rfl rfl rfl rfl (by omega) (by omega) ?_)
      | (show VcL _ _ _ _ (⟨_, .call ⟨.value (.func F_journal_Store_Read), _, _⟩, _, _, _, _⟩ :: _) _ _ _; (refine VcL.callF ok_journal_Store_Read rfl rfl rfl rfl (Rets.mono (SReadN_any H hN n) ?_); rintro _ w ⟨rfl, H⟩))
      | (show VcL _ _ _ _ (⟨_, .call ⟨.value (.func F_journal_Store_Commit), _, _⟩, _, _, _, _⟩ :: _) _ _ _; (refine VcL.callF ok_journal_Store_Commit rfl rfl rfl rfl (Rets.mono (CommitN_any H hN) ?_); rintro _ w ⟨rfl, H⟩))
      | (show VcL _ _ _ _ (⟨_, .call ⟨.value (.func F_journal_Store_Disk), _, _⟩, _, _, _, _⟩ :: _) _ _ _; (refine VcL.callF ok_journal_Store_Disk rfl rfl rfl rfl (Rets.mono (DiskN_any H hN) ?_); rintro _ w ⟨rfl, H⟩))
      | (show VcL _ _ _ _ (⟨_, .call ⟨.value (.func F_journal_Store_Home), _, _⟩, _, _, _, _⟩ :: _) _ _ _; (refine VcL.callF ok_journal_Store_Home rfl rfl rfl rfl (Rets.mono (HomeN_any H hN) ?_); rintro _ w ⟨rfl, H⟩))
      | (refine VcL.guard rfl rfl rfl rfl (fun h => ?_) (fun h => ?_) <;> first | (cases h; done) | (with_reducible have hp := ndec_f h) | skip))
          | (show Vc _ _ _ _ _ _; first
      | refine Vc.seq ?_
      | refine Vc.region ?_
      | refine Vc.condF rfl ?_
      | refine Vc.skip ?_
      | refine Vc.block ?_
      | (refine Vc.cond rfl (fun h => ?_) (fun h => ?_) <;> first | (exfalso; simp only [decide_eq_true_eq, decide_eq_false_iff_not, Bool.not_eq_true', Bool.not_eq_false'] at h; omega) | (with_reducible have hp := of_decide_eq_true h)))
          | (show KSeq _ _ _ _ _ _ _; refine KSeq.normal ?_)
          | (show KBlock _ _ _ _ _ _; refine KBlock.normal ?_))
        exact KLoop.again (k + 1) ⟨got_succ rfl (by omega), trivial⟩ ⟨rfl, rfl, trivial⟩ ⟨hlt, H⟩ (by omega)
      · obtain rfl : k = 2 := by omega
        repeat' (first
          | (show VcL _ _ _ _ _ _ _ _; first
      | refine VcL.pures tabOk rfl ?_
      | refine VcL.nil ?_
      | (show VcL _ _ _ _ (⟨_, .call ⟨.value (.func F_journal_SameDisk), _, _⟩, _, _, _, _⟩ :: _) _ _ _; (refine VcL.callF ok_journal_SameDisk rfl rfl rfl rfl (Rets.mono (SameDiskN_any H NoD.nil NoD.nil) ?_); rintro _ w ⟨rfl, H⟩))
      | (show VcL _ _ _ _ (⟨_, .call ⟨.value (.func F_tithinglaw16_Awake), _, _⟩, _, _, _, _⟩ :: _) _ _ _; (refine VcL.callF ok_tithinglaw16_Awake rfl rfl rfl rfl (Rets.mono (Awake_any H) ?_); rintro _ w ⟨rfl, H⟩))
      | (refine VcL.guard rfl rfl rfl rfl (fun h => ?_) (fun h => ?_) <;> first | (cases h; done) | skip))
          | (show Vc _ _ _ _ _ _; first
      | refine Vc.seq ?_
      | refine Vc.region ?_
      | refine Vc.condF rfl ?_
      | refine Vc.ret ?_
      | refine Vc.exit ?_)
          | (show KSeq _ _ _ _ _ _ _; first
      | refine KSeq.normal ?_
      | refine KSeq.exit ?_)
          | (show KBlock _ _ _ _ _ _; refine KBlock.here ?_)
          | refine KLoop.exit ?_
          | (show KEnd _ _ _ _ _ _ _; refine KEnd.fin (Or.inr rfl) ⟨_, (ResL.tmp rfl ResL.nil), ?_⟩))
        exact ⟨rfl, H.drop.drop⟩
end Go.Proofs.Ytoahfjfknljacaa.V
