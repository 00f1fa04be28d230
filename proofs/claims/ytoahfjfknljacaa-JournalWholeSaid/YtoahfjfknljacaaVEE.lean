/- Both disks go on alike. -/
import Derived.Test.YtoahfjfknljacaaVDD
namespace Go.Proofs.Ytoahfjfknljacaa.V
open Go Go.Proofs.YtoahfjfknljacaaV
set_option linter.unusedVariables false
set_option linter.unusedSimpArgs false
set_option maxHeartbeats 1000000
set_option maxRecDepth 4000
attribute [local irreducible] IntKind.wrap
variable {I : Imm} {w : World} {L : List Asn}
def longS (l : List Ac) : Bool := (l.any fun a => decide (300 < a.done.2.2.length)) || decide (200 < l.length)
theorem long_any (H : Holds I w L) {v : Value} {l : List Ac} (hv : SlR I L v 6 l.length (l.flatMap acC)) (hl : l.length ≤ 140737488355328) :
    Rets Try.prog F_tithinglaw16_long #[v] w fun u w' => u = .bool (longS l) ∧ Holds I w' L := by
  obtain ⟨A, cap, rfl, hcap⟩ := hv.form
  refine ok_tithinglaw16_long.rets rfl ?_
  repeat' (first
    | (show VcL _ _ _ _ _ _ _ _; first
      | refine VcL.pures tabOk rfl ?_
      | refine VcL.nil ?_)
    | (show Vc _ _ _ _ _ _; first
      | refine Vc.seq ?_
      | refine Vc.region ?_
      | refine Vc.block ?_)
    | (show KSeq _ _ _ _ _ _ _; refine KSeq.normal ?_))
  refine Vc.loopS [(0, _)] (fun k : Nat => [(3, .int .i64 k)]) (fun k w => Holds I w L ∧ k ≤ l.length ∧ ((l.take k).any fun a => decide (300 < a.done.2.2.length)) = false) (fun k _ => l.length - k) 0 ⟨rfl, trivial⟩ ⟨rfl, trivial⟩ ⟨H, Nat.zero_le _, rfl⟩ ?_
  rintro k w ⟨H, hk, hall⟩
  by_cases hlt : k < l.length
  · obtain ⟨b1, o1, rfl, hr1⟩ := hv.at (by omega)
    have hr1 := hr1.elem acC_len (atD_get hlt)
    obtain ⟨a, hat⟩ : ∃ a, atD l k = a := ⟨_, rfl⟩
    have hmem := atD_mem hlt
    rw [hat] at hr1 hmem
    have hany := any_take (p := fun a : Ac => decide (300 < a.done.2.2.length)) hlt
    rw [hall, hat, Bool.false_or] at hany
    obtain ⟨what, block, num, byte, ⟨A3, cap3, done⟩, short⟩ := a
    have hr1 : RdW I L b1 (o1 + k * 6) [.int .i64 what, .int .i64 block, .int .i64 num, .int .u8 byte, .slice A3 done.length cap3, .bool short] := hr1
    repeat' (first
      | (show VcL _ _ _ _ _ _ _ _; first
      | refine VcL.pures tabOk rfl ?_
      | refine VcL.nil ?_
      | (show VcL _ _ _ _ (⟨_, .load _ _, _, _, _, _⟩ :: _) _ _ _; refine VcL.load1 tabOk rfl rfl rfl rfl rfl (by exact RdW.get (by assumption) rfl H) ?_)
      | (show VcL _ _ _ _ (⟨_, .indexAddr _ _ _, _, _, _, _⟩ :: _) _ _ _; refine VcL.indexAddr tabOk rfl rfl rfl rfl rfl rfl (by omega) (by omega) ?_))
      | (show Vc _ _ _ _ _ _; first
      | refine Vc.seq ?_
      | refine Vc.region ?_
      | refine Vc.ret ?_
      | refine Vc.skip ?_
      | refine Vc.block ?_
      | (refine Vc.cond rfl (fun h => ?_) (fun h => ?_) <;> first | (exfalso; simp only [decide_eq_true_eq, decide_eq_false_iff_not, Bool.not_eq_true', Bool.not_eq_false'] at h; omega) | (with_reducible have hp := of_decide_eq_true h) | (with_reducible have hp := of_decide_eq_false h)))
      | (show KSeq _ _ _ _ _ _ _; first
      | refine KSeq.normal ?_
      | refine KSeq.ret ?_)
      | (show KBlock _ _ _ _ _ _; first
      | refine KBlock.normal ?_
      | refine KBlock.ret ?_)
      | refine KLoop.ret ?_
      | (show KEnd _ _ _ _ _ _ _; refine KEnd.fin (Or.inr rfl) ⟨_, (ResL.tmp rfl ResL.nil), ?_⟩))
    · refine ⟨?_, H⟩
      have : longS l = true := by
        unfold longS
        rw [Bool.or_eq_true, List.any_eq_true]
        exact .inl ⟨_, hmem, decide_eq_true (by show 300 < done.length; omega)⟩
      rw [this]
      rfl
    · refine KLoop.again (k + 1) ⟨got_succ rfl (by omega), trivial⟩ ⟨rfl, trivial⟩ ⟨H, hlt, ?_⟩ (by omega)
      rw [hany]
      exact decide_eq_false (by show ¬ 300 < done.length; omega)
  · obtain rfl : k = l.length := by omega
    rw [List.take_length] at hall
    repeat' (first
      | (show VcL _ _ _ _ _ _ _ _; first
      | refine VcL.pures tabOk rfl ?_
      | refine VcL.nil ?_)
      | (show Vc _ _ _ _ _ _; first
      | refine Vc.seq ?_
      | refine Vc.region ?_
      | refine Vc.ret ?_
      | refine Vc.exit ?_
      | (refine Vc.cond rfl (fun h => ?_) (fun h => ?_) <;> first | (exfalso; simp only [decide_eq_true_eq, decide_eq_false_iff_not, Bool.not_eq_true', Bool.not_eq_false'] at h; omega) | (with_reducible have hp := of_decide_eq_false h)))
      | (show KSeq _ _ _ _ _ _ _; first
      | refine KSeq.normal ?_
      | refine KSeq.exit ?_)
      | (show KBlock _ _ _ _ _ _; refine KBlock.here ?_)
      | refine KLoop.exit ?_
      | (show KEnd _ _ _ _ _ _ _; refine KEnd.fin (Or.inr rfl) ⟨_, (ResL.tmp rfl ResL.nil), ?_⟩))
    refine ⟨?_, H⟩
    unfold longS
    rw [hall, Bool.false_or]
    show Value.bool (decide ((200 : Int) < l.length)) = _
    congr 1
    exact decide_eq_decide.2 (by omega)
theorem same_any {d r : Nat} {D : Dk} (H : Holds I w (dskA d D :: rdkA I r D :: L)) (hw : D.writes + 10 < 2 ^ 40) :
    Rets Try.prog F_tithinglaw16_same #[ptr d, ptr r] w fun u w' => u = .bool true ∧ Holds I w' (dskA d D :: rdkA I r D :: L) := by
  have hok := dsk_ok H
  have hfew := hok.few
  refine ok_tithinglaw16_same.rets rfl ?_
  repeat' (first
    | (show VcL _ _ _ _ _ _ _ _; first
      | refine VcL.pures tabOk rfl ?_
      | refine VcL.nil ?_)
    | (show Vc _ _ _ _ _ _; first
      | refine Vc.seq ?_
      | refine Vc.region ?_
      | refine Vc.block ?_)
    | (show KSeq _ _ _ _ _ _ _; refine KSeq.normal ?_))
  refine Vc.loopS [(0, _), (1, _)] (fun k : Nat => [(5, .int .i64 ((k : Int) - 1))]) (fun k w => k ≤ D.blocks.length + 2 ∧ Holds I w (dskA d D :: rdkA I r D :: L)) (fun k _ => D.blocks.length + 2 - k) 0 ⟨rfl, trivial⟩ ⟨rfl, rfl, trivial⟩ ⟨Nat.zero_le _, H⟩ ?_
  rintro k w ⟨hk, HB⟩
  clear H
  obtain ⟨b0, o0, cap, A2, cap2, P, hP, hkk, hcap, hf, H⟩ := rdk_open HB.swap
  clear HB
  have hbl : D.blocks.length = P.bl.length := by rw [← hP]; exact List.length_map ..
  have hwt : D.wait.length = P.wt.length := by rw [← hP]; exact List.length_map ..
  have hwr : D.writes = P.writes := by rw [← hP]; rfl
  have hwm := hkk.many
  by_cases hlt : k < D.blocks.length + 2
  · obtain ⟨rd, hrd⟩ : ∃ rd, rdS D ((k : Int) - 1) = rd := ⟨_, rfl⟩
    have hnx : IntKind.i64.wrap ((k : Int) - 1 + 1) = ((k + 1 : Nat) : Int) - 1 := by rw [wrap_i64 (by omega) (by omega)]; omega
    repeat' (first
      | (refine VcL.ofBytes (m := rd.1.length) (bs := rd.1) tabOk rfl rfl rfl rfl rfl rfl rfl (by first | exact Holds.own_src H | exact Holds.own_src (Holds.f2 H)) ⟨_, _, rfl⟩ rfl rfl rfl ?_)
      | rw [str_rule]
      | (show VcL _ _ _ _ _ _ _ _; first
      | refine VcL.pures tabOk rfl ?_
      | refine VcL.nil ?_
      | (show VcL _ _ _ _ (⟨_, .load _ _, _, _, _, _⟩ :: _) _ _ _; refine VcL.load1 tabOk rfl rfl rfl rfl rfl (by exact Holds.cell H rfl) ?_)
      | (show VcL _ _ _ _ (⟨_, .call ⟨.value (.func F_journal_Disk_Read), _, _⟩, _, _, _, _⟩ :: _) _ _ _; (refine VcL.callF ok_journal_Disk_Read rfl rfl rfl rfl (Rets.mono (ReadP_any (D := D) (Holds.f3 H) (by omega) ((k : Int) - 1)) ?_); rintro _ w ⟨uv, rfl, H⟩; rw [hrd] at H ⊢; obtain ⟨_, A7, c7, rfl⟩ := Holds.own_len H))
      | (show VcL _ _ _ _ (⟨_, .call ⟨.value (.func F_tithingref16_Disk_Read), _, _⟩, _, _, _, _⟩ :: _) _ _ _; (refine VcL.callF ok_tithingref16_Disk_Read rfl rfl rfl rfl (Rets.mono (ReadR_any (D := D) (rdk_close P hP hok hf (Holds.re [2, 2, 2] H rfl)) (by omega) ((k : Int) - 1)) ?_); rintro _ w ⟨uv, rfl, H⟩; rw [hrd] at H ⊢; obtain ⟨_, A8, c8, rfl⟩ := Holds.own_len H))
      | (refine VcL.guard rfl rfl rfl rfl (fun h => ?_) (fun h => ?_) <;> first | (cases h; done) | skip))
      | (show Vc _ _ _ _ _ _; first
      | refine Vc.seq ?_
      | refine Vc.region ?_
      | refine Vc.ret ?_
      | refine Vc.skip ?_
      | refine Vc.block ?_
      | (refine Vc.cond rfl (fun h => ?_) (fun h => ?_) <;> first | (exfalso; simp only [decide_eq_true_eq, decide_eq_false_iff_not, Bool.not_eq_true', Bool.not_eq_false'] at h; omega) | (with_reducible have hp := of_decide_eq_true h) | (with_reducible have hp := ndec_t h) | (with_reducible have hp := ndec_f h)))
      | (show KSeq _ _ _ _ _ _ _; first
      | refine KSeq.normal ?_
      | refine KSeq.ret ?_)
      | (show KBlock _ _ _ _ _ _; first
      | refine KBlock.normal ?_
      | refine KBlock.ret ?_)
      | refine KLoop.ret ?_
      | (show KEnd _ _ _ _ _ _ _; refine KEnd.fin (Or.inr rfl) ⟨_, (ResL.tmp rfl ResL.nil), ?_⟩))
    · exact absurd rfl hp
    · refine KLoop.again (k + 1) ⟨congrArg (fun x => some (Value.int .i64 x)) hnx, trivial⟩ ⟨rfl, rfl, trivial⟩ ⟨hlt, (Holds.drop1 (Holds.drop H)).swap⟩ (by omega)
  · obtain rfl : k = D.blocks.length + 2 := by omega
    have e1 : decide ((D.wait.length : Int) = P.wt.length) = true := decide_eq_true (by omega)
    have e2 : decide ((D.writes : Int) = P.writes) = true := decide_eq_true (by omega)
    have e3 : decide ((D.blocks.length : Int) = P.bl.length) = true := decide_eq_true (by omega)
    repeat' (first
      | rw [e1]
      | rw [e2]
      | rw [e3]
      | (show VcL _ _ _ _ _ _ _ _; first
      | refine VcL.pures tabOk rfl ?_
      | refine VcL.nil ?_
      | (show VcL _ _ _ _ (⟨_, .load _ _, _, _, _, _⟩ :: _) _ _ _; refine VcL.load1 tabOk rfl rfl rfl rfl rfl (by exact Holds.cell H rfl) ?_))
      | (show VcD _ _ _ _ _ _ _ _ _; first
      | refine VcD.pures tabOk rfl ?_
      | refine VcD.done ?_
      | (show VcD _ _ _ _ _ (.pure _ _) _ _ _; (refine VcD.guardP rfl rfl rfl rfl rfl (fun h => ?_) (fun h => ?_) <;> first | (cases h; done) | skip))
      | (show VcD _ _ _ _ _ (.take _ _) _ _ _; refine VcD.load1 tabOk rfl rfl rfl rfl rfl rfl (by intro w_ hw_; first | exact hw_ _ _ rfl | exact hw_ 0 _ rfl) (by exact rfl) ?_)
      | (show VcD _ _ _ _ _ (.only _ _) _ _ _; first
      | (refine VcD.callF (f := F_journal_Disk_Waiting) rfl ok_journal_Disk_Waiting rfl rfl rfl rfl (Rets.mono (Waiting_any (D := D) (Holds.f3 H)) ?_); rintro _ w ⟨rfl, H⟩; refine ⟨(by exact Holds.rdWhole (Holds.f1 H)), ?_⟩)
      | (refine VcD.callF (f := F_journal_Disk_Writes) rfl ok_journal_Disk_Writes rfl rfl rfl rfl (Rets.mono (Writes_any (D := D) H) ?_); rintro _ w ⟨rfl, H⟩; refine ⟨(by exact Holds.rdWhole (Holds.f1 H)), ?_⟩)
      | (refine VcD.callF (f := F_journal_Disk_Blocks) rfl ok_journal_Disk_Blocks rfl rfl rfl rfl (Rets.mono (Blocks_any (D := D) H) ?_); rintro _ w ⟨rfl, H⟩; refine ⟨(by exact Holds.rdWhole (Holds.f1 H)), ?_⟩)))
      | (show Vc _ _ _ _ _ _; first
      | refine Vc.seq ?_
      | refine Vc.region ?_
      | refine Vc.ret ?_
      | refine Vc.exit ?_
      | (refine Vc.drawn (id := 8) (.pure 0 (.pure 2 (.pure 3 (.pure 4 (.take 5 (.pure 6 (.only 1 (.pure 7 (.pure 8 (.pure 9 (.pure 11 (.pure 12 (.pure 13 (.take 14 (.only 10 (.pure 15 (.pure 16 (.pure 17 (.pure 18 (.pure 20 (.pure 21 (.pure 22 (.take 23 (.pure 24 (.only 19 (.pure 25 (.pure 26 (.pure 27 .done)))))))))))))))))))))))))))) (.one (fun w => Rd w r 0 (rkV P (.slice (some ⟨b0, o0, none⟩) P.bl.length cap) (.slice A2 P.wt.length cap2)))) mixed (by kernel_rfl) (by exact Holds.rdWhole (Holds.drew H _)) ?_; have H := H.drew (w.drawn + 1))
      | (refine Vc.cond rfl (fun h => ?_) (fun h => ?_) <;> first | (exfalso; simp only [decide_eq_true_eq, decide_eq_false_iff_not, Bool.not_eq_true', Bool.not_eq_false'] at h; omega) | (with_reducible have hp := of_decide_eq_false h)))
      | (show KSeq _ _ _ _ _ _ _; first
      | refine KSeq.normal ?_
      | refine KSeq.exit ?_)
      | (show KBlock _ _ _ _ _ _; refine KBlock.here ?_)
      | refine KLoop.exit ?_
      | (show KEnd _ _ _ _ _ _ _; refine KEnd.fin (Or.inr rfl) ⟨_, (ResL.tmp rfl ResL.nil), ?_⟩))
    exact ⟨by simp [resVal], (rdk_close P hP hok hf (Holds.re [1, 1, 1] H rfl)).swap⟩
end Go.Proofs.Ytoahfjfknljacaa.V
