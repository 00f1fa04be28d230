/- The disks. -/
import Derived.Test.YtoahfjfknljacaaVEE
namespace Go.Proofs.Ytoahfjfknljacaa.V
open Go Go.Proofs.YtoahfjfknljacaaV
set_option linter.unusedVariables false
set_option linter.unusedSimpArgs false
set_option maxHeartbeats 1000000
set_option maxRecDepth 4000
attribute [local irreducible] IntKind.wrap
variable {I : Imm} {w : World} {L : List Asn}
theorem AcOk.mono {I J : Imm} {a : Ac} (h : AcOk I a) (hl : Imm.Le I J) : AcOk J a := ⟨h.block, h.num, h.byte, h.done.mono hl, h.len⟩
def newE (n : Int) : Int := if 1 ≤ n ∧ n ≤ 650 then 0 else 2
theorem longS_len {l : List Ac} (h : longS l = false) : l.length ≤ 200 := by
  unfold longS at h
  rw [Bool.or_eq_false_iff] at h
  have := of_decide_eq_false h.2
  omega
/-- The deeds one after the other. -/
theorem dos_writes (l : List Ac) (D : Dk) : (l.foldl doS D).writes ≤ D.writes + l.length := by
  induction l generalizing D with
  | nil => exact Nat.le_refl _
  | cons a r ih =>
    have h1 := ih (doS D a)
    have h2 := doS_writes D a
    rw [List.foldl_cons, List.length_cons]
    omega
theorem JournalDisks_any (H : Holds I w L) {n : Int} {v : Value} {l : List Ac} (hv : SlI I v 6 l.length (l.flatMap acC)) (hl : l.length ≤ 140737488355328) (ha : ∀ a ∈ l, AcOk I a) :
    Rets Try.prog F_tithinglaw16_JournalDisks #[.int .i64 n, v] w fun u w' => u = .bool true ∧ Holds I w' L := by
  cases hlo : longS l with
  | true =>
    refine ok_tithinglaw16_JournalDisks.rets rfl ?_
    repeat' (first
      | (show VcL _ _ _ _ _ _ _ _; first
      | refine VcL.pures tabOk rfl ?_
      | refine VcL.nil ?_
      | (show VcL _ _ _ _ (⟨_, .call ⟨.value (.func F_tithinglaw16_long), _, _⟩, _, _, _, _⟩ :: _) _ _ _; (refine VcL.callF ok_tithinglaw16_long rfl rfl rfl rfl (Rets.mono (long_any H hv.toR hl) ?_); rintro _ w ⟨rfl, H⟩; rw [hlo]))
      | (show VcL _ _ _ _ (⟨_, .call ⟨.value (.func F_tithinglaw16_Awake), _, _⟩, _, _, _, _⟩ :: _) _ _ _; (refine VcL.callF ok_tithinglaw16_Awake rfl rfl rfl rfl (Rets.mono (Awake_any H) ?_); rintro _ w ⟨rfl, H⟩)))
      | (show Vc _ _ _ _ _ _; first
      | refine Vc.seq ?_
      | refine Vc.region ?_
      | refine Vc.condT rfl ?_
      | refine Vc.ret ?_)
      | (show KSeq _ _ _ _ _ _ _; first
      | refine KSeq.normal ?_
      | refine KSeq.ret ?_)
      | (show KEnd _ _ _ _ _ _ _; refine KEnd.fin (Or.inr rfl) ⟨_, (ResL.tmp rfl ResL.nil), ?_⟩))
    exact ⟨rfl, H⟩
  | false =>
    have hlen := longS_len hlo
    by_cases hn : 1 ≤ n ∧ n ≤ 650
    · obtain ⟨m, rfl⟩ := Int.eq_ofNat_of_zero_le (show 0 ≤ n by omega)
      refine ok_tithinglaw16_JournalDisks.rets rfl ?_
      repeat' (first
        | (show VcL _ _ _ _ _ _ _ _; first
      | refine VcL.pures tabOk rfl ?_
      | refine VcL.nil ?_
      | (show VcL _ _ _ _ (⟨_, .call ⟨.value (.func F_tithinglaw16_long), _, _⟩, _, _, _, _⟩ :: _) _ _ _; (refine VcL.callF ok_tithinglaw16_long rfl rfl rfl rfl (Rets.mono (long_any H hv.toR hl) ?_); rintro _ w ⟨rfl, H⟩; rw [hlo]))
      | (show VcL _ _ _ _ (⟨_, .call ⟨.value (.func F_journal_NewDisk), _, _⟩, _, _, _, _⟩ :: _) _ _ _; (refine VcL.callF ok_journal_NewDisk rfl rfl rfl rfl (Rets.mono (NewDisk_any H (by omega) (by omega)) ?_); rintro _ w ⟨d, rfl, H⟩))
      | (show VcL _ _ _ _ (⟨_, .call ⟨.value (.func F_tithingref16_NewDisk), _, _⟩, _, _, _, _⟩ :: _) _ _ _; (refine VcL.callF ok_tithingref16_NewDisk rfl rfl rfl rfl (Rets.mono (NewDiskR_any H (by omega) (by omega)) ?_); rintro _ w ⟨J, r, hJ, rfl, H⟩))
      | (refine VcL.guard rfl rfl rfl rfl (fun h => ?_) (fun h => ?_) <;> first | (cases h; done) | (with_reducible have hp := ndec_f h)))
        | (show Vc _ _ _ _ _ _; first
      | refine Vc.seq ?_
      | refine Vc.region ?_
      | refine Vc.condF rfl ?_
      | refine Vc.skip ?_
      | refine Vc.block ?_)
        | (show KSeq _ _ _ _ _ _ _; refine KSeq.normal ?_))
      obtain ⟨A, cap, rfl, hcap⟩ := hv.form
      refine Vc.loopS [(1, _), (5, _), (7, _)] (fun k : Nat => [(9, .int .i64 k)]) (fun k w => k ≤ l.length ∧ ∃ J, Imm.Le I J ∧ Holds J w (dskA d ((l.take k).foldl doS (newS m)) :: rdkA J r ((l.take k).foldl doS (newS m)) :: L)) (fun k _ => l.length - k) 0 ⟨rfl, trivial⟩ ⟨rfl, rfl, rfl, trivial⟩ ⟨Nat.zero_le _, J, hJ, H.swap⟩ ?_
      clear hJ H J
      rintro k w ⟨hk, J, hJ, H⟩
      have hwr := dos_writes (l.take k) (newS m)
      have hw0 : (newS m).writes = 0 := rfl
      rw [hw0, List.length_take] at hwr
      obtain ⟨D, hD⟩ : ∃ D, (l.take k).foldl doS (newS m) = D := ⟨_, rfl⟩
      rw [hD] at H hwr
      by_cases hlt : k < l.length
      · obtain ⟨b1, o1, rfl, hr1⟩ := (hv.mono hJ).toR.at (L := L) (by omega)
        have hr1 := hr1.elem acC_len (atD_get hlt)
        obtain ⟨a, hat⟩ : ∃ a, atD l k = a := ⟨_, rfl⟩
        have hmem := atD_mem hlt
        rw [hat] at hr1 hmem
        have hnx : (l.take (k + 1)).foldl doS (newS m) = doS D a := by rw [take_atD hlt, List.foldl_append, hD, hat]; rfl
        have hact := ha a hmem
        obtain ⟨what, block, num, byte, ⟨A3, cap3, done⟩, short⟩ := a
        have hr1 : RdW J L b1 (o1 + k * 6) [.int .i64 what, .int .i64 block, .int .i64 num, .int .u8 byte, .slice A3 done.length cap3, .bool short] := hr1
        repeat' (first
          | (show VcL _ _ _ _ _ _ _ _; first
      | refine VcL.pures tabOk rfl ?_
      | refine VcL.nil ?_
      | (show VcL _ _ _ _ (⟨_, .load _ _, _, _, _, _⟩ :: _) _ _ _; refine VcL.loadR tabOk rfl rfl rfl rfl rfl rfl (by exact RdW.rd (by assumption) (Holds.drop (Holds.drop H))) rfl ?_)
      | (show VcL _ _ _ _ (⟨_, .indexAddr _ _ _, _, _, _, _⟩ :: _) _ _ _; refine VcL.indexAddr tabOk rfl rfl rfl rfl rfl rfl (by omega) (by omega) ?_)
      | (show VcL _ _ _ _ (⟨_, .call ⟨.value (.func F_tithinglaw16_do), _, _⟩, _, _, _, _⟩ :: _) _ _ _; (refine VcL.callF ok_tithinglaw16_do rfl rfl rfl rfl (Rets.mono (do_any (D := D) (a := ⟨what, block, num, byte, (A3, cap3, done), short⟩) H (by omega) (hact.mono hJ)) ?_); rintro _ w ⟨J2, hJ2, rfl, H⟩)))
          | (show Vc _ _ _ _ _ _; first
      | refine Vc.seq ?_
      | refine Vc.region ?_
      | refine Vc.condF rfl ?_
      | refine Vc.skip ?_
      | refine Vc.block ?_
      | (refine Vc.cond rfl (fun h => ?_) (fun h => ?_) <;> first | (exfalso; simp only [decide_eq_true_eq, decide_eq_false_iff_not, Bool.not_eq_true', Bool.not_eq_false'] at h; omega) | (with_reducible have hp := of_decide_eq_true h)))
          | (show KSeq _ _ _ _ _ _ _; refine KSeq.normal ?_)
          | (show KBlock _ _ _ _ _ _; refine KBlock.normal ?_))
        refine KLoop.again (k + 1) ⟨got_succ rfl (by omega), trivial⟩ ⟨rfl, rfl, rfl, trivial⟩ ⟨hlt, J2, hJ.trans hJ2, ?_⟩ (by omega)
        rw [hnx]
        exact H
      · obtain rfl : k = l.length := by omega
        repeat' (first
          | (show VcL _ _ _ _ _ _ _ _; first
      | refine VcL.pures tabOk rfl ?_
      | refine VcL.nil ?_
      | (show VcL _ _ _ _ (⟨_, .call ⟨.value (.func F_tithinglaw16_same), _, _⟩, _, _, _, _⟩ :: _) _ _ _; (refine VcL.callF ok_tithinglaw16_same rfl rfl rfl rfl (Rets.mono (same_any H (by omega)) ?_); rintro _ w ⟨rfl, H⟩))
      | (show VcL _ _ _ _ (⟨_, .call ⟨.value (.func F_tithinglaw16_Awake), _, _⟩, _, _, _, _⟩ :: _) _ _ _; (refine VcL.callF ok_tithinglaw16_Awake rfl rfl rfl rfl (Rets.mono (Awake_any H) ?_); rintro _ w ⟨rfl, H⟩))
      | (refine VcL.guard rfl rfl rfl rfl (fun h => ?_) (fun h => ?_) <;> first | (cases h; done) | skip))
          | (show Vc _ _ _ _ _ _; first
      | refine Vc.seq ?_
      | refine Vc.region ?_
      | refine Vc.ret ?_
      | refine Vc.exit ?_
      | (refine Vc.cond rfl (fun h => ?_) (fun h => ?_) <;> first | (exfalso; simp only [decide_eq_true_eq, decide_eq_false_iff_not, Bool.not_eq_true', Bool.not_eq_false'] at h; omega) | (with_reducible have hp := of_decide_eq_false h)))
          | (show KSeq _ _ _ _ _ _ _; first
      | refine KSeq.normal ?_
      | refine KSeq.exit ?_)
          | (show KBlock _ _ _ _ _ _; refine KBlock.here ?_)
          | refine KLoop.exit ?_
          | (show KEnd _ _ _ _ _ _ _; refine KEnd.fin (Or.inr rfl) ⟨_, (ResL.tmp rfl ResL.nil), ?_⟩))
        exact ⟨rfl, H.drop.drop.less hJ⟩
    ·
      refine ok_tithinglaw16_JournalDisks.rets rfl ?_
      repeat' (first
        | (show VcL _ _ _ _ _ _ _ _; first
      | refine VcL.pures tabOk rfl ?_
      | refine VcL.nil ?_
      | (show VcL _ _ _ _ (⟨_, .call ⟨.value (.func F_tithinglaw16_long), _, _⟩, _, _, _, _⟩ :: _) _ _ _; (refine VcL.callF ok_tithinglaw16_long rfl rfl rfl rfl (Rets.mono (long_any H hv.toR hl) ?_); rintro _ w ⟨rfl, H⟩; rw [hlo]))
      | (show VcL _ _ _ _ (⟨_, .call ⟨.value (.func F_tithinglaw16_Awake), _, _⟩, _, _, _, _⟩ :: _) _ _ _; (refine VcL.callF ok_tithinglaw16_Awake rfl rfl rfl rfl (Rets.mono (Awake_any H) ?_); rintro _ w ⟨rfl, H⟩))
      | (show VcL _ _ _ _ (⟨_, .call ⟨.value (.func F_journal_NewDisk), _, _⟩, _, _, _, _⟩ :: _) _ _ _; (refine VcL.callF ok_journal_NewDisk rfl rfl rfl rfl (Rets.mono (NewDisk_bad H hn) ?_); rintro _ w ⟨rfl, H⟩))
      | (show VcL _ _ _ _ (⟨_, .call ⟨.value (.func F_tithingref16_NewDisk), _, _⟩, _, _, _, _⟩ :: _) _ _ _; (refine VcL.callF ok_tithingref16_NewDisk rfl rfl rfl rfl (Rets.mono (NewDiskR_bad H hn) ?_); rintro _ w ⟨rfl, H⟩))
      | (refine VcL.guard rfl rfl rfl rfl (fun h => ?_) (fun h => ?_) <;> first | (cases h; done) | (with_reducible have hp := of_decide_eq_true h) | (with_reducible have hp := ndec_f h) | skip))
        | (show Vc _ _ _ _ _ _; first
      | refine Vc.seq ?_
      | refine Vc.region ?_
      | refine Vc.condT rfl ?_
      | refine Vc.condF rfl ?_
      | refine Vc.ret ?_
      | refine Vc.skip ?_)
        | (show KSeq _ _ _ _ _ _ _; first
      | refine KSeq.normal ?_
      | refine KSeq.ret ?_)
        | (show KEnd _ _ _ _ _ _ _; refine KEnd.fin (Or.inr rfl) ⟨_, (ResL.tmp rfl ResL.nil), ?_⟩))
      all_goals exact ⟨rfl, H⟩
end Go.Proofs.Ytoahfjfknljacaa.V
