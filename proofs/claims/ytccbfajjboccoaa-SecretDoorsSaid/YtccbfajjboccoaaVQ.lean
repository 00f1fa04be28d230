/- Doors, and their copies. -/
import Derived.Test.YtccbfajjboccoaaVO
namespace Go.Proofs.Ytccbfajjboccoaa.V
open Go Go.Proofs.YtccbfajjboccoaaV
set_option linter.unusedVariables false
set_option linter.unusedSimpArgs false
set_option maxHeartbeats 1000000
attribute [local irreducible] IntKind.wrap
variable {I : Imm} {w : World} {L : List Asn}
theorem ints_nil : ints [] := fun p hp => by cases hp
theorem acts_ok {l : List Ac} (h : (l.any bigA || decide (200 < l.length)) = false) : (∀ a ∈ l, a.name.size ≤ 140737488355328) ∧ l.length ≤ 200 := by
  rw [Bool.or_eq_false_iff, decide_eq_false_iff_not, List.any_eq_false] at h
  refine ⟨fun a ha => ?_, by omega⟩
  have := h.1 a ha
  unfold bigA at this
  simp at this
  omega
theorem SecretDoors_any (H : Holds I w L) {v va : Value} {l : List Us} {acts : List Ac} (hv : SlI I v 4 l.length (l.flatMap usC)) (hl : l.length ≤ 140737488355328) (hu : ∀ u ∈ l, UsI I u) (seed : Int)
    (hva : SlI I va 4 acts.length (acts.flatMap acC)) (hla : acts.length ≤ 140737488355328) :
    Rets Try.prog F_tithinglaw24_SecretDoors #[v, .int .i64 seed, va] w fun u w' => u = .bool true ∧ Holds I w' L := by
  have hvR : SlU I L v l := hv.toR
  have haR : SlR I L va 4 acts.length (acts.flatMap acC) := hva.toR
  obtain ⟨A, cap, rfl, hcap⟩ := hv.form
  obtain ⟨A', cap', rfl, hcap'⟩ := hva.form
  by_cases hb : (usersOk l && is32 seed) = true
  ·
    refine ok_tithinglaw24_SecretDoors.rets rfl ?_
    repeat' (first
      | (refine VcL.makeMap ByteArray H rfl rfl rfl (fun m w H => ?_))
      | (show VcL _ _ _ _ _ _ _ _; first
      | refine VcL.pures tabOk rfl ?_
      | refine VcL.nil ?_
      | refine VcL.box H rfl rfl rfl rfl rfl (fun b w H => ?_)
      | (show VcL _ _ _ _ (⟨_, .call ⟨.value (.func F_tithinglaw24_LongUsers), _, _⟩, _, _, _, _⟩ :: _) _ _ _; (refine VcL.callF ok_tithinglaw24_LongUsers rfl rfl rfl rfl (Rets.mono (LongUsers_any H hvR hl) ?_); rintro _ w ⟨rfl, H⟩))
      | (show VcL _ _ _ _ (⟨_, .call ⟨.value (.func F_tithinglaw24_long), _, _⟩, _, _, _, _⟩ :: _) _ _ _; (refine VcL.callF ok_tithinglaw24_long rfl rfl rfl rfl (Rets.mono (long_any H haR hla) ?_); rintro _ w ⟨rfl, H⟩))
      | (show VcL _ _ _ _ (⟨_, .call ⟨.value (.func F_tithinglaw24_Awake), _, _⟩, _, _, _, _⟩ :: _) _ _ _; (refine VcL.callF ok_tithinglaw24_Awake rfl rfl rfl rfl (Rets.mono (Awake_any H) ?_); rintro _ w ⟨rfl, H⟩))
      | (show VcL _ _ _ _ (⟨_, .call ⟨.value (.func F_secret_New), _, _⟩, _, _, _, _⟩ :: _) _ _ _; (refine VcL.callF ok_secret_New rfl rfl rfl rfl (Rets.mono (New_any H hvR hl hu seed hb) ?_); rintro _ w ⟨J, d, vis, hJ, rfl, hnew, H⟩))
      | (show VcL _ _ _ _ (⟨_, .call ⟨.value (.func F_tithingref24_New), _, _⟩, _, _, _, _⟩ :: _) _ _ _; (refine VcL.callF ok_tithingref24_New rfl rfl rfl rfl (Rets.mono (NewR_any H (hv.mono hJ).toR hl (fun u hx => (hu u hx).mono hJ) seed hb) ?_); rintro _ w ⟨J2, r, vis2, hJ2, rfl, hnew2, H⟩))
      | (refine VcL.guard rfl rfl rfl rfl (fun h => ?_) (fun h => ?_) <;> first | (cases h; done) | (with_reducible have hp := ndec_f h) | skip))
      | (show Vc _ _ _ _ _ _; first
      | refine Vc.seq ?_
      | refine Vc.region ?_
      | refine Vc.condT rfl ?_
      | refine Vc.condF rfl ?_
      | refine Vc.ret ?_
      | refine Vc.skip ?_
      | refine Vc.block ?_
      | (refine Vc.cond rfl (fun h => ?_) (fun h => ?_) <;> skip))
      | (show KSeq _ _ _ _ _ _ _; first
      | refine KSeq.normal ?_
      | refine KSeq.ret ?_)
      | (show KEnd _ _ _ _ _ _; refine KEnd.mk (Or.inr rfl) ⟨_, (ResL.tmp rfl ResL.nil), ?_⟩))
    · exact ⟨rfl, H⟩
    · exact ⟨rfl, H⟩
    have hab : (acts.any bigA || decide (200 < acts.length)) = false := by assumption
    obtain ⟨hsmall, hmost⟩ := acts_ok hab
    rw [Bool.and_eq_true] at hb
    obtain ⟨sd, rfl, hsd⟩ := is32_nat hb.2
    have hlen := usersOk_len hb.1
    have hp0 : Pl J2 0 ⟨(sd : Int).toNat, 0, vis⟩ ⟨(sd : Int).toNat, 0, vis2⟩ [] := ⟨(doorOk_new (by simpa using hsd) hlen hnew).mono hJ2, doorOk_new (by simpa using hsd) hlen hnew2, hnew.same2 hnew2 _, Nat.le_refl _, ints_nil⟩
    refine Vc.loopS [(2, _), (11, _)] (fun i : Nat => [(12, .int .i64 i)]) (fun i w => i ≤ acts.length ∧ ∃ J D E ml, Imm.Le I J ∧ Pl J i D E ml ∧ Holds J w (plB b d r m :: doorA d D :: rdA r E :: lsM m ml :: L)) (fun i _ => acts.length - i) 0 ⟨rfl, trivial⟩ ⟨rfl, rfl, trivial⟩ ⟨Nat.zero_le _, J2, _, _, _, hJ.trans hJ2, hp0, H.f1.f2.f3.f3⟩ ?_
    rintro i w ⟨hi, J3, D, E, ml, hJ3, hpl, H⟩
    by_cases hlt : i < acts.length
    · obtain ⟨b1, o1, rfl, hr1⟩ := hva.at (by omega)
      have hr1 := (hr1.elem acC_len (atD_get hlt)).mono hJ3
      have hnm := hsmall _ (atD_mem hlt)
      obtain ⟨a, hae⟩ : ∃ a, atD acts i = a := ⟨_, rfl⟩
      rw [hae] at hr1 hnm
      obtain ⟨x1, x2, x3, nm⟩ := a
      have hr1 : RdW J3 (plB b d r m :: doorA d D :: rdA r E :: lsM m ml :: L) b1 (o1 + i * 4) [.int .i64 x1, .int .i64 x2, .int .i64 x3, .string nm] := hr1.toW
      have hnm : nm.size ≤ 140737488355328 := hnm
      repeat' (first
        | (show VcL _ _ _ _ _ _ _ _; first
      | refine VcL.pures tabOk rfl ?_
      | refine VcL.nil ?_
      | (show VcL _ _ _ _ (⟨_, .load _ _, _, _, _, _⟩ :: _) _ _ _; refine VcL.loadR tabOk rfl rfl rfl rfl rfl rfl (by exact RdW.rd (by assumption) H) rfl ?_)
      | (show VcL _ _ _ _ (⟨_, .indexAddr _ _ _, _, _, _, _⟩ :: _) _ _ _; refine VcL.indexAddr tabOk rfl rfl rfl rfl rfl rfl (by omega) (by omega) ?_)
      | (show VcL _ _ _ _ (⟨_, .call ⟨.value (.func F_tithinglaw24_play_do), _, _⟩, _, _, _, _⟩ :: _) _ _ _; (refine VcL.callF ok_tithinglaw24_play_do rfl rfl rfl rfl (Rets.mono (do_any H hpl (by omega) x1 x2 x3 nm hnm) ?_); rintro _ w ⟨J4, D4, E4, ml4, hJ4, rfl, hpl4, H⟩))
      | (show VcL _ _ _ _ (⟨_, .call ⟨.value (.func F_tithinglaw24_play_same), _, _⟩, _, _, _, _⟩ :: _) _ _ _; (refine VcL.callF ok_tithinglaw24_play_same rfl rfl rfl rfl (Rets.mono (same_any H hpl4) ?_); rintro _ w ⟨J5, hJ5, rfl, H⟩))
      | (refine VcL.guard rfl rfl rfl rfl (fun h => ?_) (fun h => ?_) <;> first | (cases h; done) | skip))
        | (show Vc _ _ _ _ _ _; first
      | refine Vc.seq ?_
      | refine Vc.region ?_
      | refine Vc.condF rfl ?_
      | refine Vc.skip ?_
      | refine Vc.block ?_
      | (refine Vc.cond rfl (fun h => ?_) (fun h => ?_) <;> first | (exfalso; simp only [decide_eq_true_eq, decide_eq_false_iff_not] at h; omega) | (with_reducible have hp := of_decide_eq_true h)))
        | (show KSeq _ _ _ _ _ _ _; refine KSeq.normal ?_)
        | (show KBlock _ _ _ _ _; refine KBlock.normal ?_))
      exact KLoop.again (i + 1) ⟨got_succ rfl (by omega), trivial⟩ ⟨rfl, rfl, trivial⟩ ⟨hlt, J5, D4, E4, ml4, (hJ3.trans hJ4).trans hJ5, hpl4.mono hJ5 (Nat.le_refl _), H⟩ (by omega)
    ·
      repeat' (first
        | (show VcL _ _ _ _ _ _ _ _; first
      | refine VcL.pures tabOk rfl ?_
      | refine VcL.nil ?_
      | (show VcL _ _ _ _ (⟨_, .call ⟨.value (.func F_tithinglaw24_Awake), _, _⟩, _, _, _, _⟩ :: _) _ _ _; (refine VcL.callF ok_tithinglaw24_Awake rfl rfl rfl rfl (Rets.mono (Awake_any H) ?_); rintro _ w ⟨rfl, H⟩)))
        | (show Vc _ _ _ _ _ _; first
      | refine Vc.seq ?_
      | refine Vc.region ?_
      | refine Vc.ret ?_
      | refine Vc.exit ?_
      | (refine Vc.cond rfl (fun h => ?_) (fun h => ?_) <;> first | (exfalso; simp only [decide_eq_true_eq, decide_eq_false_iff_not] at h; omega) | (with_reducible have hp := of_decide_eq_false h)))
        | (show KSeq _ _ _ _ _ _ _; first
      | refine KSeq.normal ?_
      | refine KSeq.exit ?_)
        | (show KBlock _ _ _ _ _; refine KBlock.here ?_)
        | refine KLoop.exit ?_
        | (show KEnd _ _ _ _ _ _; refine KEnd.mk (Or.inr rfl) ⟨_, (ResL.tmp rfl ResL.nil), ?_⟩))
      exact ⟨rfl, H.drop.drop.drop.drop.less hJ3⟩
  · rw [Bool.not_eq_true] at hb
    refine ok_tithinglaw24_SecretDoors.rets rfl ?_
    repeat' (first
      | (show VcL _ _ _ _ _ _ _ _; first
      | refine VcL.pures tabOk rfl ?_
      | refine VcL.nil ?_
      | (show VcL _ _ _ _ (⟨_, .call ⟨.value (.func F_tithinglaw24_Awake), _, _⟩, _, _, _, _⟩ :: _) _ _ _; (refine VcL.callF ok_tithinglaw24_Awake rfl rfl rfl rfl (Rets.mono (Awake_any H) ?_); rintro _ w ⟨rfl, H⟩))
      | (show VcL _ _ _ _ (⟨_, .call ⟨.value (.func F_tithinglaw24_LongUsers), _, _⟩, _, _, _, _⟩ :: _) _ _ _; (refine VcL.callF ok_tithinglaw24_LongUsers rfl rfl rfl rfl (Rets.mono (LongUsers_any H hvR hl) ?_); rintro _ w ⟨rfl, H⟩))
      | (show VcL _ _ _ _ (⟨_, .call ⟨.value (.func F_tithinglaw24_long), _, _⟩, _, _, _, _⟩ :: _) _ _ _; (refine VcL.callF ok_tithinglaw24_long rfl rfl rfl rfl (Rets.mono (long_any H haR hla) ?_); rintro _ w ⟨rfl, H⟩))
      | (show VcL _ _ _ _ (⟨_, .call ⟨.value (.func F_secret_New), _, _⟩, _, _, _, _⟩ :: _) _ _ _; (refine VcL.callF ok_secret_New rfl rfl rfl rfl (Rets.mono (New_bad H hvR hl hu seed hb) ?_); rintro _ w ⟨rfl, H⟩))
      | (show VcL _ _ _ _ (⟨_, .call ⟨.value (.func F_tithingref24_New), _, _⟩, _, _, _, _⟩ :: _) _ _ _; (refine VcL.callF ok_tithingref24_New rfl rfl rfl rfl (Rets.mono (NewR_bad H hvR hl hu seed hb) ?_); rintro _ w ⟨rfl, H⟩))
      | (refine VcL.guard rfl rfl rfl rfl (fun h => ?_) (fun h => ?_) <;> first | (cases h; done) | (with_reducible have hp := of_decide_eq_true h) | (with_reducible have hp := ndec_f h) | skip))
      | (show Vc _ _ _ _ _ _; first
      | refine Vc.seq ?_
      | refine Vc.region ?_
      | refine Vc.condT rfl ?_
      | refine Vc.ret ?_
      | refine Vc.skip ?_
      | (refine Vc.cond rfl (fun h => ?_) (fun h => ?_) <;> skip))
      | (show KSeq _ _ _ _ _ _ _; first
      | refine KSeq.normal ?_
      | refine KSeq.ret ?_)
      | (show KEnd _ _ _ _ _ _; refine KEnd.mk (Or.inr rfl) ⟨_, (ResL.tmp rfl ResL.nil), ?_⟩))
    all_goals exact ⟨rfl, H⟩
end Go.Proofs.Ytccbfajjboccoaa.V
