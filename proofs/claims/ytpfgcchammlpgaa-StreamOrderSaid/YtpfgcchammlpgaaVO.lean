/- The program's end: a tick. -/
import Derived.Test.YtpfgcchammlpgaaVN
namespace Go.Proofs.Ytpfgcchammlpgaa.V
open Go Go.Proofs.YtpfgcchammlpgaaV
set_option linter.unusedVariables false
set_option linter.unusedSimpArgs false
set_option maxHeartbeats 8000000
set_option maxRecDepth 4000
attribute [local irreducible] IntKind.wrap
variable {I : Imm} {w : World} {L : List Asn}
theorem ageS_kin (E : En) : Kin E (ageS E) := by
  unfold ageS
  split <;> exact ⟨rfl, rfl, rfl, rfl, rfl⟩
def tickR (E : En) : List Fr := if E.resets then [frameS E 5 E.resetAt []] else []
def tickN (E : En) : List Fr := match E.news with | some b => [⟨7, E.num, E.seq, 0, b⟩] | none => []
def tickB (E : En) : List Fr := if 0 < min E.out.length E.room ∧ E.resets = false then sentS E (min E.out.length E.room) else if E.quiet % 5 = 0 then [frameS E 3 0 (tailS E)] else []
theorem tickO_eq (E : En) : tickO E = tickR E ++ tickN E ++ tickB E := rfl
theorem Tick_any {e : Nat} {E : En} (H : Holds I w (endA I e E :: L)) (hq : E.quiet < 1099511627776) (hage4 : E.state = 4 ∨ E.age ≤ 40) :
    Rets Try.prog F_stream_End_Tick #[ptr e] w fun u w' => ∃ J sv, Imm.Le I J ∧ u = .tuple #[sv, .int .i64 0] ∧ FrsI J sv (tickS E).2 ∧ Holds J w' (endA J e (tickS E).1 :: L) := by
  obtain ⟨A1, c1, A2, c2, A3, c3, A4, c4, A5, c5, nv, cd, ob, es, ib, ms, hl, hm, HB⟩ := end_open H
  clear H
  have H := HB
  clear HB
  have ok := hm.ok
  have hst := ok.state
  have hag := ok.age
  have e1 : IntKind.i64.wrap ((E.age : Int) + 1) = ((E.age + 1 : Nat) : Int) := by rw [wrap_i64 (by omega) (by omega)]; omega
  by_cases h04 : E.state = 0 ∨ E.state = 4
  · have ht : tickS E = (E, []) := by unfold tickS; rw [if_pos h04]
    rw [ht]
    refine ok_stream_End_Tick.rets rfl ?_
    repeat' (first
      | (show VcL _ _ _ _ _ _ _ _; first
      | refine VcL.pures tabOk rfl ?_
      | refine VcL.nil ?_
      | (show VcL _ _ _ _ (⟨_, .load _ _, _, _, _, _⟩ :: _) _ _ _; refine VcL.load1 tabOk rfl rfl rfl rfl rfl (by exact Holds.cell H rfl) ?_)
      | (show VcL _ _ _ _ (⟨_, .call ⟨.value (.func F_stream_End_none), _, _⟩, _, _, _, _⟩ :: _) _ _ _; (refine VcL.callF ok_stream_End_none rfl rfl rfl rfl (Rets.mono (none_any (E := E) H Holds.toW ok.num.1) ?_); rintro _ w ⟨rfl, H⟩))
      | (refine VcL.guard rfl rfl rfl rfl (fun h => ?_) (fun h => ?_) <;> first | (with_reducible have hp := of_decide_eq_true h) | (with_reducible have hp := of_decide_eq_false h)))
      | (show Vc _ _ _ _ _ _; first
      | refine Vc.seq ?_
      | refine Vc.region ?_
      | refine Vc.condT rfl ?_
      | refine Vc.condF rfl ?_
      | refine Vc.ret ?_
      | refine Vc.skip ?_
      | (refine Vc.cond rfl (fun h => ?_) (fun h => ?_) <;> first | (exfalso; simp only [decide_eq_true_eq, decide_eq_false_iff_not, Bool.not_eq_true', Bool.not_eq_false'] at h; omega) | (with_reducible have hp := of_decide_eq_true h)))
      | (show KSeq _ _ _ _ _ _ _; first
      | refine KSeq.normal ?_
      | refine KSeq.ret ?_)
      | (show KEnd _ _ _ _ _ _ _; refine KEnd.fin (Or.inr rfl) ⟨_, (ResL.tmp rfl (ResL.tmp rfl ResL.nil)), ?_⟩))
    all_goals exact ⟨I, _, Imm.Le.rfl' I, rfl, FrsI.nil, end_close _ hm hl H⟩
  · have hage : E.age ≤ 40 := by omega
    by_cases hold : (E.state ≠ 1 ∨ E.other ≠ 0) ∧ 40 < E.age + 1
    · have ht : tickS E = ({ E with age := E.age + 1, state := 4 }, []) := by unfold tickS; rw [if_neg h04, if_pos hold]
      rw [ht]
      refine ok_stream_End_Tick.rets rfl ?_
      repeat' (first
        | rw [e1]
        | (show VcL _ _ _ _ _ _ _ _; first
      | refine VcL.pures tabOk rfl ?_
      | refine VcL.nil ?_
      | (show VcL _ _ _ _ (⟨_, .load _ _, _, _, _, _⟩ :: _) _ _ _; refine VcL.load1 tabOk rfl rfl rfl rfl rfl (by exact Holds.cell H rfl) ?_)
      | (show VcL _ _ _ _ (⟨_, .store _ _ _, _, _, _, _⟩ :: _) _ _ _; refine VcL.store tabOk rfl (by exact H) rfl rfl (by exact rfl) (by exact rfl) (by exact rfl) (by exact rfl) (fun w H => ?_))
      | (show VcL _ _ _ _ (⟨_, .call ⟨.value (.func F_stream_End_none), _, _⟩, _, _, _, _⟩ :: _) _ _ _; (refine VcL.callF ok_stream_End_none rfl rfl rfl rfl (Rets.mono (none_any (E := E) H Holds.toW ok.num.1) ?_); rintro _ w ⟨rfl, H⟩))
      | (refine VcL.guard rfl rfl rfl rfl (fun h => ?_) (fun h => ?_) <;> first | (exfalso; simp only [decide_eq_true_eq, decide_eq_false_iff_not, Bool.not_eq_true', Bool.not_eq_false'] at h; omega) | (with_reducible have hp := of_decide_eq_false h) | (with_reducible have hp := ndec_t h) | (with_reducible have hp := ndec_f h)))
        | (show Vc _ _ _ _ _ _; first
      | refine Vc.seq ?_
      | refine Vc.region ?_
      | refine Vc.condT rfl ?_
      | refine Vc.condF rfl ?_
      | refine Vc.ret ?_
      | refine Vc.skip ?_
      | (refine Vc.cond rfl (fun h => ?_) (fun h => ?_) <;> first | (exfalso; simp only [decide_eq_true_eq, decide_eq_false_iff_not, Bool.not_eq_true', Bool.not_eq_false'] at h; omega) | (with_reducible have hp := of_decide_eq_true h) | (with_reducible have hp := of_decide_eq_false h) | (with_reducible have hp := ndec_t h)))
        | (show KSeq _ _ _ _ _ _ _; first
      | refine KSeq.normal ?_
      | refine KSeq.ret ?_)
        | (show KEnd _ _ _ _ _ _ _; refine KEnd.fin (Or.inr rfl) ⟨_, (ResL.tmp rfl (ResL.tmp rfl ResL.nil)), ?_⟩))
      all_goals exact ⟨I, _, Imm.Le.rfl' I, rfl, FrsI.nil, end_close _ ⟨{ ok with age := by show E.age + 1 ≤ 41; omega, state := Nat.le_refl _ }, hm.news, hm.codes, hm.each⟩ ⟨hl.out, hl.ends, hl.inn, hl.marks⟩ H⟩
    · obtain ⟨E1, hE1⟩ : ∃ E1, ageS E = E1 := ⟨_, rfl⟩
      have ht : tickS E = (if E.state = 1 then (E1, []) else if E.state = 2 then (E1, [openingS E 1]) else ({ E1 with quiet := E.quiet + 1 }, tickO { E1 with quiet := E.quiet + 1 })) := by
        unfold tickS; rw [if_neg h04, if_neg hold, hE1]
      have hkin : Kin E E1 := by rw [← hE1]; exact ageS_kin E
      have hsam : E1.state = E.state ∧ E1.num = E.num ∧ E1.first = E.first ∧ E1.resets = E.resets ∧ E1.quiet = E.quiet ∧ E1.room = E.room := by rw [← hE1]; unfold ageS; split <;> exact ⟨rfl, rfl, rfl, rfl, rfl, rfl⟩
      have ok1 : EnOk E1 := by
        rw [← hE1]; unfold ageS
        split
        · rename_i h; exact { ok with age := by show E.age + 1 ≤ 41; omega }
        · exact ok
      have hag1 : (E.state ≠ 1 ∨ E.other ≠ 0) → E1 = { E with age := E.age + 1 } := fun h => by rw [← hE1]; exact if_pos h
      have hag0 : ¬ (E.state ≠ 1 ∨ E.other ≠ 0) → E1 = E := fun h => by rw [← hE1]; exact if_neg h
      have hil := hl.innL
      have hin := ok.inn
      rw [ht]
      clear hE1
      refine ok_stream_End_Tick.rets rfl ?_
      repeat' (first
        | rw [e1]
        | (show Vc _ _ (.seq (.seq (.region 5 _ _) _) _) _ _ _; refine Vc.cut [(0, ptr e)] (fun _ : Unit => []) (fun _ w => Holds I w (endQ e E1 ⟨.slice A1 ob.length c1, .slice A2 es.length c2, .slice A3 ib.length c3, .slice A4 ms.length c4, nv, .slice A5 cd.length c5, cd⟩ ob es ib ms L)) ?_ ?_)
        | (show VcL _ _ _ _ _ _ _ _; first
      | refine VcL.pures tabOk rfl ?_
      | refine VcL.nil ?_
      | (show VcL _ _ _ _ (⟨_, .load _ _, _, _, _, _⟩ :: _) _ _ _; refine VcL.load1 tabOk rfl rfl rfl rfl rfl (by exact Holds.cell H rfl) ?_)
      | (show VcL _ _ _ _ (⟨_, .store _ _ _, _, _, _, _⟩ :: _) _ _ _; refine VcL.store tabOk rfl (by exact H) rfl rfl (by exact rfl) (by exact rfl) (by exact rfl) (by exact rfl) (fun w H => ?_))
      | (show VcL _ _ _ _ (⟨_, .call ⟨.value (.func F_stream_End_none), _, _⟩, _, _, _, _⟩ :: _) _ _ _; (refine VcL.callF ok_stream_End_none rfl rfl rfl rfl (Rets.mono (none_any (E := E) H Holds.toW ok.num.1) ?_); rintro _ w ⟨rfl, H⟩))
      | (refine VcL.guard rfl rfl rfl rfl (fun h => ?_) (fun h => ?_) <;> first | (exfalso; simp only [decide_eq_true_eq, decide_eq_false_iff_not, Bool.not_eq_true', Bool.not_eq_false'] at h; omega) | (with_reducible have hp := of_decide_eq_false h) | (with_reducible have hp := ndec_t h) | (with_reducible have hp := ndec_f h)))
        | (show Vc _ _ _ _ _ _; first
      | refine Vc.seq ?_
      | refine Vc.region ?_
      | refine Vc.condT rfl ?_
      | refine Vc.condF rfl ?_
      | refine Vc.skip ?_
      | (refine Vc.cond rfl (fun h => ?_) (fun h => ?_) <;> first | (exfalso; simp only [decide_eq_true_eq, decide_eq_false_iff_not, Bool.not_eq_true', Bool.not_eq_false'] at h; omega) | (with_reducible have hp := of_decide_eq_false h) | (with_reducible have hp := ndec_t h) | (with_reducible have hp := ndec_f h)))
        | (show KSeq _ _ _ _ _ _ _; refine KSeq.normal ?_))
      all_goals first
        | exact KCut.join () trivial ⟨rfl, trivial⟩ (by rw [hag1 (by omega)]; exact H)
        | exact KCut.join () trivial ⟨rfl, trivial⟩ (by rw [hag0 (by omega)]; exact H)
        | skip
      clear H
      rintro _ w H
      obtain ⟨hs1, hs2, hs3, hs4, hs5, hs6⟩ := hsam
      have hf1 := hkin.f hm ok1
      have hl1 := hkin.l hl
      have hin1 := ok1.inn
      have hil1 := hl1.innL
      have hr1 : ∀ a, E.state = a → E1.state = a := fun a h => hs1.trans h
      by_cases h1 : E.state = 1
      · have h1' := hr1 _ h1
        rw [if_pos h1]
        repeat' (first
          | (show VcL _ _ _ _ _ _ _ _; first
      | refine VcL.pures tabOk rfl ?_
      | refine VcL.nil ?_
      | (show VcL _ _ _ _ (⟨_, .load _ _, _, _, _, _⟩ :: _) _ _ _; refine VcL.load1 tabOk rfl rfl rfl rfl rfl (by exact Holds.cell H rfl) ?_))
          | (show Vc _ _ _ _ _ _; first
      | refine Vc.seq ?_
      | refine Vc.region ?_
      | refine Vc.ret ?_
      | refine Vc.block ?_
      | (refine Vc.cond rfl (fun h => ?_) (fun h => ?_) <;> first | (exfalso; simp only [decide_eq_true_eq, decide_eq_false_iff_not, Bool.not_eq_true', Bool.not_eq_false'] at h; omega) | (with_reducible have hp := of_decide_eq_true h)))
          | (show KSeq _ _ _ _ _ _ _; first
      | refine KSeq.normal ?_
      | refine KSeq.ret ?_)
          | (show KBlock _ _ _ _ _ _; refine KBlock.ret ?_)
          | (show KEnd _ _ _ _ _ _ _; refine KEnd.fin (Or.inr rfl) ⟨_, (ResL.tmp rfl (ResL.tmp rfl ResL.nil)), ?_⟩))
        exact ⟨I, _, Imm.Le.rfl' I, rfl, FrsI.nil, end_close _ hf1 hl1 H⟩
      · by_cases h2 : E.state = 2
        · have h2' := hr1 _ h2
          have hop : openingS E1 1 = openingS E 1 := by unfold openingS winS; rw [hs2, hs3, hkin.inn]
          rw [if_neg h1, if_pos h2, ← hop]
          repeat' (first
            | (show VcL _ _ _ _ _ _ _ _; first
      | refine VcL.pures tabOk rfl ?_
      | refine VcL.nil ?_
      | (show VcL _ _ _ _ (⟨_, .load _ _, _, _, _, _⟩ :: _) _ _ _; refine VcL.load1 tabOk rfl rfl rfl rfl rfl (by exact Holds.cell H rfl) ?_)
      | refine VcL.buildSlice tabOk H rfl rfl rfl rfl rfl rfl (fun sv w H => ?_)
      | (show VcL _ _ _ _ (⟨_, .call ⟨.value (.func F_stream_End_opening), _, _⟩, _, _, _, _⟩ :: _) _ _ _; (refine VcL.callF ok_stream_End_opening rfl rfl rfl rfl (Rets.mono (opening_any (E := E1) (m := ⟨.slice A1 ob.length c1, .slice A2 es.length c2, .slice A3 ib.length c3, .slice A4 ms.length c4, nv, .slice A5 cd.length c5, cd⟩) H (RdW.mem (by repeat (exact .head _))) rfl hil1 hin1) ?_); rintro _ w ⟨rfl, H⟩)))
            | (show Vc _ _ _ _ _ _; first
      | refine Vc.seq ?_
      | refine Vc.region ?_
      | refine Vc.ret ?_
      | refine Vc.block ?_
      | (refine Vc.cond rfl (fun h => ?_) (fun h => ?_) <;> first | (exfalso; simp only [decide_eq_true_eq, decide_eq_false_iff_not, Bool.not_eq_true', Bool.not_eq_false'] at h; omega) | (with_reducible have hp := of_decide_eq_true h) | (with_reducible have hp := of_decide_eq_false h)))
            | (show KSeq _ _ _ _ _ _ _; first
      | refine KSeq.normal ?_
      | refine KSeq.ret ?_)
            | (show KBlock _ _ _ _ _ _; refine KBlock.ret ?_)
            | (show KEnd _ _ _ _ _ _ _; refine KEnd.fin (Or.inr rfl) ⟨_, (ResL.tmp rfl (ResL.tmp rfl ResL.nil)), ?_⟩))
          obtain ⟨J, hJ, H, hsv⟩ := Holds.freezeOwn H
          exact ⟨J, _, hJ, rfl, frsI_one (f := openingS E1 1) SlI.nil hsv, end_close _ (hf1.mono hJ) hl1 H⟩
        · have h3' : E1.state = 3 := by omega
          rw [if_neg h1, if_neg h2]
          have e2 : IntKind.i64.wrap ((E1.quiet : Int) + 1) = ((E.quiet + 1 : Nat) : Int) := by rw [wrap_i64 (by omega) (by omega)]; omega
          have ok2 : EnOk ({ E1 with quiet := E.quiet + 1 } : En) := { ok1 with quiet := by show E.quiet + 1 ≤ 1099511627776; omega }
          have hkin2 : Kin E1 ({ E1 with quiet := E.quiet + 1 } : En) := ⟨rfl, rfl, rfl, rfl, rfl⟩
          have hf2 := hkin2.f hf1 ok2
          have hl2 := hkin2.l hl1
          have tr0 : E1.resets = false → [] = tickR ({ E1 with quiet := E.quiet + 1 } : En) := fun h => by unfold tickR; rw [if_neg (by show ¬ E1.resets = true; rw [h]; decide)]
          have tr1 : E1.resets = true → [frameS ({ E1 with quiet := E.quiet + 1 } : En) 5 (E1.resetAt : Nat) []] = tickR ({ E1 with quiet := E.quiet + 1 } : En) := fun h => by unfold tickR; rw [if_pos (by show E1.resets = true; exact h)]
          repeat' (first
            | rw [e2]
            | (show Vc _ _ (.seq (.seq (.region 17 _ _) _) _) _ _ _; refine Vc.cut [(0, ptr e)] (fun q : Value => [(4, q)]) (fun q w => ∃ J, Imm.Le I J ∧ ∃ fl : List Fm, fl.map (·.fr) = tickR ({ E1 with quiet := E.quiet + 1 } : En) ∧ fl.length ≤ 1 ∧ (∀ x ∈ fl, FmOk J x) ∧ Holds J w (own q 24 5 fl.length (fl.flatMap fmC) :: endQ e ({ E1 with quiet := E.quiet + 1 } : En) ⟨.slice A1 ob.length c1, .slice A2 es.length c2, .slice A3 ib.length c3, .slice A4 ms.length c4, nv, .slice A5 cd.length c5, cd⟩ ob es ib ms L)) ?_ ?_)
            | (refine VcL.append (m := 1) (ds := fmC ⟨frameS ({ E1 with quiet := E.quiet + 1 } : En) 5 (E1.resetAt : Nat) [], .slice none 0 0⟩) tabOk rfl rfl rfl rfl (Holds.own_nil (Holds.drop H)) (Holds.own_src H) (fmC_slice _) (by show (0 + 1) * 56 ≤ _; omega) rfl rfl rfl (fun ov2 w H => ?_))
            | (show VcL _ _ _ _ _ _ _ _; first
      | refine VcL.pures tabOk rfl ?_
      | refine VcL.nil ?_
      | (show VcL _ _ _ _ (⟨_, .load _ _, _, _, _, _⟩ :: _) _ _ _; refine VcL.load1 tabOk rfl rfl rfl rfl rfl (by exact Holds.cell H rfl) ?_)
      | refine VcL.buildSlice tabOk H rfl rfl rfl rfl rfl rfl (fun sv w H => ?_)
      | (show VcL _ _ _ _ (⟨_, .store _ _ _, _, _, _, _⟩ :: _) _ _ _; refine VcL.store tabOk rfl (by exact H) rfl rfl (by exact rfl) (by exact rfl) (by exact rfl) (by exact rfl) (fun w H => ?_))
      | (show VcL _ _ _ _ (⟨_, .call ⟨.value (.func F_stream_End_frame), _, _⟩, _, _, _, _⟩ :: _) _ _ _; (refine VcL.callF ok_stream_End_frame rfl rfl rfl rfl (Rets.mono (frame_any (E := ({ E1 with quiet := E.quiet + 1 } : En)) (m := ⟨.slice A1 ob.length c1, .slice A2 es.length c2, .slice A3 ib.length c3, .slice A4 ms.length c4, nv, .slice A5 cd.length c5, cd⟩) H (RdW.mem (by repeat (exact .head _)))) ?_); rintro _ w ⟨rfl, H⟩)))
            | (show Vc _ _ _ _ _ _; first
      | refine Vc.seq ?_
      | refine Vc.region ?_
      | refine Vc.skip ?_
      | refine Vc.block ?_
      | (refine Vc.cond rfl (fun h => ?_) (fun h => ?_) <;> first | (exfalso; simp only [decide_eq_true_eq, decide_eq_false_iff_not, Bool.not_eq_true', Bool.not_eq_false'] at h; omega) | (with_reducible have hp := of_decide_eq_false h) | skip))
            | (show KSeq _ _ _ _ _ _ _; refine KSeq.normal ?_)
            | (show KBlock _ _ _ _ _ _; refine KBlock.normal ?_))
          all_goals first
            | exact KCut.join _ ⟨rfl, trivial⟩ ⟨rfl, trivial⟩ ⟨I, Imm.Le.rfl' I, [], tr0 (by assumption), Nat.zero_le _, fun x hx => (by cases hx), Holds.own_nil H⟩
            | exact KCut.join _ ⟨rfl, trivial⟩ ⟨rfl, trivial⟩ ⟨I, Imm.Le.rfl' I, [⟨frameS ({ E1 with quiet := E.quiet + 1 } : En) 5 (E1.resetAt : Nat) [], .slice none 0 0⟩], tr1 (by assumption), Nat.le_refl _, fun x hx => (by rw [List.mem_singleton] at hx; subst hx; exact SlI.nil), H⟩
            | skip
          clear H
          rintro q w ⟨J1, hJ1, fl1, hfl1, hle1, hfo1, H⟩
          have hq2 : ({ E1 with quiet := E.quiet + 1 } : En).quiet = E.quiet + 1 := rfl
          obtain ⟨E2, hE2⟩ : ∃ E2, ({ E1 with quiet := E.quiet + 1 } : En) = E2 := ⟨_, rfl⟩
          rw [hE2] at H hfl1 ok2 hf2 hl2 hq2 ⊢
          clear hE2 tr0 tr1 hag1 hag0 ht hkin2
          have hin2 := ok2.inn
          have hil2 := hl2.innL
          have hol2 := hl2.outL
          have hnwok := hf2.news
          have hroom2 := ok2.room
          have hout2 := ok2.out
          rcases hnw : E2.news with _ | nb
          · have hns : E2.news.isSome = false := by rw [hnw]; rfl
            have htn : tickN E2 = [] := by unfold tickN; rw [hnw]
            repeat' (first
              | (show Vc _ _ (.seq (.seq (.region 19 _ _) _) _) _ _ _; refine Vc.cut [(0, ptr e)] (fun q : Value => [(4, q)]) (fun q w => ∃ J, Imm.Le I J ∧ ∃ fl : List Fm, fl.map (·.fr) = tickR E2 ++ tickN E2 ∧ fl.length ≤ 2 ∧ (∀ x ∈ fl, FmOk J x) ∧ Holds J w (own q 24 5 fl.length (fl.flatMap fmC) :: endQ e E2 ⟨.slice A1 ob.length c1, .slice A2 es.length c2, .slice A3 ib.length c3, .slice A4 ms.length c4, nv, .slice A5 cd.length c5, cd⟩ ob es ib ms L)) ?_ ?_)
              | (show VcL _ _ _ _ _ _ _ _; first
      | refine VcL.pures tabOk rfl ?_
      | refine VcL.nil ?_
      | (show VcL _ _ _ _ (⟨_, .load _ _, _, _, _, _⟩ :: _) _ _ _; refine VcL.load1 tabOk rfl rfl rfl rfl rfl (by exact Holds.cell (Holds.f1 H) rfl) ?_))
              | (show VcD _ _ _ _ _ _ _ _ _; first
      | refine VcD.pures tabOk rfl ?_
      | (show VcD _ _ _ _ _ (.take _ _) _ _ _; refine VcD.load1 tabOk rfl rfl rfl rfl rfl rfl (by intro w_ hw_; exact Holds.cell (Holds.f1 hw_) rfl) (by exact rfl) ?_))
              | (show Vc _ _ _ _ _ _; first
      | refine Vc.seq ?_
      | refine Vc.region ?_
      | refine Vc.skip ?_
      | refine Vc.drawnH (id := 20) H (.pure 0 (.pure 1 (.pure 2 (.pure 3 (.pure 5 (.pure 6 (.pure 7 (.pure 9 (.pure 10 (.pure 11 (.take 4 (.take 8 (.take 12 (.only 13 (.pure 14 (.only 15 (.only 16 (.pure 17 .done)))))))))))))))))) mixed (by kernel_rfl) (fun w H => ?_)
      | (refine Vc.cond rfl (fun h => ?_) (fun h => ?_) <;> skip))
              | (show KSeq _ _ _ _ _ _ _; refine KSeq.normal ?_))
            all_goals first
              | exact KCut.join _ ⟨rfl, trivial⟩ ⟨rfl, trivial⟩ ⟨J1, hJ1, fl1, (by rw [htn, List.append_nil]; exact hfl1), (by omega), hfo1, H⟩
              | (exfalso; have hh : E2.news.isSome = true := (by assumption); rw [hns] at hh; cases hh; done)
              | skip
            clear H hfl1 hle1 hfo1
            rintro q w ⟨J2, hJ2, fl2, hfl2, hle2, hfo2, H⟩
            obtain ⟨tails, htls⟩ : ∃ t, tickR E2 ++ tickN E2 = t := ⟨_, rfl⟩
            rw [htls] at hfl2
            have hmn : min (ob.length : Int) (E2.room : Int) = ((min ob.length E2.room : Nat) : Int) := by omega
            obtain ⟨n, hn⟩ : ∃ n, min ob.length E2.room = n := ⟨_, rfl⟩
            rw [hn] at hmn
            have hn2 : min E2.out.length E2.room = n := by rw [← hol2]; exact hn
            have hqt : ((E2.quiet : Nat) : Int).tmod (Int.ofNat (4 + 1)) = ((E2.quiet % 5 : Nat) : Int) := by rw [Int.tmod_eq_emod_of_nonneg (by omega)]; rfl
            have hsend : 0 < n → E2.resets = false → tickB E2 = sentS E2 n := fun a b => by unfold tickB; rw [hn2, if_pos ⟨a, b⟩]
            have hsee : (¬ 0 < n ∨ E2.resets = true) → E2.quiet % 5 = 0 → tickB E2 = [frameS E2 3 0 (tailS E2)] := fun a b => by
              unfold tickB; rw [hn2, if_neg (fun h => by rcases a with a | a; exact a h.1; rw [a] at h; cases h.2), if_pos b]
            have hnon : (¬ 0 < n ∨ E2.resets = true) → ¬ E2.quiet % 5 = 0 → tickB E2 = [] := fun a b => by
              unfold tickB; rw [hn2, if_neg (fun h => by rcases a with a | a; exact a h.1; rw [a] at h; cases h.2), if_neg b]
            repeat' (first
              | rw [hmn]
              | rw [hqt]
              | (refine VcL.append (m := fl3.length) (ds := fl3.flatMap fmC) tabOk rfl rfl rfl rfl (Holds.f2 H) (Holds.own_src H) (fmC_ones hfo3) (by show (_ + _) * 56 ≤ _; omega) rfl rfl rfl (fun ov3 w H => ?_))
              | (refine VcL.append (m := 1) (ds := fmC ⟨frameS E2 3 0 (tailS E2), .slice A8 2 c8⟩) tabOk rfl rfl rfl rfl (Holds.f2 H) (Holds.own_src H) (fmC_slice _) (by show (_ + 1) * 56 ≤ _; omega) rfl rfl rfl (fun ov3 w H => ?_))
              | (show VcL _ _ _ _ _ _ _ _; first
      | refine VcL.pures tabOk rfl ?_
      | refine VcL.nil ?_
      | (show VcL _ _ _ _ (⟨_, .load _ _, _, _, _, _⟩ :: _) _ _ _; refine VcL.load1 tabOk rfl rfl rfl rfl rfl (by exact Holds.cell (Holds.f1 H) rfl) ?_)
      | refine VcL.buildSlice tabOk H rfl rfl rfl rfl rfl rfl (fun sv w H => ?_)
      | (show VcL _ _ _ _ (⟨_, .call ⟨.value (.func F_stream_End_sent), _, _⟩, _, _, _, _⟩ :: _) _ _ _; (refine VcL.callF ok_stream_End_sent rfl rfl rfl rfl (Rets.mono (sent_any (E := E2) (n := n) (L := own q 24 5 fl2.length (fl2.flatMap fmC) :: L) (end_close ⟨.slice A1 ob.length c1, .slice A2 es.length c2, .slice A3 ib.length c3, .slice A4 ms.length c4, nv, .slice A5 cd.length c5, cd⟩ (hf2.mono hJ2) hl2 (Holds.re [1, 1, 1, 1, 1, 1, 0] H rfl)) (by omega)) ?_); rintro _ w ⟨J3, hJ3, fl3, hfl3, hfo3, hle3, H⟩))
      | (show VcL _ _ _ _ (⟨_, .call ⟨.value (.func F_stream_End_tail), _, _⟩, _, _, _, _⟩ :: _) _ _ _; (refine VcL.callF ok_stream_End_tail rfl rfl rfl rfl (Rets.mono (tail_any (E := E2) (m := ⟨.slice A1 ob.length c1, .slice A2 es.length c2, .slice A3 ib.length c3, .slice A4 ms.length c4, nv, .slice A5 cd.length c5, cd⟩) H (RdW.mem (by repeat (first | exact .head _ | apply List.Mem.tail))) rfl hil2 hin2) ?_); rintro _ w H; obtain ⟨_, A8, c8, rfl⟩ := Holds.own_len H))
      | (show VcL _ _ _ _ (⟨_, .call ⟨.value (.func F_stream_End_frame), _, _⟩, _, _, _, _⟩ :: _) _ _ _; (refine VcL.callF ok_stream_End_frame rfl rfl rfl rfl (Rets.mono (frame_any (E := E2) (m := ⟨.slice A1 ob.length c1, .slice A2 es.length c2, .slice A3 ib.length c3, .slice A4 ms.length c4, nv, .slice A5 cd.length c5, cd⟩) H (RdW.mem (by repeat (first | exact .head _ | apply List.Mem.tail)))) ?_); rintro _ w ⟨rfl, H⟩))
      | (refine VcL.guard rfl rfl rfl rfl (fun h => ?_) (fun h => ?_) <;> first | (with_reducible have hp := of_decide_eq_true h) | (with_reducible have hp := of_decide_eq_false h)))
              | (show VcD _ _ _ _ _ _ _ _ _; first
      | refine VcD.pures tabOk rfl ?_
      | refine VcD.done ?_
      | (show VcD _ _ _ _ _ (.take _ _) _ _ _; refine VcD.load1 tabOk rfl rfl rfl rfl rfl rfl (by intro w_ hw_; exact Holds.cell (Holds.f1 hw_) rfl) (by exact rfl) ?_))
              | (show Vc _ _ _ _ _ _; first
      | refine Vc.seq ?_
      | refine Vc.region ?_
      | refine Vc.condF rfl ?_
      | refine Vc.ret ?_
      | refine Vc.skip ?_
      | refine Vc.drawnH (id := 21) H (.pure 0 (.pure 1 (.pure 2 (.pure 5 (.pure 6 (.pure 7 (.take 3 (.pure 4 (.take 8 (.pure 9 (.pure 10 .done))))))))))) mixed (by kernel_rfl) (fun w H => ?_)
      | (refine Vc.cond rfl (fun h => ?_) (fun h => ?_) <;> first | (with_reducible have hp := of_decide_eq_true h) | (with_reducible have hp := of_decide_eq_false h) | skip))
              | (show KSeq _ _ _ _ _ _ _; first
      | refine KSeq.normal ?_
      | refine KSeq.ret ?_)
              | (show KEnd _ _ _ _ _ _ _; refine KEnd.fin (Or.inr rfl) ⟨_, (ResL.tmp rfl (ResL.tmp rfl ResL.nil)), ?_⟩))
            all_goals first
              | (obtain ⟨J4, hJ4, H, hsv⟩ := Holds.freezeOwn H
                 exact ⟨J4, _, (hJ2.trans hJ3).trans hJ4, rfl, ⟨fl2 ++ fl3, (by rw [List.map_append, hfl2, hfl3, tickO_eq, htls, hsend (by omega) (by cases hr : E2.resets <;> simp_all)]), (by rw [List.length_append, List.flatMap_append]; exact hsv), fun x hx => (by rcases List.mem_append.1 hx with hx | hx; exact (hfo2 x hx).mono (hJ3.trans hJ4); exact (hfo3 x hx).mono hJ4)⟩, Holds.endUp hJ4 (Holds.drop H)⟩)
              | (obtain ⟨J4, hJ4, H, hsv⟩ := Holds.freezeOwn H
                 obtain ⟨J5, hJ5, H, htv⟩ := Holds.freezeOwn (Holds.f1 H)
                 exact ⟨J5, _, (hJ2.trans hJ4).trans hJ5, rfl, ⟨fl2 ++ [⟨frameS E2 3 0 (tailS E2), .slice A8 2 c8⟩], (by rw [List.map_append, hfl2, tickO_eq, htls, hsee (by first | exact .inl (by omega) | exact .inr (by cases hr : E2.resets <;> simp_all)) (by omega)]; rfl), (by rw [List.length_append, flat_snoc]; exact hsv.mono hJ5), fun x hx => (by rcases List.mem_append.1 hx with hx | hx; exact (hfo2 x hx).mono (hJ4.trans hJ5); rw [List.mem_singleton] at hx; subst hx; exact htv)⟩, end_close _ (hf2.mono ((hJ2.trans hJ4).trans hJ5)) hl2 (Holds.drop H)⟩)
              | (obtain ⟨J4, hJ4, H, hsv⟩ := Holds.freezeOwn H
                 exact ⟨J4, _, hJ2.trans hJ4, rfl, ⟨fl2, (by rw [hfl2, tickO_eq, htls, hnon (by first | exact .inl (by omega) | exact .inr (by cases hr : E2.resets <;> simp_all)) (by omega), List.append_nil]), hsv, fun x hx => (hfo2 x hx).mono hJ4⟩, end_close _ (hf2.mono (hJ2.trans hJ4)) hl2 H⟩)
          · have hns : E2.news.isSome = true := by rw [hnw]; rfl
            have htn : tickN E2 = [⟨7, E2.num, E2.seq, 0, nb⟩] := by unfold tickN; rw [hnw]
            have hnb := ok2.news nb (by rw [hnw]; rfl)
            rw [hnw] at hnwok
            have hnv : SlI I nv 1 nb.length (byL nb) := hnwok
            obtain ⟨An, cn, rfl, hcn⟩ := hnv.form
            repeat' (first
              | (show Vc _ _ (.seq (.seq (.region 19 _ _) _) _) _ _ _; refine Vc.cut [(0, ptr e)] (fun q : Value => [(4, q)]) (fun q w => ∃ J, Imm.Le I J ∧ ∃ fl : List Fm, fl.map (·.fr) = tickR E2 ++ tickN E2 ∧ fl.length ≤ 2 ∧ (∀ x ∈ fl, FmOk J x) ∧ Holds J w (own q 24 5 fl.length (fl.flatMap fmC) :: endQ e E2 ⟨.slice A1 ob.length c1, .slice A2 es.length c2, .slice A3 ib.length c3, .slice A4 ms.length c4, (.slice An nb.length cn), .slice A5 cd.length c5, cd⟩ ob es ib ms L)) ?_ ?_)
              | (refine VcD.append tabOk rfl rfl rfl rfl rfl (Holds.f2 H) (Src.slice rfl (Holds.pt_rd H)) (fmC_slice ⟨7, E2.num, E2.seq, 0, nb⟩ (A := A7) (n := nb.length) (c := c7)) (by show (_ + 1) * 56 ≤ _; omega) rfl rfl rfl (fun v_ w H => ⟨(by exact Holds.rdWhole (Holds.f3 H)), ?_⟩))
              | (show VcL _ _ _ _ _ _ _ _; first
      | refine VcL.pures tabOk rfl ?_
      | refine VcL.nil ?_
      | (show VcL _ _ _ _ (⟨_, .load _ _, _, _, _, _⟩ :: _) _ _ _; refine VcL.load1 tabOk rfl rfl rfl rfl rfl (by exact Holds.cell (Holds.f1 H) rfl) ?_))
              | (show VcD _ _ _ _ _ _ _ _ _; first
      | refine VcD.pures tabOk rfl ?_
      | refine VcD.done ?_
      | (show VcD _ _ _ _ _ (.take _ _) _ _ _; refine VcD.load1 tabOk rfl rfl rfl rfl rfl rfl (by intro w_ hw_; first | exact hw_ _ _ rfl | exact hw_ 0 _ rfl) (by exact rfl) ?_)
      | (show VcD _ _ _ _ _ (.only _ _) _ _ _; first
      | (refine VcD.callF (f := F_slices_Clone_byte_byte) rfl ok_slices_Clone_byte_byte rfl rfl rfl rfl (Rets.mono (CloneB_any H (SlI.toR (hnv.mono hJ1)) (byL_one nb) (by omega)) ?_); rintro _ w H; obtain ⟨_, A7, c7, rfl⟩ := Holds.own_len H; refine ⟨(by exact Holds.rdWhole (Holds.f2 H)), ?_⟩)
      | (refine VcD.eff rfl rfl rfl rfl (OpE.buildSliceP tabOk H rfl rfl rfl rfl) ?_; rintro _ w ⟨b_, rfl, H⟩; refine ⟨(by exact Holds.rdWhole (Holds.f3 H)), ?_⟩)))
              | (show Vc _ _ _ _ _ _; first
      | refine Vc.seq ?_
      | refine Vc.region ?_
      | refine Vc.skip ?_
      | (refine Vc.drawn (id := 20) (.pure 0 (.pure 1 (.pure 2 (.pure 3 (.pure 5 (.pure 6 (.pure 7 (.pure 9 (.pure 10 (.pure 11 (.take 4 (.take 8 (.take 12 (.only 13 (.pure 14 (.only 15 (.only 16 (.pure 17 .done)))))))))))))))))) (.one (fun w => Rd w e 0 (endV E2 ⟨.slice A1 ob.length c1, .slice A2 es.length c2, .slice A3 ib.length c3, .slice A4 ms.length c4, (.slice An nb.length cn), .slice A5 cd.length c5, cd⟩))) mixed (by kernel_rfl) (by exact Holds.rdWhole (Holds.f1 (Holds.drew H _))) ?_; have H := H.drew (w.drawn + 1))
      | (refine Vc.cond rfl (fun h => ?_) (fun h => ?_) <;> skip))
              | (show KSeq _ _ _ _ _ _ _; refine KSeq.normal ?_))
            all_goals first
              | (obtain ⟨J3, hJ3, H, hs7⟩ := Holds.freezeOwn (Holds.f2 H)
                 exact KCut.join _ ⟨rfl, trivial⟩ ⟨rfl, trivial⟩ ⟨J3, hJ1.trans hJ3, fl1 ++ [⟨⟨7, E2.num, E2.seq, 0, nb⟩, .slice A7 nb.length c7⟩], (by rw [List.map_append, hfl1, htn]; rfl), (by rw [List.length_append]; show fl1.length + 1 ≤ 2; omega), fun x hx => (by rcases List.mem_append.1 hx with hx | hx; exact (hfo1 x hx).mono hJ3; rw [List.mem_singleton] at hx; subst hx; exact hs7), (by rw [List.length_append, flat_snoc]; exact Holds.drop1 H)⟩)
              | (exfalso; have hh : E2.news.isSome = false := (by assumption); rw [hns] at hh; cases hh; done)
              | skip
            clear H hfl1 hle1 hfo1
            rintro q w ⟨J2, hJ2, fl2, hfl2, hle2, hfo2, H⟩
            obtain ⟨tails, htls⟩ : ∃ t, tickR E2 ++ tickN E2 = t := ⟨_, rfl⟩
            rw [htls] at hfl2
            have hmn : min (ob.length : Int) (E2.room : Int) = ((min ob.length E2.room : Nat) : Int) := by omega
            obtain ⟨n, hn⟩ : ∃ n, min ob.length E2.room = n := ⟨_, rfl⟩
            rw [hn] at hmn
            have hn2 : min E2.out.length E2.room = n := by rw [← hol2]; exact hn
            have hqt : ((E2.quiet : Nat) : Int).tmod (Int.ofNat (4 + 1)) = ((E2.quiet % 5 : Nat) : Int) := by rw [Int.tmod_eq_emod_of_nonneg (by omega)]; rfl
            have hsend : 0 < n → E2.resets = false → tickB E2 = sentS E2 n := fun a b => by unfold tickB; rw [hn2, if_pos ⟨a, b⟩]
            have hsee : (¬ 0 < n ∨ E2.resets = true) → E2.quiet % 5 = 0 → tickB E2 = [frameS E2 3 0 (tailS E2)] := fun a b => by
              unfold tickB; rw [hn2, if_neg (fun h => by rcases a with a | a; exact a h.1; rw [a] at h; cases h.2), if_pos b]
            have hnon : (¬ 0 < n ∨ E2.resets = true) → ¬ E2.quiet % 5 = 0 → tickB E2 = [] := fun a b => by
              unfold tickB; rw [hn2, if_neg (fun h => by rcases a with a | a; exact a h.1; rw [a] at h; cases h.2), if_neg b]
            repeat' (first
              | rw [hmn]
              | rw [hqt]
              | (refine VcL.append (m := fl3.length) (ds := fl3.flatMap fmC) tabOk rfl rfl rfl rfl (Holds.f2 H) (Holds.own_src H) (fmC_ones hfo3) (by show (_ + _) * 56 ≤ _; omega) rfl rfl rfl (fun ov3 w H => ?_))
              | (refine VcL.append (m := 1) (ds := fmC ⟨frameS E2 3 0 (tailS E2), .slice A8 2 c8⟩) tabOk rfl rfl rfl rfl (Holds.f2 H) (Holds.own_src H) (fmC_slice _) (by show (_ + 1) * 56 ≤ _; omega) rfl rfl rfl (fun ov3 w H => ?_))
              | (show VcL _ _ _ _ _ _ _ _; first
      | refine VcL.pures tabOk rfl ?_
      | refine VcL.nil ?_
      | (show VcL _ _ _ _ (⟨_, .load _ _, _, _, _, _⟩ :: _) _ _ _; refine VcL.load1 tabOk rfl rfl rfl rfl rfl (by exact Holds.cell (Holds.f1 H) rfl) ?_)
      | refine VcL.buildSlice tabOk H rfl rfl rfl rfl rfl rfl (fun sv w H => ?_)
      | (show VcL _ _ _ _ (⟨_, .call ⟨.value (.func F_stream_End_sent), _, _⟩, _, _, _, _⟩ :: _) _ _ _; (refine VcL.callF ok_stream_End_sent rfl rfl rfl rfl (Rets.mono (sent_any (E := E2) (n := n) (L := own q 24 5 fl2.length (fl2.flatMap fmC) :: L) (end_close ⟨.slice A1 ob.length c1, .slice A2 es.length c2, .slice A3 ib.length c3, .slice A4 ms.length c4, (.slice An nb.length cn), .slice A5 cd.length c5, cd⟩ (hf2.mono hJ2) hl2 (Holds.re [1, 1, 1, 1, 1, 1, 0] H rfl)) (by omega)) ?_); rintro _ w ⟨J3, hJ3, fl3, hfl3, hfo3, hle3, H⟩))
      | (show VcL _ _ _ _ (⟨_, .call ⟨.value (.func F_stream_End_tail), _, _⟩, _, _, _, _⟩ :: _) _ _ _; (refine VcL.callF ok_stream_End_tail rfl rfl rfl rfl (Rets.mono (tail_any (E := E2) (m := ⟨.slice A1 ob.length c1, .slice A2 es.length c2, .slice A3 ib.length c3, .slice A4 ms.length c4, (.slice An nb.length cn), .slice A5 cd.length c5, cd⟩) H (RdW.mem (by repeat (first | exact .head _ | apply List.Mem.tail))) rfl hil2 hin2) ?_); rintro _ w H; obtain ⟨_, A8, c8, rfl⟩ := Holds.own_len H))
      | (show VcL _ _ _ _ (⟨_, .call ⟨.value (.func F_stream_End_frame), _, _⟩, _, _, _, _⟩ :: _) _ _ _; (refine VcL.callF ok_stream_End_frame rfl rfl rfl rfl (Rets.mono (frame_any (E := E2) (m := ⟨.slice A1 ob.length c1, .slice A2 es.length c2, .slice A3 ib.length c3, .slice A4 ms.length c4, (.slice An nb.length cn), .slice A5 cd.length c5, cd⟩) H (RdW.mem (by repeat (first | exact .head _ | apply List.Mem.tail)))) ?_); rintro _ w ⟨rfl, H⟩))
      | (refine VcL.guard rfl rfl rfl rfl (fun h => ?_) (fun h => ?_) <;> first | (with_reducible have hp := of_decide_eq_true h) | (with_reducible have hp := of_decide_eq_false h)))
              | (show VcD _ _ _ _ _ _ _ _ _; first
      | refine VcD.pures tabOk rfl ?_
      | refine VcD.done ?_
      | (show VcD _ _ _ _ _ (.take _ _) _ _ _; refine VcD.load1 tabOk rfl rfl rfl rfl rfl rfl (by intro w_ hw_; exact Holds.cell (Holds.f1 hw_) rfl) (by exact rfl) ?_))
              | (show Vc _ _ _ _ _ _; first
      | refine Vc.seq ?_
      | refine Vc.region ?_
      | refine Vc.condF rfl ?_
      | refine Vc.ret ?_
      | refine Vc.skip ?_
      | refine Vc.drawnH (id := 21) H (.pure 0 (.pure 1 (.pure 2 (.pure 5 (.pure 6 (.pure 7 (.take 3 (.pure 4 (.take 8 (.pure 9 (.pure 10 .done))))))))))) mixed (by kernel_rfl) (fun w H => ?_)
      | (refine Vc.cond rfl (fun h => ?_) (fun h => ?_) <;> first | (with_reducible have hp := of_decide_eq_true h) | (with_reducible have hp := of_decide_eq_false h) | skip))
              | (show KSeq _ _ _ _ _ _ _; first
      | refine KSeq.normal ?_
      | refine KSeq.ret ?_)
              | (show KEnd _ _ _ _ _ _ _; refine KEnd.fin (Or.inr rfl) ⟨_, (ResL.tmp rfl (ResL.tmp rfl ResL.nil)), ?_⟩))
            all_goals first
              | (obtain ⟨J4, hJ4, H, hsv⟩ := Holds.freezeOwn H
                 exact ⟨J4, _, (hJ2.trans hJ3).trans hJ4, rfl, ⟨fl2 ++ fl3, (by rw [List.map_append, hfl2, hfl3, tickO_eq, htls, hsend (by omega) (by cases hr : E2.resets <;> simp_all)]), (by rw [List.length_append, List.flatMap_append]; exact hsv), fun x hx => (by rcases List.mem_append.1 hx with hx | hx; exact (hfo2 x hx).mono (hJ3.trans hJ4); exact (hfo3 x hx).mono hJ4)⟩, Holds.endUp hJ4 (Holds.drop H)⟩)
              | (obtain ⟨J4, hJ4, H, hsv⟩ := Holds.freezeOwn H
                 obtain ⟨J5, hJ5, H, htv⟩ := Holds.freezeOwn (Holds.f1 H)
                 exact ⟨J5, _, (hJ2.trans hJ4).trans hJ5, rfl, ⟨fl2 ++ [⟨frameS E2 3 0 (tailS E2), .slice A8 2 c8⟩], (by rw [List.map_append, hfl2, tickO_eq, htls, hsee (by first | exact .inl (by omega) | exact .inr (by cases hr : E2.resets <;> simp_all)) (by omega)]; rfl), (by rw [List.length_append, flat_snoc]; exact hsv.mono hJ5), fun x hx => (by rcases List.mem_append.1 hx with hx | hx; exact (hfo2 x hx).mono (hJ4.trans hJ5); rw [List.mem_singleton] at hx; subst hx; exact htv)⟩, end_close _ (hf2.mono ((hJ2.trans hJ4).trans hJ5)) hl2 (Holds.drop H)⟩)
              | (obtain ⟨J4, hJ4, H, hsv⟩ := Holds.freezeOwn H
                 exact ⟨J4, _, hJ2.trans hJ4, rfl, ⟨fl2, (by rw [hfl2, tickO_eq, htls, hnon (by first | exact .inl (by omega) | exact .inr (by cases hr : E2.resets <;> simp_all)) (by omega), List.append_nil]), hsv, fun x hx => (hfo2 x hx).mono hJ4⟩, end_close _ (hf2.mono (hJ2.trans hJ4)) hl2 H⟩)
end Go.Proofs.Ytpfgcchammlpgaa.V
