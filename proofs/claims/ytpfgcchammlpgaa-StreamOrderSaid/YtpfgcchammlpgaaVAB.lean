/- The document's end: a tick. -/
import Derived.Test.YtpfgcchammlpgaaVAA
namespace Go.Proofs.Ytpfgcchammlpgaa.V
open Go Go.Proofs.YtpfgcchammlpgaaV
set_option linter.unusedVariables false
set_option linter.unusedSimpArgs false
set_option maxHeartbeats 8000000
set_option maxRecDepth 4000
attribute [local irreducible] IntKind.wrap refA
variable {I : Imm} {w : World} {L : List Asn}
theorem sentS_zero (E : En) : sentS E 0 = [] := rfl
theorem sentS_pos (E : En) {n : Nat} (h0 : 0 < n) (hn : n ≤ E.out.length) : 0 < (sentS E n).length := by
  unfold sentS
  obtain ⟨m, rfl⟩ : ∃ m, n = m + 1 := ⟨n - 1, by omega⟩
  rcases hl : E.out.take (m + 1) with _ | ⟨x, r⟩
  · exfalso
    have := congrArg List.length hl
    rw [List.length_take, List.length_nil] at this
    omega
  · show 0 < (_ :: _ : List Fr).length
    rw [List.length_cons]
    omega
theorem RnF.aged {E : En} {m : RnM} (h : RnF I E m) {a : Nat} (ha : a ≤ 41) : RnF I { E with age := a } m := ⟨{ h.ok with age := ha }, h.still, h.news, h.codes, h.each⟩
theorem TickR_any {e : Nat} {E : En} (H : Holds I w (refA I e E :: L)) (hq : E.quiet < 1099511627776) (hage4 : E.state = 4 ∨ E.age ≤ 40) :
    Rets Try.prog F_tithingref12_End_Tick #[ptr e] w fun u w' => ∃ J, Imm.Le I J ∧ FrsI J u (tickS E).2 ∧ Holds J w' (refA J e (tickS E).1 :: L) := by
  obtain ⟨A1, c1, A2, c2, av, A3, c3, cd, hm, HB⟩ := ref_open H
  clear H
  have H := HB
  clear HB
  have ok := hm.ok
  have hst := ok.state
  have hag := ok.age
  have e1 : IntKind.i64.wrap ((E.age : Int) + 1) = ((E.age + 1 : Nat) : Int) := by rw [wrap_i64 (by omega) (by omega)]; omega
  by_cases h04 : E.state = 0 ∨ E.state = 4
  · have ht : tickS E = (E, []) := by unfold tickS; rw [if_pos h04]
    rw [ht]
    refine ok_tithingref12_End_Tick.rets rfl ?_
    repeat' (first
      | (show VcL _ _ _ _ _ _ _ _; first
      | refine VcL.pures tabOk rfl ?_
      | refine VcL.nil ?_
      | (show VcL _ _ _ _ (⟨_, .load _ _, _, _, _, _⟩ :: _) _ _ _; refine VcL.load1 tabOk rfl rfl rfl rfl rfl (by exact Holds.cell H rfl) ?_)
      | (refine VcL.guard rfl rfl rfl rfl (fun h => ?_) (fun h => ?_) <;> first | (cases h; done) | (exfalso; simp only [decide_eq_true_eq, decide_eq_false_iff_not, Bool.not_eq_true', Bool.not_eq_false'] at h; omega) | (with_reducible have hp := of_decide_eq_true h) | (with_reducible have hp := of_decide_eq_false h) | skip))
      | (show Vc _ _ _ _ _ _; first
      | refine Vc.seq ?_
      | refine Vc.region ?_
      | refine Vc.condT rfl ?_
      | refine Vc.ret ?_)
      | (show KSeq _ _ _ _ _ _ _; first
      | refine KSeq.normal ?_
      | refine KSeq.ret ?_)
      | (show KEnd _ _ _ _ _ _ _; refine KEnd.fin (Or.inr rfl) ⟨_, (ResL.tmp rfl ResL.nil), ?_⟩))
    all_goals exact ⟨I, Imm.Le.rfl' I, FrsI.nil, ref_close _ hm H⟩
  have hage : E.age ≤ 40 := by omega
  by_cases h10 : E.state = 1 ∧ E.other = 0
  · have hn : ¬ (E.state ≠ 1 ∨ E.other ≠ 0) := by omega
    have ht : tickS E = (E, []) := by
      unfold tickS ageS
      rw [if_neg h04, if_neg (fun h => hn h.1), if_pos h10.1, if_neg hn]
    rw [ht]
    refine ok_tithingref12_End_Tick.rets rfl ?_
    repeat' (first
      | (show VcL _ _ _ _ _ _ _ _; first
      | refine VcL.pures tabOk rfl ?_
      | refine VcL.nil ?_
      | (show VcL _ _ _ _ (⟨_, .load _ _, _, _, _, _⟩ :: _) _ _ _; refine VcL.load1 tabOk rfl rfl rfl rfl rfl (by exact Holds.cell H rfl) ?_)
      | (refine VcL.guard rfl rfl rfl rfl (fun h => ?_) (fun h => ?_) <;> first | (exfalso; simp only [decide_eq_true_eq, decide_eq_false_iff_not, Bool.not_eq_true', Bool.not_eq_false'] at h; omega) | (with_reducible have hp := of_decide_eq_true h) | (with_reducible have hp := of_decide_eq_false h)))
      | (show Vc _ _ _ _ _ _; first
      | refine Vc.seq ?_
      | refine Vc.region ?_
      | refine Vc.ret ?_
      | (refine Vc.cond rfl (fun h => ?_) (fun h => ?_) <;> first | (exfalso; simp only [decide_eq_true_eq, decide_eq_false_iff_not, Bool.not_eq_true', Bool.not_eq_false'] at h; omega) | (with_reducible have hp := of_decide_eq_true h)))
      | (show KSeq _ _ _ _ _ _ _; first
      | refine KSeq.normal ?_
      | refine KSeq.ret ?_)
      | (show KEnd _ _ _ _ _ _ _; refine KEnd.fin (Or.inr rfl) ⟨_, (ResL.tmp rfl ResL.nil), ?_⟩))
    all_goals exact ⟨I, Imm.Le.rfl' I, FrsI.nil, ref_close _ hm H⟩
  have hn : E.state ≠ 1 ∨ E.other ≠ 0 := by omega
  by_cases hold : 40 < E.age + 1
  · have ht : tickS E = ({ E with age := E.age + 1, state := 4 }, []) := by unfold tickS; rw [if_neg h04, if_pos ⟨hn, hold⟩]
    rw [ht]
    refine ok_tithingref12_End_Tick.rets rfl ?_
    repeat' (first
      | rw [e1]
      | (show VcL _ _ _ _ _ _ _ _; first
      | refine VcL.pures tabOk rfl ?_
      | refine VcL.nil ?_
      | (show VcL _ _ _ _ (⟨_, .load _ _, _, _, _, _⟩ :: _) _ _ _; refine VcL.load1 tabOk rfl rfl rfl rfl rfl (by exact Holds.cell H rfl) ?_)
      | (show VcL _ _ _ _ (⟨_, .store _ _ _, _, _, _, _⟩ :: _) _ _ _; refine VcL.store tabOk rfl (by exact H) rfl rfl (by exact rfl) (by exact rfl) (by exact rfl) (by exact rfl) (fun w H => ?_))
      | (refine VcL.guard rfl rfl rfl rfl (fun h => ?_) (fun h => ?_) <;> first | (exfalso; simp only [decide_eq_true_eq, decide_eq_false_iff_not, Bool.not_eq_true', Bool.not_eq_false'] at h; omega) | (with_reducible have hp := of_decide_eq_true h) | (with_reducible have hp := of_decide_eq_false h)))
      | (show Vc _ _ _ _ _ _; first
      | refine Vc.seq ?_
      | refine Vc.region ?_
      | refine Vc.condF rfl ?_
      | refine Vc.ret ?_
      | refine Vc.skip ?_
      | (refine Vc.cond rfl (fun h => ?_) (fun h => ?_) <;> first | (exfalso; simp only [decide_eq_true_eq, decide_eq_false_iff_not, Bool.not_eq_true', Bool.not_eq_false'] at h; omega) | (with_reducible have hp := of_decide_eq_true h) | (with_reducible have hp := of_decide_eq_false h)))
      | (show KSeq _ _ _ _ _ _ _; first
      | refine KSeq.normal ?_
      | refine KSeq.ret ?_)
      | (show KEnd _ _ _ _ _ _ _; refine KEnd.fin (Or.inr rfl) ⟨_, (ResL.tmp rfl ResL.nil), ?_⟩))
    all_goals exact ⟨I, Imm.Le.rfl' I, FrsI.nil, ref_close _ ⟨{ ok with age := by show E.age + 1 ≤ 41; omega, state := Nat.le_refl _ }, fun h => absurd h (by show ¬ 4 ≤ 2; omega), hm.news, hm.codes, hm.each⟩ H⟩
  have ht : tickS E = (if E.state = 1 then ({ E with age := E.age + 1 }, []) else if E.state = 2 then ({ E with age := E.age + 1 }, [openingS E 1]) else ({ E with age := E.age + 1, quiet := E.quiet + 1 }, tickO { E with age := E.age + 1, quiet := E.quiet + 1 })) := by
    unfold tickS ageS
    rw [if_neg h04, if_neg (fun h => hold h.2), if_pos hn]
  have hin := ok.inn
  rw [ht]
  by_cases h1 : E.state = 1
  · rw [if_pos h1]
    refine ok_tithingref12_End_Tick.rets rfl ?_
    repeat' (first
      | rw [e1]
      | (show VcL _ _ _ _ _ _ _ _; first
      | refine VcL.pures tabOk rfl ?_
      | refine VcL.nil ?_
      | (show VcL _ _ _ _ (⟨_, .load _ _, _, _, _, _⟩ :: _) _ _ _; refine VcL.load1 tabOk rfl rfl rfl rfl rfl (by exact Holds.cell H rfl) ?_)
      | (show VcL _ _ _ _ (⟨_, .store _ _ _, _, _, _, _⟩ :: _) _ _ _; refine VcL.store tabOk rfl (by exact H) rfl rfl (by exact rfl) (by exact rfl) (by exact rfl) (by exact rfl) (fun w H => ?_))
      | (refine VcL.guard rfl rfl rfl rfl (fun h => ?_) (fun h => ?_) <;> first | (exfalso; simp only [decide_eq_true_eq, decide_eq_false_iff_not, Bool.not_eq_true', Bool.not_eq_false'] at h; omega) | (with_reducible have hp := of_decide_eq_true h) | (with_reducible have hp := of_decide_eq_false h)))
      | (show Vc _ _ _ _ _ _; first
      | refine Vc.seq ?_
      | refine Vc.region ?_
      | refine Vc.ret ?_
      | refine Vc.skip ?_
      | refine Vc.block ?_
      | (refine Vc.cond rfl (fun h => ?_) (fun h => ?_) <;> first | (exfalso; simp only [decide_eq_true_eq, decide_eq_false_iff_not, Bool.not_eq_true', Bool.not_eq_false'] at h; omega) | (with_reducible have hp := of_decide_eq_true h) | (with_reducible have hp := of_decide_eq_false h)))
      | (show KSeq _ _ _ _ _ _ _; first
      | refine KSeq.normal ?_
      | refine KSeq.ret ?_)
      | (show KBlock _ _ _ _ _ _; refine KBlock.ret ?_)
      | (show KEnd _ _ _ _ _ _ _; refine KEnd.fin (Or.inr rfl) ⟨_, (ResL.tmp rfl ResL.nil), ?_⟩))
    all_goals exact ⟨I, Imm.Le.rfl' I, FrsI.nil, ref_close _ (hm.aged (by omega)) H⟩
  by_cases h2 : E.state = 2
  · rw [if_neg h1, if_pos h2]
    refine ok_tithingref12_End_Tick.rets rfl ?_
    repeat' (first
      | rw [e1]
      | (show VcL _ _ _ _ _ _ _ _; first
      | refine VcL.pures tabOk rfl ?_
      | refine VcL.nil ?_
      | (show VcL _ _ _ _ (⟨_, .load _ _, _, _, _, _⟩ :: _) _ _ _; refine VcL.load1 tabOk rfl rfl rfl rfl rfl (by exact Holds.cell H rfl) ?_)
      | refine VcL.buildSlice tabOk H rfl rfl rfl rfl rfl rfl (fun sv w H => ?_)
      | (show VcL _ _ _ _ (⟨_, .store _ _ _, _, _, _, _⟩ :: _) _ _ _; refine VcL.store tabOk rfl (by exact H) rfl rfl (by exact rfl) (by exact rfl) (by exact rfl) (by exact rfl) (fun w H => ?_))
      | (show VcL _ _ _ _ (⟨_, .call ⟨.value (.func F_tithingref12_End_hello), _, _⟩, _, _, _, _⟩ :: _) _ _ _; (refine VcL.callF ok_tithingref12_End_hello rfl rfl rfl rfl (Rets.mono (helloR_any (E := { E with age := E.age + 1 }) (m := ⟨.slice A1 E.out.length c1, .slice A2 E.inn.length c2, av, .slice A3 cd.length c3, cd⟩) H (RdW.mem (by repeat (exact .head _))) rfl rfl hin) ?_); rintro _ w ⟨rfl, H⟩))
      | (refine VcL.guard rfl rfl rfl rfl (fun h => ?_) (fun h => ?_) <;> first | (exfalso; simp only [decide_eq_true_eq, decide_eq_false_iff_not, Bool.not_eq_true', Bool.not_eq_false'] at h; omega) | (with_reducible have hp := of_decide_eq_false h)))
      | (show Vc _ _ _ _ _ _; first
      | refine Vc.seq ?_
      | refine Vc.region ?_
      | refine Vc.condF rfl ?_
      | refine Vc.ret ?_
      | refine Vc.skip ?_
      | refine Vc.block ?_
      | (refine Vc.cond rfl (fun h => ?_) (fun h => ?_) <;> first | (exfalso; simp only [decide_eq_true_eq, decide_eq_false_iff_not, Bool.not_eq_true', Bool.not_eq_false'] at h; omega) | (with_reducible have hp := of_decide_eq_true h) | (with_reducible have hp := of_decide_eq_false h)))
      | (show KSeq _ _ _ _ _ _ _; first
      | refine KSeq.normal ?_
      | refine KSeq.ret ?_)
      | (show KBlock _ _ _ _ _ _; refine KBlock.ret ?_)
      | (show KEnd _ _ _ _ _ _ _; refine KEnd.fin (Or.inr rfl) ⟨_, (ResL.tmp rfl ResL.nil), ?_⟩))
    obtain ⟨J, hJ, H, hsv⟩ := Holds.freezeOwn H
    exact ⟨J, hJ, frsI_one (f := openingS E 1) SlI.nil hsv, ref_close _ ((hm.mono hJ).aged (by omega)) H⟩
  have h3 : E.state = 3 := by omega
  rw [if_neg h1, if_neg h2]
  have e2 : IntKind.i64.wrap ((E.quiet : Int) + 1) = ((E.quiet + 1 : Nat) : Int) := by rw [wrap_i64 (by omega) (by omega)]; omega
  have hm2 : RnF I { E with age := E.age + 1, quiet := E.quiet + 1 } ⟨.slice A1 E.out.length c1, .slice A2 E.inn.length c2, av, .slice A3 cd.length c3, cd⟩ := ⟨{ ok with age := by show E.age + 1 ≤ 41; omega, quiet := by show E.quiet + 1 ≤ 1099511627776; omega }, fun h => absurd h (by show ¬ E.state ≤ 2; omega), hm.news, hm.codes, hm.each⟩
  have tr0 : E.resets = false → [] = tickR ({ E with age := E.age + 1, quiet := E.quiet + 1 } : En) := fun h => by unfold tickR; rw [if_neg (by show ¬ E.resets = true; rw [h]; decide)]
  have tr1 : E.resets = true → [frameS ({ E with age := E.age + 1, quiet := E.quiet + 1 } : En) 5 (E.resetAt : Nat) []] = tickR ({ E with age := E.age + 1, quiet := E.quiet + 1 } : En) := fun h => by unfold tickR; rw [if_pos (by show E.resets = true; exact h)]
  refine ok_tithingref12_End_Tick.rets rfl ?_
  repeat' (first
    | rw [e1]
    | rw [e2]
    | (show Vc _ _ (.seq (.seq (.region 14 _ _) _) _) _ _ _; refine Vc.cut [(0, ptr e)] (fun q : Value => [(3, q)]) (fun q w => ∃ fl : List Fm, fl.map (·.fr) = tickR ({ E with age := E.age + 1, quiet := E.quiet + 1 } : En) ∧ fl.length ≤ 1 ∧ (∀ x ∈ fl, FmOk I x) ∧ Holds I w (own q 24 5 fl.length (fl.flatMap fmC) :: refQ e ({ E with age := E.age + 1, quiet := E.quiet + 1 } : En) ⟨.slice A1 E.out.length c1, .slice A2 E.inn.length c2, av, .slice A3 cd.length c3, cd⟩ L)) ?_ ?_)
    | (refine VcL.append (m := 1) (ds := fmC ⟨frameS ({ E with age := E.age + 1, quiet := E.quiet + 1 } : En) 5 (E.resetAt : Nat) [], .slice none 0 0⟩) tabOk rfl rfl rfl rfl (Holds.own_nil (Holds.drop H)) (Holds.own_src H) (fmC_slice _) (by show (0 + 1) * 56 ≤ _; omega) rfl rfl rfl (fun ov2 w H => ?_))
    | (show VcL _ _ _ _ _ _ _ _; first
      | refine VcL.pures tabOk rfl ?_
      | refine VcL.nil ?_
      | (show VcL _ _ _ _ (⟨_, .load _ _, _, _, _, _⟩ :: _) _ _ _; refine VcL.load1 tabOk rfl rfl rfl rfl rfl (by exact Holds.cell H rfl) ?_)
      | refine VcL.buildSlice tabOk H rfl rfl rfl rfl rfl rfl (fun sv w H => ?_)
      | (show VcL _ _ _ _ (⟨_, .store _ _ _, _, _, _, _⟩ :: _) _ _ _; refine VcL.store tabOk rfl (by exact H) rfl rfl (by exact rfl) (by exact rfl) (by exact rfl) (by exact rfl) (fun w H => ?_))
      | (show VcL _ _ _ _ (⟨_, .call ⟨.value (.func F_tithingref12_End_frame), _, _⟩, _, _, _, _⟩ :: _) _ _ _; (refine VcL.callF ok_tithingref12_End_frame rfl rfl rfl rfl (Rets.mono (frameR_any (E := ({ E with age := E.age + 1, quiet := E.quiet + 1 } : En)) (m := ⟨.slice A1 E.out.length c1, .slice A2 E.inn.length c2, av, .slice A3 cd.length c3, cd⟩) H (RdW.mem (by repeat (exact .head _)))) ?_); rintro _ w ⟨rfl, H⟩))
      | (refine VcL.guard rfl rfl rfl rfl (fun h => ?_) (fun h => ?_) <;> first | (exfalso; simp only [decide_eq_true_eq, decide_eq_false_iff_not, Bool.not_eq_true', Bool.not_eq_false'] at h; omega) | (with_reducible have hp := of_decide_eq_false h)))
    | (show Vc _ _ _ _ _ _; first
      | refine Vc.seq ?_
      | refine Vc.region ?_
      | refine Vc.condF rfl ?_
      | refine Vc.skip ?_
      | refine Vc.block ?_
      | (refine Vc.cond rfl (fun h => ?_) (fun h => ?_) <;> first | (exfalso; simp only [decide_eq_true_eq, decide_eq_false_iff_not, Bool.not_eq_true', Bool.not_eq_false'] at h; omega) | (with_reducible have hp := of_decide_eq_false h) | skip))
    | (show KSeq _ _ _ _ _ _ _; refine KSeq.normal ?_)
    | (show KBlock _ _ _ _ _ _; refine KBlock.normal ?_))
  all_goals first
    | exact KCut.join _ ⟨rfl, trivial⟩ ⟨rfl, trivial⟩ ⟨[], tr0 (by assumption), Nat.zero_le _, fun x hx => (by cases hx), Holds.own_nil H⟩
    | exact KCut.join _ ⟨rfl, trivial⟩ ⟨rfl, trivial⟩ ⟨[⟨frameS ({ E with age := E.age + 1, quiet := E.quiet + 1 } : En) 5 (E.resetAt : Nat) [], .slice none 0 0⟩], tr1 (by assumption), Nat.le_refl _, fun x hx => (by rw [List.mem_singleton] at hx; subst hx; exact SlI.nil), H⟩
    | skip
  clear H
  rintro q w ⟨fl1, hfl1, hle1, hfo1, H⟩
  obtain ⟨E2, hE2⟩ : ∃ E2, ({ E with age := E.age + 1, quiet := E.quiet + 1 } : En) = E2 := ⟨_, rfl⟩
  have ho2 : E.out.length = E2.out.length ∧ E.inn.length = E2.inn.length := by rw [← hE2]; exact ⟨rfl, rfl⟩
  rw [hE2] at H hfl1 hm2 ⊢
  rw [ho2.1, ho2.2] at H hm2
  clear hE2 tr0 tr1 ht hm ok h04 hage hag hage4 h10 hn hold h1 h2 h3 hst hin e1 e2
  have ok2 := hm2.ok
  have hin2 := ok2.inn
  have hnwok := hm2.news
  have hroom2 := ok2.room
  have hout2 := ok2.out
  rcases hnw : E2.news with _ | nb
  · have hns : E2.news.isSome = false := by rw [hnw]; rfl
    have htn : tickN E2 = [] := by unfold tickN; rw [hnw]
    repeat' (first
      | rw [hns]
      | (show Vc _ _ (.seq (.seq (.region 16 _ _) _) _) _ _ _; refine Vc.cut [(0, ptr e)] (fun q : Value => [(3, q)]) (fun q w => ∃ J, Imm.Le I J ∧ ∃ fl : List Fm, fl.map (·.fr) = tickR E2 ++ tickN E2 ∧ fl.length ≤ 2 ∧ (∀ x ∈ fl, FmOk J x) ∧ Holds J w (own q 24 5 fl.length (fl.flatMap fmC) :: refQ e E2 ⟨.slice A1 E2.out.length c1, .slice A2 E2.inn.length c2, av, .slice A3 cd.length c3, cd⟩ L)) ?_ ?_)
      | (show VcL _ _ _ _ _ _ _ _; first
      | refine VcL.pures tabOk rfl ?_
      | refine VcL.nil ?_
      | (show VcL _ _ _ _ (⟨_, .load _ _, _, _, _, _⟩ :: _) _ _ _; refine VcL.load1 tabOk rfl rfl rfl rfl rfl (by exact Holds.cell (Holds.f1 H) rfl) ?_))
      | (show Vc _ _ _ _ _ _; first
      | refine Vc.seq ?_
      | refine Vc.region ?_
      | refine Vc.condF rfl ?_
      | refine Vc.skip ?_)
      | (show KSeq _ _ _ _ _ _ _; refine KSeq.normal ?_))
    · exact KCut.join _ ⟨rfl, trivial⟩ ⟨rfl, trivial⟩ ⟨I, Imm.Le.rfl' I, fl1, (by rw [htn, List.append_nil]; exact hfl1), (by omega), hfo1, H⟩
    clear H hfl1 hle1 hfo1
    rintro q w ⟨J2, hJ2, fl2, hfl2, hle2, hfo2, H⟩
    obtain ⟨tails, htls⟩ : ∃ t, tickR E2 ++ tickN E2 = t := ⟨_, rfl⟩
    rw [htls] at hfl2
    obtain ⟨n, hn⟩ : ∃ n, min E2.out.length E2.room = n := ⟨_, rfl⟩
    have hqt : ((E2.quiet : Nat) : Int).tmod (Int.ofNat (4 + 1)) = ((E2.quiet % 5 : Nat) : Int) := by rw [Int.tmod_eq_emod_of_nonneg (by omega)]; rfl
    have hpos := fun h => sentS_pos E2 (n := n) h (by omega)
    have hz0 := sentS_zero E2
    have hB : tickB E2 = if 0 < n ∧ E2.resets = false then sentS E2 n else if E2.quiet % 5 = 0 then [frameS E2 3 0 (tailS E2)] else [] := by unfold tickB; rw [hn]
    obtain ⟨sl, hsl⟩ : ∃ sl, (if E2.resets = true then [] else sentS E2 n) = sl := ⟨_, rfl⟩
    have hB1 : 0 < sl.length → tickB E2 = sl := fun h => by
      rw [hB, ← hsl]
      cases hr : E2.resets with
      | true => rw [← hsl, hr, if_pos rfl] at h; exact absurd h (Nat.lt_irrefl _)
      | false =>
        by_cases hn0 : 0 < n
        · rw [if_pos ⟨hn0, rfl⟩, if_neg (by decide)]
        · exfalso
          obtain rfl : n = 0 := by omega
          rw [← hsl, hr, if_neg (by decide), hz0] at h
          exact absurd h (Nat.lt_irrefl _)
    have hB2 : sl.length = 0 → tickB E2 = if E2.quiet % 5 = 0 then [frameS E2 3 0 (tailS E2)] else [] := fun h => by
      rw [hB, if_neg]
      rintro ⟨h1, h2⟩
      have := hpos h1
      rw [← hsl, h2, if_neg (by decide)] at h
      omega
    have hB3 : sl.length = 0 → E2.quiet % 5 = 0 → tickB E2 = [frameS E2 3 0 (tailS E2)] := fun h h' => by rw [hB2 h, if_pos h']
    have hB4 : sl.length = 0 → ¬ E2.quiet % 5 = 0 → tickB E2 = [] := fun h h' => by rw [hB2 h, if_neg h']
    have hsends := fun (w : World) (L : List Asn) (H : Holds J2 w (refA J2 e E2 :: L)) => sendsR_any H
    rw [hn, hsl] at hsends
    have hB5 : ¬ (sl.length = 0 ∧ E2.quiet % 5 = 0) → tickB E2 = sl := fun h => by
      by_cases h0 : sl.length = 0
      · rw [hB4 h0 (fun h' => h ⟨h0, h'⟩), List.eq_nil_of_length_eq_zero h0]
      · exact hB1 (by omega)
    clear hB hB1 hB2 hB4 hpos hz0 hsl
    repeat' (first
      | rw [hqt]
      | (refine VcL.append (m := 1) (ds := fmC ⟨frameS E2 3 0 (tailS E2), .slice A8 2 c8⟩) tabOk rfl rfl rfl rfl (Holds.f7 H) (Holds.own_src H) (fmC_slice _) (by show (_ + 1) * 56 ≤ _; omega) rfl rfl rfl (fun ov3 w H => ?_))
      | (refine VcL.append (m := fl3.length) (ds := fl3.flatMap fmC) tabOk rfl rfl rfl rfl (Holds.f5 H) (Holds.own_src (Holds.f4 H)) (fmC_ones hfo3) (by show (_ + _) * 56 ≤ _; omega) rfl rfl rfl (fun ov3 w H => ?_))
      | (show VcL _ _ _ _ _ _ _ _; first
      | refine VcL.pures tabOk rfl ?_
      | refine VcL.nil ?_
      | (show VcL _ _ _ _ (⟨_, .load _ _, _, _, _, _⟩ :: _) _ _ _; refine VcL.load1 tabOk rfl rfl rfl rfl rfl (by exact Holds.cell H rfl) ?_)
      | refine VcL.buildSlice tabOk H rfl rfl rfl rfl rfl rfl (fun sv w H => ?_)
      | (show VcL _ _ _ _ (⟨_, .call ⟨.value (.func F_tithingref12_End_sends), _, _⟩, _, _, _, _⟩ :: _) _ _ _; (refine VcL.callF ok_tithingref12_End_sends rfl rfl rfl rfl (Rets.mono (hsends _ (own q 24 5 fl2.length (fl2.flatMap fmC) :: L) (ref_close ⟨.slice A1 E2.out.length c1, .slice A2 E2.inn.length c2, av, .slice A3 cd.length c3, cd⟩ (hm2.mono hJ2) (Holds.re [1, 1, 1, 1, 0] H rfl))) ?_); rintro _ w ⟨J3, hJ3, fl3, hfl3, hfo3, hle3, H⟩; obtain ⟨_, A4, c4, rfl⟩ := Holds.own_len H; have hsl3 : fl3.length = sl.length := (by rw [← hfl3, List.length_map]); obtain ⟨B1, d1, B2, d2, av4, B3, d3, cd4, hm4, H⟩ := ref_open (Holds.f1 H)))
      | (show VcL _ _ _ _ (⟨_, .call ⟨.value (.func F_tithingref12_End_seen), _, _⟩, _, _, _, _⟩ :: _) _ _ _; (refine VcL.callF ok_tithingref12_End_seen rfl rfl rfl rfl (Rets.mono (seenR_any (E := E2) (m := ⟨.slice B1 E2.out.length d1, .slice B2 E2.inn.length d2, av4, .slice B3 cd4.length d3, cd4⟩) H (RdW.mem (by repeat (exact .head _))) rfl rfl hin2) ?_); rintro _ w ⟨A8, c8, rfl, H⟩))
      | (refine VcL.guard rfl rfl rfl rfl (fun h => ?_) (fun h => ?_) <;> first | (with_reducible have hp := of_decide_eq_true h) | (with_reducible have hp := of_decide_eq_false h)))
      | (show Vc _ _ _ _ _ _; first
      | refine Vc.seq ?_
      | refine Vc.region ?_
      | refine Vc.condF rfl ?_
      | refine Vc.ret ?_
      | refine Vc.skip ?_
      | (refine Vc.cond rfl (fun h => ?_) (fun h => ?_) <;> first | (with_reducible have hp := of_decide_eq_true h) | (with_reducible have hp := of_decide_eq_false h)))
      | (show KSeq _ _ _ _ _ _ _; refine KSeq.normal ?_)
      | (show KEnd _ _ _ _ _ _ _; refine KEnd.fin (Or.inr rfl) ⟨_, (ResL.tmp rfl ResL.nil), ?_⟩))
    all_goals first
      | (obtain ⟨J4, hJ4, H, hsv⟩ := Holds.freezeOwn H
         exact ⟨J4, (hJ2.trans hJ3).trans hJ4, ⟨fl2 ++ fl3, (by rw [List.map_append, hfl2, hfl3, tickO_eq, htls, hB5 (by omega)]), (by rw [List.length_append, List.flatMap_append]; exact hsv), fun x hx => (by rcases List.mem_append.1 hx with hx | hx; exact (hfo2 x hx).mono (hJ3.trans hJ4); exact (hfo3 x hx).mono hJ4)⟩, ref_close _ (hm4.mono hJ4) (Holds.re [0, 0, 0, 0] (Holds.drop (Holds.re [4] H rfl)) rfl)⟩)
      | (obtain ⟨J4, hJ4, H, hsv⟩ := Holds.freezeOwn H
         obtain ⟨J5, hJ5, H, htv⟩ := Holds.freezeOwn (Holds.f1 H)
         exact ⟨J5, ((hJ2.trans hJ3).trans hJ4).trans hJ5, ⟨fl2 ++ [⟨frameS E2 3 0 (tailS E2), .slice A8 2 c8⟩], (by rw [List.map_append, hfl2, tickO_eq, htls, hB3 (by omega) (by omega)]; rfl), (by rw [List.length_append, flat_snoc]; exact hsv.mono hJ5), fun x hx => (by rcases List.mem_append.1 hx with hx | hx; exact (hfo2 x hx).mono ((hJ3.trans hJ4).trans hJ5); rw [List.mem_singleton] at hx; subst hx; exact htv)⟩, ref_close _ (hm4.mono (hJ4.trans hJ5)) (Holds.re [0, 0, 0, 0] (Holds.drop (Holds.re [4] (Holds.drop H) rfl)) rfl)⟩)
  · have hns : E2.news.isSome = true := by rw [hnw]; rfl
    have htn : tickN E2 = [⟨7, E2.num, E2.seq, 0, nb⟩] := by unfold tickN; rw [hnw]
    have hnb := ok2.news nb (by rw [hnw]; rfl)
    have hnv : SlI I av 1 nb.length (byL nb) := hnwok nb (by rw [hnw]; rfl)
    obtain ⟨An, cn, rfl, hcn⟩ := hnv.form
    repeat' (first
      | rw [hns]
      | (show Vc _ _ (.seq (.seq (.region 16 _ _) _) _) _ _ _; refine Vc.cut [(0, ptr e)] (fun q : Value => [(3, q)]) (fun q w => ∃ J, Imm.Le I J ∧ ∃ fl : List Fm, fl.map (·.fr) = tickR E2 ++ tickN E2 ∧ fl.length ≤ 2 ∧ (∀ x ∈ fl, FmOk J x) ∧ Holds J w (own q 24 5 fl.length (fl.flatMap fmC) :: refQ e E2 ⟨.slice A1 E2.out.length c1, .slice A2 E2.inn.length c2, .slice An nb.length cn, .slice A3 cd.length c3, cd⟩ L)) ?_ ?_)
      | (refine VcD.append (m := nb.length) (ds := byL nb) tabOk rfl rfl rfl rfl rfl H (SlI.src hnv H) (byL_one nb) (by show (0 + _) * 1 ≤ _; omega) rfl rfl rfl (fun v_ w H => ⟨Holds.rdWhole (Holds.f2 H), ?_⟩); obtain ⟨_, A7, c7, rfl⟩ := Holds.own_len H; rw [List.nil_append] at H)
      | (refine VcD.append tabOk rfl rfl rfl rfl rfl (Holds.f2 H) (Src.slice rfl (Holds.pt_rd H)) (fmC_slice ⟨7, E2.num, E2.seq, 0, nb⟩ (A := A7) (n := 0 + nb.length) (c := c7)) (by show (_ + 1) * 56 ≤ _; omega) rfl rfl rfl (fun ov2 w H => ⟨Holds.rdWhole (Holds.f3 H), ?_⟩))
      | (refine VcD.eff rfl rfl rfl rfl (OpE.buildSliceP (e := 5) tabOk H rfl rfl rfl rfl) ?_; rintro _ w ⟨b_, rfl, H⟩; refine ⟨Holds.rdWhole (Holds.f2 H), ?_⟩; have H := own0 (sz := 1) H)
      | (show VcL _ _ _ _ _ _ _ _; first
      | refine VcL.pures tabOk rfl ?_
      | refine VcL.nil ?_
      | (show VcL _ _ _ _ (⟨_, .load _ _, _, _, _, _⟩ :: _) _ _ _; refine VcL.load1 tabOk rfl rfl rfl rfl rfl (by exact Holds.cell (Holds.f1 H) rfl) ?_))
      | (show VcD _ _ _ _ _ _ _ _ _; first
      | refine VcD.pures tabOk rfl ?_
      | refine VcD.done ?_
      | (show VcD _ _ _ _ _ (.take _ _) _ _ _; refine VcD.load1 tabOk rfl rfl rfl rfl rfl rfl (by intro w_ hw_; first | exact hw_ _ _ rfl | exact hw_ 0 _ rfl) (by exact rfl) ?_)
      | (show VcD _ _ _ _ _ (.only _ _) _ _ _; (refine VcD.eff rfl rfl rfl rfl (OpE.buildSliceP tabOk H rfl rfl rfl rfl) ?_; rintro _ w ⟨b_, rfl, H⟩; refine ⟨(by exact Holds.rdWhole (Holds.f3 H)), ?_⟩)))
      | (show Vc _ _ _ _ _ _; first
      | refine Vc.seq ?_
      | refine Vc.region ?_
      | refine Vc.condT rfl ?_
      | (refine Vc.drawn (id := 17) (.pure 0 (.pure 1 (.pure 2 (.pure 3 (.pure 5 (.pure 6 (.pure 7 (.pure 10 (.pure 11 (.pure 12 (.take 4 (.take 8 (.take 13 (.only 9 (.only 14 (.pure 15 (.only 16 (.only 17 (.pure 18 .done))))))))))))))))))) (.one (fun w => Rd w e 0 (refV E2 ⟨.slice A1 E2.out.length c1, .slice A2 E2.inn.length c2, .slice An nb.length cn, .slice A3 cd.length c3, cd⟩))) mixed (by kernel_rfl) (by exact Holds.rdWhole (Holds.f1 (Holds.drew H _))) ?_; have H := H.drew (w.drawn + 1)))
      | (show KSeq _ _ _ _ _ _ _; refine KSeq.normal ?_))
    · obtain ⟨J3, hJ3, H, hs7⟩ := Holds.freezeOwn (Holds.f2 H)
      have hs7 : SlI J3 (.slice A7 (0 + nb.length) c7) 1 nb.length (byL nb) := by rw [Nat.zero_add] at hs7 ⊢; exact hs7
      exact KCut.join _ ⟨rfl, trivial⟩ ⟨rfl, trivial⟩ ⟨J3, hJ3, fl1 ++ [⟨⟨7, E2.num, E2.seq, 0, nb⟩, .slice A7 (0 + nb.length) c7⟩], (by rw [List.map_append, hfl1, htn]; rfl), (by rw [List.length_append]; show fl1.length + 1 ≤ 2; omega), fun x hx => (by rcases List.mem_append.1 hx with hx | hx; exact (hfo1 x hx).mono hJ3; rw [List.mem_singleton] at hx; subst hx; exact hs7), (by rw [List.length_append, flat_snoc]; exact Holds.drop1 H)⟩
    clear H hfl1 hle1 hfo1
    rintro q w ⟨J2, hJ2, fl2, hfl2, hle2, hfo2, H⟩
    obtain ⟨tails, htls⟩ : ∃ t, tickR E2 ++ tickN E2 = t := ⟨_, rfl⟩
    rw [htls] at hfl2
    obtain ⟨n, hn⟩ : ∃ n, min E2.out.length E2.room = n := ⟨_, rfl⟩
    have hqt : ((E2.quiet : Nat) : Int).tmod (Int.ofNat (4 + 1)) = ((E2.quiet % 5 : Nat) : Int) := by rw [Int.tmod_eq_emod_of_nonneg (by omega)]; rfl
    have hpos := fun h => sentS_pos E2 (n := n) h (by omega)
    have hz0 := sentS_zero E2
    have hB : tickB E2 = if 0 < n ∧ E2.resets = false then sentS E2 n else if E2.quiet % 5 = 0 then [frameS E2 3 0 (tailS E2)] else [] := by unfold tickB; rw [hn]
    obtain ⟨sl, hsl⟩ : ∃ sl, (if E2.resets = true then [] else sentS E2 n) = sl := ⟨_, rfl⟩
    have hB1 : 0 < sl.length → tickB E2 = sl := fun h => by
      rw [hB, ← hsl]
      cases hr : E2.resets with
      | true => rw [← hsl, hr, if_pos rfl] at h; exact absurd h (Nat.lt_irrefl _)
      | false =>
        by_cases hn0 : 0 < n
        · rw [if_pos ⟨hn0, rfl⟩, if_neg (by decide)]
        · exfalso
          obtain rfl : n = 0 := by omega
          rw [← hsl, hr, if_neg (by decide), hz0] at h
          exact absurd h (Nat.lt_irrefl _)
    have hB2 : sl.length = 0 → tickB E2 = if E2.quiet % 5 = 0 then [frameS E2 3 0 (tailS E2)] else [] := fun h => by
      rw [hB, if_neg]
      rintro ⟨h1, h2⟩
      have := hpos h1
      rw [← hsl, h2, if_neg (by decide)] at h
      omega
    have hB3 : sl.length = 0 → E2.quiet % 5 = 0 → tickB E2 = [frameS E2 3 0 (tailS E2)] := fun h h' => by rw [hB2 h, if_pos h']
    have hB4 : sl.length = 0 → ¬ E2.quiet % 5 = 0 → tickB E2 = [] := fun h h' => by rw [hB2 h, if_neg h']
    have hsends := fun (w : World) (L : List Asn) (H : Holds J2 w (refA J2 e E2 :: L)) => sendsR_any H
    rw [hn, hsl] at hsends
    have hB5 : ¬ (sl.length = 0 ∧ E2.quiet % 5 = 0) → tickB E2 = sl := fun h => by
      by_cases h0 : sl.length = 0
      · rw [hB4 h0 (fun h' => h ⟨h0, h'⟩), List.eq_nil_of_length_eq_zero h0]
      · exact hB1 (by omega)
    clear hB hB1 hB2 hB4 hpos hz0 hsl
    repeat' (first
      | rw [hqt]
      | (refine VcL.append (m := 1) (ds := fmC ⟨frameS E2 3 0 (tailS E2), .slice A8 2 c8⟩) tabOk rfl rfl rfl rfl (Holds.f7 H) (Holds.own_src H) (fmC_slice _) (by show (_ + 1) * 56 ≤ _; omega) rfl rfl rfl (fun ov3 w H => ?_))
      | (refine VcL.append (m := fl3.length) (ds := fl3.flatMap fmC) tabOk rfl rfl rfl rfl (Holds.f5 H) (Holds.own_src (Holds.f4 H)) (fmC_ones hfo3) (by show (_ + _) * 56 ≤ _; omega) rfl rfl rfl (fun ov3 w H => ?_))
      | (show VcL _ _ _ _ _ _ _ _; first
      | refine VcL.pures tabOk rfl ?_
      | refine VcL.nil ?_
      | (show VcL _ _ _ _ (⟨_, .load _ _, _, _, _, _⟩ :: _) _ _ _; refine VcL.load1 tabOk rfl rfl rfl rfl rfl (by exact Holds.cell H rfl) ?_)
      | refine VcL.buildSlice tabOk H rfl rfl rfl rfl rfl rfl (fun sv w H => ?_)
      | (show VcL _ _ _ _ (⟨_, .call ⟨.value (.func F_tithingref12_End_sends), _, _⟩, _, _, _, _⟩ :: _) _ _ _; (refine VcL.callF ok_tithingref12_End_sends rfl rfl rfl rfl (Rets.mono (hsends _ (own q 24 5 fl2.length (fl2.flatMap fmC) :: L) (ref_close ⟨.slice A1 E2.out.length c1, .slice A2 E2.inn.length c2, .slice An nb.length cn, .slice A3 cd.length c3, cd⟩ (hm2.mono hJ2) (Holds.re [1, 1, 1, 1, 0] H rfl))) ?_); rintro _ w ⟨J3, hJ3, fl3, hfl3, hfo3, hle3, H⟩; obtain ⟨_, A4, c4, rfl⟩ := Holds.own_len H; have hsl3 : fl3.length = sl.length := (by rw [← hfl3, List.length_map]); obtain ⟨B1, d1, B2, d2, av4, B3, d3, cd4, hm4, H⟩ := ref_open (Holds.f1 H)))
      | (show VcL _ _ _ _ (⟨_, .call ⟨.value (.func F_tithingref12_End_seen), _, _⟩, _, _, _, _⟩ :: _) _ _ _; (refine VcL.callF ok_tithingref12_End_seen rfl rfl rfl rfl (Rets.mono (seenR_any (E := E2) (m := ⟨.slice B1 E2.out.length d1, .slice B2 E2.inn.length d2, av4, .slice B3 cd4.length d3, cd4⟩) H (RdW.mem (by repeat (exact .head _))) rfl rfl hin2) ?_); rintro _ w ⟨A8, c8, rfl, H⟩))
      | (refine VcL.guard rfl rfl rfl rfl (fun h => ?_) (fun h => ?_) <;> first | (with_reducible have hp := of_decide_eq_true h) | (with_reducible have hp := of_decide_eq_false h)))
      | (show Vc _ _ _ _ _ _; first
      | refine Vc.seq ?_
      | refine Vc.region ?_
      | refine Vc.condF rfl ?_
      | refine Vc.ret ?_
      | refine Vc.skip ?_
      | (refine Vc.cond rfl (fun h => ?_) (fun h => ?_) <;> first | (with_reducible have hp := of_decide_eq_true h) | (with_reducible have hp := of_decide_eq_false h)))
      | (show KSeq _ _ _ _ _ _ _; refine KSeq.normal ?_)
      | (show KEnd _ _ _ _ _ _ _; refine KEnd.fin (Or.inr rfl) ⟨_, (ResL.tmp rfl ResL.nil), ?_⟩))
    all_goals first
      | (obtain ⟨J4, hJ4, H, hsv⟩ := Holds.freezeOwn H
         exact ⟨J4, (hJ2.trans hJ3).trans hJ4, ⟨fl2 ++ fl3, (by rw [List.map_append, hfl2, hfl3, tickO_eq, htls, hB5 (by omega)]), (by rw [List.length_append, List.flatMap_append]; exact hsv), fun x hx => (by rcases List.mem_append.1 hx with hx | hx; exact (hfo2 x hx).mono (hJ3.trans hJ4); exact (hfo3 x hx).mono hJ4)⟩, ref_close _ (hm4.mono hJ4) (Holds.re [0, 0, 0, 0] (Holds.drop (Holds.re [4] H rfl)) rfl)⟩)
      | (obtain ⟨J4, hJ4, H, hsv⟩ := Holds.freezeOwn H
         obtain ⟨J5, hJ5, H, htv⟩ := Holds.freezeOwn (Holds.f1 H)
         exact ⟨J5, ((hJ2.trans hJ3).trans hJ4).trans hJ5, ⟨fl2 ++ [⟨frameS E2 3 0 (tailS E2), .slice A8 2 c8⟩], (by rw [List.map_append, hfl2, tickO_eq, htls, hB3 (by omega) (by omega)]; rfl), (by rw [List.length_append, flat_snoc]; exact hsv.mono hJ5), fun x hx => (by rcases List.mem_append.1 hx with hx | hx; exact (hfo2 x hx).mono ((hJ3.trans hJ4).trans hJ5); rw [List.mem_singleton] at hx; subst hx; exact htv)⟩, ref_close _ (hm4.mono (hJ4.trans hJ5)) (Holds.re [0, 0, 0, 0] (Holds.drop (Holds.re [4] (Holds.drop H) rfl)) rfl)⟩)
end Go.Proofs.Ytpfgcchammlpgaa.V
