/- The document's end: a frame is taken. -/
import Derived.Test.YtpfgcchammlpgaaVY
namespace Go.Proofs.Ytpfgcchammlpgaa.V
open Go Go.Proofs.YtpfgcchammlpgaaV
set_option linter.unusedVariables false
set_option linter.unusedSimpArgs false
set_option maxHeartbeats 8000000
set_option maxRecDepth 4000
attribute [local irreducible] IntKind.wrap refA
variable {I : Imm} {w : World} {L : List Asn}
theorem ackK_codes (E : En) (f : Fr) : (ackK E f).codes = E.codes := by unfold ackK; split; exact ackS_codes _ _; rfl
theorem ackK_state (E : En) (f : Fr) : (ackK E f).state = E.state := by unfold ackK; split; (unfold ackS; split <;> rfl); rfl
theorem okR_aged {E : En} {m : RnM} (h : RnF I E m) : RnF I { E with age := 0 } m := ⟨{ h.ok with age := Nat.zero_le _ }, h.still, h.news, h.codes, h.each⟩
theorem TakeR_any {e : Nat} {E : En} (H : Holds I w (refA I e E :: L)) {f : Fr} {dv : Value} (hdv : SlI I dv 1 f.data.length (byL f.data)) (hlen : f.data.length ≤ 140737488355328) (hcl : E.codes.length < 1000000) :
    Rets Try.prog F_tithingref12_End_Take #[ptr e, frV f dv] w fun u w' => ∃ J sv, Imm.Le I J ∧ u = .tuple #[sv, .int .i64 (takeS E f).2.2] ∧ FrsI J sv (takeS E f).2.1 ∧ Holds J w' (refA J e (takeS E f).1 :: L) := by
  obtain ⟨A, cap, rfl, hcap⟩ := hdv.form
  have HA := H
  obtain ⟨A1, c1, A2, c2, av, A3, c3, cd, hm, HB⟩ := ref_open H
  clear H
  have H := HB
  clear HB
  have ok := hm.ok
  have hst := ok.state
  obtain ⟨kind, id, seq, n, data⟩ := f
  dsimp only at hdv hlen hcap
  have hvalid := fun (w : World) (L : List Asn) (H : Holds I w L) => ValidR_any (f := ⟨kind, id, seq, n, data⟩) H hdv hlen
  cases hv : validF ⟨kind, id, seq, n, data⟩ with
  | false =>
    have ht : takeS E ⟨kind, id, seq, n, data⟩ = (E, [], 2) := by unfold takeS; rw [if_pos hv]
    rw [ht]
    rw [hv] at hvalid
    refine ok_tithingref12_End_Take.rets rfl ?_
    repeat' (first
      | (show VcL _ _ _ _ _ _ _ _; first
      | refine VcL.pures tabOk rfl ?_
      | refine VcL.nil ?_
      | (show VcL _ _ _ _ (⟨_, .load _ _, _, _, _, _⟩ :: _) _ _ _; refine VcL.loadN tabOk rfl rfl rfl rfl rfl rfl (by exact H) (by exact rfl) ?_)
      | refine VcL.box H rfl rfl rfl rfl rfl (fun b w H => ?_)
      | (show VcL _ _ _ _ (⟨_, .call ⟨.value (.func F_tithingref12_Valid), _, _⟩, _, _, _, _⟩ :: _) _ _ _; (refine VcL.callF ok_tithingref12_Valid rfl rfl rfl rfl (Rets.mono (hvalid _ _ H) ?_); rintro _ w ⟨rfl, H⟩)))
      | (show Vc _ _ _ _ _ _; first
      | refine Vc.seq ?_
      | refine Vc.region ?_
      | refine Vc.condT rfl ?_
      | refine Vc.ret ?_)
      | (show KSeq _ _ _ _ _ _ _; first
      | refine KSeq.normal ?_
      | refine KSeq.ret ?_)
      | (show KEnd _ _ _ _ _ _ _; refine KEnd.fin (Or.inr rfl) ⟨_, (ResL.tmp rfl (ResL.tmp rfl ResL.nil)), ?_⟩))
    exact ⟨I, _, Imm.Le.rfl' I, rfl, FrsI.nil, ref_close _ hm (Holds.drop H)⟩
  | true =>
    have hok := (validF_iff _).1 hv
    unfold okF at hok
    dsimp only at hok
    obtain ⟨idn, rfl⟩ := Int.eq_ofNat_of_zero_le (show 0 ≤ id by omega)
    obtain ⟨sq, rfl⟩ := Int.eq_ofNat_of_zero_le (show 0 ≤ seq by omega)
    obtain ⟨nn, rfl⟩ := Int.eq_ofNat_of_zero_le (show 0 ≤ n by omega)
    rw [hv] at hvalid
    by_cases h04 : E.state = 0 ∨ E.state = 4
    · have ht : takeS E ⟨kind, (idn : Nat), (sq : Nat), (nn : Nat), data⟩ = (E, [], 0) := by unfold takeS; rw [if_neg (by rw [hv]; decide), if_pos h04]
      rw [ht]
      refine ok_tithingref12_End_Take.rets rfl ?_
      repeat' (first
        | (show VcL _ _ _ _ _ _ _ _; first
      | refine VcL.pures tabOk rfl ?_
      | refine VcL.nil ?_
      | (show VcL _ _ _ _ (⟨_, .load _ _, _, _, _, _⟩ :: _) _ _ _; first
      | refine VcL.load1 tabOk rfl rfl rfl rfl rfl (by first | exact Holds.cell H rfl | exact Holds.cell (Holds.f1 H) rfl) ?_
      | refine VcL.loadN tabOk rfl rfl rfl rfl rfl rfl (by exact H) (by exact rfl) ?_)
      | refine VcL.box H rfl rfl rfl rfl rfl (fun b w H => ?_)
      | (show VcL _ _ _ _ (⟨_, .call ⟨.value (.func F_tithingref12_Valid), _, _⟩, _, _, _, _⟩ :: _) _ _ _; (refine VcL.callF ok_tithingref12_Valid rfl rfl rfl rfl (Rets.mono (hvalid _ _ H) ?_); rintro _ w ⟨rfl, H⟩))
      | (refine VcL.guard rfl rfl rfl rfl (fun h => ?_) (fun h => ?_) <;> first | (with_reducible have hp := of_decide_eq_true h) | (with_reducible have hp := of_decide_eq_false h)))
        | (show Vc _ _ _ _ _ _; first
      | refine Vc.seq ?_
      | refine Vc.region ?_
      | refine Vc.condT rfl ?_
      | refine Vc.condF rfl ?_
      | refine Vc.ret ?_
      | refine Vc.skip ?_
      | (refine Vc.cond rfl (fun h => ?_) (fun h => ?_) <;> first | (exfalso; simp only [decide_eq_true_eq, decide_eq_false_iff_not, Bool.not_eq_true', Bool.not_eq_false'] at h; omega) | (with_reducible have hp := of_decide_eq_true h)))
        | (show KSeq _ _ _ _ _ _ _; first
      | refine KSeq.normal ?_
      | refine KSeq.ret ?_)
        | (show KEnd _ _ _ _ _ _ _; refine KEnd.fin (Or.inr rfl) ⟨_, (ResL.tmp rfl (ResL.tmp rfl ResL.nil)), ?_⟩))
      all_goals exact ⟨I, _, Imm.Le.rfl' I, rfl, FrsI.nil, ref_close _ hm (Holds.drop H)⟩
    · show Rets Try.prog F_tithingref12_End_Take #[ptr e, .agg #[.int .i64 kind, .int .i64 (idn : Nat), .int .i64 (sq : Nat), .int .i64 (nn : Nat), .slice A data.length cap]] w _
      have hnew : E.other = 0 → (kind = 1 ∨ (kind = 2 ∧ E.state = 2)) → takeS E ⟨kind, (idn : Nat), (sq : Nat), (nn : Nat), data⟩ = ((doesS (wakeS (learnS E ⟨kind, (idn : Nat), (sq : Nat), (nn : Nat), data⟩) ⟨kind, (idn : Nat), (sq : Nat), (nn : Nat), data⟩) ⟨kind, (idn : Nat), (sq : Nat), (nn : Nat), data⟩).1, (doesS (wakeS (learnS E ⟨kind, (idn : Nat), (sq : Nat), (nn : Nat), data⟩) ⟨kind, (idn : Nat), (sq : Nat), (nn : Nat), data⟩) ⟨kind, (idn : Nat), (sq : Nat), (nn : Nat), data⟩).2, 0) := fun h1 h2 => by
        unfold takeS; rw [if_neg (by rw [hv]; decide), if_neg h04, if_pos ⟨h1, h2⟩]
      have hoff : ¬ (E.other = 0 ∧ (kind = 1 ∨ (kind = 2 ∧ E.state = 2))) → (E.other = 0 ∨ (idn : Int) ≠ E.other) → takeS E ⟨kind, (idn : Nat), (sq : Nat), (nn : Nat), data⟩ = (E, [], 0) := fun h1 h2 => by
        unfold takeS; rw [if_neg (by rw [hv]; decide), if_neg h04, if_neg h1, if_pos h2]
      have hon : ¬ (E.other = 0 ∧ (kind = 1 ∨ (kind = 2 ∧ E.state = 2))) → ¬ (E.other = 0 ∨ (idn : Int) ≠ E.other) → takeS E ⟨kind, (idn : Nat), (sq : Nat), (nn : Nat), data⟩ = ((doesS (wakeS E ⟨kind, (idn : Nat), (sq : Nat), (nn : Nat), data⟩) ⟨kind, (idn : Nat), (sq : Nat), (nn : Nat), data⟩).1, (doesS (wakeS E ⟨kind, (idn : Nat), (sq : Nat), (nn : Nat), data⟩) ⟨kind, (idn : Nat), (sq : Nat), (nn : Nat), data⟩).2, 0) := fun h1 h2 => by
        unfold takeS; rw [if_neg (by rw [hv]; decide), if_neg h04, if_neg h1, if_neg h2]
      have hold : E.other ≠ 0 → takeS E ⟨kind, (idn : Nat), (sq : Nat), (nn : Nat), data⟩ = (if (idn : Int) ≠ E.other then (E, [], 0) else ((doesS (wakeS E ⟨kind, (idn : Nat), (sq : Nat), (nn : Nat), data⟩) ⟨kind, (idn : Nat), (sq : Nat), (nn : Nat), data⟩).1, (doesS (wakeS E ⟨kind, (idn : Nat), (sq : Nat), (nn : Nat), data⟩) ⟨kind, (idn : Nat), (sq : Nat), (nn : Nat), data⟩).2, 0)) := fun h => by
        by_cases hi : (idn : Int) = E.other
        · rw [if_neg (by omega)]; exact hon (by omega) (by omega)
        · rw [if_pos hi]; exact hoff (by omega) (by omega)
      -- up to where the other one is known
      refine ok_tithingref12_End_Take.rets rfl ?_
      repeat' (first
        | (show Vc _ _ (.seq (.seq (.region 5 _ _) _) _) _ _ _; refine Vc.cut [(0, ptr e), (3, ptr b)] (fun _ : Unit => []) (fun _ w => ∃ E', takeS E ⟨kind, (idn : Nat), (sq : Nat), (nn : Nat), data⟩ = (if (idn : Int) ≠ E'.other then (E', [], 0) else ((doesS (wakeS E' ⟨kind, (idn : Nat), (sq : Nat), (nn : Nat), data⟩) ⟨kind, (idn : Nat), (sq : Nat), (nn : Nat), data⟩).1, (doesS (wakeS E' ⟨kind, (idn : Nat), (sq : Nat), (nn : Nat), data⟩) ⟨kind, (idn : Nat), (sq : Nat), (nn : Nat), data⟩).2, 0)) ∧ E'.codes = E.codes ∧ E'.state = E.state ∧ Holds I w (blk b 24 [.int .i64 kind, .int .i64 (idn : Nat), .int .i64 (sq : Nat), .int .i64 (nn : Nat), .slice A data.length cap] :: refA I e E' :: L)) ?_ ?_)
        | (show VcL _ _ _ _ _ _ _ _; first
      | refine VcL.pures tabOk rfl ?_
      | refine VcL.nil ?_
      | (show VcL _ _ _ _ (⟨_, .load _ _, _, _, _, _⟩ :: _) _ _ _; first
      | refine VcL.load1 tabOk rfl rfl rfl rfl rfl (by first | exact Holds.cell H rfl | exact Holds.cell (Holds.f1 H) rfl) ?_
      | refine VcL.loadN tabOk rfl rfl rfl rfl rfl rfl (by exact H) (by exact rfl) ?_)
      | refine VcL.box H rfl rfl rfl rfl rfl (fun b w H => ?_)
      | (show VcL _ _ _ _ (⟨_, .call ⟨.value (.func F_tithingref12_Valid), _, _⟩, _, _, _, _⟩ :: _) _ _ _; (refine VcL.callF ok_tithingref12_Valid rfl rfl rfl rfl (Rets.mono (hvalid _ _ H) ?_); rintro _ w ⟨rfl, H⟩))
      | (show VcL _ _ _ _ (⟨_, .call ⟨.value (.func F_tithingref12_End_learn), _, _⟩, _, _, _, _⟩ :: _) _ _ _; (refine VcL.callF ok_tithingref12_End_learn rfl rfl rfl rfl (Rets.mono (learnR_any (ref_close ⟨.slice A1 E.out.length c1, .slice A2 E.inn.length c2, av, .slice A3 cd.length c3, cd⟩ hm (Holds.re [1, 1, 1, 1, 0] H rfl)) (by omega) (by unfold M; omega) (by omega)) ?_); rintro _ w H))
      | (refine VcL.guard rfl rfl rfl rfl (fun h => ?_) (fun h => ?_) <;> first | (exfalso; simp only [decide_eq_true_eq, decide_eq_false_iff_not, Bool.not_eq_true', Bool.not_eq_false'] at h; omega) | (with_reducible have hp := of_decide_eq_false h) | (with_reducible have hp := ndec_t h) | (with_reducible have hp := ndec_f h)))
        | (show Vc _ _ _ _ _ _; first
      | refine Vc.seq ?_
      | refine Vc.region ?_
      | refine Vc.condT rfl ?_
      | refine Vc.condF rfl ?_
      | refine Vc.ret ?_
      | refine Vc.skip ?_
      | (refine Vc.cond rfl (fun h => ?_) (fun h => ?_) <;> first | (exfalso; simp only [decide_eq_true_eq, decide_eq_false_iff_not, Bool.not_eq_true', Bool.not_eq_false'] at h; omega) | (with_reducible have hp := of_decide_eq_true h) | (with_reducible have hp := of_decide_eq_false h) | (with_reducible have hp := ndec_t h) | (with_reducible have hp := ndec_f h)))
        | (show KSeq _ _ _ _ _ _ _; first
      | refine KSeq.normal ?_
      | refine KSeq.ret ?_)
        | refine KCut.ret ?_
        | (show KEnd _ _ _ _ _ _ _; refine KEnd.fin (Or.inr rfl) ⟨_, (ResL.tmp rfl (ResL.tmp rfl ResL.nil)), ?_⟩))
      all_goals first
        | (rw [hoff (by omega) (by omega)]; exact ⟨I, _, Imm.Le.rfl' I, rfl, FrsI.nil, ref_close _ hm (Holds.drop H)⟩)
        | exact KCut.join () trivial ⟨rfl, rfl, trivial⟩ ⟨E, hold (by omega), rfl, rfl, Holds.swap (ref_close _ hm (Holds.re [1, 1, 1, 1, 0] H rfl))⟩
        | exact KCut.join () trivial ⟨rfl, rfl, trivial⟩ ⟨learnS E ⟨kind, (idn : Nat), (sq : Nat), (nn : Nat), data⟩, (hnew (by omega) (by omega)).trans (if_neg (by show ¬ ((idn : Int) ≠ ((idn : Int).toNat : Nat)); omega)).symm, rfl, rfl, Holds.swap H⟩
        | skip
      clear H HA hnew hoff hon hold
      rintro _ w ⟨E', ht, hcd', hst', H⟩
      rw [ht]
      clear ht hm ok
      obtain ⟨A1, c1, A2, c2, av, A3, c3, cd, hm, HB⟩ := ref_open (Holds.swap H)
      clear H
      have H := HB
      clear HB
      have ok := hm.ok
      have hin := ok.inn
      by_cases hoth : (idn : Int) ≠ E'.other
      · rw [if_pos hoth]
        repeat' (first
          | (show VcL _ _ _ _ _ _ _ _; first
      | refine VcL.pures tabOk rfl ?_
      | refine VcL.nil ?_)
          | (show VcD _ _ _ _ _ _ _ _ _; first
      | refine VcD.pures tabOk rfl ?_
      | refine VcD.done ?_
      | (show VcD _ _ _ _ _ (.take _ _) _ _ _; refine VcD.load1 tabOk rfl rfl rfl rfl rfl rfl (by intro w_ hw_; first | exact Holds.cell hw_ rfl | exact Holds.cell (Holds.f4 hw_) rfl) (by exact rfl) ?_))
          | (show Vc _ _ _ _ _ _; first
      | refine Vc.seq ?_
      | refine Vc.region ?_
      | refine Vc.ret ?_
      | refine Vc.drawnH (id := 9) H (.pure 0 (.pure 2 (.pure 3 (.pure 4 (.take 1 (.take 5 (.pure 6 .done))))))) mixed (by kernel_rfl) (fun w H => ?_)
      | (refine Vc.cond rfl (fun h => ?_) (fun h => ?_) <;> first | (exfalso; simp only [decide_eq_true_eq, decide_eq_false_iff_not, Bool.not_eq_true', Bool.not_eq_false'] at h; omega) | (with_reducible have hp := ndec_t h)))
          | (show KSeq _ _ _ _ _ _ _; first
      | refine KSeq.normal ?_
      | refine KSeq.ret ?_)
          | (show KEnd _ _ _ _ _ _ _; refine KEnd.fin (Or.inr rfl) ⟨_, (ResL.tmp rfl (ResL.tmp rfl ResL.nil)), ?_⟩))
        exact ⟨I, _, Imm.Le.rfl' I, rfl, FrsI.nil, ref_close _ hm (Holds.re [0, 0, 0, 0] (Holds.drop (Holds.re [4] H rfl)) rfl)⟩
      rw [if_neg hoth]
      by_cases hk1 : kind = 1
      · subst hk1
        have hd : doesS (wakeS E' ⟨1, (idn : Nat), (sq : Nat), (nn : Nat), data⟩) ⟨1, (idn : Nat), (sq : Nat), (nn : Nat), data⟩ = ({ E' with age := 0 }, [openingS { E' with age := 0 } 2]) := rfl
        rw [hd]
        repeat' (first
          | (show VcL _ _ _ _ _ _ _ _; first
      | refine VcL.pures tabOk rfl ?_
      | refine VcL.nil ?_
      | (show VcL _ _ _ _ (⟨_, .load _ _, _, _, _, _⟩ :: _) _ _ _; refine VcL.load1 tabOk rfl rfl rfl rfl rfl (by exact Holds.cell (Holds.f4 H) rfl) ?_)
      | refine VcL.buildSlice tabOk H rfl rfl rfl rfl rfl rfl (fun sv w H => ?_)
      | (show VcL _ _ _ _ (⟨_, .store _ _ _, _, _, _, _⟩ :: _) _ _ _; refine VcL.store tabOk rfl (by exact H) rfl rfl (by exact rfl) (by exact rfl) (by exact rfl) (by exact rfl) (fun w H => ?_))
      | (show VcL _ _ _ _ (⟨_, .call ⟨.value (.func F_tithingref12_End_hello), _, _⟩, _, _, _, _⟩ :: _) _ _ _; (refine VcL.callF ok_tithingref12_End_hello rfl rfl rfl rfl (Rets.mono (helloR_any (E := { E' with age := 0 }) (m := ⟨.slice A1 E'.out.length c1, .slice A2 E'.inn.length c2, av, .slice A3 cd.length c3, cd⟩) H (RdW.mem (by repeat (exact .head _))) rfl rfl hin) ?_); rintro _ w ⟨rfl, H⟩)))
          | (show VcD _ _ _ _ _ _ _ _ _; first
      | refine VcD.pures tabOk rfl ?_
      | refine VcD.done ?_
      | (show VcD _ _ _ _ _ (.take _ _) _ _ _; refine VcD.load1 tabOk rfl rfl rfl rfl rfl rfl (by intro w_ hw_; first | exact Holds.cell hw_ rfl | exact Holds.cell (Holds.f4 hw_) rfl) (by exact rfl) ?_))
          | (show Vc _ _ _ _ _ _; first
      | refine Vc.seq ?_
      | refine Vc.region ?_
      | refine Vc.condT rfl ?_
      | refine Vc.ret ?_
      | refine Vc.skip ?_
      | refine Vc.drawnH (id := 9) H (.pure 0 (.pure 2 (.pure 3 (.pure 4 (.take 1 (.take 5 (.pure 6 .done))))))) mixed (by kernel_rfl) (fun w H => ?_)
      | (refine Vc.cond rfl (fun h => ?_) (fun h => ?_) <;> first | (exfalso; simp only [decide_eq_true_eq, decide_eq_false_iff_not, Bool.not_eq_true', Bool.not_eq_false'] at h; omega) | (with_reducible have hp := ndec_f h)))
          | (show KSeq _ _ _ _ _ _ _; first
      | refine KSeq.normal ?_
      | refine KSeq.ret ?_)
          | (show KEnd _ _ _ _ _ _ _; refine KEnd.fin (Or.inr rfl) ⟨_, (ResL.tmp rfl (ResL.tmp rfl ResL.nil)), ?_⟩))
        obtain ⟨J, hJ, H, hsv⟩ := Holds.freezeOwn H
        exact ⟨J, _, hJ, rfl, frsI_one (f := openingS { E' with age := 0 } 2) SlI.nil hsv, ref_close (E := { E' with age := 0 }) _ (okR_aged (hm.mono hJ)) (Holds.re [0, 0, 0, 0] (Holds.drop (Holds.re [4] H rfl)) rfl)⟩
      have hw : wakeS E' ⟨kind, (idn : Nat), (sq : Nat), (nn : Nat), data⟩ = { E' with age := 0, state := 3 } := by
        unfold wakeS
        show (if kind ≠ 1 ∧ E'.state ≠ 3 then ({ E' with age := 0, state := 3, quiet := 0 } : En) else { E' with age := 0 }) = _
        have hs := hm.still
        obtain ⟨q1, q2, q3, q4, q5, q6, q7, q8, q9, rs, q11, nw, q13, q14, q15, q16, q17⟩ := E'
        dsimp only at hs hst' ⊢
        by_cases h3 : q3 = 3
        · subst h3
          rw [if_neg (fun h => h.2 rfl)]
        · rw [if_pos ⟨hk1, h3⟩, hs (by omega)]
      rw [hw]
      obtain ⟨E2, hE2⟩ : ∃ E2, ({ E' with age := 0, state := 3 } : En) = E2 := ⟨_, rfl⟩
      rw [hE2]
      have hc2 : E2.codes = E.codes := by rw [← hE2]; exact hcd'
      have hs2 : E2.state = 3 := by rw [← hE2]
      repeat' (first
        | (show Vc _ _ (.seq (.seq (.region 15 _ _) _) _) _ _ _; refine Vc.cut [(0, ptr e), (3, ptr b)] (fun _ : Unit => []) (fun _ w => Holds I w (blk b 24 [.int .i64 kind, .int .i64 (idn : Nat), .int .i64 (sq : Nat), .int .i64 (nn : Nat), .slice A data.length cap] :: refA I e (ackK E2 ⟨kind, (idn : Nat), (sq : Nat), (nn : Nat), data⟩) :: L)) ?_ ?_)
        | (show VcL _ _ _ _ _ _ _ _; first
      | refine VcL.pures tabOk rfl ?_
      | refine VcL.nil ?_
      | (show VcL _ _ _ _ (⟨_, .load _ _, _, _, _, _⟩ :: _) _ _ _; refine VcL.load1 tabOk rfl rfl rfl rfl rfl (by exact Holds.cell (Holds.f4 H) rfl) ?_)
      | (show VcL _ _ _ _ (⟨_, .store _ _ _, _, _, _, _⟩ :: _) _ _ _; refine VcL.store tabOk rfl (by exact H) rfl rfl (by exact rfl) (by exact rfl) (by exact rfl) (by exact rfl) (fun w H => ?_)))
        | (show VcD _ _ _ _ _ _ _ _ _; first
      | refine VcD.pures tabOk rfl ?_
      | refine VcD.done ?_
      | (show VcD _ _ _ _ _ (.take _ _) _ _ _; refine VcD.load1 tabOk rfl rfl rfl rfl rfl rfl (by intro w_ hw_; first | exact Holds.cell hw_ rfl | exact Holds.cell (Holds.f4 hw_) rfl) (by exact rfl) ?_))
        | (show Vc _ _ _ _ _ _; first
      | refine Vc.seq ?_
      | refine Vc.region ?_
      | refine Vc.skip ?_
      | refine Vc.drawnH (id := 9) H (.pure 0 (.pure 2 (.pure 3 (.pure 4 (.take 1 (.take 5 (.pure 6 .done))))))) mixed (by kernel_rfl) (fun w H => ?_)
      | (refine Vc.cond rfl (fun h => ?_) (fun h => ?_) <;> first | (exfalso; simp only [decide_eq_true_eq, decide_eq_false_iff_not, Bool.not_eq_true', Bool.not_eq_false'] at h; omega) | (with_reducible have hp := of_decide_eq_false h) | (with_reducible have hp := ndec_f h)))
        | (show KSeq _ _ _ _ _ _ _; refine KSeq.normal ?_))
      · have H := ref_close (E := E2) ⟨.slice A1 E'.out.length c1, .slice A2 E'.inn.length c2, av, .slice A3 cd.length c3, cd⟩ (by rw [← hE2]; exact ⟨{ ok with age := Nat.zero_le _, state := by show 3 ≤ 4; decide }, fun h => absurd h (by show ¬ 3 ≤ 2; omega), hm.news, hm.codes, hm.each⟩) (by rw [← hE2]; exact H)
        clear hE2 hw hm ok hin hoth hst' hcd'
        have hyes : ((3 ≤ kind ∧ kind ≤ 6) ∨ kind = 8) → ackK E2 ⟨kind, (idn : Nat), (sq : Nat), (nn : Nat), data⟩ = ackS E2 nn := fun h => if_pos h
        have hno : ¬ ((3 ≤ kind ∧ kind ≤ 6) ∨ kind = 8) → ackK E2 ⟨kind, (idn : Nat), (sq : Nat), (nn : Nat), data⟩ = E2 := fun h => if_neg h
        by_cases h36 : 3 ≤ kind ∧ kind ≤ 6
        ·
          repeat' (first
            | (show VcL _ _ _ _ _ _ _ _; first
      | refine VcL.pures tabOk rfl ?_
      | refine VcL.nil ?_
      | (show VcL _ _ _ _ (⟨_, .load _ _, _, _, _, _⟩ :: _) _ _ _; refine VcL.load1 tabOk rfl rfl rfl rfl rfl (by exact Holds.cell (Holds.f1 H) rfl) ?_)
      | (show VcL _ _ _ _ (⟨_, .call ⟨.value (.func F_tithingref12_in), _, _⟩, _, _, _, _⟩ :: _) _ _ _; (refine VcL.callF ok_tithingref12_in rfl rfl rfl rfl (Rets.mono ((in_any (n := kind) (a := 3) (b := 6) H).mono fun u w' h => (show u = .bool true ∧ Holds I w' _ from decide_eq_true h36 ▸ h)) ?_); rintro _ w ⟨rfl, H⟩))
      | (show VcL _ _ _ _ (⟨_, .call ⟨.value (.func F_tithingref12_End_acknowledged), _, _⟩, _, _, _, _⟩ :: _) _ _ _; (refine VcL.callF ok_tithingref12_End_acknowledged rfl rfl rfl rfl (Rets.mono (ackR_any (n := nn) H (by unfold M; omega)) ?_); rintro _ w H))
      | (refine VcL.guard rfl rfl rfl rfl (fun h => ?_) (fun h => ?_) <;> first | (cases h; done) | skip))
            | (show Vc _ _ _ _ _ _; first
      | refine Vc.region ?_
      | refine Vc.condT rfl ?_)
            | (show KSeq _ _ _ _ _ _ _; refine KSeq.normal ?_))
          exact KCut.join () trivial ⟨rfl, rfl, trivial⟩ (by rw [hyes (.inl h36)]; exact Holds.swap H)
        ·
          repeat' (first
            | (show VcL _ _ _ _ _ _ _ _; first
      | refine VcL.pures tabOk rfl ?_
      | refine VcL.nil ?_
      | (show VcL _ _ _ _ (⟨_, .load _ _, _, _, _, _⟩ :: _) _ _ _; refine VcL.load1 tabOk rfl rfl rfl rfl rfl (by exact Holds.cell (Holds.f1 H) rfl) ?_)
      | (show VcL _ _ _ _ (⟨_, .call ⟨.value (.func F_tithingref12_in), _, _⟩, _, _, _, _⟩ :: _) _ _ _; (refine VcL.callF ok_tithingref12_in rfl rfl rfl rfl (Rets.mono ((in_any (n := kind) (a := 3) (b := 6) H).mono fun u w' h => (show u = .bool false ∧ Holds I w' _ from decide_eq_false h36 ▸ h)) ?_); rintro _ w ⟨rfl, H⟩))
      | (show VcL _ _ _ _ (⟨_, .call ⟨.value (.func F_tithingref12_End_acknowledged), _, _⟩, _, _, _, _⟩ :: _) _ _ _; (refine VcL.callF ok_tithingref12_End_acknowledged rfl rfl rfl rfl (Rets.mono (ackR_any (n := nn) H (by unfold M; omega)) ?_); rintro _ w H))
      | (refine VcL.guard rfl rfl rfl rfl (fun h => ?_) (fun h => ?_) <;> first | (cases h; done) | skip))
            | (show Vc _ _ _ _ _ _; first
      | refine Vc.region ?_
      | refine Vc.skip ?_
      | (refine Vc.cond rfl (fun h => ?_) (fun h => ?_) <;> first | (with_reducible have hp := of_decide_eq_true h) | (with_reducible have hp := of_decide_eq_false h)))
            | (show KSeq _ _ _ _ _ _ _; refine KSeq.normal ?_))
          all_goals first
            | exact KCut.join () trivial ⟨rfl, rfl, trivial⟩ (by rw [hyes (.inr (by assumption))]; exact Holds.swap H)
            | exact KCut.join () trivial ⟨rfl, rfl, trivial⟩ (by rw [hno (by omega)]; exact Holds.swap H)
      · clear hE2 hw hm ok hin hoth hst' hcd' H
        rintro _ w H
        rw [doesS_eq (f := ⟨kind, (idn : Nat), (sq : Nat), (nn : Nat), data⟩) hk1 (by show 1 ≤ kind ∧ kind ≤ 9; omega)]
        have hc3 := ackK_codes E2 ⟨kind, (idn : Nat), (sq : Nat), (nn : Nat), data⟩
        have hs3 := ackK_state E2 ⟨kind, (idn : Nat), (sq : Nat), (nn : Nat), data⟩
        obtain ⟨E3, hE3⟩ : ∃ E3, ackK E2 ⟨kind, (idn : Nat), (sq : Nat), (nn : Nat), data⟩ = E3 := ⟨_, rfl⟩
        rw [hE3] at H hc3 hs3 ⊢
        repeat' (first
          | (show VcL _ _ _ _ _ _ _ _; first
      | refine VcL.pures tabOk rfl ?_
      | refine VcL.nil ?_
      | (show VcL _ _ _ _ (⟨_, .load _ _, _, _, _, _⟩ :: _) _ _ _; refine VcL.loadN tabOk rfl rfl rfl rfl rfl rfl (by exact H) (by exact rfl) ?_)
      | (show VcL _ _ _ _ (⟨_, .call ⟨.value (.func F_tithingref12_End_does), _, _⟩, _, _, _, _⟩ :: _) _ _ _; (refine VcL.callF ok_tithingref12_End_does rfl rfl rfl rfl (Rets.mono (doesR_any (E := E3) (Holds.swap H) hdv hv hk1 (hs3.trans hs2) (by rw [hc3, hc2]; exact hcl)) ?_); rintro _ w ⟨J, hJ, hfr, H⟩)))
          | (show Vc _ _ _ _ _ _; first
      | refine Vc.seq ?_
      | refine Vc.region ?_
      | refine Vc.ret ?_)
          | (show KSeq _ _ _ _ _ _ _; refine KSeq.normal ?_)
          | (show KEnd _ _ _ _ _ _ _; refine KEnd.fin (Or.inr rfl) ⟨_, (ResL.tmp rfl (ResL.tmp rfl ResL.nil)), ?_⟩))
        exact ⟨J, _, hJ, rfl, hfr, Holds.drop1 H⟩
end Go.Proofs.Ytpfgcchammlpgaa.V
