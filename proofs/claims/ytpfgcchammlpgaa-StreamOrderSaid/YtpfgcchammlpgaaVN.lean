/- The program's end: a frame is taken. -/
import Derived.Test.YtpfgcchammlpgaaVK
namespace Go.Proofs.Ytpfgcchammlpgaa.V
open Go Go.Proofs.YtpfgcchammlpgaaV
set_option linter.unusedVariables false
set_option linter.unusedSimpArgs false
set_option maxHeartbeats 8000000
set_option maxRecDepth 4000
attribute [local irreducible] IntKind.wrap
variable {I : Imm} {w : World} {L : List Asn}
theorem learnS_ok {E : En} (ok : EnOk E) {f : Fr} (hv : validF f = true) (hk : f.kind = 1 ∨ f.kind = 2) : EnOk (learnS E f) := by
  have h := (validF_iff f).1 hv
  unfold okF at h
  exact { ok with other := by show f.id.toNat ≤ 65535; omega, want := by show f.seq.toNat < M; unfold M; omega, room := by show f.n.toNat ≤ 65535; omega }
theorem wakeS_ok {E : En} (ok : EnOk E) (f : Fr) : EnOk (wakeS E f) := by
  unfold wakeS
  split
  · exact { ok with age := Nat.zero_le _, state := by show 3 ≤ 4; decide, quiet := Nat.zero_le _ }
  · exact { ok with age := Nat.zero_le _ }
/-- What is known of an end at hand whose fields of bytes are the same. -/
structure Kin (E E' : En) : Prop where mk ::
  out : E'.out = E.out
  base : E'.base = E.base
  inn : E'.inn = E.inn
  news : E'.news = E.news
  codes : E'.codes = E.codes
theorem Kin.f {I : Imm} {E E' : En} {m : EnM} (k : Kin E E') (h : EnF I E m) (ok : EnOk E') : EnF I E' m := ⟨ok, by rw [k.news]; exact h.news, by rw [k.codes]; exact h.codes, h.each⟩
theorem Kin.l {E E' : En} {ob : By} {es : List Nat} {ib : By} {ms : List Nat} (k : Kin E E') (h : EnL E ob es ib ms) : EnL E' ob es ib ms := ⟨by rw [k.out]; exact h.out, by rw [k.out, k.base]; exact h.ends, by rw [k.inn]; exact h.inn, by rw [k.inn]; exact h.marks⟩
theorem learnS_kin (E : En) (f : Fr) : Kin E (learnS E f) := ⟨rfl, rfl, rfl, rfl, rfl⟩
theorem wakeS_kin (E : En) (f : Fr) : Kin E (wakeS E f) := by
  unfold wakeS
  split <;> exact ⟨rfl, rfl, rfl, rfl, rfl⟩
theorem Kin.trans {E E' F : En} (h : Kin E E') (k : Kin E' F) : Kin E F := ⟨k.out.trans h.out, k.base.trans h.base, k.inn.trans h.inn, k.news.trans h.news, k.codes.trans h.codes⟩
theorem Kin.refl (E : En) : Kin E E := ⟨rfl, rfl, rfl, rfl, rfl⟩
theorem ackS_codes (E : En) (n : Nat) : (ackS E n).codes = E.codes := by unfold ackS; split <;> rfl
theorem room_codes (E : En) (r : Nat) : ({ E with room := r } : En).codes = E.codes := rfl
theorem heardS_codes (E : En) (f : Fr) : (heardS E f).codes = E.codes := by
  have h := ackS_codes E f.n.toNat
  unfold heardS
  revert h
  generalize ackS E f.n.toNat = X
  intro h
  split
  · exact (room_codes X _).trans h
  · exact h
theorem Take_any {e : Nat} {E : En} (H : Holds I w (endA I e E :: L)) {f : Fr} {dv : Value} (hdv : SlI I dv 1 f.data.length (byL f.data)) (hlen : f.data.length ≤ 140737488355328) (hcl : E.codes.length < 1000000) :
    Rets Try.prog F_stream_End_Take #[ptr e, frV f dv] w fun u w' => ∃ J sv, Imm.Le I J ∧ u = .tuple #[sv, .int .i64 (takeS E f).2.2] ∧ FrsI J sv (takeS E f).2.1 ∧ Holds J w' (endA J e (takeS E f).1 :: L) := by
  obtain ⟨A, cap, rfl, hcap⟩ := hdv.form
  obtain ⟨A1, c1, A2, c2, A3, c3, A4, c4, A5, c5, nv, cd, ob, es, ib, ms, hl, hm, HB⟩ := end_open H
  clear H
  have H := HB
  clear HB
  have ok := hm.ok
  have hst := ok.state
  obtain ⟨kind, id, seq, n, data⟩ := f
  dsimp only at hdv hlen hcap
  have hvalid := fun (w : World) (L : List Asn) (H : Holds I w L) => Valid_any (f := ⟨kind, id, seq, n, data⟩) H hdv hlen
  cases hv : validF ⟨kind, id, seq, n, data⟩ with
  | false =>
    have ht : takeS E ⟨kind, id, seq, n, data⟩ = (E, [], 2) := by unfold takeS; rw [if_pos hv]
    rw [ht]
    rw [hv] at hvalid
    refine ok_stream_End_Take.rets rfl ?_
    repeat' (first
      | (show VcL _ _ _ _ _ _ _ _; first
      | refine VcL.pures tabOk rfl ?_
      | refine VcL.nil ?_
      | (show VcL _ _ _ _ (⟨_, .load _ _, _, _, _, _⟩ :: _) _ _ _; refine VcL.loadN tabOk rfl rfl rfl rfl rfl rfl (by exact H) (by exact rfl) ?_)
      | refine VcL.box H rfl rfl rfl rfl rfl (fun b w H => ?_)
      | (show VcL _ _ _ _ (⟨_, .call ⟨.value (.func F_stream_End_none), _, _⟩, _, _, _, _⟩ :: _) _ _ _; (refine VcL.callF ok_stream_End_none rfl rfl rfl rfl (Rets.mono (none_any (E := E) H (Holds.toW.ups [_]) ok.num.1) ?_); rintro _ w ⟨rfl, H⟩))
      | (show VcL _ _ _ _ (⟨_, .call ⟨.value (.func F_stream_Valid), _, _⟩, _, _, _, _⟩ :: _) _ _ _; (refine VcL.callF ok_stream_Valid rfl rfl rfl rfl (Rets.mono (hvalid _ _ H) ?_); rintro _ w ⟨rfl, H⟩)))
      | (show Vc _ _ _ _ _ _; first
      | refine Vc.seq ?_
      | refine Vc.region ?_
      | refine Vc.condT rfl ?_
      | refine Vc.condF rfl ?_
      | refine Vc.ret ?_
      | refine Vc.block ?_)
      | (show KSeq _ _ _ _ _ _ _; first
      | refine KSeq.normal ?_
      | refine KSeq.ret ?_)
      | (show KBlock _ _ _ _ _ _; refine KBlock.ret ?_)
      | (show KEnd _ _ _ _ _ _ _; refine KEnd.fin (Or.inr rfl) ⟨_, (ResL.tmp rfl (ResL.tmp rfl ResL.nil)), ?_⟩))
    exact ⟨I, _, Imm.Le.rfl' I, rfl, FrsI.nil, end_close _ hm hl (Holds.drop H)⟩
  | true =>
    have hok := (validF_iff _).1 hv
    unfold okF at hok
    dsimp only at hok
    obtain ⟨idn, rfl⟩ := Int.eq_ofNat_of_zero_le (show 0 ≤ id by omega)
    obtain ⟨sq, rfl⟩ := Int.eq_ofNat_of_zero_le (show 0 ≤ seq by omega)
    obtain ⟨nn, rfl⟩ := Int.eq_ofNat_of_zero_le (show 0 ≤ n by omega)
    rw [hv] at hvalid
    by_cases h04 : E.state = 0 ∨ E.state = 4
    · have ht : takeS E ⟨kind, (idn : Nat), (sq : Nat), (nn : Nat), data⟩ = (E, [], 0) := by unfold takeS; rw [if_neg (by rw [hv]; decide), if_pos h04]
      rw [ht]
      refine ok_stream_End_Take.rets rfl ?_
      repeat' (first
        | (show VcL _ _ _ _ _ _ _ _; first
      | refine VcL.pures tabOk rfl ?_
      | refine VcL.nil ?_
      | (show VcL _ _ _ _ (⟨_, .load _ _, _, _, _, _⟩ :: _) _ _ _; first
      | refine VcL.load1 tabOk rfl rfl rfl rfl rfl (by first | exact Holds.cell H rfl | exact Holds.cell (Holds.f1 H) rfl) ?_
      | refine VcL.loadN tabOk rfl rfl rfl rfl rfl rfl (by exact H) (by exact rfl) ?_)
      | refine VcL.box H rfl rfl rfl rfl rfl (fun b w H => ?_)
      | (show VcL _ _ _ _ (⟨_, .call ⟨.value (.func F_stream_End_none), _, _⟩, _, _, _, _⟩ :: _) _ _ _; (refine VcL.callF ok_stream_End_none rfl rfl rfl rfl (Rets.mono (none_any (E := E) H (Holds.toW.ups [_]) ok.num.1) ?_); rintro _ w ⟨rfl, H⟩))
      | (show VcL _ _ _ _ (⟨_, .call ⟨.value (.func F_stream_Valid), _, _⟩, _, _, _, _⟩ :: _) _ _ _; (refine VcL.callF ok_stream_Valid rfl rfl rfl rfl (Rets.mono (hvalid _ _ H) ?_); rintro _ w ⟨rfl, H⟩))
      | (refine VcL.guard rfl rfl rfl rfl (fun h => ?_) (fun h => ?_) <;> first | (with_reducible have hp := of_decide_eq_true h) | (with_reducible have hp := of_decide_eq_false h)))
        | (show Vc _ _ _ _ _ _; first
      | refine Vc.seq ?_
      | refine Vc.region ?_
      | refine Vc.condT rfl ?_
      | refine Vc.condF rfl ?_
      | refine Vc.ret ?_
      | refine Vc.block ?_
      | (refine Vc.cond rfl (fun h => ?_) (fun h => ?_) <;> first | (exfalso; simp only [decide_eq_true_eq, decide_eq_false_iff_not, Bool.not_eq_true', Bool.not_eq_false'] at h; omega) | (with_reducible have hp := of_decide_eq_true h)))
        | (show KSeq _ _ _ _ _ _ _; first
      | refine KSeq.normal ?_
      | refine KSeq.ret ?_)
        | (show KBlock _ _ _ _ _ _; refine KBlock.ret ?_)
        | (show KEnd _ _ _ _ _ _ _; refine KEnd.fin (Or.inr rfl) ⟨_, (ResL.tmp rfl (ResL.tmp rfl ResL.nil)), ?_⟩))
      all_goals exact ⟨I, _, Imm.Le.rfl' I, rfl, FrsI.nil, end_close _ hm hl (Holds.drop H)⟩
    · show Rets Try.prog F_stream_End_Take #[ptr e, .agg #[.int .i64 kind, .int .i64 (idn : Nat), .int .i64 (sq : Nat), .int .i64 (nn : Nat), .slice A data.length cap]] w _
      have hnew : E.other = 0 → (kind = 1 ∨ (kind = 2 ∧ E.state = 2)) → takeS E ⟨kind, (idn : Nat), (sq : Nat), (nn : Nat), data⟩ = ((doesS (wakeS (learnS E ⟨kind, (idn : Nat), (sq : Nat), (nn : Nat), data⟩) ⟨kind, (idn : Nat), (sq : Nat), (nn : Nat), data⟩) ⟨kind, (idn : Nat), (sq : Nat), (nn : Nat), data⟩).1, (doesS (wakeS (learnS E ⟨kind, (idn : Nat), (sq : Nat), (nn : Nat), data⟩) ⟨kind, (idn : Nat), (sq : Nat), (nn : Nat), data⟩) ⟨kind, (idn : Nat), (sq : Nat), (nn : Nat), data⟩).2, 0) := fun h1 h2 => by
        unfold takeS; rw [if_neg (by rw [hv]; decide), if_neg h04, if_pos ⟨h1, h2⟩]
      have hoff : ¬ (E.other = 0 ∧ (kind = 1 ∨ (kind = 2 ∧ E.state = 2))) → (E.other = 0 ∨ (idn : Int) ≠ E.other) → takeS E ⟨kind, (idn : Nat), (sq : Nat), (nn : Nat), data⟩ = (E, [], 0) := fun h1 h2 => by
        unfold takeS; rw [if_neg (by rw [hv]; decide), if_neg h04, if_neg h1, if_pos h2]
      have hon : ¬ (E.other = 0 ∧ (kind = 1 ∨ (kind = 2 ∧ E.state = 2))) → ¬ (E.other = 0 ∨ (idn : Int) ≠ E.other) → takeS E ⟨kind, (idn : Nat), (sq : Nat), (nn : Nat), data⟩ = ((doesS (wakeS E ⟨kind, (idn : Nat), (sq : Nat), (nn : Nat), data⟩) ⟨kind, (idn : Nat), (sq : Nat), (nn : Nat), data⟩).1, (doesS (wakeS E ⟨kind, (idn : Nat), (sq : Nat), (nn : Nat), data⟩) ⟨kind, (idn : Nat), (sq : Nat), (nn : Nat), data⟩).2, 0) := fun h1 h2 => by
        unfold takeS; rw [if_neg (by rw [hv]; decide), if_neg h04, if_neg h1, if_neg h2]
      refine ok_stream_End_Take.rets rfl ?_
      repeat' (first
        | (show Vc _ _ (.seq (.block 0 _) _) _ _ _; refine Vc.cut [(0, ptr e), (3, ptr b)] (fun _ : Unit => []) (fun _ w => ∃ E', takeS E ⟨kind, (idn : Nat), (sq : Nat), (nn : Nat), data⟩ = ((doesS (wakeS E' ⟨kind, (idn : Nat), (sq : Nat), (nn : Nat), data⟩) ⟨kind, (idn : Nat), (sq : Nat), (nn : Nat), data⟩).1, (doesS (wakeS E' ⟨kind, (idn : Nat), (sq : Nat), (nn : Nat), data⟩) ⟨kind, (idn : Nat), (sq : Nat), (nn : Nat), data⟩).2, 0) ∧ EnOk E' ∧ Kin E E' ∧ Holds I w (blk b 24 [.int .i64 kind, .int .i64 (idn : Nat), .int .i64 (sq : Nat), .int .i64 (nn : Nat), .slice A data.length cap] :: endQ e E' ⟨.slice A1 ob.length c1, .slice A2 es.length c2, .slice A3 ib.length c3, .slice A4 ms.length c4, nv, .slice A5 cd.length c5, cd⟩ ob es ib ms L)) ?_ ?_)
        | (show VcL _ _ _ _ _ _ _ _; first
      | refine VcL.pures tabOk rfl ?_
      | refine VcL.nil ?_
      | (show VcL _ _ _ _ (⟨_, .load _ _, _, _, _, _⟩ :: _) _ _ _; first
      | refine VcL.load1 tabOk rfl rfl rfl rfl rfl (by first | exact Holds.cell H rfl | exact Holds.cell (Holds.f1 H) rfl) ?_
      | refine VcL.loadN tabOk rfl rfl rfl rfl rfl rfl (by exact H) (by exact rfl) ?_)
      | refine VcL.box H rfl rfl rfl rfl rfl (fun b w H => ?_)
      | (show VcL _ _ _ _ (⟨_, .call ⟨.value (.func F_stream_End_none), _, _⟩, _, _, _, _⟩ :: _) _ _ _; (refine VcL.callF ok_stream_End_none rfl rfl rfl rfl (Rets.mono (none_any (E := E) H (Holds.toW.ups [_]) ok.num.1) ?_); rintro _ w ⟨rfl, H⟩))
      | (show VcL _ _ _ _ (⟨_, .call ⟨.value (.func F_stream_Valid), _, _⟩, _, _, _, _⟩ :: _) _ _ _; (refine VcL.callF ok_stream_Valid rfl rfl rfl rfl (Rets.mono (hvalid _ _ H) ?_); rintro _ w ⟨rfl, H⟩))
      | (refine VcL.guard rfl rfl rfl rfl (fun h => ?_) (fun h => ?_) <;> first | (cases h; done) | (exfalso; simp only [decide_eq_true_eq, decide_eq_false_iff_not, Bool.not_eq_true', Bool.not_eq_false'] at h; omega) | (with_reducible have hp := of_decide_eq_true h) | (with_reducible have hp := of_decide_eq_false h) | skip))
        | (show VcD _ _ _ _ _ _ _ _ _; first
      | refine VcD.pures tabOk rfl ?_
      | refine VcD.done ?_
      | (show VcD _ _ _ _ _ (.pure _ _) _ _ _; (refine VcD.guardP rfl rfl rfl rfl rfl (fun h => ?_) (fun h => ?_) <;> first | (exfalso; simp only [decide_eq_true_eq, decide_eq_false_iff_not, Bool.not_eq_true', Bool.not_eq_false'] at h; omega) | (with_reducible have hp := of_decide_eq_true h) | (with_reducible have hp := of_decide_eq_false h)))
      | (show VcD _ _ _ _ _ (.take _ _) _ _ _; first
      | refine VcD.load1 tabOk rfl rfl rfl rfl rfl rfl (by intro w_ hw_; first | exact Holds.cell hw_ rfl | exact Holds.cell (Holds.f1 hw_) rfl | exact hw_ _ _ rfl) (by exact rfl) ?_
      | refine VcD.skipT rfl rfl rfl ?_)
      | (show VcD _ _ _ _ _ (.only _ _) _ _ _; (refine VcD.eff rfl rfl rfl rfl (OpE.store tabOk (by first | exact H | exact (Holds.f1 H)) rfl rfl rfl (by exact rfl) (by exact rfl) (by exact rfl) (by exact rfl)) ?_; rintro _ w ⟨_, H⟩; refine ⟨(by exact Holds.rdWhole (Holds.f1 H)), ?_⟩)))
        | (show Vc _ _ _ _ _ _; first
      | refine Vc.seq ?_
      | refine Vc.region ?_
      | refine Vc.condT rfl ?_
      | refine Vc.condF rfl ?_
      | refine Vc.ret ?_
      | refine Vc.skip ?_
      | refine Vc.block ?_
      | (refine Vc.drawn (id := 8) (.pure 0 (.pure 1 (.pure 2 (.pure 3 (.pure 5 (.pure 7 (.take 4 (.pure 9 (.pure 10 (.take 6 (.take 8 (.only 11 (.pure 12 (.pure 13 (.only 14 (.pure 15 (.pure 16 (.only 17 .done)))))))))))))))))) (.one (fun w => Rd w b 0 [.int .i64 kind, .int .i64 (idn : Nat), .int .i64 (sq : Nat), .int .i64 (nn : Nat), .slice A data.length cap])) mixed (by kernel_rfl) (by exact Holds.rdWhole (Holds.drew H _)) ?_; have H := H.drew (w.drawn + 1))
      | refine Vc.drawnH (id := 9) H (.pure 0 (.pure 1 (.pure 2 (.take 3 (.pure 4 (.pure 5 (.pure 6 (.pure 8 (.pure 9 (.pure 10 (.take 7 (.take 11 (.pure 12 (.pure 13 (.pure 14 .done))))))))))))))) mixed (by kernel_rfl) (fun w H => ?_)
      | (refine Vc.cond rfl (fun h => ?_) (fun h => ?_) <;> first | (exfalso; simp only [decide_eq_true_eq, decide_eq_false_iff_not, Bool.not_eq_true', Bool.not_eq_false'] at h; omega) | (with_reducible have hp := of_decide_eq_true h) | (with_reducible have hp := of_decide_eq_false h) | (with_reducible have hp := ndec_t h) | (with_reducible have hp := ndec_f h)))
        | (show KSeq _ _ _ _ _ _ _; refine KSeq.normal ?_)
        | (show KBlock _ _ _ _ _ _; first
      | refine KBlock.normal ?_
      | refine KBlock.ret ?_)
        | refine KCut.ret ?_
        | (show KEnd _ _ _ _ _ _ _; refine KEnd.fin (Or.inr rfl) ⟨_, (ResL.tmp rfl (ResL.tmp rfl ResL.nil)), ?_⟩))
      all_goals first
        | (rw [hoff (by omega) (by omega)]; exact ⟨I, _, Imm.Le.rfl' I, rfl, FrsI.nil, end_close _ hm hl (Holds.drop H)⟩)
        | exact KCut.join () trivial ⟨rfl, rfl, trivial⟩ ⟨E, hon (by omega) (by omega), ok, Kin.refl E, H⟩
        | exact KCut.join () trivial ⟨rfl, rfl, trivial⟩ ⟨learnS E ⟨kind, (idn : Nat), (sq : Nat), (nn : Nat), data⟩, hnew (by omega) (by omega), learnS_ok ok hv (by show kind = 1 ∨ kind = 2; omega), learnS_kin E _, by first | exact H | exact Holds.swap H⟩
        | skip
      clear H hnew hoff hon
      rintro _ w ⟨E', ht, ok', kin, H⟩
      rw [ht]
      have hwk1 : (kind ≠ 1 ∧ E'.state ≠ 3) → wakeS E' ⟨kind, (idn : Nat), (sq : Nat), (nn : Nat), data⟩ = { E' with age := 0, state := 3, quiet := 0 } := fun h => if_pos h
      have hwk0 : ¬ (kind ≠ 1 ∧ E'.state ≠ 3) → wakeS E' ⟨kind, (idn : Nat), (sq : Nat), (nn : Nat), data⟩ = { E' with age := 0 } := fun h => if_neg h
      repeat' (first
        | (show Vc _ _ (.seq (.seq (.region 12 _ _) _) _) _ _ _; refine Vc.cut [(0, ptr e), (3, ptr b)] (fun _ : Unit => []) (fun _ w => Holds I w (blk b 24 [.int .i64 kind, .int .i64 (idn : Nat), .int .i64 (sq : Nat), .int .i64 (nn : Nat), .slice A data.length cap] :: endQ e (wakeS E' ⟨kind, (idn : Nat), (sq : Nat), (nn : Nat), data⟩) ⟨.slice A1 ob.length c1, .slice A2 es.length c2, .slice A3 ib.length c3, .slice A4 ms.length c4, nv, .slice A5 cd.length c5, cd⟩ ob es ib ms L)) ?_ ?_)
        | (show VcL _ _ _ _ _ _ _ _; first
      | refine VcL.pures tabOk rfl ?_
      | refine VcL.nil ?_
      | (show VcL _ _ _ _ (⟨_, .load _ _, _, _, _, _⟩ :: _) _ _ _; refine VcL.load1 tabOk rfl rfl rfl rfl rfl (by first | exact Holds.cell H rfl | exact Holds.cell (Holds.f1 H) rfl) ?_)
      | (show VcL _ _ _ _ (⟨_, .store _ _ _, _, _, _, _⟩ :: _) _ _ _; refine VcL.store tabOk rfl (by first | exact H | exact (Holds.f1 H)) rfl rfl (by exact rfl) (by exact rfl) (by exact rfl) (by exact rfl) (fun w H => ?_))
      | (refine VcL.guard rfl rfl rfl rfl (fun h => ?_) (fun h => ?_) <;> first | (with_reducible have hp := ndec_t h) | (with_reducible have hp := ndec_f h)))
        | (show Vc _ _ _ _ _ _; first
      | refine Vc.seq ?_
      | refine Vc.region ?_
      | refine Vc.condF rfl ?_
      | refine Vc.skip ?_
      | (refine Vc.cond rfl (fun h => ?_) (fun h => ?_) <;> first | (with_reducible have hp := ndec_t h) | (with_reducible have hp := ndec_f h)))
        | (show KSeq _ _ _ _ _ _ _; refine KSeq.normal ?_))
      all_goals first
        | exact KCut.join () trivial ⟨rfl, rfl, trivial⟩ (by rw [hwk1 (by omega)]; first | exact H | exact Holds.swap H)
        | exact KCut.join () trivial ⟨rfl, rfl, trivial⟩ (by rw [hwk0 (by omega)]; first | exact H | exact Holds.swap H)
        | skip
      clear hwk1 hwk0 H
      rintro _ w H
      have ok2 := wakeS_ok ok' ⟨kind, (idn : Nat), (sq : Nat), (nn : Nat), data⟩
      have kin2 := kin.trans (wakeS_kin E' ⟨kind, (idn : Nat), (sq : Nat), (nn : Nat), data⟩)
      obtain ⟨E2, hE2⟩ : ∃ E2, wakeS E' ⟨kind, (idn : Nat), (sq : Nat), (nn : Nat), data⟩ = E2 := ⟨_, rfl⟩
      rw [hE2] at H ok2 kin2 ⊢
      have hf2 := kin2.f hm ok2
      have hl2 := kin2.l hl
      have hil := hl2.innL
      have hin := ok2.inn
      have hcl2 : E2.codes.length < 1000000 := by rw [kin2.codes]; exact hcl
      clear hE2 ht hvalid
      have hk : kind = 1 ∨ kind = 2 ∨ kind = 9 ∨ kind = 7 ∨ kind = 3 ∨ kind = 4 ∨ kind = 5 ∨ kind = 6 ∨ kind = 8 := by omega
      rcases hk with rfl | rfl | rfl | rfl | rfl | rfl | rfl | rfl | rfl
      · have hd : doesS E2 ⟨1, (idn : Nat), (sq : Nat), (nn : Nat), data⟩ = (E2, [openingS E2 2]) := rfl
        rw [hd]
        repeat' (first
          | (show VcL _ _ _ _ _ _ _ _; first
      | refine VcL.pures tabOk rfl ?_
      | refine VcL.nil ?_
      | (show VcL _ _ _ _ (⟨_, .load _ _, _, _, _, _⟩ :: _) _ _ _; refine VcL.load1 tabOk rfl rfl rfl rfl rfl (by exact Holds.cell H rfl) ?_)
      | refine VcL.buildSlice tabOk H rfl rfl rfl rfl rfl rfl (fun sv w H => ?_)
      | (show VcL _ _ _ _ (⟨_, .call ⟨.value (.func F_stream_End_opening), _, _⟩, _, _, _, _⟩ :: _) _ _ _; (refine VcL.callF ok_stream_End_opening rfl rfl rfl rfl (Rets.mono (opening_any (E := E2) (m := ⟨.slice A1 ob.length c1, .slice A2 es.length c2, .slice A3 ib.length c3, .slice A4 ms.length c4, nv, .slice A5 cd.length c5, cd⟩) H (RdW.mem (by repeat (first | exact .head _ | apply List.Mem.tail))) rfl hil hin) ?_); rintro _ w ⟨rfl, H⟩)))
          | (show Vc _ _ _ _ _ _; first
      | refine Vc.seq ?_
      | refine Vc.region ?_
      | refine Vc.condT rfl ?_
      | refine Vc.ret ?_
      | refine Vc.block ?_)
          | (show KSeq _ _ _ _ _ _ _; first
      | refine KSeq.normal ?_
      | refine KSeq.ret ?_)
          | (show KBlock _ _ _ _ _ _; refine KBlock.ret ?_)
          | (show KEnd _ _ _ _ _ _ _; refine KEnd.fin (Or.inr rfl) ⟨_, (ResL.tmp rfl (ResL.tmp rfl ResL.nil)), ?_⟩))
        obtain ⟨J, hJ, H, hsv⟩ := Holds.freezeOwn H
        exact ⟨J, _, hJ, rfl, frsI_one (f := openingS E2 2) SlI.nil hsv, end_close _ (hf2.mono hJ) hl2 (Holds.drop H)⟩
      · have hd : doesS E2 ⟨2, (idn : Nat), (sq : Nat), (nn : Nat), data⟩ = (E2, [frameS E2 3 0 (tailS E2)]) := rfl
        rw [hd]
        repeat' (first
          | (show VcL _ _ _ _ _ _ _ _; first
      | refine VcL.pures tabOk rfl ?_
      | refine VcL.nil ?_
      | (show VcL _ _ _ _ (⟨_, .load _ _, _, _, _, _⟩ :: _) _ _ _; refine VcL.load1 tabOk rfl rfl rfl rfl rfl (by exact Holds.cell H rfl) ?_)
      | refine VcL.buildSlice tabOk H rfl rfl rfl rfl rfl rfl (fun sv w H => ?_)
      | (show VcL _ _ _ _ (⟨_, .call ⟨.value (.func F_stream_End_tail), _, _⟩, _, _, _, _⟩ :: _) _ _ _; (refine VcL.callF ok_stream_End_tail rfl rfl rfl rfl (Rets.mono (tail_any (E := E2) (m := ⟨.slice A1 ob.length c1, .slice A2 es.length c2, .slice A3 ib.length c3, .slice A4 ms.length c4, nv, .slice A5 cd.length c5, cd⟩) H (RdW.mem (by repeat (first | exact .head _ | apply List.Mem.tail))) rfl hil hin) ?_); rintro _ w H; obtain ⟨_, A7, c7, rfl⟩ := Holds.own_len H))
      | (show VcL _ _ _ _ (⟨_, .call ⟨.value (.func F_stream_End_frame), _, _⟩, _, _, _, _⟩ :: _) _ _ _; (refine VcL.callF ok_stream_End_frame rfl rfl rfl rfl (Rets.mono (frame_any (E := E2) (m := ⟨.slice A1 ob.length c1, .slice A2 es.length c2, .slice A3 ib.length c3, .slice A4 ms.length c4, nv, .slice A5 cd.length c5, cd⟩) H (RdW.mem (by repeat (first | exact .head _ | apply List.Mem.tail)))) ?_); rintro _ w ⟨rfl, H⟩)))
          | (show Vc _ _ _ _ _ _; first
      | refine Vc.seq ?_
      | refine Vc.region ?_
      | refine Vc.condT rfl ?_
      | refine Vc.condF rfl ?_
      | refine Vc.ret ?_
      | refine Vc.block ?_)
          | (show KSeq _ _ _ _ _ _ _; first
      | refine KSeq.normal ?_
      | refine KSeq.ret ?_)
          | (show KBlock _ _ _ _ _ _; refine KBlock.ret ?_)
          | (show KEnd _ _ _ _ _ _ _; refine KEnd.fin (Or.inr rfl) ⟨_, (ResL.tmp rfl (ResL.tmp rfl ResL.nil)), ?_⟩))
        obtain ⟨J, hJ, H, hsv⟩ := Holds.freezeOwn H
        obtain ⟨J2, hJ2, H, htv⟩ := Holds.freezeOwn H
        exact ⟨J2, _, hJ.trans hJ2, rfl, frsI_one (f := frameS E2 3 0 (tailS E2)) htv (hsv.mono hJ2), end_close _ (hf2.mono (hJ.trans hJ2)) hl2 (Holds.drop H)⟩
      · have hd : doesS E2 ⟨9, (idn : Nat), (sq : Nat), (nn : Nat), data⟩ = ({ E2 with state := 4 }, []) := rfl
        rw [hd]
        repeat' (first
          | (show VcL _ _ _ _ _ _ _ _; first
      | refine VcL.pures tabOk rfl ?_
      | refine VcL.nil ?_
      | (show VcL _ _ _ _ (⟨_, .load _ _, _, _, _, _⟩ :: _) _ _ _; refine VcL.load1 tabOk rfl rfl rfl rfl rfl (by exact Holds.cell H rfl) ?_)
      | (show VcL _ _ _ _ (⟨_, .store _ _ _, _, _, _, _⟩ :: _) _ _ _; refine VcL.store tabOk rfl (by exact (Holds.f1 H)) rfl rfl (by exact rfl) (by exact rfl) (by exact rfl) (by exact rfl) (fun w H => ?_)))
          | (show Vc _ _ _ _ _ _; first
      | refine Vc.seq ?_
      | refine Vc.region ?_
      | refine Vc.condT rfl ?_
      | refine Vc.condF rfl ?_
      | refine Vc.ret ?_
      | refine Vc.block ?_)
          | (show KSeq _ _ _ _ _ _ _; first
      | refine KSeq.normal ?_
      | refine KSeq.ret ?_)
          | (show KBlock _ _ _ _ _ _; refine KBlock.ret ?_)
          | (show KEnd _ _ _ _ _ _ _; refine KEnd.fin (Or.inr rfl) ⟨_, (ResL.tmp rfl (ResL.tmp rfl ResL.nil)), ?_⟩))
        exact ⟨I, _, Imm.Le.rfl' I, rfl, FrsI.nil, end_close _ ⟨{ ok2 with state := Nat.le_refl _ }, hf2.news, hf2.codes, hf2.each⟩ ⟨hl2.out, hl2.ends, hl2.inn, hl2.marks⟩ (Holds.drop1 H)⟩
      · have hd : doesS E2 ⟨7, (idn : Nat), (sq : Nat), (nn : Nat), data⟩ = heedS E2 ⟨7, (idn : Nat), (sq : Nat), (nn : Nat), data⟩ := rfl
        rw [hd]
        have h60 : data.length ≤ 60 := by omega
        repeat' (first
          | (show VcL _ _ _ _ _ _ _ _; first
      | refine VcL.pures tabOk rfl ?_
      | refine VcL.nil ?_
      | (show VcL _ _ _ _ (⟨_, .load _ _, _, _, _, _⟩ :: _) _ _ _; first
      | refine VcL.load1 tabOk rfl rfl rfl rfl rfl (by exact Holds.cell H rfl) ?_
      | refine VcL.loadN tabOk rfl rfl rfl rfl rfl rfl (by exact H) (by exact rfl) ?_)
      | (show VcL _ _ _ _ (⟨_, .call ⟨.value (.func F_stream_End_heed), _, _⟩, _, _, _, _⟩ :: _) _ _ _; (refine VcL.callF ok_stream_End_heed rfl rfl rfl rfl (Rets.mono (heed_any (E := E2) (f := ⟨7, (idn : Nat), (sq : Nat), (nn : Nat), data⟩) (L := blk b 24 [.int .i64 7, .int .i64 (idn : Nat), .int .i64 (sq : Nat), .int .i64 (nn : Nat), .slice A data.length cap] :: L) (end_close ⟨.slice A1 ob.length c1, .slice A2 es.length c2, .slice A3 ib.length c3, .slice A4 ms.length c4, nv, .slice A5 cd.length c5, cd⟩ hf2 hl2 (Holds.re [1, 1, 1, 1, 1, 1, 0] H rfl)) hdv h60 (by show (0 : Int) ≤ (sq : Nat) ∧ ((sq : Nat) : Int) < 65536; omega) hcl2) ?_); rintro _ w ⟨J, hJ, hfr, H⟩)))
          | (show Vc _ _ _ _ _ _; first
      | refine Vc.seq ?_
      | refine Vc.region ?_
      | refine Vc.condT rfl ?_
      | refine Vc.condF rfl ?_
      | refine Vc.ret ?_
      | refine Vc.block ?_)
          | (show KSeq _ _ _ _ _ _ _; first
      | refine KSeq.normal ?_
      | refine KSeq.ret ?_)
          | (show KBlock _ _ _ _ _ _; refine KBlock.ret ?_)
          | (show KEnd _ _ _ _ _ _ _; refine KEnd.fin (Or.inr rfl) ⟨_, (ResL.tmp rfl (ResL.tmp rfl ResL.nil)), ?_⟩))
        exact ⟨J, _, hJ, rfl, hfr, Holds.drop1 H⟩
      · have hnnb : (0 : Int) ≤ (nn : Nat) ∧ ((nn : Nat) : Int) < 4294967296 := by omega
        have h2d : (3 : Int) = 3 ∨ (3 : Int) = 4 → 2 ≤ data.length := fun h => by omega
        have hdl : data.length ≤ 1000 := by omega
        obtain ⟨E3, hE3⟩ : ∃ E3, heardS E2 ⟨3, (idn : Nat), (sq : Nat), (nn : Nat), data⟩ = E3 := ⟨_, rfl⟩
        have hcd3 : E3.codes = E2.codes := by rw [← hE3]; exact heardS_codes _ _
        have hd : doesS E2 ⟨3, (idn : Nat), (sq : Nat), (nn : Nat), data⟩ = (heardS E2 ⟨3, (idn : Nat), (sq : Nat), (nn : Nat), data⟩, []) := rfl
        rw [hd, hE3]
        repeat' (first
          | (show VcL _ _ _ _ _ _ _ _; first
      | refine VcL.pures tabOk rfl ?_
      | refine VcL.nil ?_
      | (show VcL _ _ _ _ (⟨_, .load _ _, _, _, _, _⟩ :: _) _ _ _; first
      | refine VcL.load1 tabOk rfl rfl rfl rfl rfl (by first | exact Holds.cell H rfl | exact Holds.cell (Holds.f6 H) rfl) ?_
      | refine VcL.loadN tabOk rfl rfl rfl rfl rfl rfl (by exact H) (by exact rfl) ?_)
      | (show VcL _ _ _ _ (⟨_, .call ⟨.value (.func F_stream_End_heard), _, _⟩, _, _, _, _⟩ :: _) _ _ _; (refine VcL.callF ok_stream_End_heard rfl rfl rfl rfl (Rets.mono (heard_any (E := E2) (f := ⟨3, (idn : Nat), (sq : Nat), (nn : Nat), data⟩) (L := blk b 24 [.int .i64 3, .int .i64 (idn : Nat), .int .i64 (sq : Nat), .int .i64 (nn : Nat), .slice A data.length cap] :: L) (end_close ⟨.slice A1 ob.length c1, .slice A2 es.length c2, .slice A3 ib.length c3, .slice A4 ms.length c4, nv, .slice A5 cd.length c5, cd⟩ hf2 hl2 (Holds.re [1, 1, 1, 1, 1, 1, 0] H rfl)) hdv hdl hnnb h2d) ?_); rintro _ w H; rw [hE3] at H; obtain ⟨B1, d1, B2, d2, B3, d3, B4, d4, B5, d5, nv2, cd2, ob2, es2, ib2, ms2, hl3, hf3, H⟩ := end_open H)))
          | (show Vc _ _ _ _ _ _; first
      | refine Vc.seq ?_
      | refine Vc.region ?_
      | refine Vc.condF rfl ?_
      | refine Vc.ret ?_
      | refine Vc.skip ?_
      | refine Vc.block ?_)
          | (show KSeq _ _ _ _ _ _ _; refine KSeq.normal ?_)
          | (show KBlock _ _ _ _ _ _; refine KBlock.normal ?_)
          | (show KEnd _ _ _ _ _ _ _; refine KEnd.fin (Or.inr rfl) ⟨_, (ResL.tmp rfl (ResL.tmp rfl ResL.nil)), ?_⟩))
        exact ⟨I, _, Imm.Le.rfl' I, rfl, FrsI.nil, end_close _ hf3 hl3 (Holds.re [0, 0, 0, 0, 0, 0] (Holds.drop (Holds.re [6] H rfl)) rfl)⟩
      · have hnnb : (0 : Int) ≤ (nn : Nat) ∧ ((nn : Nat) : Int) < 4294967296 := by omega
        have h2d : (4 : Int) = 3 ∨ (4 : Int) = 4 → 2 ≤ data.length := fun h => by omega
        have hdl : data.length ≤ 1000 := by omega
        obtain ⟨E3, hE3⟩ : ∃ E3, heardS E2 ⟨4, (idn : Nat), (sq : Nat), (nn : Nat), data⟩ = E3 := ⟨_, rfl⟩
        have hcd3 : E3.codes = E2.codes := by rw [← hE3]; exact heardS_codes _ _
        have hd : doesS E2 ⟨4, (idn : Nat), (sq : Nat), (nn : Nat), data⟩ = (dataS (heardS E2 ⟨4, (idn : Nat), (sq : Nat), (nn : Nat), data⟩) ⟨4, (idn : Nat), (sq : Nat), (nn : Nat), data⟩, [frameS (dataS (heardS E2 ⟨4, (idn : Nat), (sq : Nat), (nn : Nat), data⟩) ⟨4, (idn : Nat), (sq : Nat), (nn : Nat), data⟩) 3 0 (tailS (dataS (heardS E2 ⟨4, (idn : Nat), (sq : Nat), (nn : Nat), data⟩) ⟨4, (idn : Nat), (sq : Nat), (nn : Nat), data⟩))]) := rfl
        rw [hd, hE3]
        obtain ⟨E4, hE4⟩ : ∃ E4, dataS E3 ⟨4, (idn : Nat), (sq : Nat), (nn : Nat), data⟩ = E4 := ⟨_, rfl⟩
        rw [hE4]
        repeat' (first
          | (show VcL _ _ _ _ _ _ _ _; first
      | refine VcL.pures tabOk rfl ?_
      | refine VcL.nil ?_
      | (show VcL _ _ _ _ (⟨_, .load _ _, _, _, _, _⟩ :: _) _ _ _; first
      | refine VcL.load1 tabOk rfl rfl rfl rfl rfl (by first | exact Holds.cell H rfl | exact Holds.cell (Holds.f1 H) rfl) ?_
      | refine VcL.loadN tabOk rfl rfl rfl rfl rfl rfl (by first | exact H | exact (Holds.f1 H)) (by exact rfl) ?_)
      | refine VcL.buildSlice tabOk H rfl rfl rfl rfl rfl rfl (fun sv w H => ?_)
      | (show VcL _ _ _ _ (⟨_, .call ⟨.value (.func F_stream_End_heard), _, _⟩, _, _, _, _⟩ :: _) _ _ _; (refine VcL.callF ok_stream_End_heard rfl rfl rfl rfl (Rets.mono (heard_any (E := E2) (f := ⟨4, (idn : Nat), (sq : Nat), (nn : Nat), data⟩) (L := blk b 24 [.int .i64 4, .int .i64 (idn : Nat), .int .i64 (sq : Nat), .int .i64 (nn : Nat), .slice A data.length cap] :: L) (end_close ⟨.slice A1 ob.length c1, .slice A2 es.length c2, .slice A3 ib.length c3, .slice A4 ms.length c4, nv, .slice A5 cd.length c5, cd⟩ hf2 hl2 (Holds.re [1, 1, 1, 1, 1, 1, 0] H rfl)) hdv hdl hnnb h2d) ?_); rintro _ w H; rw [hE3] at H; skip))
      | (show VcL _ _ _ _ (⟨_, .call ⟨.value (.func F_stream_End_take), _, _⟩, _, _, _, _⟩ :: _) _ _ _; (refine VcL.callF ok_stream_End_take rfl rfl rfl rfl (Rets.mono (take_any (E := E3) (f := ⟨4, (idn : Nat), (sq : Nat), (nn : Nat), data⟩) H hdv (by show 4 ≤ data.length; omega) (by show data.length ≤ 63; omega) (by show (0 : Int) ≤ (sq : Nat) ∧ ((sq : Nat) : Int) < 4294967296; omega)) ?_); rintro _ w H; rw [hE4] at H; obtain ⟨B1, d1, B2, d2, B3, d3, B4, d4, B5, d5, nv2, cd2, ob2, es2, ib2, ms2, hl3, hf3, H⟩ := end_open H; have hil3 := hl3.innL; have hin3 := hf3.ok.inn))
      | (show VcL _ _ _ _ (⟨_, .call ⟨.value (.func F_stream_End_tail), _, _⟩, _, _, _, _⟩ :: _) _ _ _; (refine VcL.callF ok_stream_End_tail rfl rfl rfl rfl (Rets.mono (tail_any (E := E4) (m := ⟨.slice B1 ob2.length d1, .slice B2 es2.length d2, .slice B3 ib2.length d3, .slice B4 ms2.length d4, nv2, .slice B5 cd2.length d5, cd2⟩) H (RdW.mem (by repeat (exact .head _))) rfl hil3 hin3) ?_); rintro _ w H; obtain ⟨_, A7, c7, rfl⟩ := Holds.own_len H))
      | (show VcL _ _ _ _ (⟨_, .call ⟨.value (.func F_stream_End_frame), _, _⟩, _, _, _, _⟩ :: _) _ _ _; (refine VcL.callF ok_stream_End_frame rfl rfl rfl rfl (Rets.mono (frame_any (E := E4) (m := ⟨.slice B1 ob2.length d1, .slice B2 es2.length d2, .slice B3 ib2.length d3, .slice B4 ms2.length d4, nv2, .slice B5 cd2.length d5, cd2⟩) H (RdW.mem (by repeat (first | exact .head _ | apply List.Mem.tail)))) ?_); rintro _ w ⟨rfl, H⟩)))
          | (show Vc _ _ _ _ _ _; first
      | refine Vc.seq ?_
      | refine Vc.region ?_
      | refine Vc.condT rfl ?_
      | refine Vc.condF rfl ?_
      | refine Vc.ret ?_
      | refine Vc.skip ?_
      | refine Vc.block ?_)
          | (show KSeq _ _ _ _ _ _ _; first
      | refine KSeq.normal ?_
      | refine KSeq.ret ?_)
          | (show KBlock _ _ _ _ _ _; first
      | refine KBlock.normal ?_
      | refine KBlock.ret ?_)
          | (show KEnd _ _ _ _ _ _ _; refine KEnd.fin (Or.inr rfl) ⟨_, (ResL.tmp rfl (ResL.tmp rfl ResL.nil)), ?_⟩))
        obtain ⟨J, hJ, H, hsv⟩ := Holds.freezeOwn H
        obtain ⟨J2, hJ2, H, htv⟩ := Holds.freezeOwn H
        exact ⟨J2, _, hJ.trans hJ2, rfl, frsI_one (f := frameS E4 3 0 (tailS E4)) htv (hsv.mono hJ2), end_close _ (hf3.mono (hJ.trans hJ2)) hl3 (Holds.drop (Holds.re [6] H rfl))⟩
      · have hnnb : (0 : Int) ≤ (nn : Nat) ∧ ((nn : Nat) : Int) < 4294967296 := by omega
        have h2d : (5 : Int) = 3 ∨ (5 : Int) = 4 → 2 ≤ data.length := fun h => by omega
        have hdl : data.length ≤ 1000 := by omega
        obtain ⟨E3, hE3⟩ : ∃ E3, heardS E2 ⟨5, (idn : Nat), (sq : Nat), (nn : Nat), data⟩ = E3 := ⟨_, rfl⟩
        have hcd3 : E3.codes = E2.codes := by rw [← hE3]; exact heardS_codes _ _
        have hfrom := fun (ok3 : EnOk E3) (w : World) (L : List Asn) (H : Holds I w L) => from_any (a := E3.want) (b := sq) H ok3.want (by unfold M; omega)
        by_cases hfar : fromS E3.want sq < 2147483648
        · have hd : doesS E2 ⟨5, (idn : Nat), (sq : Nat), (nn : Nat), data⟩ = ({ E3 with want := sq, inn := [] }, [frameS { E3 with want := sq, inn := [] } 6 0 []]) := by
            show (let E := heardS E2 ⟨5, (idn : Nat), (sq : Nat), (nn : Nat), data⟩; let E := if fromS E.want (sq : Int).toNat < 2147483648 then { E with want := (sq : Int).toNat, inn := [] } else E; (E, [frameS E 6 0 []])) = _
            dsimp only
            rw [hE3, if_pos (show fromS E3.want (sq : Int).toNat < 2147483648 from hfar)]
            rfl
          rw [hd]
          have hdc : decide (((fromS E3.want sq : Nat) : Int) < 2147483648) = true := decide_eq_true (by omega)
          repeat' (first
            | rw [hdc]
            | (show VcL _ _ _ _ _ _ _ _; first
      | refine VcL.pures tabOk rfl ?_
      | refine VcL.nil ?_
      | (show VcL _ _ _ _ (⟨_, .load _ _, _, _, _, _⟩ :: _) _ _ _; first
      | refine VcL.load1 tabOk rfl rfl rfl rfl rfl (by first | exact Holds.cell H rfl | exact Holds.cell (Holds.f6 H) rfl) ?_
      | refine VcL.loadN tabOk rfl rfl rfl rfl rfl rfl (by exact H) (by exact rfl) ?_)
      | refine VcL.buildSlice tabOk H rfl rfl rfl rfl rfl rfl (fun sv w H => ?_)
      | (show VcL _ _ _ _ (⟨_, .store _ _ _, _, _, _, _⟩ :: _) _ _ _; refine VcL.store tabOk rfl (by exact H) rfl rfl (by exact rfl) (by exact rfl) (by exact rfl) (by exact rfl) (fun w H => ?_))
      | (show VcL _ _ _ _ (⟨_, .call ⟨.value (.func F_stream_End_heard), _, _⟩, _, _, _, _⟩ :: _) _ _ _; (refine VcL.callF ok_stream_End_heard rfl rfl rfl rfl (Rets.mono (heard_any (E := E2) (f := ⟨5, (idn : Nat), (sq : Nat), (nn : Nat), data⟩) (L := blk b 24 [.int .i64 5, .int .i64 (idn : Nat), .int .i64 (sq : Nat), .int .i64 (nn : Nat), .slice A data.length cap] :: L) (end_close ⟨.slice A1 ob.length c1, .slice A2 es.length c2, .slice A3 ib.length c3, .slice A4 ms.length c4, nv, .slice A5 cd.length c5, cd⟩ hf2 hl2 (Holds.re [1, 1, 1, 1, 1, 1, 0] H rfl)) hdv hdl hnnb h2d) ?_); rintro _ w H; rw [hE3] at H; obtain ⟨B1, d1, B2, d2, B3, d3, B4, d4, B5, d5, nv2, cd2, ob2, es2, ib2, ms2, hl3, hf3, H⟩ := end_open H))
      | (show VcL _ _ _ _ (⟨_, .call ⟨.value (.func F_stream_End_frame), _, _⟩, _, _, _, _⟩ :: _) _ _ _; (refine VcL.callF ok_stream_End_frame rfl rfl rfl rfl (Rets.mono (frame_any (E := { E3 with want := sq, inn := [] }) (m := ⟨.slice B1 ob2.length d1, .slice B2 es2.length d2, .slice none 0 0, .slice none 0 0, nv2, .slice B5 cd2.length d5, cd2⟩) H (RdW.mem (by repeat (exact .head _)))) ?_); rintro _ w ⟨rfl, H⟩)))
            | (show VcD _ _ _ _ _ _ _ _ _; first
      | refine VcD.pures tabOk rfl ?_
      | refine VcD.done ?_
      | (show VcD _ _ _ _ _ (.take _ _) _ _ _; refine VcD.load1 tabOk rfl rfl rfl rfl rfl rfl (by intro w_ hw_; first | exact Holds.cell hw_ rfl | exact Holds.cell (Holds.f6 hw_) rfl) (by exact rfl) ?_)
      | (show VcD _ _ _ _ _ (.only _ _) _ _ _; (refine VcD.callF (f := F_stream_from) rfl ok_stream_from rfl rfl rfl rfl (Rets.mono (hfrom hf3.ok _ _ H) ?_); rintro _ w ⟨rfl, H⟩; refine ⟨(by exact H), ?_⟩)))
            | (show Vc _ _ _ _ _ _; first
      | refine Vc.seq ?_
      | refine Vc.region ?_
      | refine Vc.condT rfl ?_
      | refine Vc.condF rfl ?_
      | refine Vc.ret ?_
      | refine Vc.skip ?_
      | refine Vc.block ?_
      | refine Vc.drawnH (id := 30) H (.pure 0 (.pure 1 (.pure 2 (.pure 4 (.take 3 (.take 5 (.only 6 (.pure 7 .done)))))))) mixed (by kernel_rfl) (fun w H => ?_))
            | (show KSeq _ _ _ _ _ _ _; first
      | refine KSeq.normal ?_
      | refine KSeq.ret ?_)
            | (show KBlock _ _ _ _ _ _; first
      | refine KBlock.normal ?_
      | refine KBlock.ret ?_)
            | (show KEnd _ _ _ _ _ _ _; refine KEnd.fin (Or.inr rfl) ⟨_, (ResL.tmp rfl (ResL.tmp rfl ResL.nil)), ?_⟩))
          obtain ⟨J, hJ, H, hsv⟩ := Holds.freezeOwn H
          have hf4 : EnF I { E3 with want := sq, inn := [] } ⟨.slice B1 ob2.length d1, .slice B2 es2.length d2, .slice none 0 0, .slice none 0 0, nv2, .slice B5 cd2.length d5, cd2⟩ := ⟨{ hf3.ok with want := (by show sq < M; unfold M; omega), inn := Nat.zero_le _ }, hf3.news, hf3.codes, hf3.each⟩
          refine ⟨J, _, hJ, rfl, frsI_one (f := frameS { E3 with want := sq, inn := [] } 6 0 []) SlI.nil hsv, end_close (ib := []) (ms := []) _ (hf4.mono hJ) ⟨hl3.out, hl3.ends, rfl, rfl⟩ ?_⟩
          exact Holds.re [2, 2, 2, 0, 0, 0] (Holds.own_nil (Holds.own_nil (Holds.drop4 (Holds.drop3 (Holds.drop3 H))))) rfl
        · have hd : doesS E2 ⟨5, (idn : Nat), (sq : Nat), (nn : Nat), data⟩ = (E3, [frameS E3 6 0 []]) := by
            show (let E := heardS E2 ⟨5, (idn : Nat), (sq : Nat), (nn : Nat), data⟩; let E := if fromS E.want (sq : Int).toNat < 2147483648 then { E with want := (sq : Int).toNat, inn := [] } else E; (E, [frameS E 6 0 []])) = _
            dsimp only
            rw [hE3, if_neg (show ¬ fromS E3.want (sq : Int).toNat < 2147483648 from hfar)]
          rw [hd]
          have hdc : decide (((fromS E3.want sq : Nat) : Int) < 2147483648) = false := decide_eq_false (by omega)
          repeat' (first
            | rw [hdc]
            | (show VcL _ _ _ _ _ _ _ _; first
      | refine VcL.pures tabOk rfl ?_
      | refine VcL.nil ?_
      | (show VcL _ _ _ _ (⟨_, .load _ _, _, _, _, _⟩ :: _) _ _ _; first
      | refine VcL.load1 tabOk rfl rfl rfl rfl rfl (by first | exact Holds.cell H rfl | exact Holds.cell (Holds.f6 H) rfl) ?_
      | refine VcL.loadN tabOk rfl rfl rfl rfl rfl rfl (by exact H) (by exact rfl) ?_)
      | refine VcL.buildSlice tabOk H rfl rfl rfl rfl rfl rfl (fun sv w H => ?_)
      | (show VcL _ _ _ _ (⟨_, .call ⟨.value (.func F_stream_End_heard), _, _⟩, _, _, _, _⟩ :: _) _ _ _; (refine VcL.callF ok_stream_End_heard rfl rfl rfl rfl (Rets.mono (heard_any (E := E2) (f := ⟨5, (idn : Nat), (sq : Nat), (nn : Nat), data⟩) (L := blk b 24 [.int .i64 5, .int .i64 (idn : Nat), .int .i64 (sq : Nat), .int .i64 (nn : Nat), .slice A data.length cap] :: L) (end_close ⟨.slice A1 ob.length c1, .slice A2 es.length c2, .slice A3 ib.length c3, .slice A4 ms.length c4, nv, .slice A5 cd.length c5, cd⟩ hf2 hl2 (Holds.re [1, 1, 1, 1, 1, 1, 0] H rfl)) hdv hdl hnnb h2d) ?_); rintro _ w H; rw [hE3] at H; obtain ⟨B1, d1, B2, d2, B3, d3, B4, d4, B5, d5, nv2, cd2, ob2, es2, ib2, ms2, hl3, hf3, H⟩ := end_open H))
      | (show VcL _ _ _ _ (⟨_, .call ⟨.value (.func F_stream_End_frame), _, _⟩, _, _, _, _⟩ :: _) _ _ _; (refine VcL.callF ok_stream_End_frame rfl rfl rfl rfl (Rets.mono (frame_any (E := E3) (m := ⟨.slice B1 ob2.length d1, .slice B2 es2.length d2, .slice B3 ib2.length d3, .slice B4 ms2.length d4, nv2, .slice B5 cd2.length d5, cd2⟩) H (RdW.mem (by repeat (exact .head _)))) ?_); rintro _ w ⟨rfl, H⟩)))
            | (show VcD _ _ _ _ _ _ _ _ _; first
      | refine VcD.pures tabOk rfl ?_
      | refine VcD.done ?_
      | (show VcD _ _ _ _ _ (.take _ _) _ _ _; refine VcD.load1 tabOk rfl rfl rfl rfl rfl rfl (by intro w_ hw_; first | exact Holds.cell hw_ rfl | exact Holds.cell (Holds.f6 hw_) rfl) (by exact rfl) ?_)
      | (show VcD _ _ _ _ _ (.only _ _) _ _ _; (refine VcD.callF (f := F_stream_from) rfl ok_stream_from rfl rfl rfl rfl (Rets.mono (hfrom hf3.ok _ _ H) ?_); rintro _ w ⟨rfl, H⟩; refine ⟨(by exact H), ?_⟩)))
            | (show Vc _ _ _ _ _ _; first
      | refine Vc.seq ?_
      | refine Vc.region ?_
      | refine Vc.condT rfl ?_
      | refine Vc.condF rfl ?_
      | refine Vc.ret ?_
      | refine Vc.skip ?_
      | refine Vc.block ?_
      | refine Vc.drawnH (id := 30) H (.pure 0 (.pure 1 (.pure 2 (.pure 4 (.take 3 (.take 5 (.only 6 (.pure 7 .done)))))))) mixed (by kernel_rfl) (fun w H => ?_))
            | (show KSeq _ _ _ _ _ _ _; first
      | refine KSeq.normal ?_
      | refine KSeq.ret ?_)
            | (show KBlock _ _ _ _ _ _; first
      | refine KBlock.normal ?_
      | refine KBlock.ret ?_)
            | (show KEnd _ _ _ _ _ _ _; refine KEnd.fin (Or.inr rfl) ⟨_, (ResL.tmp rfl (ResL.tmp rfl ResL.nil)), ?_⟩))
          obtain ⟨J, hJ, H, hsv⟩ := Holds.freezeOwn H
          exact ⟨J, _, hJ, rfl, frsI_one (f := frameS E3 6 0 []) SlI.nil hsv, end_close _ (hf3.mono hJ) hl3 (Holds.drop (Holds.re [6] H rfl))⟩
      · have hnnb : (0 : Int) ≤ (nn : Nat) ∧ ((nn : Nat) : Int) < 4294967296 := by omega
        have h2d : (6 : Int) = 3 ∨ (6 : Int) = 4 → 2 ≤ data.length := fun h => by omega
        have hdl : data.length ≤ 1000 := by omega
        obtain ⟨E3, hE3⟩ : ∃ E3, heardS E2 ⟨6, (idn : Nat), (sq : Nat), (nn : Nat), data⟩ = E3 := ⟨_, rfl⟩
        have hcd3 : E3.codes = E2.codes := by rw [← hE3]; exact heardS_codes _ _
        have hfrom := fun (ok3 : EnOk E3) (w : World) (L : List Asn) (H : Holds I w L) => from_any (a := E3.resetAt) (b := nn) H ok3.resetAt (by unfold M; omega)
        have hheard := fun (w : World) (L : List Asn) (H : Holds I w (endA I e E2 :: L)) => heard_any (E := E2) (f := ⟨6, (idn : Nat), (sq : Nat), (nn : Nat), data⟩) H hdv hdl hnnb h2d
        rw [hE3] at hheard
        have htn : ((nn : Nat) : Int).toNat = nn := Int.toNat_natCast nn
        by_cases hrs : E3.resets = true
        · by_cases hfar : fromS E3.resetAt nn < 2147483648
          · have hd : doesS E2 ⟨6, (idn : Nat), (sq : Nat), (nn : Nat), data⟩ = ({ E3 with resets := false }, []) := by
              show (let E := heardS E2 ⟨6, (idn : Nat), (sq : Nat), (nn : Nat), data⟩; ((if E.resets = true ∧ fromS E.resetAt (nn : Int).toNat < 2147483648 then { E with resets := false } else E), ([] : List Fr))) = _
              dsimp only
              rw [hE3, htn, if_pos ⟨hrs, hfar⟩]
            rw [hd]
            have hdc : decide (((fromS E3.resetAt nn : Nat) : Int) < 2147483648) = true := decide_eq_true (by omega)
            clear hfar hd hE3
            obtain ⟨q1, q2, q3, q4, q5, q6, q7, q8, q9, rs, q11, q12, q13, q14, q15, q16, q17⟩ := E3
            obtain rfl : rs = true := hrs
            dsimp only at hfrom hdc
            obtain ⟨fk, hfk⟩ : ∃ k, fromS q11 nn = k := ⟨_, rfl⟩
            rw [hfk] at hfrom hdc
            clear hfk
            repeat' (first
              | rw [hdc]
              | (show VcL _ _ _ _ _ _ _ _; first
      | refine VcL.pures tabOk rfl ?_
      | refine VcL.nil ?_
      | (show VcL _ _ _ _ (⟨_, .load _ _, _, _, _, _⟩ :: _) _ _ _; first
      | refine VcL.load1 tabOk rfl rfl rfl rfl rfl (by first | exact Holds.cell H rfl | exact Holds.cell (Holds.f6 H) rfl) ?_
      | refine VcL.loadN tabOk rfl rfl rfl rfl rfl rfl (by exact H) (by exact rfl) ?_)
      | (show VcL _ _ _ _ (⟨_, .store _ _ _, _, _, _, _⟩ :: _) _ _ _; refine VcL.store tabOk rfl (by exact H) rfl rfl (by exact rfl) (by exact rfl) (by exact rfl) (by exact rfl) (fun w H => ?_))
      | (show VcL _ _ _ _ (⟨_, .call ⟨.value (.func F_stream_End_heard), _, _⟩, _, _, _, _⟩ :: _) _ _ _; (refine VcL.callF ok_stream_End_heard rfl rfl rfl rfl (Rets.mono (hheard _ (blk b 24 [.int .i64 6, .int .i64 (idn : Nat), .int .i64 (sq : Nat), .int .i64 (nn : Nat), .slice A data.length cap] :: L) (end_close ⟨.slice A1 ob.length c1, .slice A2 es.length c2, .slice A3 ib.length c3, .slice A4 ms.length c4, nv, .slice A5 cd.length c5, cd⟩ hf2 hl2 (Holds.re [1, 1, 1, 1, 1, 1, 0] H rfl))) ?_); rintro _ w H; obtain ⟨B1, d1, B2, d2, B3, d3, B4, d4, B5, d5, nv2, cd2, ob2, es2, ib2, ms2, hl3, hf3, H⟩ := end_open H)))
              | (show VcD _ _ _ _ _ _ _ _ _; first
      | refine VcD.pures tabOk rfl ?_
      | refine VcD.done ?_
      | (show VcD _ _ _ _ _ (.pure _ _) _ _ _; (refine VcD.guardP rfl rfl rfl rfl rfl (fun h => ?_) (fun h => ?_) <;> first | (cases h; done) | skip))
      | (show VcD _ _ _ _ _ (.take _ _) _ _ _; refine VcD.load1 tabOk rfl rfl rfl rfl rfl rfl (by intro w_ hw_; first | exact Holds.cell hw_ rfl | exact Holds.cell (Holds.f6 hw_) rfl) (by exact rfl) ?_)
      | (show VcD _ _ _ _ _ (.only _ _) _ _ _; (refine VcD.callF (f := F_stream_from) rfl ok_stream_from rfl rfl rfl rfl (Rets.mono (hfrom hf3.ok _ _ H) ?_); rintro _ w ⟨rfl, H⟩; refine ⟨(by exact H), ?_⟩)))
              | (show Vc _ _ _ _ _ _; first
      | refine Vc.seq ?_
      | refine Vc.region ?_
      | refine Vc.condT rfl ?_
      | refine Vc.condF rfl ?_
      | refine Vc.ret ?_
      | refine Vc.skip ?_
      | refine Vc.block ?_
      | refine Vc.drawnH (id := 35) H (.pure 0 (.pure 1 (.pure 2 (.take 3 (.pure 4 (.pure 5 (.pure 6 (.pure 7 (.pure 9 (.take 8 (.take 10 (.only 11 (.pure 12 (.pure 13 .done)))))))))))))) mixed (by kernel_rfl) (fun w H => ?_))
              | (show KSeq _ _ _ _ _ _ _; refine KSeq.normal ?_)
              | (show KBlock _ _ _ _ _ _; refine KBlock.normal ?_)
              | (show KEnd _ _ _ _ _ _ _; refine KEnd.fin (Or.inr rfl) ⟨_, (ResL.tmp rfl (ResL.tmp rfl ResL.nil)), ?_⟩))
            exact ⟨I, _, Imm.Le.rfl' I, rfl, FrsI.nil, end_close _ ⟨{ hf3.ok with }, hf3.news, hf3.codes, hf3.each⟩ ⟨hl3.out, hl3.ends, hl3.inn, hl3.marks⟩ (Holds.drop (Holds.re [6] H rfl))⟩
          · have hd : doesS E2 ⟨6, (idn : Nat), (sq : Nat), (nn : Nat), data⟩ = (E3, []) := by
              show (let E := heardS E2 ⟨6, (idn : Nat), (sq : Nat), (nn : Nat), data⟩; ((if E.resets = true ∧ fromS E.resetAt (nn : Int).toNat < 2147483648 then { E with resets := false } else E), ([] : List Fr))) = _
              dsimp only
              rw [hE3, htn, if_neg (fun h => hfar h.2)]
            rw [hd]
            have hdc : decide (((fromS E3.resetAt nn : Nat) : Int) < 2147483648) = false := decide_eq_false (by omega)
            clear hfar hd hE3
            obtain ⟨q1, q2, q3, q4, q5, q6, q7, q8, q9, rs, q11, q12, q13, q14, q15, q16, q17⟩ := E3
            obtain rfl : rs = true := hrs
            dsimp only at hfrom hdc
            obtain ⟨fk, hfk⟩ : ∃ k, fromS q11 nn = k := ⟨_, rfl⟩
            rw [hfk] at hfrom hdc
            clear hfk
            repeat' (first
              | rw [hdc]
              | (show VcL _ _ _ _ _ _ _ _; first
      | refine VcL.pures tabOk rfl ?_
      | refine VcL.nil ?_
      | (show VcL _ _ _ _ (⟨_, .load _ _, _, _, _, _⟩ :: _) _ _ _; first
      | refine VcL.load1 tabOk rfl rfl rfl rfl rfl (by first | exact Holds.cell H rfl | exact Holds.cell (Holds.f6 H) rfl) ?_
      | refine VcL.loadN tabOk rfl rfl rfl rfl rfl rfl (by exact H) (by exact rfl) ?_)
      | (show VcL _ _ _ _ (⟨_, .call ⟨.value (.func F_stream_End_heard), _, _⟩, _, _, _, _⟩ :: _) _ _ _; (refine VcL.callF ok_stream_End_heard rfl rfl rfl rfl (Rets.mono (hheard _ (blk b 24 [.int .i64 6, .int .i64 (idn : Nat), .int .i64 (sq : Nat), .int .i64 (nn : Nat), .slice A data.length cap] :: L) (end_close ⟨.slice A1 ob.length c1, .slice A2 es.length c2, .slice A3 ib.length c3, .slice A4 ms.length c4, nv, .slice A5 cd.length c5, cd⟩ hf2 hl2 (Holds.re [1, 1, 1, 1, 1, 1, 0] H rfl))) ?_); rintro _ w H; obtain ⟨B1, d1, B2, d2, B3, d3, B4, d4, B5, d5, nv2, cd2, ob2, es2, ib2, ms2, hl3, hf3, H⟩ := end_open H)))
              | (show VcD _ _ _ _ _ _ _ _ _; first
      | refine VcD.pures tabOk rfl ?_
      | refine VcD.done ?_
      | (show VcD _ _ _ _ _ (.pure _ _) _ _ _; (refine VcD.guardP rfl rfl rfl rfl rfl (fun h => ?_) (fun h => ?_) <;> first | (cases h; done) | skip))
      | (show VcD _ _ _ _ _ (.take _ _) _ _ _; refine VcD.load1 tabOk rfl rfl rfl rfl rfl rfl (by intro w_ hw_; first | exact Holds.cell hw_ rfl | exact Holds.cell (Holds.f6 hw_) rfl) (by exact rfl) ?_)
      | (show VcD _ _ _ _ _ (.only _ _) _ _ _; (refine VcD.callF (f := F_stream_from) rfl ok_stream_from rfl rfl rfl rfl (Rets.mono (hfrom hf3.ok _ _ H) ?_); rintro _ w ⟨rfl, H⟩; refine ⟨(by exact H), ?_⟩)))
              | (show Vc _ _ _ _ _ _; first
      | refine Vc.seq ?_
      | refine Vc.region ?_
      | refine Vc.condT rfl ?_
      | refine Vc.condF rfl ?_
      | refine Vc.ret ?_
      | refine Vc.skip ?_
      | refine Vc.block ?_
      | refine Vc.drawnH (id := 35) H (.pure 0 (.pure 1 (.pure 2 (.take 3 (.pure 4 (.pure 5 (.pure 6 (.pure 7 (.pure 9 (.take 8 (.take 10 (.only 11 (.pure 12 (.pure 13 .done)))))))))))))) mixed (by kernel_rfl) (fun w H => ?_))
              | (show KSeq _ _ _ _ _ _ _; refine KSeq.normal ?_)
              | (show KBlock _ _ _ _ _ _; refine KBlock.normal ?_)
              | (show KEnd _ _ _ _ _ _ _; refine KEnd.fin (Or.inr rfl) ⟨_, (ResL.tmp rfl (ResL.tmp rfl ResL.nil)), ?_⟩))
            exact ⟨I, _, Imm.Le.rfl' I, rfl, FrsI.nil, end_close _ hf3 hl3 (Holds.drop (Holds.re [6] H rfl))⟩
        · have hrs0 : E3.resets = false := by simpa using hrs
          have hd : doesS E2 ⟨6, (idn : Nat), (sq : Nat), (nn : Nat), data⟩ = (E3, []) := by
            show (let E := heardS E2 ⟨6, (idn : Nat), (sq : Nat), (nn : Nat), data⟩; ((if E.resets = true ∧ fromS E.resetAt (nn : Int).toNat < 2147483648 then { E with resets := false } else E), ([] : List Fr))) = _
            dsimp only
            rw [hE3, htn, if_neg (fun h => hrs h.1)]
          rw [hd]
          clear hd hE3
          obtain ⟨q1, q2, q3, q4, q5, q6, q7, q8, q9, rs, q11, q12, q13, q14, q15, q16, q17⟩ := E3
          obtain rfl : rs = false := hrs0
          repeat' (first
            | (show VcL _ _ _ _ _ _ _ _; first
      | refine VcL.pures tabOk rfl ?_
      | refine VcL.nil ?_
      | (show VcL _ _ _ _ (⟨_, .load _ _, _, _, _, _⟩ :: _) _ _ _; first
      | refine VcL.load1 tabOk rfl rfl rfl rfl rfl (by first | exact Holds.cell H rfl | exact Holds.cell (Holds.f6 H) rfl) ?_
      | refine VcL.loadN tabOk rfl rfl rfl rfl rfl rfl (by exact H) (by exact rfl) ?_)
      | (show VcL _ _ _ _ (⟨_, .call ⟨.value (.func F_stream_End_heard), _, _⟩, _, _, _, _⟩ :: _) _ _ _; (refine VcL.callF ok_stream_End_heard rfl rfl rfl rfl (Rets.mono (hheard _ (blk b 24 [.int .i64 6, .int .i64 (idn : Nat), .int .i64 (sq : Nat), .int .i64 (nn : Nat), .slice A data.length cap] :: L) (end_close ⟨.slice A1 ob.length c1, .slice A2 es.length c2, .slice A3 ib.length c3, .slice A4 ms.length c4, nv, .slice A5 cd.length c5, cd⟩ hf2 hl2 (Holds.re [1, 1, 1, 1, 1, 1, 0] H rfl))) ?_); rintro _ w H; obtain ⟨B1, d1, B2, d2, B3, d3, B4, d4, B5, d5, nv2, cd2, ob2, es2, ib2, ms2, hl3, hf3, H⟩ := end_open H)))
            | (show VcD _ _ _ _ _ _ _ _ _; first
      | refine VcD.pures tabOk rfl ?_
      | refine VcD.done ?_
      | (show VcD _ _ _ _ _ (.pure _ _) _ _ _; (refine VcD.guardP rfl rfl rfl rfl rfl (fun h => ?_) (fun h => ?_) <;> first | (cases h; done) | skip))
      | (show VcD _ _ _ _ _ (.take _ _) _ _ _; first
      | refine VcD.load1 tabOk rfl rfl rfl rfl rfl rfl (by intro w_ hw_; exact Holds.cell hw_ rfl) (by exact rfl) ?_
      | refine VcD.skipT rfl rfl rfl ?_)
      | (show VcD _ _ _ _ _ (.only _ _) _ _ _; refine VcD.skip rfl rfl rfl (by exact H) ?_))
            | (show Vc _ _ _ _ _ _; first
      | refine Vc.seq ?_
      | refine Vc.region ?_
      | refine Vc.condT rfl ?_
      | refine Vc.condF rfl ?_
      | refine Vc.ret ?_
      | refine Vc.skip ?_
      | refine Vc.block ?_
      | refine Vc.drawnH (id := 35) H (.pure 0 (.pure 1 (.pure 2 (.take 3 (.pure 4 (.pure 5 (.pure 6 (.pure 7 (.pure 9 (.take 8 (.take 10 (.only 11 (.pure 12 (.pure 13 .done)))))))))))))) mixed (by kernel_rfl) (fun w H => ?_))
            | (show KSeq _ _ _ _ _ _ _; refine KSeq.normal ?_)
            | (show KBlock _ _ _ _ _ _; refine KBlock.normal ?_)
            | (show KEnd _ _ _ _ _ _ _; refine KEnd.fin (Or.inr rfl) ⟨_, (ResL.tmp rfl (ResL.tmp rfl ResL.nil)), ?_⟩))
          exact ⟨I, _, Imm.Le.rfl' I, rfl, FrsI.nil, end_close _ hf3 hl3 (Holds.drop (Holds.re [6] H rfl))⟩
      · have hnnb : (0 : Int) ≤ (nn : Nat) ∧ ((nn : Nat) : Int) < 4294967296 := by omega
        have h2d : (8 : Int) = 3 ∨ (8 : Int) = 4 → 2 ≤ data.length := fun h => by omega
        have hdl : data.length ≤ 1000 := by omega
        obtain ⟨E3, hE3⟩ : ∃ E3, heardS E2 ⟨8, (idn : Nat), (sq : Nat), (nn : Nat), data⟩ = E3 := ⟨_, rfl⟩
        have hcd3 : E3.codes = E2.codes := by rw [← hE3]; exact heardS_codes _ _
        have hheard := fun (w : World) (L : List Asn) (H : Holds I w (endA I e E2 :: L)) => heard_any (E := E2) (f := ⟨8, (idn : Nat), (sq : Nat), (nn : Nat), data⟩) H hdv hdl hnnb h2d
        rw [hE3] at hheard
        by_cases hrs : E3.news.isSome = true ∧ ((sq : Nat) : Int) = E3.seq
        · have hd : doesS E2 ⟨8, (idn : Nat), (sq : Nat), (nn : Nat), data⟩ = ({ E3 with news := none, seq := (E3.seq + 1) % 65536 }, []) := by
            show (let E := heardS E2 ⟨8, (idn : Nat), (sq : Nat), (nn : Nat), data⟩; ((if E.news.isSome = true ∧ ((sq : Nat) : Int) = E.seq then { E with news := none, seq := (E.seq + 1) % 65536 } else E), ([] : List Fr))) = _
            dsimp only
            rw [hE3, if_pos hrs]
          rw [hd]
          clear hd hE3
          obtain ⟨q1, q2, q3, q4, q5, q6, q7, q8, q9, rs, q11, nw, q13, q14, q15, q16, q17⟩ := E3
          obtain ⟨hrs1, hrs2⟩ := hrs
          dsimp only at hrs1 hrs2
          obtain rfl : sq = q13 := by omega
          cases nw with
          | none => exact absurd hrs1 (by decide)
          | some nb =>
            have e1 : IntKind.i64.wrap ((sq : Int) + 1) = ((sq + 1 : Nat) : Int) := by rw [wrap_i64 (by omega) (by omega)]; omega
            have e2 : ((sq + 1 : Nat) : Int).tmod (Int.ofNat (65535 + 1)) = (((sq + 1) % 65536 : Nat) : Int) := by rw [Int.tmod_eq_emod_of_nonneg (by omega)]; rfl
            have e3 : decide ((sq : Int) = (sq : Int)) = true := decide_eq_true rfl
            repeat' (first
              | rw [e1]
              | rw [e2]
              | rw [e3]
              | (show VcL _ _ _ _ _ _ _ _; first
      | refine VcL.pures tabOk rfl ?_
      | refine VcL.nil ?_
      | (show VcL _ _ _ _ (⟨_, .load _ _, _, _, _, _⟩ :: _) _ _ _; first
      | refine VcL.load1 tabOk rfl rfl rfl rfl rfl (by first | exact Holds.cell H rfl | exact Holds.cell (Holds.f6 H) rfl) ?_
      | refine VcL.loadN tabOk rfl rfl rfl rfl rfl rfl (by exact H) (by exact rfl) ?_)
      | (show VcL _ _ _ _ (⟨_, .store _ _ _, _, _, _, _⟩ :: _) _ _ _; refine VcL.store tabOk rfl (by exact H) rfl rfl (by exact rfl) (by exact rfl) (by exact rfl) (by exact rfl) (fun w H => ?_))
      | (show VcL _ _ _ _ (⟨_, .call ⟨.value (.func F_stream_End_heard), _, _⟩, _, _, _, _⟩ :: _) _ _ _; (refine VcL.callF ok_stream_End_heard rfl rfl rfl rfl (Rets.mono (hheard _ (blk b 24 [.int .i64 8, .int .i64 (idn : Nat), .int .i64 (sq : Nat), .int .i64 (nn : Nat), .slice A data.length cap] :: L) (end_close ⟨.slice A1 ob.length c1, .slice A2 es.length c2, .slice A3 ib.length c3, .slice A4 ms.length c4, nv, .slice A5 cd.length c5, cd⟩ hf2 hl2 (Holds.re [1, 1, 1, 1, 1, 1, 0] H rfl))) ?_); rintro _ w H; obtain ⟨B1, d1, B2, d2, B3, d3, B4, d4, B5, d5, nv2, cd2, ob2, es2, ib2, ms2, hl3, hf3, H⟩ := end_open H)))
              | (show VcD _ _ _ _ _ _ _ _ _; first
      | refine VcD.pures tabOk rfl ?_
      | refine VcD.done ?_
      | (show VcD _ _ _ _ _ (.pure _ _) _ _ _; (refine VcD.guardP rfl rfl rfl rfl rfl (fun h => ?_) (fun h => ?_) <;> first | (cases h; done) | skip))
      | (show VcD _ _ _ _ _ (.take _ _) _ _ _; refine VcD.load1 tabOk rfl rfl rfl rfl rfl rfl (by intro w_ hw_; first | exact Holds.cell hw_ rfl | exact Holds.cell (Holds.f6 hw_) rfl) (by exact rfl) ?_))
              | (show Vc _ _ _ _ _ _; first
      | refine Vc.seq ?_
      | refine Vc.region ?_
      | refine Vc.condT rfl ?_
      | refine Vc.condF rfl ?_
      | refine Vc.ret ?_
      | refine Vc.skip ?_
      | refine Vc.block ?_
      | refine Vc.drawnH (id := 38) H (.pure 0 (.pure 1 (.pure 2 (.take 3 (.pure 4 (.pure 5 (.pure 7 (.pure 8 (.pure 9 (.take 6 (.take 10 (.pure 11 (.pure 12 .done))))))))))))) mixed (by kernel_rfl) (fun w H => ?_))
              | (show KSeq _ _ _ _ _ _ _; refine KSeq.normal ?_)
              | (show KBlock _ _ _ _ _ _; refine KBlock.normal ?_)
              | (show KEnd _ _ _ _ _ _ _; refine KEnd.fin (Or.inr rfl) ⟨_, (ResL.tmp rfl (ResL.tmp rfl ResL.nil)), ?_⟩))
            exact ⟨I, _, Imm.Le.rfl' I, rfl, FrsI.nil, end_close ⟨.slice B1 ob2.length d1, .slice B2 es2.length d2, .slice B3 ib2.length d3, .slice B4 ms2.length d4, .slice none 0 0, .slice B5 cd2.length d5, cd2⟩ ⟨{ hf3.ok with news := fun b hb => (by cases hb), seq := Nat.mod_lt _ (by decide) }, rfl, hf3.codes, hf3.each⟩ ⟨hl3.out, hl3.ends, hl3.inn, hl3.marks⟩ (Holds.drop (Holds.re [6] H rfl))⟩
        · have hd : doesS E2 ⟨8, (idn : Nat), (sq : Nat), (nn : Nat), data⟩ = (E3, []) := by
            show (let E := heardS E2 ⟨8, (idn : Nat), (sq : Nat), (nn : Nat), data⟩; ((if E.news.isSome = true ∧ ((sq : Nat) : Int) = E.seq then { E with news := none, seq := (E.seq + 1) % 65536 } else E), ([] : List Fr))) = _
            dsimp only
            rw [hE3, if_neg hrs]
          rw [hd]
          clear hd hE3
          obtain ⟨q1, q2, q3, q4, q5, q6, q7, q8, q9, rs, q11, nw, q13, q14, q15, q16, q17⟩ := E3
          dsimp only at hrs
          cases nw with
          | none =>
            repeat' (first
              | (show VcL _ _ _ _ _ _ _ _; first
      | refine VcL.pures tabOk rfl ?_
      | refine VcL.nil ?_
      | (show VcL _ _ _ _ (⟨_, .load _ _, _, _, _, _⟩ :: _) _ _ _; first
      | refine VcL.load1 tabOk rfl rfl rfl rfl rfl (by first | exact Holds.cell H rfl | exact Holds.cell (Holds.f6 H) rfl) ?_
      | refine VcL.loadN tabOk rfl rfl rfl rfl rfl rfl (by exact H) (by exact rfl) ?_)
      | (show VcL _ _ _ _ (⟨_, .call ⟨.value (.func F_stream_End_heard), _, _⟩, _, _, _, _⟩ :: _) _ _ _; (refine VcL.callF ok_stream_End_heard rfl rfl rfl rfl (Rets.mono (hheard _ (blk b 24 [.int .i64 8, .int .i64 (idn : Nat), .int .i64 (sq : Nat), .int .i64 (nn : Nat), .slice A data.length cap] :: L) (end_close ⟨.slice A1 ob.length c1, .slice A2 es.length c2, .slice A3 ib.length c3, .slice A4 ms.length c4, nv, .slice A5 cd.length c5, cd⟩ hf2 hl2 (Holds.re [1, 1, 1, 1, 1, 1, 0] H rfl))) ?_); rintro _ w H; obtain ⟨B1, d1, B2, d2, B3, d3, B4, d4, B5, d5, nv2, cd2, ob2, es2, ib2, ms2, hl3, hf3, H⟩ := end_open H)))
              | (show VcD _ _ _ _ _ _ _ _ _; first
      | refine VcD.pures tabOk rfl ?_
      | refine VcD.done ?_
      | (show VcD _ _ _ _ _ (.pure _ _) _ _ _; (refine VcD.guardP rfl rfl rfl rfl rfl (fun h => ?_) (fun h => ?_) <;> first | (cases h; done) | skip))
      | (show VcD _ _ _ _ _ (.take _ _) _ _ _; first
      | refine VcD.load1 tabOk rfl rfl rfl rfl rfl rfl (by intro w_ hw_; exact Holds.cell hw_ rfl) (by exact rfl) ?_
      | refine VcD.skipT rfl rfl rfl ?_))
              | (show Vc _ _ _ _ _ _; first
      | refine Vc.seq ?_
      | refine Vc.region ?_
      | refine Vc.condT rfl ?_
      | refine Vc.condF rfl ?_
      | refine Vc.ret ?_
      | refine Vc.skip ?_
      | refine Vc.block ?_
      | refine Vc.drawnH (id := 38) H (.pure 0 (.pure 1 (.pure 2 (.take 3 (.pure 4 (.pure 5 (.pure 7 (.pure 8 (.pure 9 (.take 6 (.take 10 (.pure 11 (.pure 12 .done))))))))))))) mixed (by kernel_rfl) (fun w H => ?_))
              | (show KSeq _ _ _ _ _ _ _; refine KSeq.normal ?_)
              | (show KBlock _ _ _ _ _ _; refine KBlock.normal ?_)
              | (show KEnd _ _ _ _ _ _ _; refine KEnd.fin (Or.inr rfl) ⟨_, (ResL.tmp rfl (ResL.tmp rfl ResL.nil)), ?_⟩))
            exact ⟨I, _, Imm.Le.rfl' I, rfl, FrsI.nil, end_close _ hf3 hl3 (Holds.drop (Holds.re [6] H rfl))⟩
          | some nb =>
            have e3 : decide ((sq : Int) = (q13 : Int)) = false := decide_eq_false fun h => hrs ⟨rfl, h⟩
            clear hrs
            repeat' (first
              | rw [e3]
              | (show VcL _ _ _ _ _ _ _ _; first
      | refine VcL.pures tabOk rfl ?_
      | refine VcL.nil ?_
      | (show VcL _ _ _ _ (⟨_, .load _ _, _, _, _, _⟩ :: _) _ _ _; first
      | refine VcL.load1 tabOk rfl rfl rfl rfl rfl (by first | exact Holds.cell H rfl | exact Holds.cell (Holds.f6 H) rfl) ?_
      | refine VcL.loadN tabOk rfl rfl rfl rfl rfl rfl (by exact H) (by exact rfl) ?_)
      | (show VcL _ _ _ _ (⟨_, .call ⟨.value (.func F_stream_End_heard), _, _⟩, _, _, _, _⟩ :: _) _ _ _; (refine VcL.callF ok_stream_End_heard rfl rfl rfl rfl (Rets.mono (hheard _ (blk b 24 [.int .i64 8, .int .i64 (idn : Nat), .int .i64 (sq : Nat), .int .i64 (nn : Nat), .slice A data.length cap] :: L) (end_close ⟨.slice A1 ob.length c1, .slice A2 es.length c2, .slice A3 ib.length c3, .slice A4 ms.length c4, nv, .slice A5 cd.length c5, cd⟩ hf2 hl2 (Holds.re [1, 1, 1, 1, 1, 1, 0] H rfl))) ?_); rintro _ w H; obtain ⟨B1, d1, B2, d2, B3, d3, B4, d4, B5, d5, nv2, cd2, ob2, es2, ib2, ms2, hl3, hf3, H⟩ := end_open H)))
              | (show VcD _ _ _ _ _ _ _ _ _; first
      | refine VcD.pures tabOk rfl ?_
      | refine VcD.done ?_
      | (show VcD _ _ _ _ _ (.pure _ _) _ _ _; (refine VcD.guardP rfl rfl rfl rfl rfl (fun h => ?_) (fun h => ?_) <;> first | (cases h; done) | skip))
      | (show VcD _ _ _ _ _ (.take _ _) _ _ _; refine VcD.load1 tabOk rfl rfl rfl rfl rfl rfl (by intro w_ hw_; first | exact Holds.cell hw_ rfl | exact Holds.cell (Holds.f6 hw_) rfl) (by exact rfl) ?_))
              | (show Vc _ _ _ _ _ _; first
      | refine Vc.seq ?_
      | refine Vc.region ?_
      | refine Vc.condT rfl ?_
      | refine Vc.condF rfl ?_
      | refine Vc.ret ?_
      | refine Vc.skip ?_
      | refine Vc.block ?_
      | refine Vc.drawnH (id := 38) H (.pure 0 (.pure 1 (.pure 2 (.take 3 (.pure 4 (.pure 5 (.pure 7 (.pure 8 (.pure 9 (.take 6 (.take 10 (.pure 11 (.pure 12 .done))))))))))))) mixed (by kernel_rfl) (fun w H => ?_))
              | (show KSeq _ _ _ _ _ _ _; refine KSeq.normal ?_)
              | (show KBlock _ _ _ _ _ _; refine KBlock.normal ?_)
              | (show KEnd _ _ _ _ _ _ _; refine KEnd.fin (Or.inr rfl) ⟨_, (ResL.tmp rfl (ResL.tmp rfl ResL.nil)), ?_⟩))
            exact ⟨I, _, Imm.Le.rfl' I, rfl, FrsI.nil, end_close _ hf3 hl3 (Holds.drop (Holds.re [6] H rfl))⟩
end Go.Proofs.Ytpfgcchammlpgaa.V
