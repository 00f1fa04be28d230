/- Whether what was read is a beginning; StreamOrder. -/
import Derived.Test.YtpfgcchammlpgaaVAO
namespace Go.Proofs.Ytpfgcchammlpgaa.V
open Go Go.Proofs.YtpfgcchammlpgaaV
set_option linter.unusedVariables false
set_option linter.unusedSimpArgs false
set_option maxHeartbeats 8000000
set_option maxRecDepth 4000
attribute [local irreducible] IntKind.wrap refA endA
variable {I : Imm} {w : World} {L : List Asn}
theorem begins_any (H : Holds I w L) {va vb : Value} {rl t : List Bf} (ha : SlR I L va 2 rl.length (rl.flatMap bfC)) (hb : SlR I L vb 2 (rl ++ t).length ((rl ++ t).flatMap bfC)) (hn : (rl ++ t).length ≤ 1000000000) : Rets Try.prog F_tithinglaw12_begins #[va, vb] w fun u w' => u = .bool true ∧ Holds I w' L := by
  obtain ⟨A, ca, rfl, hca⟩ := ha.form
  obtain ⟨B, cb, rfl, hcb⟩ := hb.form
  have hl : (rl ++ t).length = rl.length + t.length := List.length_append
  refine ok_tithinglaw12_begins.rets rfl ?_
  repeat' (first
    | (show VcL _ _ _ _ _ _ _ _; first
      | refine VcL.pures tabOk rfl ?_
      | refine VcL.nil ?_)
    | (show Vc _ _ _ _ _ _; first
      | refine Vc.seq ?_
      | refine Vc.region ?_
      | refine Vc.skip ?_
      | refine Vc.block ?_
      | (refine Vc.cond rfl (fun h => ?_) (fun h => ?_) <;> first | (exfalso; simp only [decide_eq_true_eq, decide_eq_false_iff_not, Bool.not_eq_true', Bool.not_eq_false'] at h; omega) | (with_reducible have hp := of_decide_eq_false h)))
    | (show KSeq _ _ _ _ _ _ _; refine KSeq.normal ?_))
  refine Vc.loopS [(0, _), (1, _)] (fun k : Nat => [(5, .int .i64 k)]) (fun k w => k ≤ rl.length ∧ Holds I w L) (fun k _ => rl.length - k) 0 ⟨rfl, trivial⟩ ⟨rfl, rfl, trivial⟩ ⟨Nat.zero_le _, H⟩ ?_
  clear H
  rintro k w ⟨hk, H⟩
  by_cases hlt : k < rl.length
  · obtain ⟨b1, o1, rfl, hr1⟩ := ha.at (by omega)
    obtain ⟨b2, o2, rfl, hr2⟩ := hb.at (by omega)
    have hg := atD_get hlt
    have hg2 : (rl ++ t)[k]? = some (atD rl k) := by rw [List.getElem?_append_left hlt]; exact hg
    have hx1 := hr1.elem bfC_len hg
    have hx2 := hr2.elem bfC_len hg2
    obtain ⟨⟨y, z⟩, hx⟩ : ∃ x, atD rl k = x := ⟨_, rfl⟩
    rw [hx] at hx1 hx2
    repeat' (first
      | (show VcL _ _ _ _ _ _ _ _; first
      | refine VcL.pures tabOk rfl ?_
      | refine VcL.nil ?_)
      | (show VcD _ _ _ _ _ _ _ _ _; first
      | refine VcD.pures tabOk rfl ?_
      | refine VcD.done ?_
      | (show VcD _ _ _ _ _ (.pure _ _) _ _ _; first
      | refine VcD.indexAddr tabOk rfl rfl rfl rfl rfl rfl rfl (by omega) (by omega) ?_
      | refine VcD.eqS tabOk rfl rfl rfl rfl rfl rfl rfl (by kernel_rfl) (by kernel_rfl) rfl rfl (by exact .inr rfl) ?_)
      | (show VcD _ _ _ _ _ (.take _ _) _ _ _; refine VcD.loadR tabOk rfl rfl rfl rfl rfl rfl rfl (by intro w_ hw_; exact RdW.rd (by assumption) hw_) rfl ?_))
      | (show Vc _ _ _ _ _ _; first
      | refine Vc.seq ?_
      | refine Vc.region ?_
      | refine Vc.ret ?_
      | refine Vc.skip ?_
      | refine Vc.block ?_
      | refine Vc.drawnH (id := 6) H (.pure 0 (.pure 1 (.pure 4 (.pure 5 (.pure 2 (.take 3 (.pure 6 (.take 7 (.pure 8 .done))))))))) mixed (by kernel_rfl) (fun w H => ?_)
      | (refine Vc.cond rfl (fun h => ?_) (fun h => ?_) <;> first | (exfalso; simp only [decide_eq_true_eq, decide_eq_false_iff_not, Bool.not_eq_true', Bool.not_eq_false'] at h; omega) | (with_reducible have hp := of_decide_eq_true h) | skip))
      | (show KSeq _ _ _ _ _ _ _; first
      | refine KSeq.normal ?_
      | refine KSeq.ret ?_)
      | (show KBlock _ _ _ _ _ _; first
      | refine KBlock.normal ?_
      | refine KBlock.ret ?_)
      | refine KLoop.ret ?_
      | (show KEnd _ _ _ _ _ _ _; refine KEnd.fin (Or.inr rfl) ⟨_, (ResL.tmp rfl ResL.nil), ?_⟩))
    all_goals first
      | exact KLoop.again (k + 1) ⟨got_succ rfl (by omega), trivial⟩ ⟨rfl, rfl, trivial⟩ ⟨hlt, H⟩ (by omega)
      | (exfalso; revert h; simp; done)
      | trace_state
  · obtain rfl : k = rl.length := by omega
    repeat' (first
      | (show VcL _ _ _ _ _ _ _ _; first
      | refine VcL.pures tabOk rfl ?_
      | refine VcL.nil ?_)
      | (show Vc _ _ _ _ _ _; first
      | refine Vc.seq ?_
      | refine Vc.region ?_
      | refine Vc.ret ?_
      | refine Vc.exit ?_
      | (refine Vc.cond rfl (fun h => ?_) (fun h => ?_) <;> first | (exfalso; simp only [decide_eq_true_eq, decide_eq_false_iff_not, Bool.not_eq_true', Bool.not_eq_false'] at h; omega) | (with_reducible have hp := of_decide_eq_false h)))
      | (show KSeq _ _ _ _ _ _ _; first
      | refine KSeq.normal ?_
      | refine KSeq.exit ?_)
      | (show KBlock _ _ _ _ _ _; refine KBlock.here ?_)
      | refine KLoop.exit ?_
      | (show KEnd _ _ _ _ _ _ _; refine KEnd.fin (Or.inr rfl) ⟨_, (ResL.tmp rfl ResL.nil), ?_⟩))
    exact ⟨rfl, H⟩
theorem attended_any {J : Imm} (H : Holds J w L) {va vb : Value} {cl : List Vb} {sl t : List By} (hc : cl.map (·.2) = sl) (ha : SlI J va 1 cl.length (cl.flatMap bkC)) (he : ∀ c ∈ cl, SlI J c.1 1 c.2.length (byL c.2)) (hb : SlR J L vb 1 (sl ++ t).length ((sl ++ t).flatMap stC)) (hn : (sl ++ t).length ≤ 1000000000) : Rets Try.prog F_tithinglaw12_attended #[va, vb] w fun u w' => u = .bool true ∧ Holds J w' L := by
  obtain ⟨A, ca, rfl, hca⟩ := ha.form
  obtain ⟨B, cb, rfl, hcb⟩ := hb.form
  have hl : (sl ++ t).length = cl.length + t.length := by rw [List.length_append, ← hc, List.length_map]
  refine ok_tithinglaw12_attended.rets rfl ?_
  repeat' (first
    | (show VcL _ _ _ _ _ _ _ _; first
      | refine VcL.pures tabOk rfl ?_
      | refine VcL.nil ?_)
    | (show Vc _ _ _ _ _ _; first
      | refine Vc.seq ?_
      | refine Vc.region ?_
      | refine Vc.skip ?_
      | refine Vc.block ?_
      | (refine Vc.cond rfl (fun h => ?_) (fun h => ?_) <;> first | (exfalso; simp only [decide_eq_true_eq, decide_eq_false_iff_not, Bool.not_eq_true', Bool.not_eq_false'] at h; omega) | (with_reducible have hp := of_decide_eq_false h)))
    | (show KSeq _ _ _ _ _ _ _; refine KSeq.normal ?_))
  refine Vc.loopS [(0, _), (1, _)] (fun k : Nat => [(5, .int .i64 k)]) (fun k w => k ≤ cl.length ∧ Holds J w L) (fun k _ => cl.length - k) 0 ⟨rfl, trivial⟩ ⟨rfl, rfl, trivial⟩ ⟨Nat.zero_le _, H⟩ ?_
  clear H
  rintro k w ⟨hk, H⟩
  by_cases hlt : k < cl.length
  · obtain ⟨b1, o1, rfl, hr1⟩ := ha.at (by omega)
    obtain ⟨b2, o2, rfl, hr2⟩ := hb.at (by omega)
    have hg := atD_get hlt
    have hm := he _ (atD_mem hlt)
    have hg2 : (sl ++ t)[k]? = some (atD cl k).2 := by
      rw [List.getElem?_append_left (by rw [← hc, List.length_map]; exact hlt), ← hc, List.getElem?_map, hg]; rfl
    have hx1 := RdI.toW (L := L) (hr1.elem bkC_len hg)
    have hx2 := hr2.elem stC_len hg2
    obtain ⟨⟨dv, data⟩, hx⟩ : ∃ x, atD cl k = x := ⟨_, rfl⟩
    rw [hx] at hx1 hx2 hm
    dsimp only at hx2 hm
    obtain ⟨D, dc, rfl, hdc⟩ := hm.form
    have e4 : decide (data = data) = true := decide_eq_true rfl
    repeat' (first
      | rw [ofBytes_eq]
      | rw [e4]
      | (refine VcD.eff rfl rfl rfl rfl (OpE.ofBytes (m := data.length) (bs := data) tabOk rfl rfl rfl rfl rfl rfl rfl rfl (SlI.src hm H) ⟨_, _, rfl⟩) ?_; rintro _ w ⟨rfl, he⟩; subst he; refine ⟨H, ?_⟩)
      | (show VcL _ _ _ _ _ _ _ _; first
      | refine VcL.pures tabOk rfl ?_
      | refine VcL.nil ?_)
      | (show VcD _ _ _ _ _ _ _ _ _; first
      | refine VcD.pures tabOk rfl ?_
      | refine VcD.done ?_
      | (show VcD _ _ _ _ _ (.pure _ _) _ _ _; refine VcD.indexAddr tabOk rfl rfl rfl rfl rfl rfl rfl (by omega) (by omega) ?_)
      | (show VcD _ _ _ _ _ (.take _ _) _ _ _; refine VcD.load1 tabOk rfl rfl rfl rfl rfl rfl (by intro w_ hw_; exact RdW.get0 (by assumption) rfl hw_) (by exact rfl) ?_))
      | (show Vc _ _ _ _ _ _; first
      | refine Vc.seq ?_
      | refine Vc.region ?_
      | refine Vc.condF rfl ?_
      | refine Vc.skip ?_
      | refine Vc.block ?_
      | refine Vc.drawnH (id := 6) H (.pure 0 (.pure 1 (.pure 5 (.pure 6 (.pure 2 (.take 3 (.pure 7 (.take 8 (.only 4 (.pure 9 .done)))))))))) mixed (by kernel_rfl) (fun w H => ?_)
      | (refine Vc.cond rfl (fun h => ?_) (fun h => ?_) <;> first | (exfalso; simp only [decide_eq_true_eq, decide_eq_false_iff_not, Bool.not_eq_true', Bool.not_eq_false'] at h; omega) | (with_reducible have hp := of_decide_eq_true h)))
      | (show KSeq _ _ _ _ _ _ _; refine KSeq.normal ?_)
      | (show KBlock _ _ _ _ _ _; refine KBlock.normal ?_))
    exact KLoop.again (k + 1) ⟨got_succ rfl (by omega), trivial⟩ ⟨rfl, rfl, trivial⟩ ⟨hlt, H⟩ (by omega)
  · obtain rfl : k = cl.length := by omega
    repeat' (first
      | (show VcL _ _ _ _ _ _ _ _; first
      | refine VcL.pures tabOk rfl ?_
      | refine VcL.nil ?_)
      | (show Vc _ _ _ _ _ _; first
      | refine Vc.seq ?_
      | refine Vc.region ?_
      | refine Vc.ret ?_
      | refine Vc.exit ?_
      | (refine Vc.cond rfl (fun h => ?_) (fun h => ?_) <;> first | (exfalso; simp only [decide_eq_true_eq, decide_eq_false_iff_not, Bool.not_eq_true', Bool.not_eq_false'] at h; omega) | (with_reducible have hp := of_decide_eq_false h)))
      | (show KSeq _ _ _ _ _ _ _; first
      | refine KSeq.normal ?_
      | refine KSeq.exit ?_)
      | (show KBlock _ _ _ _ _ _; refine KBlock.here ?_)
      | refine KLoop.exit ?_
      | (show KEnd _ _ _ _ _ _ _; refine KEnd.fin (Or.inr rfl) ⟨_, (ResL.tmp rfl ResL.nil), ?_⟩))
    exact ⟨rfl, H⟩
theorem Right_any {p k : Nat} {a b : Sd} {X Y : Hf} {fa fb : List Fm} (H : Holds I w (blk p 47 (pcl 0 a b) :: hfQ I a X fa (hfQ I b Y fb L))) (hx : Bd k X) (hy : Bd k Y) (hk : k ≤ 900000)
    (hr1 : ∃ t, Y.put = X.rd ++ t) (hr2 : ∃ t, X.put = Y.rd ++ t) (hc1 : ∃ t, Y.sent = X.E.codes ++ t) (hc2 : ∃ t, X.sent = Y.E.codes ++ t) :
    Rets Try.prog F_tithinglaw12_Pair_Right #[ptr p] w fun u w' => u = .bool true ∧ Holds I w' (blk p 47 (pcl 0 a b) :: hfQ I a X fa (hfQ I b Y fb L)) := by
  have ox := Holds.endOk (Holds.drop H)
  have oy := Holds.endOk (Holds.re [7] H rfl)
  have hxi := ox.inn
  have hxo := ox.out
  have hyi := oy.inn
  have hyo := oy.out
  have hxp := hx.put
  have hyp := hy.put
  have hxs := hx.sent
  have hys := hy.sent
  obtain ⟨t1, ht1⟩ := hr1
  obtain ⟨t2, ht2⟩ := hr2
  obtain ⟨t3, ht3⟩ := hc1
  obtain ⟨t4, ht4⟩ := hc2
  have lt1 : (X.rd ++ t1).length ≤ 1000000000 := by rw [← ht1]; omega
  have lt2 : (Y.rd ++ t2).length ≤ 1000000000 := by rw [← ht2]; omega
  have lt3 : (X.E.codes ++ t3).length ≤ 1000000000 := by rw [← ht3]; omega
  have lt4 : (Y.E.codes ++ t4).length ≤ 1000000000 := by rw [← ht4]; omega
  obtain ⟨_, A4, z4, q4⟩ := Holds.own_len (Holds.re [4] H rfl)
  obtain ⟨_, A5, z5, q5⟩ := Holds.own_len (Holds.re [5] H rfl)
  obtain ⟨_, A6, z6, q6⟩ := Holds.own_len (Holds.re [6] H rfl)
  obtain ⟨_, B4, y4, r4⟩ := Holds.own_len (Holds.re [10] H rfl)
  obtain ⟨_, B5, y5, r5⟩ := Holds.own_len (Holds.re [11] H rfl)
  obtain ⟨_, B6, y6, r6⟩ := Holds.own_len (Holds.re [12] H rfl)
  obtain ⟨ae, ar, af, ap, aq, as_⟩ := a
  obtain ⟨be, br, bf, bp, bq, bs⟩ := b
  dsimp only at q4 q5 q6 r4 r5 r6
  subst q4; subst q5; subst q6; subst r4; subst r5; subst r6
  obtain ⟨a, ha⟩ : ∃ a : Sd, (⟨ae, ar, af, .slice A4 X.put.length z4, .slice A5 X.rd.length z5, .slice A6 X.sent.length z6⟩ : Sd) = a := ⟨_, rfl⟩
  obtain ⟨b, hb⟩ : ∃ b : Sd, (⟨be, br, bf, .slice B4 Y.put.length y4, .slice B5 Y.rd.length y5, .slice B6 Y.sent.length y6⟩ : Sd) = b := ⟨_, rfl⟩
  rw [ha, hb] at H ⊢
  have ea4 : a.p = .slice A4 X.put.length z4 := by rw [← ha]
  have ea5 : a.q = .slice A5 X.rd.length z5 := by rw [← ha]
  have ea6 : a.s = .slice A6 X.sent.length z6 := by rw [← ha]
  have eb4 : b.p = .slice B4 Y.put.length y4 := by rw [← hb]
  have eb5 : b.q = .slice B5 Y.rd.length y5 := by rw [← hb]
  have eb6 : b.s = .slice B6 Y.sent.length y6 := by rw [← hb]
  refine ok_tithinglaw12_Pair_Right.rets rfl ?_
  repeat' (first
    | (show VcL _ _ _ _ _ _ _ _; first
      | refine VcL.pures tabOk rfl ?_
      | refine VcL.nil ?_)
    | (show Vc _ _ _ _ _ _; first
      | refine Vc.seq ?_
      | refine Vc.region ?_
      | refine Vc.block ?_)
    | (show KSeq _ _ _ _ _ _ _; refine KSeq.normal ?_))
  refine Vc.loopS [(0, _)] (fun k : Nat => [(3, .int .i64 k)]) (fun k w => k ≤ 2 ∧ Holds I w (blk p 47 (pcl 0 a b) :: hfQ I a X fa (hfQ I b Y fb L))) (fun k _ => 2 - k) 0 ⟨rfl, trivial⟩ ⟨rfl, trivial⟩ ⟨Nat.zero_le _, H⟩ ?_
  clear H
  rintro k w ⟨hk2, H⟩
  match k, hk2 with
  | 0, _ =>
    have g3 : IntKind.i64.wrap (1 - ((0 : Nat) : Int)) = ((1 - 0 : Nat) : Int) := by rw [wrap_i64 (by omega) (by omega)]; omega
    repeat' (first
      | rw [g3]
      | (refine VcD.load1 tabOk rfl rfl rfl rfl rfl rfl (by intro w_ hw_; exact rdAt0 hw_ rfl) (by first | exact rfl | (rw [ea5]; rfl) | (rw [eb4]; rfl) | (rw [eb6]; rfl)) ?_)
      | (show VcL _ _ _ _ _ _ _ _; first
      | refine VcL.pures tabOk rfl ?_
      | refine VcL.nil ?_)
      | (show VcD _ _ _ _ _ _ _ _ _; first
      | refine VcD.pures tabOk rfl ?_
      | refine VcD.done ?_
      | (show VcD _ _ _ _ _ (.pure _ _) _ _ _; first
      | refine VcD.indexArr0 tabOk rfl rfl rfl rfl rfl rfl rfl (by omega) (by omega) ?_
      | refine VcD.indexArr tabOk rfl rfl rfl rfl rfl rfl rfl (by omega) (by omega) ?_
      | (refine VcD.guardP rfl rfl rfl rfl rfl (fun h => ?_) (fun h => ?_) <;> first | (cases h; done) | (exfalso; simp only [decide_eq_true_eq, decide_eq_false_iff_not, Bool.not_eq_true', Bool.not_eq_false'] at h; omega) | (with_reducible have hp := of_decide_eq_false h) | skip))
      | (show VcD _ _ _ _ _ (.only _ _) _ _ _; first
      | (refine VcD.callF (f := F_tithinglaw12_begins) rfl ok_tithinglaw12_begins rfl rfl rfl rfl (Rets.mono (begins_any (rl := X.rd) (t := t1) (va := a.q) (vb := b.p) H (SlR.mem (e := 102) H (by repeat (first | exact .head _ | apply List.Mem.tail))) (by rw [← ht1]; exact SlR.mem (e := 102) H (by repeat (first | exact .head _ | apply List.Mem.tail))) lt1) ?_); rintro _ w ⟨rfl, H⟩; refine ⟨(by exact Holds.rdWhole H), ?_⟩)
      | (refine VcD.callF (f := F_stream_End_Attention) rfl ok_stream_End_Attention rfl rfl rfl rfl (Rets.mono (Attention_any (Holds.re [1] H rfl)) ?_); rintro _ w ⟨J, hJ, ⟨cl, hcl, hsl, hce⟩, H⟩; refine ⟨(by exact Holds.rdWhole (Holds.f1 H)), ?_⟩)
      | (refine VcD.callF (f := F_tithinglaw12_attended) rfl ok_tithinglaw12_attended rfl rfl rfl rfl (Rets.mono (attended_any (cl := cl) (sl := X.E.codes) (t := t3) (vb := b.s) H hcl hsl hce (by rw [← ht3]; exact SlR.mem (e := 9) H (by repeat (first | exact .head _ | apply List.Mem.tail))) lt3) ?_); rintro _ w ⟨rfl, H⟩; have H := Holds.less H hJ; refine ⟨(by exact Holds.rdWhole (Holds.f1 H)), ?_⟩)
      | (refine VcD.callF (f := F_stream_End_Ready) rfl ok_stream_End_Ready rfl rfl rfl rfl (Rets.mono (Ready_any H) ?_); rintro _ w ⟨rfl, H⟩; refine ⟨(by exact Holds.rdWhole (Holds.f1 H)), ?_⟩)
      | (refine VcD.callF (f := F_stream_End_Waiting) rfl ok_stream_End_Waiting rfl rfl rfl rfl (Rets.mono (Waiting_any H) ?_); rintro _ w ⟨rfl, H⟩; refine ⟨(by exact Holds.rdWhole (Holds.f1 H)), ?_⟩)))
      | (show Vc _ _ _ _ _ _; first
      | refine Vc.seq ?_
      | refine Vc.region ?_
      | refine Vc.condT rfl ?_
      | refine Vc.skip ?_
      | refine Vc.block ?_
      | (refine Vc.drawn (id := 4) (.pure 0 (.pure 1 (.pure 2 (.pure 3 (.pure 6 (.pure 7 (.pure 8 (.pure 9 (.pure 10 (.pure 4 (.take 5 (.pure 11 (.take 12 (.only 13 (.pure 14 (.pure 15 (.pure 16 (.pure 17 (.pure 18 (.pure 19 (.pure 23 (.pure 24 (.pure 25 (.pure 26 (.pure 27 (.pure 20 (.take 21 (.pure 28 (.take 29 (.only 22 (.only 30 (.pure 31 (.pure 32 (.pure 33 (.pure 34 (.pure 35 (.pure 36 (.pure 37 (.pure 38 (.take 39 (.only 40 (.pure 41 (.pure 42 (.pure 43 (.pure 44 (.pure 45 (.pure 46 (.pure 47 (.pure 48 (.take 49 (.only 50 (.pure 51 (.pure 52 .done))))))))))))))))))))))))))))))))))))))))))))))))))))) (.one (fun w => Rd w p 0 (pcl 0 a b))) mixed (by kernel_rfl) (by first | exact Holds.rdWhole (Holds.drew H _) | exact Holds.rdWhole (Holds.f1 (Holds.drew H _))) ?_; have H := H.drew (w.drawn + 1))
      | (refine Vc.cond rfl (fun h => ?_) (fun h => ?_) <;> first | (exfalso; simp only [decide_eq_true_eq, decide_eq_false_iff_not, Bool.not_eq_true', Bool.not_eq_false'] at h; omega) | (with_reducible have hp := of_decide_eq_false h)))
      | (show KSeq _ _ _ _ _ _ _; refine KSeq.normal ?_)
      | (show KBlock _ _ _ _ _ _; refine KBlock.normal ?_))
    all_goals exact KLoop.again 1 ⟨got_succ (k := 0) rfl (by omega), trivial⟩ ⟨rfl, trivial⟩ ⟨by omega, Holds.re [1, 0] H rfl⟩ (by omega)
  | 1, _ =>
    have g3 : IntKind.i64.wrap (1 - ((1 : Nat) : Int)) = ((1 - 1 : Nat) : Int) := by rw [wrap_i64 (by omega) (by omega)]; omega
    repeat' (first
      | rw [g3]
      | (refine VcD.load1 tabOk rfl rfl rfl rfl rfl rfl (by intro w_ hw_; exact rdAt0 hw_ rfl) (by first | exact rfl | (rw [ea4]; rfl) | (rw [ea6]; rfl) | (rw [eb5]; rfl)) ?_)
      | (show VcL _ _ _ _ _ _ _ _; first
      | refine VcL.pures tabOk rfl ?_
      | refine VcL.nil ?_)
      | (show VcD _ _ _ _ _ _ _ _ _; first
      | refine VcD.pures tabOk rfl ?_
      | refine VcD.done ?_
      | (show VcD _ _ _ _ _ (.pure _ _) _ _ _; first
      | refine VcD.indexArr0 tabOk rfl rfl rfl rfl rfl rfl rfl (by omega) (by omega) ?_
      | refine VcD.indexArr tabOk rfl rfl rfl rfl rfl rfl rfl (by omega) (by omega) ?_
      | (refine VcD.guardP rfl rfl rfl rfl rfl (fun h => ?_) (fun h => ?_) <;> first | (cases h; done) | (exfalso; simp only [decide_eq_true_eq, decide_eq_false_iff_not, Bool.not_eq_true', Bool.not_eq_false'] at h; omega) | (with_reducible have hp := of_decide_eq_false h) | skip))
      | (show VcD _ _ _ _ _ (.only _ _) _ _ _; first
      | (refine VcD.callF (f := F_tithinglaw12_begins) rfl ok_tithinglaw12_begins rfl rfl rfl rfl (Rets.mono (begins_any (rl := Y.rd) (t := t2) (va := b.q) (vb := a.p) H (SlR.mem (e := 102) H (by repeat (first | exact .head _ | apply List.Mem.tail))) (by rw [← ht2]; exact SlR.mem (e := 102) H (by repeat (first | exact .head _ | apply List.Mem.tail))) lt2) ?_); rintro _ w ⟨rfl, H⟩; refine ⟨(by exact Holds.rdWhole H), ?_⟩)
      | (refine VcD.callF (f := F_stream_End_Attention) rfl ok_stream_End_Attention rfl rfl rfl rfl (Rets.mono (Attention_any (Holds.re [7] H rfl)) ?_); rintro _ w ⟨J, hJ, ⟨cl, hcl, hsl, hce⟩, H⟩; refine ⟨(by exact Holds.rdWhole (Holds.f1 H)), ?_⟩)
      | (refine VcD.callF (f := F_tithinglaw12_attended) rfl ok_tithinglaw12_attended rfl rfl rfl rfl (Rets.mono (attended_any (cl := cl) (sl := Y.E.codes) (t := t4) (vb := a.s) H hcl hsl hce (by rw [← ht4]; exact SlR.mem (e := 9) H (by repeat (first | exact .head _ | apply List.Mem.tail))) lt4) ?_); rintro _ w ⟨rfl, H⟩; have H := Holds.less H hJ; refine ⟨(by exact Holds.rdWhole (Holds.f1 H)), ?_⟩)
      | (refine VcD.callF (f := F_stream_End_Ready) rfl ok_stream_End_Ready rfl rfl rfl rfl (Rets.mono (Ready_any H) ?_); rintro _ w ⟨rfl, H⟩; refine ⟨(by exact Holds.rdWhole (Holds.f1 H)), ?_⟩)
      | (refine VcD.callF (f := F_stream_End_Waiting) rfl ok_stream_End_Waiting rfl rfl rfl rfl (Rets.mono (Waiting_any H) ?_); rintro _ w ⟨rfl, H⟩; refine ⟨(by exact Holds.rdWhole (Holds.f1 H)), ?_⟩)))
      | (show Vc _ _ _ _ _ _; first
      | refine Vc.seq ?_
      | refine Vc.region ?_
      | refine Vc.condT rfl ?_
      | refine Vc.skip ?_
      | refine Vc.block ?_
      | (refine Vc.drawn (id := 4) (.pure 0 (.pure 1 (.pure 2 (.pure 3 (.pure 6 (.pure 7 (.pure 8 (.pure 9 (.pure 10 (.pure 4 (.take 5 (.pure 11 (.take 12 (.only 13 (.pure 14 (.pure 15 (.pure 16 (.pure 17 (.pure 18 (.pure 19 (.pure 23 (.pure 24 (.pure 25 (.pure 26 (.pure 27 (.pure 20 (.take 21 (.pure 28 (.take 29 (.only 22 (.only 30 (.pure 31 (.pure 32 (.pure 33 (.pure 34 (.pure 35 (.pure 36 (.pure 37 (.pure 38 (.take 39 (.only 40 (.pure 41 (.pure 42 (.pure 43 (.pure 44 (.pure 45 (.pure 46 (.pure 47 (.pure 48 (.take 49 (.only 50 (.pure 51 (.pure 52 .done))))))))))))))))))))))))))))))))))))))))))))))))))))) (.one (fun w => Rd w p 0 (pcl 0 a b))) mixed (by kernel_rfl) (by first | exact Holds.rdWhole (Holds.drew H _) | exact Holds.rdWhole (Holds.f1 (Holds.drew H _))) ?_; have H := H.drew (w.drawn + 1))
      | (refine Vc.cond rfl (fun h => ?_) (fun h => ?_) <;> first | (exfalso; simp only [decide_eq_true_eq, decide_eq_false_iff_not, Bool.not_eq_true', Bool.not_eq_false'] at h; omega) | (with_reducible have hp := of_decide_eq_false h)))
      | (show KSeq _ _ _ _ _ _ _; refine KSeq.normal ?_)
      | (show KBlock _ _ _ _ _ _; refine KBlock.normal ?_))
    all_goals exact KLoop.again 2 ⟨got_succ (k := 1) rfl (by omega), trivial⟩ ⟨rfl, trivial⟩ ⟨by omega, Holds.re [1, 1, 1, 1, 1, 1, 1, 0] H rfl⟩ (by omega)
  | 2, _ =>
    repeat' (first
      | (show VcL _ _ _ _ _ _ _ _; first
      | refine VcL.pures tabOk rfl ?_
      | refine VcL.nil ?_)
      | (show Vc _ _ _ _ _ _; first
      | refine Vc.seq ?_
      | refine Vc.region ?_
      | refine Vc.condF rfl ?_
      | refine Vc.ret ?_
      | refine Vc.exit ?_)
      | (show KSeq _ _ _ _ _ _ _; first
      | refine KSeq.normal ?_
      | refine KSeq.exit ?_)
      | (show KBlock _ _ _ _ _ _; refine KBlock.here ?_)
      | refine KLoop.exit ?_
      | (show KEnd _ _ _ _ _ _ _; refine KEnd.fin (Or.inr rfl) ⟨_, (ResL.tmp rfl ResL.nil), ?_⟩))
    exact ⟨rfl, H⟩
theorem inv_right {b c : Nat} {X Y : Hf} (h : Inv b c X Y) : (∃ t, Y.put = X.rd ++ t) ∧ (∃ t, X.put = Y.rd ++ t) ∧ (∃ t, Y.sent = X.E.codes ++ t) ∧ (∃ t, X.sent = Y.E.codes ++ t) := by
  have key : ∀ {b c : Nat} {X Y : Hf}, Fl b c X Y → (∃ t, X.put = Y.rd ++ t) ∧ (∃ t, X.sent = Y.E.codes ++ t) := fun {b c X Y} h => by
    refine ⟨⟨Y.E.inn ++ X.put.drop b, ?_⟩, ⟨X.sent.drop Y.E.codes.length, ?_⟩⟩
    · rw [← List.append_assoc, h.got, List.take_append_drop]
    · have h2 := h.codes
      exact ((congrArg (· ++ X.sent.drop Y.E.codes.length) h2).trans (List.take_append_drop _ _)).symm
  exact ⟨(key h.fro).1, (key h.to).1, (key h.fro).2, (key h.to).2⟩
theorem Sm.of {k : Nat} {X : Hf} (h : Bd k X) (hk : k ≤ 2000) (ok : EnOk X.E) : Sm X := ⟨by have := h.put; omega, by have := h.sent; omega, ok.first⟩
theorem inv_deedS {b c : Nat} {X Y : Hf} {m : Mv} (h : Inv b c X Y) (sx : Sm X) (sy : Sm Y) (ox : EnOk X.E) (oy : EnOk Y.E) (hd : m.d ≠ 4) : ∃ b2 c2, Inv b2 c2 (deedS m X Y).1 (deedS m X Y).2 := by
  unfold deedS
  split
  · obtain ⟨c2, _, h2⟩ := inv_deed h.symm sy sx oy ox hd
    exact ⟨c2, c, h2.symm⟩
  · obtain ⟨c2, _, h2⟩ := inv_deed h sx sy ox oy hd
    exact ⟨b, c2, h2⟩
theorem StreamOrder_any (H : Holds I w L) {n0 f0 n1 f1 : Int} {v : Value} {l : List Mx} (hv : SlI I v 4 l.length (l.flatMap mxC)) (ho : ∀ x ∈ l, MxOk I x) (hn : l.length ≤ 140737488355328) :
    Rets Try.prog F_tithinglaw12_StreamOrder #[.agg #[.int .i64 n0, .int .i64 f0], .agg #[.int .i64 n1, .int .i64 f1], v] w fun u w' => u = .bool true ∧ Holds I w' L := by
  obtain ⟨A, cap, rfl, hcap⟩ := hv.form
  cases hlo : longL l with
  | true =>
    refine ok_tithinglaw12_StreamOrder.rets rfl ?_
    repeat' (first
      | (show VcL _ _ _ _ _ _ _ _; first
      | refine VcL.pures tabOk rfl ?_
      | refine VcL.nil ?_
      | refine VcL.box H rfl rfl rfl rfl rfl (fun b w H => ?_)
      | (show VcL _ _ _ _ (⟨_, .call ⟨.value (.func F_tithinglaw12_LongMoves), _, _⟩, _, _, _, _⟩ :: _) _ _ _; (refine VcL.callF ok_tithinglaw12_LongMoves rfl rfl rfl rfl (Rets.mono ((LongMoves_any H hv ho hn).mono fun u w' h => (show u = .bool true ∧ Holds I w' _ from hlo ▸ h)) ?_); rintro _ w ⟨rfl, H⟩))
      | (show VcL _ _ _ _ (⟨_, .call ⟨.value (.func F_tithinglaw12_Awake), _, _⟩, _, _, _, _⟩ :: _) _ _ _; (refine VcL.callF ok_tithinglaw12_Awake rfl rfl rfl rfl (Rets.mono (Awake_any H) ?_); rintro _ w ⟨rfl, H⟩)))
      | (show Vc _ _ _ _ _ _; first
      | refine Vc.seq ?_
      | refine Vc.region ?_
      | refine Vc.condT rfl ?_
      | refine Vc.ret ?_)
      | (show KSeq _ _ _ _ _ _ _; first
      | refine KSeq.normal ?_
      | refine KSeq.ret ?_)
      | (show KEnd _ _ _ _ _ _ _; refine KEnd.fin (Or.inr rfl) ⟨_, (ResL.tmp rfl ResL.nil), ?_⟩))
    exact ⟨rfl, Holds.drop (Holds.drop H)⟩
  | false =>
    obtain ⟨hl3, hld⟩ := longL_false hlo
    by_cases h0 : okS n0 f0
    · by_cases h1 : okS n1 f1
      · obtain ⟨n0, rfl⟩ := Int.eq_ofNat_of_zero_le (show 0 ≤ n0 by unfold okS at h0; omega)
        obtain ⟨f0, rfl⟩ := Int.eq_ofNat_of_zero_le (show 0 ≤ f0 by unfold okS at h0; omega)
        obtain ⟨n1, rfl⟩ := Int.eq_ofNat_of_zero_le (show 0 ≤ n1 by unfold okS at h1; omega)
        obtain ⟨f1, rfl⟩ := Int.eq_ofNat_of_zero_le (show 0 ≤ f1 by unfold okS at h1; omega)
        refine ok_tithinglaw12_StreamOrder.rets rfl ?_
        repeat' (first
          | (show VcL _ _ _ _ _ _ _ _; first
      | refine VcL.pures tabOk rfl ?_
      | refine VcL.nil ?_
      | (show VcL _ _ _ _ (⟨_, .load _ _, _, _, _, _⟩ :: _) _ _ _; refine VcL.loadN tabOk rfl rfl rfl rfl rfl rfl (by first | exact H | exact (Holds.f1 H)) (by exact rfl) ?_)
      | refine VcL.box H rfl rfl rfl rfl rfl (fun b w H => ?_)
      | (show VcL _ _ _ _ (⟨_, .call ⟨.value (.func F_tithinglaw12_LongMoves), _, _⟩, _, _, _, _⟩ :: _) _ _ _; (refine VcL.callF ok_tithinglaw12_LongMoves rfl rfl rfl rfl (Rets.mono ((LongMoves_any H hv ho hn).mono fun u w' h => (show u = .bool false ∧ Holds I w' _ from hlo ▸ h)) ?_); rintro _ w ⟨rfl, H⟩))
      | (show VcL _ _ _ _ (⟨_, .call ⟨.value (.func F_tithinglaw12_NewPair), _, _⟩, _, _, _, _⟩ :: _) _ _ _; (refine VcL.callF ok_tithinglaw12_NewPair rfl rfl rfl rfl (Rets.mono (NewPair_any H h0 h1) ?_); rintro _ w ⟨p, pa, pb, rfl, H⟩)))
          | (show Vc _ _ _ _ _ _; first
      | refine Vc.seq ?_
      | refine Vc.region ?_
      | refine Vc.condF rfl ?_
      | refine Vc.skip ?_
      | refine Vc.block ?_)
          | (show KSeq _ _ _ _ _ _ _; refine KSeq.normal ?_))
        have H := Holds.re [13, 13] H rfl
        have H := Holds.drop (Holds.drop H)
        refine Vc.loopS [(2, _), (7, _)] (fun k : Nat => [(8, .int .i64 k)]) (fun k w => k ≤ l.length ∧ ∃ J, Imm.Le I J ∧ ∃ (a b : Sd) (X Y : Hf) (fa fb : List Fm), Bd k X ∧ Bd k Y ∧ (∃ x y, Inv x y X Y) ∧ HfF J X fa ∧ HfF J Y fb ∧ Holds J w (blk p 47 (pcl 0 a b) :: hfQ J a X fa (hfQ J b Y fb L))) (fun k _ => l.length - k) 0 ⟨rfl, trivial⟩ ⟨rfl, rfl, trivial⟩ ⟨Nat.zero_le _, I, Imm.Le.rfl' I, pa, pb, newH n0 f0, newH n1 f1, [], [], Bd0 _ _, Bd0 _ _, ⟨0, 0, inv_new (by unfold okS at h0; unfold M; omega) (by unfold okS at h1; unfold M; omega)⟩, ⟨rfl, fun x hx => by cases hx⟩, ⟨rfl, fun x hx => by cases hx⟩, H⟩ ?_
        clear H
        rintro k w ⟨hk, J, hJ, a2, b2, X, Y, fa, fb, hx, hy, ⟨ix, iy, hI⟩, hfx, hfy, H⟩
        by_cases hlt : k < l.length
        · obtain ⟨c2, o, rfl, hr⟩ := hv.at (by omega)
          have hr := hr.elem mxC_len (atD_get hlt)
          have hox := (ho _ (atD_mem hlt)).mono hJ
          have hdl := hld _ (atD_mem hlt)
          obtain ⟨⟨d, n, ma, data⟩, hxe⟩ : ∃ x, atD l k = x := ⟨_, rfl⟩
          rw [hxe] at hr hox hdl
          obtain ⟨hnn, hdv⟩ := hox
          obtain ⟨D, dc, hd, hdc⟩ := hdv.form
          dsimp only at hd hnn hdv hdl
          rw [hd] at hdv
          have hr : RdW J L c2 (o + k * 4) [.int .i64 d, .int .i64 n, .bool ma, .slice D data.2.2.length dc] := by rw [← hd]; exact RdI.toW (hr.mono hJ)
          have hr := hr.ups (blk p 47 (pcl 0 a2 b2) :: hfQ J a2 X fa (hfQ J b2 Y fb []))
          by_cases hd4 : d = 4
          · subst hd4
            repeat' (first
              | (show VcL _ _ _ _ _ _ _ _; first
      | refine VcL.pures tabOk rfl ?_
      | refine VcL.nil ?_
      | (show VcL _ _ _ _ (⟨_, .load _ _, _, _, _, _⟩ :: _) _ _ _; refine VcL.load1 tabOk rfl rfl rfl rfl rfl (by exact RdW.get0 (by assumption) rfl H) ?_)
      | (show VcL _ _ _ _ (⟨_, .indexAddr _ _ _, _, _, _, _⟩ :: _) _ _ _; refine VcL.indexAddr tabOk rfl rfl rfl rfl rfl rfl (by omega) (by omega) ?_)
      | (refine VcL.guard rfl rfl rfl rfl (fun h => ?_) (fun h => ?_) <;> first | (cases h; done) | skip))
              | (show Vc _ _ _ _ _ _; first
      | refine Vc.seq ?_
      | refine Vc.region ?_
      | refine Vc.condT rfl ?_
      | refine Vc.skip ?_
      | refine Vc.block ?_
      | refine Vc.exit ?_
      | (refine Vc.cond rfl (fun h => ?_) (fun h => ?_) <;> first | (exfalso; simp only [decide_eq_true_eq, decide_eq_false_iff_not, Bool.not_eq_true', Bool.not_eq_false'] at h; omega) | (with_reducible have hp := of_decide_eq_true h)))
              | (show KSeq _ _ _ _ _ _ _; first
      | refine KSeq.normal ?_
      | refine KSeq.exit ?_)
              | (show KBlock _ _ _ _ _ _; refine KBlock.here ?_))
            exact KLoop.again (k + 1) ⟨got_succ rfl (by omega), trivial⟩ ⟨rfl, rfl, trivial⟩ ⟨hlt, J, hJ, a2, b2, X, Y, fa, fb, hx.up, hy.up, ⟨ix, iy, hI⟩, hfx, hfy, H⟩ (by omega)
          · have ox := Holds.endOk (Holds.drop H)
            have oy := Holds.endOk (Holds.re [7] H rfl)
            obtain ⟨ix2, iy2, hI2⟩ := inv_deedS (m := ⟨d, n, ma, data.2.2⟩) hI (Sm.of hx (by omega) ox) (Sm.of hy (by omega) oy) ox oy hd4
            obtain ⟨r1, r2, r3, r4⟩ := inv_right hI2
            repeat' (first
              | (show VcL _ _ _ _ _ _ _ _; first
      | refine VcL.pures tabOk rfl ?_
      | refine VcL.nil ?_
      | (show VcL _ _ _ _ (⟨_, .load _ _, _, _, _, _⟩ :: _) _ _ _; first
      | refine VcL.load1 tabOk rfl rfl rfl rfl rfl (by exact RdW.get0 (by assumption) rfl H) ?_
      | refine VcL.loadR tabOk rfl rfl rfl rfl rfl rfl (by exact RdW.rd (by assumption) H) rfl ?_)
      | (show VcL _ _ _ _ (⟨_, .indexAddr _ _ _, _, _, _, _⟩ :: _) _ _ _; refine VcL.indexAddr tabOk rfl rfl rfl rfl rfl rfl (by omega) (by omega) ?_)
      | (show VcL _ _ _ _ (⟨_, .call ⟨.value (.func F_tithinglaw12_Pair_Do), _, _⟩, _, _, _, _⟩ :: _) _ _ _; (refine VcL.callF ok_tithinglaw12_Pair_Do rfl rfl rfl rfl (Rets.mono (Do_any (m := ⟨d, n, ma, data.2.2⟩) H hx hy hfx hfy (by omega) hnn hdv hdl) ?_); rintro _ w ⟨J2, hJ2, a3, b3, fa3, fb3, hfx3, hfy3, hx3, hy3, H⟩))
      | (show VcL _ _ _ _ (⟨_, .call ⟨.value (.func F_tithinglaw12_Pair_Right), _, _⟩, _, _, _, _⟩ :: _) _ _ _; (refine VcL.callF ok_tithinglaw12_Pair_Right rfl rfl rfl rfl (Rets.mono (Right_any H hx3 hy3 (by omega) r1 r2 r3 r4) ?_); rintro _ w ⟨rfl, H⟩))
      | (refine VcL.guard rfl rfl rfl rfl (fun h => ?_) (fun h => ?_) <;> first | (cases h; done) | skip))
              | (show Vc _ _ _ _ _ _; first
      | refine Vc.seq ?_
      | refine Vc.region ?_
      | refine Vc.condF rfl ?_
      | refine Vc.skip ?_
      | refine Vc.block ?_
      | (refine Vc.cond rfl (fun h => ?_) (fun h => ?_) <;> first | (exfalso; simp only [decide_eq_true_eq, decide_eq_false_iff_not, Bool.not_eq_true', Bool.not_eq_false'] at h; omega) | (with_reducible have hp := of_decide_eq_true h) | (with_reducible have hp := of_decide_eq_false h)))
              | (show KSeq _ _ _ _ _ _ _; refine KSeq.normal ?_)
              | (show KBlock _ _ _ _ _ _; refine KBlock.normal ?_))
            all_goals exact KLoop.again (k + 1) ⟨got_succ rfl (by omega), trivial⟩ ⟨rfl, rfl, trivial⟩ ⟨hlt, J2, hJ.trans hJ2, a3, b3, _, _, fa3, fb3, hx3, hy3, ⟨ix2, iy2, hI2⟩, hfx3, hfy3, H⟩ (by omega)
        · obtain rfl : k = l.length := by omega
          repeat' (first
            | (show VcL _ _ _ _ _ _ _ _; first
      | refine VcL.pures tabOk rfl ?_
      | refine VcL.nil ?_
      | (show VcL _ _ _ _ (⟨_, .call ⟨.value (.func F_tithinglaw12_Awake), _, _⟩, _, _, _, _⟩ :: _) _ _ _; (refine VcL.callF ok_tithinglaw12_Awake rfl rfl rfl rfl (Rets.mono (Awake_any H) ?_); rintro _ w ⟨rfl, H⟩))
      | (refine VcL.guard rfl rfl rfl rfl (fun h => ?_) (fun h => ?_) <;> first | (cases h; done) | skip))
            | (show Vc _ _ _ _ _ _; first
      | refine Vc.seq ?_
      | refine Vc.region ?_
      | refine Vc.ret ?_
      | refine Vc.exit ?_
      | (refine Vc.cond rfl (fun h => ?_) (fun h => ?_) <;> first | (exfalso; simp only [decide_eq_true_eq, decide_eq_false_iff_not, Bool.not_eq_true', Bool.not_eq_false'] at h; omega) | (with_reducible have hp := of_decide_eq_false h)))
            | (show KSeq _ _ _ _ _ _ _; first
      | refine KSeq.normal ?_
      | refine KSeq.exit ?_)
            | (show KBlock _ _ _ _ _ _; refine KBlock.here ?_)
            | refine KLoop.exit ?_
            | (show KEnd _ _ _ _ _ _ _; refine KEnd.fin (Or.inr rfl) ⟨_, (ResL.tmp rfl ResL.nil), ?_⟩))
          all_goals exact ⟨rfl, Holds.less (hf_drop (hf_drop (Holds.drop H))) hJ⟩
      · obtain ⟨n0, rfl⟩ := Int.eq_ofNat_of_zero_le (show 0 ≤ n0 by unfold okS at h0; omega)
        obtain ⟨f0, rfl⟩ := Int.eq_ofNat_of_zero_le (show 0 ≤ f0 by unfold okS at h0; omega)
        refine ok_tithinglaw12_StreamOrder.rets rfl ?_
        repeat' (first
          | (show VcL _ _ _ _ _ _ _ _; first
      | refine VcL.pures tabOk rfl ?_
      | refine VcL.nil ?_
      | (show VcL _ _ _ _ (⟨_, .load _ _, _, _, _, _⟩ :: _) _ _ _; refine VcL.loadN tabOk rfl rfl rfl rfl rfl rfl (by first | exact H | exact (Holds.f1 H)) (by exact rfl) ?_)
      | refine VcL.box H rfl rfl rfl rfl rfl (fun b w H => ?_)
      | (show VcL _ _ _ _ (⟨_, .call ⟨.value (.func F_tithinglaw12_LongMoves), _, _⟩, _, _, _, _⟩ :: _) _ _ _; (refine VcL.callF ok_tithinglaw12_LongMoves rfl rfl rfl rfl (Rets.mono ((LongMoves_any H hv ho hn).mono fun u w' h => (show u = .bool false ∧ Holds I w' _ from hlo ▸ h)) ?_); rintro _ w ⟨rfl, H⟩))
      | (show VcL _ _ _ _ (⟨_, .call ⟨.value (.func F_tithinglaw12_NewPair), _, _⟩, _, _, _, _⟩ :: _) _ _ _; (refine VcL.callF ok_tithinglaw12_NewPair rfl rfl rfl rfl (Rets.mono (NewPair_bad1 H h0 h1) ?_); rintro _ w ⟨rfl, H⟩)))
          | (show Vc _ _ _ _ _ _; first
      | refine Vc.seq ?_
      | refine Vc.region ?_
      | refine Vc.condF rfl ?_
      | refine Vc.skip ?_
      | refine Vc.block ?_)
          | (show KSeq _ _ _ _ _ _ _; refine KSeq.normal ?_))
        have H := Holds.drop (Holds.drop H)
        refine Vc.loopS [(2, _), (7, _)] (fun k : Nat => [(8, .int .i64 0)]) (fun k w => Holds I w L) (fun k _ => 0) 0 ⟨rfl, trivial⟩ ⟨rfl, rfl, trivial⟩ H ?_
        clear H
        rintro k w H
        repeat' (first
          | (show VcL _ _ _ _ _ _ _ _; first
      | refine VcL.pures tabOk rfl ?_
      | refine VcL.nil ?_
      | (show VcL _ _ _ _ (⟨_, .call ⟨.value (.func F_tithinglaw12_Awake), _, _⟩, _, _, _, _⟩ :: _) _ _ _; (refine VcL.callF ok_tithinglaw12_Awake rfl rfl rfl rfl (Rets.mono (Awake_any H) ?_); rintro _ w ⟨rfl, H⟩))
      | (refine VcL.guard rfl rfl rfl rfl (fun h => ?_) (fun h => ?_) <;> first | (cases h; done) | skip))
          | (show Vc _ _ _ _ _ _; first
      | refine Vc.seq ?_
      | refine Vc.region ?_
      | refine Vc.condF rfl ?_
      | refine Vc.ret ?_
      | refine Vc.exit ?_)
          | (show KSeq _ _ _ _ _ _ _; first
      | refine KSeq.normal ?_
      | refine KSeq.exit ?_)
          | (show KBlock _ _ _ _ _ _; refine KBlock.here ?_)
          | refine KLoop.exit ?_
          | (show KEnd _ _ _ _ _ _ _; refine KEnd.fin (Or.inr rfl) ⟨_, (ResL.tmp rfl ResL.nil), ?_⟩))
        all_goals exact ⟨rfl, H⟩
    ·
      refine ok_tithinglaw12_StreamOrder.rets rfl ?_
      repeat' (first
        | (show VcL _ _ _ _ _ _ _ _; first
      | refine VcL.pures tabOk rfl ?_
      | refine VcL.nil ?_
      | (show VcL _ _ _ _ (⟨_, .load _ _, _, _, _, _⟩ :: _) _ _ _; refine VcL.loadN tabOk rfl rfl rfl rfl rfl rfl (by first | exact H | exact (Holds.f1 H)) (by exact rfl) ?_)
      | refine VcL.box H rfl rfl rfl rfl rfl (fun b w H => ?_)
      | (show VcL _ _ _ _ (⟨_, .call ⟨.value (.func F_tithinglaw12_LongMoves), _, _⟩, _, _, _, _⟩ :: _) _ _ _; (refine VcL.callF ok_tithinglaw12_LongMoves rfl rfl rfl rfl (Rets.mono ((LongMoves_any H hv ho hn).mono fun u w' h => (show u = .bool false ∧ Holds I w' _ from hlo ▸ h)) ?_); rintro _ w ⟨rfl, H⟩))
      | (show VcL _ _ _ _ (⟨_, .call ⟨.value (.func F_tithinglaw12_NewPair), _, _⟩, _, _, _, _⟩ :: _) _ _ _; (refine VcL.callF ok_tithinglaw12_NewPair rfl rfl rfl rfl (Rets.mono (NewPair_bad0 H h0) ?_); rintro _ w ⟨rfl, H⟩)))
        | (show Vc _ _ _ _ _ _; first
      | refine Vc.seq ?_
      | refine Vc.region ?_
      | refine Vc.condF rfl ?_
      | refine Vc.skip ?_
      | refine Vc.block ?_)
        | (show KSeq _ _ _ _ _ _ _; refine KSeq.normal ?_))
      have H := Holds.drop (Holds.drop H)
      refine Vc.loopS [(2, _), (7, _)] (fun k : Nat => [(8, .int .i64 0)]) (fun k w => Holds I w L) (fun k _ => 0) 0 ⟨rfl, trivial⟩ ⟨rfl, rfl, trivial⟩ H ?_
      clear H
      rintro k w H
      repeat' (first
        | (show VcL _ _ _ _ _ _ _ _; first
      | refine VcL.pures tabOk rfl ?_
      | refine VcL.nil ?_
      | (show VcL _ _ _ _ (⟨_, .call ⟨.value (.func F_tithinglaw12_Awake), _, _⟩, _, _, _, _⟩ :: _) _ _ _; (refine VcL.callF ok_tithinglaw12_Awake rfl rfl rfl rfl (Rets.mono (Awake_any H) ?_); rintro _ w ⟨rfl, H⟩))
      | (refine VcL.guard rfl rfl rfl rfl (fun h => ?_) (fun h => ?_) <;> first | (cases h; done) | skip))
        | (show Vc _ _ _ _ _ _; first
      | refine Vc.seq ?_
      | refine Vc.region ?_
      | refine Vc.condF rfl ?_
      | refine Vc.ret ?_
      | refine Vc.exit ?_)
        | (show KSeq _ _ _ _ _ _ _; first
      | refine KSeq.normal ?_
      | refine KSeq.exit ?_)
        | (show KBlock _ _ _ _ _ _; refine KBlock.here ?_)
        | refine KLoop.exit ?_
        | (show KEnd _ _ _ _ _ _ _; refine KEnd.fin (Or.inr rfl) ⟨_, (ResL.tmp rfl ResL.nil), ?_⟩))
      all_goals exact ⟨rfl, H⟩
end Go.Proofs.Ytpfgcchammlpgaa.V
