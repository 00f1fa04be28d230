/- StreamPairs. -/
import Derived.Test.YtpfgcchammlpgaaVAK
namespace Go.Proofs.Ytpfgcchammlpgaa.V
open Go Go.Proofs.YtpfgcchammlpgaaV
set_option linter.unusedVariables false
set_option linter.unusedSimpArgs false
set_option maxHeartbeats 8000000
set_option maxRecDepth 4000
attribute [local irreducible] IntKind.wrap refA endA
variable {I : Imm} {w : World} {L : List Asn}
theorem Bd0 (n f : Nat) : Bd 0 (newH n f) := ⟨Nat.zero_le _, Nat.zero_le _, .inr (by show 0 ≤ 40; decide), Nat.zero_le _, fun g hg => (by cases hg), Nat.zero_le _, Nat.zero_le _, Nat.zero_le _⟩
theorem longL_false {l : List Mx} (h : longL l = false) : l.length ≤ 300 ∧ ∀ x ∈ l, x.data.2.2.length ≤ 300 := by
  unfold longL at h
  rw [Bool.or_eq_false_iff] at h
  refine ⟨by have := of_decide_eq_false h.2; omega, fun x hx => ?_⟩
  have := List.any_eq_false.1 h.1 x hx
  simpa using this
theorem hf_drop {x : Sd} {X : Hf} {fx : List Fm} (H : Holds I w (hfQ I x X fx L)) : Holds I w L := H.drop.drop.drop.drop.drop.drop
theorem StreamPairs_any (H : Holds I w L) {n0 f0 n1 f1 : Int} {v : Value} {l : List Mx} (hv : SlI I v 4 l.length (l.flatMap mxC)) (ho : ∀ x ∈ l, MxOk I x) (hn : l.length ≤ 140737488355328) :
    Rets Try.prog F_tithinglaw12_StreamPairs #[.agg #[.int .i64 n0, .int .i64 f0], .agg #[.int .i64 n1, .int .i64 f1], v] w fun u w' => u = .bool true ∧ Holds I w' L := by
  obtain ⟨A, cap, rfl, hcap⟩ := hv.form
  cases hlo : longL l with
  | true =>
    refine ok_tithinglaw12_StreamPairs.rets rfl ?_
    repeat' (first
      | (show VcL _ _ _ _ _ _ _ _; first
      | refine VcL.pures tabOk rfl ?_
      | refine VcL.nil ?_
      | refine VcL.box H rfl rfl rfl rfl rfl (fun b w H => ?_)
      | (show VcL _ _ _ _ (⟨_, .call ⟨.value (.func F_tithinglaw12_LongMoves), _, _⟩, _, _, _, _⟩ :: _) _ _ _; (refine VcL.callF ok_tithinglaw12_LongMoves rfl rfl rfl rfl (Rets.mono ((LongMoves_any H hv ho hn).mono fun u w' h => (show u = .bool true ∧ Holds I w' _ from hlo ▸ h)) ?_); rintro _ w ⟨rfl, H⟩))
      | (show VcL _ _ _ _ (⟨_, .call ⟨.value (.func F_tithinglaw12_Awake), _, _⟩, _, _, _, _⟩ :: _) _ _ _; (refine VcL.callF ok_tithinglaw12_Awake rfl rfl rfl rfl (Rets.mono (Awake_any H) ?_); rintro _ w ⟨rfl, H⟩)))
      | (show Vc _ _ _ _ _ _; first
      | refine Vc.seq ?_
      | refine Vc.region ?_
      | refine Vc.condT rfl ?_
      | refine Vc.ret ?_)
      | (show KSeq _ _ _ _ _ _ _; first
      | refine KSeq.normal ?_
      | refine KSeq.ret ?_)
      | (show KEnd _ _ _ _ _ _ _; refine KEnd.fin (Or.inr rfl) ⟨_, (ResL.tmp rfl ResL.nil), ?_⟩))
    exact ⟨rfl, Holds.drop (Holds.drop H)⟩
  | false =>
    obtain ⟨hl3, hld⟩ := longL_false hlo
    by_cases h0 : okS n0 f0
    · by_cases h1 : okS n1 f1
      · obtain ⟨n0, rfl⟩ := Int.eq_ofNat_of_zero_le (show 0 ≤ n0 by unfold okS at h0; omega)
        obtain ⟨f0, rfl⟩ := Int.eq_ofNat_of_zero_le (show 0 ≤ f0 by unfold okS at h0; omega)
        obtain ⟨n1, rfl⟩ := Int.eq_ofNat_of_zero_le (show 0 ≤ n1 by unfold okS at h1; omega)
        obtain ⟨f1, rfl⟩ := Int.eq_ofNat_of_zero_le (show 0 ≤ f1 by unfold okS at h1; omega)
        refine ok_tithinglaw12_StreamPairs.rets rfl ?_
        repeat' (first
          | (show VcL _ _ _ _ _ _ _ _; first
      | refine VcL.pures tabOk rfl ?_
      | refine VcL.nil ?_
      | (show VcL _ _ _ _ (⟨_, .load _ _, _, _, _, _⟩ :: _) _ _ _; refine VcL.loadN tabOk rfl rfl rfl rfl rfl rfl (by first | exact H | exact (Holds.f1 H)) (by exact rfl) ?_)
      | refine VcL.box H rfl rfl rfl rfl rfl (fun b w H => ?_)
      | (show VcL _ _ _ _ (⟨_, .call ⟨.value (.func F_tithinglaw12_LongMoves), _, _⟩, _, _, _, _⟩ :: _) _ _ _; (refine VcL.callF ok_tithinglaw12_LongMoves rfl rfl rfl rfl (Rets.mono ((LongMoves_any H hv ho hn).mono fun u w' h => (show u = .bool false ∧ Holds I w' _ from hlo ▸ h)) ?_); rintro _ w ⟨rfl, H⟩))
      | (show VcL _ _ _ _ (⟨_, .call ⟨.value (.func F_tithinglaw12_NewPair), _, _⟩, _, _, _, _⟩ :: _) _ _ _; (refine VcL.callF ok_tithinglaw12_NewPair rfl rfl rfl rfl (Rets.mono (NewPair_any H h0 h1) ?_); rintro _ w ⟨p, pa, pb, rfl, H⟩)))
          | (show Vc _ _ _ _ _ _; first
      | refine Vc.seq ?_
      | refine Vc.region ?_
      | refine Vc.condF rfl ?_
      | refine Vc.skip ?_
      | refine Vc.block ?_)
          | (show KSeq _ _ _ _ _ _ _; refine KSeq.normal ?_))
        have H := Holds.re [13, 13] H rfl
        have H := Holds.drop (Holds.drop H)
        refine Vc.loopS [(2, _), (7, _)] (fun k : Nat => [(8, .int .i64 k)]) (fun k w => k ≤ l.length ∧ ∃ J, Imm.Le I J ∧ ∃ (a b : Sd) (X Y : Hf) (fa fb : List Fm), Bd k X ∧ Bd k Y ∧ HfF J X fa ∧ HfF J Y fb ∧ Holds J w (blk p 47 (pcl 0 a b) :: hfQ J a X fa (hfQ J b Y fb L))) (fun k _ => l.length - k) 0 ⟨rfl, trivial⟩ ⟨rfl, rfl, trivial⟩ ⟨Nat.zero_le _, I, Imm.Le.rfl' I, pa, pb, newH n0 f0, newH n1 f1, [], [], Bd0 _ _, Bd0 _ _, ⟨rfl, fun x hx => by cases hx⟩, ⟨rfl, fun x hx => by cases hx⟩, H⟩ ?_
        clear H
        rintro k w ⟨hk, J, hJ, a2, b2, X, Y, fa, fb, hx, hy, hfx, hfy, H⟩
        by_cases hlt : k < l.length
        · obtain ⟨c2, o, rfl, hr⟩ := hv.at (by omega)
          have hr := hr.elem mxC_len (atD_get hlt)
          have hox := (ho _ (atD_mem hlt)).mono hJ
          have hdl := hld _ (atD_mem hlt)
          obtain ⟨⟨d, n, ma, data⟩, hxe⟩ : ∃ x, atD l k = x := ⟨_, rfl⟩
          rw [hxe] at hr hox hdl
          obtain ⟨hnn, hdv⟩ := hox
          obtain ⟨D, dc, hd, hdc⟩ := hdv.form
          dsimp only at hd hnn hdv hdl
          rw [hd] at hdv
          have hr : RdW J L c2 (o + k * 4) [.int .i64 d, .int .i64 n, .bool ma, .slice D data.2.2.length dc] := by rw [← hd]; exact RdI.toW (hr.mono hJ)
          have hr := hr.ups (blk p 47 (pcl 0 a2 b2) :: hfQ J a2 X fa (hfQ J b2 Y fb []))
          repeat' (first
            | (refine VcD.load1 tabOk rfl rfl rfl rfl rfl rfl (by intro w_ hw_; exact rdAt0 hw_ rfl) (by exact rfl) ?_)
            | (show VcL _ _ _ _ _ _ _ _; first
      | refine VcL.pures tabOk rfl ?_
      | refine VcL.nil ?_
      | (show VcL _ _ _ _ (⟨_, .load _ _, _, _, _, _⟩ :: _) _ _ _; refine VcL.loadR tabOk rfl rfl rfl rfl rfl rfl (by exact RdW.rd (by assumption) H) rfl ?_)
      | (show VcL _ _ _ _ (⟨_, .indexAddr _ _ _, _, _, _, _⟩ :: _) _ _ _; refine VcL.indexAddr tabOk rfl rfl rfl rfl rfl rfl (by omega) (by omega) ?_)
      | (show VcL _ _ _ _ (⟨_, .call ⟨.value (.func F_tithinglaw12_Pair_Do), _, _⟩, _, _, _, _⟩ :: _) _ _ _; (refine VcL.callF ok_tithinglaw12_Pair_Do rfl rfl rfl rfl (Rets.mono (Do_any (m := ⟨d, n, ma, data.2.2⟩) H hx hy hfx hfy (by omega) hnn hdv hdl) ?_); rintro _ w ⟨J2, hJ2, a3, b3, fa3, fb3, hfx3, hfy3, hx3, hy3, H⟩))
      | (refine VcL.guard rfl rfl rfl rfl (fun h => ?_) (fun h => ?_) <;> first | (cases h; done) | skip))
            | (show VcD _ _ _ _ _ _ _ _ _; first
      | refine VcD.pures tabOk rfl ?_
      | refine VcD.done ?_
      | (show VcD _ _ _ _ _ (.pure _ _) _ _ _; first
      | refine VcD.indexArr0 tabOk rfl rfl rfl rfl rfl rfl rfl (by omega) (by omega) ?_
      | refine VcD.indexArr tabOk rfl rfl rfl rfl rfl rfl rfl (by omega) (by omega) ?_
      | (refine VcD.guardP rfl rfl rfl rfl rfl (fun h => ?_) (fun h => ?_) <;> first | (cases h; done) | skip))
      | (show VcD _ _ _ _ _ (.only _ _) _ _ _; first
      | (refine VcD.callF (f := F_tithinglaw12_same) rfl ok_tithinglaw12_same rfl rfl rfl rfl (Rets.mono (same_any (Holds.re [1, 1] H rfl)) ?_); rintro _ w ⟨rfl, H⟩; refine ⟨(by exact Holds.rdWhole (Holds.f2 H)), ?_⟩)
      | (refine VcD.callF (f := F_tithinglaw12_same) rfl ok_tithinglaw12_same rfl rfl rfl rfl (Rets.mono (same_any (Holds.re [7, 7] H rfl)) ?_); rintro _ w ⟨rfl, H⟩; refine ⟨(by exact Holds.rdWhole (Holds.f4 H)), ?_⟩)))
            | (show Vc _ _ _ _ _ _; first
      | refine Vc.seq ?_
      | refine Vc.region ?_
      | refine Vc.condF rfl ?_
      | refine Vc.skip ?_
      | refine Vc.block ?_
      | (refine Vc.drawn (id := 8) (.pure 0 (.pure 1 (.pure 2 (.take 3 (.pure 4 (.pure 5 (.pure 6 (.pure 7 (.pure 10 (.pure 11 (.pure 12 (.pure 8 (.take 9 (.pure 13 (.take 14 (.only 15 (.pure 16 (.pure 17 (.pure 18 (.pure 19 (.pure 20 (.pure 21 (.pure 24 (.pure 25 (.pure 26 (.pure 22 (.take 23 (.pure 27 (.take 28 (.only 29 (.pure 30 (.pure 31 .done)))))))))))))))))))))))))))))))) (.one (fun w => Rd w p 0 (pcl 0 a3 b3))) mixed (by kernel_rfl) (by exact Holds.rdWhole (Holds.drew H _)) ?_; have H := H.drew (w.drawn + 1))
      | (refine Vc.cond rfl (fun h => ?_) (fun h => ?_) <;> first | (exfalso; simp only [decide_eq_true_eq, decide_eq_false_iff_not, Bool.not_eq_true', Bool.not_eq_false'] at h; omega) | (with_reducible have hp := of_decide_eq_true h)))
            | (show KSeq _ _ _ _ _ _ _; refine KSeq.normal ?_)
            | (show KBlock _ _ _ _ _ _; refine KBlock.normal ?_))
          all_goals exact KLoop.again (k + 1) ⟨got_succ rfl (by omega), trivial⟩ ⟨rfl, rfl, trivial⟩ ⟨hlt, J2, hJ.trans hJ2, a3, b3, _, _, fa3, fb3, hx3, hy3, hfx3, hfy3, Holds.re [4, 2, 2, 2, 2, 2, 2, 0] H rfl⟩ (by omega)
        · obtain rfl : k = l.length := by omega
          repeat' (first
            | (show VcL _ _ _ _ _ _ _ _; first
      | refine VcL.pures tabOk rfl ?_
      | refine VcL.nil ?_
      | (show VcL _ _ _ _ (⟨_, .call ⟨.value (.func F_tithinglaw12_Awake), _, _⟩, _, _, _, _⟩ :: _) _ _ _; (refine VcL.callF ok_tithinglaw12_Awake rfl rfl rfl rfl (Rets.mono (Awake_any H) ?_); rintro _ w ⟨rfl, H⟩))
      | (refine VcL.guard rfl rfl rfl rfl (fun h => ?_) (fun h => ?_) <;> first | (cases h; done) | skip))
            | (show Vc _ _ _ _ _ _; first
      | refine Vc.seq ?_
      | refine Vc.region ?_
      | refine Vc.ret ?_
      | refine Vc.exit ?_
      | (refine Vc.cond rfl (fun h => ?_) (fun h => ?_) <;> first | (exfalso; simp only [decide_eq_true_eq, decide_eq_false_iff_not, Bool.not_eq_true', Bool.not_eq_false'] at h; omega) | (with_reducible have hp := of_decide_eq_false h)))
            | (show KSeq _ _ _ _ _ _ _; first
      | refine KSeq.normal ?_
      | refine KSeq.exit ?_)
            | (show KBlock _ _ _ _ _ _; refine KBlock.here ?_)
            | refine KLoop.exit ?_
            | (show KEnd _ _ _ _ _ _ _; refine KEnd.fin (Or.inr rfl) ⟨_, (ResL.tmp rfl ResL.nil), ?_⟩))
          all_goals exact ⟨rfl, Holds.less (hf_drop (hf_drop (Holds.drop H))) hJ⟩
      · obtain ⟨n0, rfl⟩ := Int.eq_ofNat_of_zero_le (show 0 ≤ n0 by unfold okS at h0; omega)
        obtain ⟨f0, rfl⟩ := Int.eq_ofNat_of_zero_le (show 0 ≤ f0 by unfold okS at h0; omega)
        refine ok_tithinglaw12_StreamPairs.rets rfl ?_
        repeat' (first
          | (show VcL _ _ _ _ _ _ _ _; first
      | refine VcL.pures tabOk rfl ?_
      | refine VcL.nil ?_
      | (show VcL _ _ _ _ (⟨_, .load _ _, _, _, _, _⟩ :: _) _ _ _; refine VcL.loadN tabOk rfl rfl rfl rfl rfl rfl (by first | exact H | exact (Holds.f1 H)) (by exact rfl) ?_)
      | refine VcL.box H rfl rfl rfl rfl rfl (fun b w H => ?_)
      | (show VcL _ _ _ _ (⟨_, .call ⟨.value (.func F_tithinglaw12_LongMoves), _, _⟩, _, _, _, _⟩ :: _) _ _ _; (refine VcL.callF ok_tithinglaw12_LongMoves rfl rfl rfl rfl (Rets.mono ((LongMoves_any H hv ho hn).mono fun u w' h => (show u = .bool false ∧ Holds I w' _ from hlo ▸ h)) ?_); rintro _ w ⟨rfl, H⟩))
      | (show VcL _ _ _ _ (⟨_, .call ⟨.value (.func F_tithinglaw12_NewPair), _, _⟩, _, _, _, _⟩ :: _) _ _ _; (refine VcL.callF ok_tithinglaw12_NewPair rfl rfl rfl rfl (Rets.mono (NewPair_bad1 H h0 h1) ?_); rintro _ w ⟨rfl, H⟩)))
          | (show Vc _ _ _ _ _ _; first
      | refine Vc.seq ?_
      | refine Vc.region ?_
      | refine Vc.condF rfl ?_
      | refine Vc.skip ?_
      | refine Vc.block ?_)
          | (show KSeq _ _ _ _ _ _ _; refine KSeq.normal ?_))
        have H := Holds.drop (Holds.drop H)
        refine Vc.loopS [(2, _), (7, _)] (fun k : Nat => [(8, .int .i64 0)]) (fun k w => Holds I w L) (fun k _ => 0) 0 ⟨rfl, trivial⟩ ⟨rfl, rfl, trivial⟩ H ?_
        clear H
        rintro k w H
        repeat' (first
          | (show VcL _ _ _ _ _ _ _ _; first
      | refine VcL.pures tabOk rfl ?_
      | refine VcL.nil ?_
      | (show VcL _ _ _ _ (⟨_, .call ⟨.value (.func F_tithinglaw12_Awake), _, _⟩, _, _, _, _⟩ :: _) _ _ _; (refine VcL.callF ok_tithinglaw12_Awake rfl rfl rfl rfl (Rets.mono (Awake_any H) ?_); rintro _ w ⟨rfl, H⟩))
      | (refine VcL.guard rfl rfl rfl rfl (fun h => ?_) (fun h => ?_) <;> first | (cases h; done) | skip))
          | (show Vc _ _ _ _ _ _; first
      | refine Vc.seq ?_
      | refine Vc.region ?_
      | refine Vc.condF rfl ?_
      | refine Vc.ret ?_
      | refine Vc.exit ?_)
          | (show KSeq _ _ _ _ _ _ _; first
      | refine KSeq.normal ?_
      | refine KSeq.exit ?_)
          | (show KBlock _ _ _ _ _ _; refine KBlock.here ?_)
          | refine KLoop.exit ?_
          | (show KEnd _ _ _ _ _ _ _; refine KEnd.fin (Or.inr rfl) ⟨_, (ResL.tmp rfl ResL.nil), ?_⟩))
        all_goals exact ⟨rfl, H⟩
    ·
      refine ok_tithinglaw12_StreamPairs.rets rfl ?_
      repeat' (first
        | (show VcL _ _ _ _ _ _ _ _; first
      | refine VcL.pures tabOk rfl ?_
      | refine VcL.nil ?_
      | (show VcL _ _ _ _ (⟨_, .load _ _, _, _, _, _⟩ :: _) _ _ _; refine VcL.loadN tabOk rfl rfl rfl rfl rfl rfl (by first | exact H | exact (Holds.f1 H)) (by exact rfl) ?_)
      | refine VcL.box H rfl rfl rfl rfl rfl (fun b w H => ?_)
      | (show VcL _ _ _ _ (⟨_, .call ⟨.value (.func F_tithinglaw12_LongMoves), _, _⟩, _, _, _, _⟩ :: _) _ _ _; (refine VcL.callF ok_tithinglaw12_LongMoves rfl rfl rfl rfl (Rets.mono ((LongMoves_any H hv ho hn).mono fun u w' h => (show u = .bool false ∧ Holds I w' _ from hlo ▸ h)) ?_); rintro _ w ⟨rfl, H⟩))
      | (show VcL _ _ _ _ (⟨_, .call ⟨.value (.func F_tithinglaw12_NewPair), _, _⟩, _, _, _, _⟩ :: _) _ _ _; (refine VcL.callF ok_tithinglaw12_NewPair rfl rfl rfl rfl (Rets.mono (NewPair_bad0 H h0) ?_); rintro _ w ⟨rfl, H⟩)))
        | (show Vc _ _ _ _ _ _; first
      | refine Vc.seq ?_
      | refine Vc.region ?_
      | refine Vc.condF rfl ?_
      | refine Vc.skip ?_
      | refine Vc.block ?_)
        | (show KSeq _ _ _ _ _ _ _; refine KSeq.normal ?_))
      have H := Holds.drop (Holds.drop H)
      refine Vc.loopS [(2, _), (7, _)] (fun k : Nat => [(8, .int .i64 0)]) (fun k w => Holds I w L) (fun k _ => 0) 0 ⟨rfl, trivial⟩ ⟨rfl, rfl, trivial⟩ H ?_
      clear H
      rintro k w H
      repeat' (first
        | (show VcL _ _ _ _ _ _ _ _; first
      | refine VcL.pures tabOk rfl ?_
      | refine VcL.nil ?_
      | (show VcL _ _ _ _ (⟨_, .call ⟨.value (.func F_tithinglaw12_Awake), _, _⟩, _, _, _, _⟩ :: _) _ _ _; (refine VcL.callF ok_tithinglaw12_Awake rfl rfl rfl rfl (Rets.mono (Awake_any H) ?_); rintro _ w ⟨rfl, H⟩))
      | (refine VcL.guard rfl rfl rfl rfl (fun h => ?_) (fun h => ?_) <;> first | (cases h; done) | skip))
        | (show Vc _ _ _ _ _ _; first
      | refine Vc.seq ?_
      | refine Vc.region ?_
      | refine Vc.condF rfl ?_
      | refine Vc.ret ?_
      | refine Vc.exit ?_)
        | (show KSeq _ _ _ _ _ _ _; first
      | refine KSeq.normal ?_
      | refine KSeq.exit ?_)
        | (show KBlock _ _ _ _ _ _; refine KBlock.here ?_)
        | refine KLoop.exit ?_
        | (show KEnd _ _ _ _ _ _ _; refine KEnd.fin (Or.inr rfl) ⟨_, (ResL.tmp rfl ResL.nil), ?_⟩))
      all_goals exact ⟨rfl, H⟩
end Go.Proofs.Ytpfgcchammlpgaa.V
