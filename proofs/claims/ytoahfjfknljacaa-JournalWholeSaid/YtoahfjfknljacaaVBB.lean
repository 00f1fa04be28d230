/- The document's store commits. -/
import Derived.Test.YtoahfjfknljacaaVAA
namespace Go.Proofs.Ytoahfjfknljacaa.V
open Go Go.Proofs.YtoahfjfknljacaaV
set_option linter.unusedVariables false
set_option linter.unusedSimpArgs false
set_option maxHeartbeats 1000000
set_option maxRecDepth 4000
attribute [local irreducible] IntKind.wrap
variable {I : Imm} {w : World} {L : List Asn}
theorem CommitR_any {s d ho : Nat} {dead : Bool} {D : Dk} (H : Holds I w (rdkA I d D :: blk s 97 (stV d (ho : Nat) dead) :: L)) (hw : D.writes + 400 < 2 ^ 40) (hh : ho + 41 ≤ D.blocks.length)
    {v : Value} {wl : Wl} (hv : SlR I L v 2 wl.length (wl.flatMap wrC)) (hda : ∀ x ∈ wl, SlR I L x.2.1 1 x.2.2.length (byL x.2.2)) (hlen : wl.length ≤ 140737488355328) :
    Rets Try.prog F_tithingref16_Store_Commit #[ptr s, v] w fun u w' => ∃ J, Imm.Le I J ∧ u = .int .i64 (commitS D ho dead (wsOf wl)).2.2 ∧ Holds J w' (rdkA J d (commitS D ho dead (wsOf wl)).1 :: blk s 97 (stV d (ho : Nat) (commitS D ho dead (wsOf wl)).2.1) :: L) := by
  obtain ⟨A, cap, rfl, hcap⟩ := hv.form
  obtain ⟨ws, hws⟩ : ∃ ws, wsOf wl = ws := ⟨_, rfl⟩
  have hwl : ws.length = wl.length := by rw [← hws, wsOf_len]
  have hwa : ∀ k, k < wl.length → atD ws k = ((atD wl k).1, (atD wl k).2.2) := fun k hk => by rw [← hws]; exact wsOf_at hk
  have hok := rdk_ok H
  have hfew := hok.few
  rw [hws]
  cases dead with
  | true =>
    refine ok_tithingref16_Store_Commit.rets rfl ?_
    repeat' (first
      | (show VcL _ _ _ _ _ _ _ _; first
      | refine VcL.pures tabOk rfl ?_
      | refine VcL.nil ?_
      | (show VcL _ _ _ _ (⟨_, .load _ _, _, _, _, _⟩ :: _) _ _ _; refine VcL.load1 tabOk rfl rfl rfl rfl rfl (by exact Holds.cell (Holds.f1 H) rfl) ?_))
      | (show Vc _ _ _ _ _ _; first
      | refine Vc.seq ?_
      | refine Vc.region ?_
      | refine Vc.condT rfl ?_
      | refine Vc.ret ?_)
      | (show KSeq _ _ _ _ _ _ _; first
      | refine KSeq.normal ?_
      | refine KSeq.ret ?_)
      | (show KEnd _ _ _ _ _ _ _; refine KEnd.fin (Or.inr rfl) ⟨_, (ResL.tmp rfl ResL.nil), ?_⟩))
    exact ⟨I, Imm.Le.rfl' I, rfl, H⟩
  | false =>
    by_cases ha0 : asked ho ws ≠ 0
    · obtain ⟨e, ha⟩ : ∃ e, asked ho ws = e := ⟨_, rfl⟩
      have eC : commitS D ho false ws = (D, false, asked ho ws) := by
        unfold commitS
        rw [if_neg (by decide), if_pos ha0]
      rw [eC, ha]
      rw [ha] at ha0
      refine ok_tithingref16_Store_Commit.rets rfl ?_
      repeat' (first
        | (show VcL _ _ _ _ _ _ _ _; first
      | refine VcL.pures tabOk rfl ?_
      | refine VcL.nil ?_
      | (show VcL _ _ _ _ (⟨_, .load _ _, _, _, _, _⟩ :: _) _ _ _; refine VcL.load1 tabOk rfl rfl rfl rfl rfl (by exact Holds.cell (Holds.f1 H) rfl) ?_)
      | (show VcL _ _ _ _ (⟨_, .call ⟨.value (.func F_tithingref16_Store_asked), _, _⟩, _, _, _, _⟩ :: _) _ _ _; (refine VcL.callF ok_tithingref16_Store_asked rfl rfl rfl rfl (Rets.mono (asked_any (ho := ho) (dead := false) H Holds.toW.up hv.up.up (fun x hx => (hda x hx).up.up) hlen) ?_); rintro _ w ⟨rfl, H⟩; rw [hws, ha]))
      | (refine VcL.guard rfl rfl rfl rfl (fun h => ?_) (fun h => ?_) <;> first | (exfalso; simp only [decide_eq_true_eq, decide_eq_false_iff_not, Bool.not_eq_true', Bool.not_eq_false'] at h; omega) | (with_reducible have hp := ndec_t h)))
        | (show Vc _ _ _ _ _ _; first
      | refine Vc.seq ?_
      | refine Vc.region ?_
      | refine Vc.condT rfl ?_
      | refine Vc.condF rfl ?_
      | refine Vc.ret ?_
      | refine Vc.skip ?_)
        | (show KSeq _ _ _ _ _ _ _; first
      | refine KSeq.normal ?_
      | refine KSeq.ret ?_)
        | (show KEnd _ _ _ _ _ _ _; refine KEnd.fin (Or.inr rfl) ⟨_, (ResL.tmp rfl ResL.nil), ?_⟩))
      all_goals first | exact ⟨I, Imm.Le.rfl' I, rfl, H⟩ | (exfalso; simp_all; done)
    · have ha : asked ho ws = 0 := by simpa using ha0
      by_cases hz : wl.length = 0
      · have eC : commitS D ho false ws = (D, false, 0) := by
          unfold commitS
          rw [if_neg (by decide), if_neg (by rw [ha]; decide), if_pos (List.eq_nil_of_length_eq_zero (hwl.trans hz))]
        rw [eC]
        refine ok_tithingref16_Store_Commit.rets rfl ?_
        repeat' (first
          | (show VcL _ _ _ _ _ _ _ _; first
      | refine VcL.pures tabOk rfl ?_
      | refine VcL.nil ?_
      | (show VcL _ _ _ _ (⟨_, .load _ _, _, _, _, _⟩ :: _) _ _ _; refine VcL.load1 tabOk rfl rfl rfl rfl rfl (by exact Holds.cell (Holds.f1 H) rfl) ?_)
      | (show VcL _ _ _ _ (⟨_, .call ⟨.value (.func F_tithingref16_Store_asked), _, _⟩, _, _, _, _⟩ :: _) _ _ _; (refine VcL.callF ok_tithingref16_Store_asked rfl rfl rfl rfl (Rets.mono (asked_any (ho := ho) (dead := false) H Holds.toW.up hv.up.up (fun x hx => (hda x hx).up.up) hlen) ?_); rintro _ w ⟨rfl, H⟩; rw [hws, ha]))
      | (refine VcL.guard rfl rfl rfl rfl (fun h => ?_) (fun h => ?_) <;> first | (cases h; done) | (with_reducible have hp := ndec_f h)))
          | (show Vc _ _ _ _ _ _; first
      | refine Vc.seq ?_
      | refine Vc.region ?_
      | refine Vc.condF rfl ?_
      | refine Vc.ret ?_
      | refine Vc.skip ?_
      | (refine Vc.cond rfl (fun h => ?_) (fun h => ?_) <;> first | (exfalso; simp only [decide_eq_true_eq, decide_eq_false_iff_not, Bool.not_eq_true', Bool.not_eq_false'] at h; omega) | (with_reducible have hp := of_decide_eq_true h)))
          | (show KSeq _ _ _ _ _ _ _; first
      | refine KSeq.normal ?_
      | refine KSeq.ret ?_)
          | (show KEnd _ _ _ _ _ _ _; refine KEnd.fin (Or.inr rfl) ⟨_, (ResL.tmp rfl ResL.nil), ?_⟩))
        exact ⟨I, Imm.Le.rfl' I, rfl, H⟩
      · have eC : commitS D ho false ws = ((comS D ho ws).1, !(comS D ho ws).2, if (comS D ho ws).2 then 0 else 160) := by
          unfold commitS
          rw [if_neg (by decide), if_neg (by rw [ha]; decide), if_neg (fun e => hz (by rw [← hwl, e]; rfl))]
        rw [eC]
        have hgood : goodW ho ws := by
          by_cases hg : goodW ho ws
          · exact hg
          · rw [asked_bad hg] at ha
            exact absurd ha (by decide)
        have h40 : wl.length ≤ 40 := by
          rw [asked_good hgood, hwl] at ha
          by_cases h : 40 < wl.length
          · rw [if_pos h] at ha; exact absurd ha (by decide)
          · omega
        have hin : ∀ x ∈ wl, 0 ≤ x.1 ∧ x.1 < ho ∧ x.2.2.length = 256 := fun x hx => by
          have := hgood.1 (x.1, x.2.2) (by rw [← hws]; exact List.mem_map_of_mem hx)
          exact this
        have hw256 : ∀ x ∈ ws, x.2.length = 256 := fun x hx => (hgood.1 x hx).2.2
        have hpl : (plW ho ws).length = wl.length := by rw [plW_len, hwl]
        obtain ⟨bw, ow, rfl, hrw⟩ := hv.at (by omega)
        refine ok_tithingref16_Store_Commit.rets rfl ?_
        repeat' (first
          | (refine VcL.buildSliceP tabOk H rfl rfl rfl rfl rfl rfl (fun b_ w H => ?_))
          | (refine VcL.constBytes (cs := byL markB) tabOk rfl H rfl rfl rfl rfl rfl rfl rfl (fun w H => ?_))
          | (refine VcL.append (m := 2) (ds := byL (two wl.length)) tabOk rfl rfl rfl rfl (Holds.f1 H) (Holds.own_src H) (by_one _) (by decide) rfl rfl rfl (fun hv2 w H => ?_))
          | (show VcL _ _ _ _ _ _ _ _; first
      | refine VcL.pures tabOk rfl ?_
      | refine VcL.nil ?_
      | (show VcL _ _ _ _ (⟨_, .load _ _, _, _, _, _⟩ :: _) _ _ _; refine VcL.load1 tabOk rfl rfl rfl rfl rfl (by exact Holds.cell (Holds.f1 H) rfl) ?_)
      | (show VcL _ _ _ _ (⟨_, .call ⟨.value (.func F_tithingref16_Store_asked), _, _⟩, _, _, _, _⟩ :: _) _ _ _; (refine VcL.callF ok_tithingref16_Store_asked rfl rfl rfl rfl (Rets.mono (asked_any (ho := ho) (dead := false) H Holds.toW.up hv.up.up (fun x hx => (hda x hx).up.up) hlen) ?_); rintro _ w ⟨rfl, H⟩; rw [hws, ha]))
      | (show VcL _ _ _ _ (⟨_, .call ⟨.value (.func F_tithingref16_two), _, _⟩, _, _, _, _⟩ :: _) _ _ _; (refine VcL.callF ok_tithingref16_two rfl rfl rfl rfl (Rets.mono (two_any (n := wl.length) H (by omega)) ?_); rintro _ w H))
      | (refine VcL.guard rfl rfl rfl rfl (fun h => ?_) (fun h => ?_) <;> first | (cases h; done) | (with_reducible have hp := ndec_f h)))
          | (show Vc _ _ _ _ _ _; first
      | refine Vc.seq ?_
      | refine Vc.region ?_
      | refine Vc.condF rfl ?_
      | refine Vc.skip ?_
      | refine Vc.block ?_
      | (refine Vc.cond rfl (fun h => ?_) (fun h => ?_) <;> first | (exfalso; simp only [decide_eq_true_eq, decide_eq_false_iff_not, Bool.not_eq_true', Bool.not_eq_false'] at h; omega) | (with_reducible have hp := of_decide_eq_false h)))
          | (show KSeq _ _ _ _ _ _ _; refine KSeq.normal ?_))
        have H1 : Holds I w (own hv2 5 1 6 (byL (preK ws 0)) :: rdkA I d D :: blk s 97 (stV d (ho : Nat) false) :: L) := by
          have e : byL (preK ws 0) = byL markB ++ byL (two wl.length) := by
            unfold preK
            rw [hwl]
            show byL (markB ++ two wl.length ++ []) = _
            rw [List.append_nil, byL_app]
          rw [e]
          exact H.drop1
        clear H
        have H := H1
        clear H1
        refine Vc.loopS [(0, _), (1, _)] (fun s : Nat × Value × Value × Value => [(6, s.2.1), (7, s.2.2.1), (8, s.2.2.2), (9, .int .i64 s.1)]) (fun q w => q.1 ≤ wl.length ∧ ∃ pls : Wl, wsOf pls = (plW ho ws).take q.1 ∧ (∀ x ∈ pls, SlR I L x.2.1 1 x.2.2.length (byL x.2.2)) ∧ Holds I w (own q.2.2.2 86 2 q.1 (pls.flatMap wrC) :: own q.2.2.1 5 1 (256 * q.1) (byL (datS (ws.take q.1))) :: own q.2.1 5 1 (6 + 2 * q.1) (byL (preK ws q.1)) :: rdkA I d D :: blk s 97 (stV d (ho : Nat) false) :: L)) (fun q _ => wl.length - q.1) (0, hv2, .slice none 0 0, .slice none 0 0) ⟨rfl, rfl, rfl, rfl, trivial⟩ ⟨rfl, rfl, trivial⟩ ⟨Nat.zero_le _, [], rfl, (fun x hx => by cases hx), H.own_nil.own_nil⟩ ?_
        rintro ⟨k, hv5, av, pv⟩ w ⟨hk, pls, hps, hpd, H⟩
        dsimp only at hk hps H ⊢
        have hpll : pls.length = k := by rw [← wsOf_len pls, hps, List.length_take]; omega
        by_cases hlt : k < wl.length
        · obtain ⟨x, hx⟩ : ∃ x, atD wl k = x := ⟨_, rfl⟩
          have hxm : x ∈ wl := hx ▸ atD_mem hlt
          have hxi := hin x hxm
          have hxd := hda x hxm
          have hrx := hrw.elem wrC_len (atD_get hlt)
          obtain ⟨A9, c9, hxf, _⟩ := hxd.form
          rw [hx] at hrx
          have hwx := hwa k hlt
          rw [hx] at hwx
          obtain ⟨xi, xv, dat⟩ := x
          dsimp only at hxi hxd hxf hwx
          subst hxf
          obtain ⟨tk, rfl⟩ := Int.eq_ofNat_of_zero_le hxi.1
          have hrx : RdW I L bw (ow + k * 2) [.int .i64 (tk : Int), .slice A9 dat.length c9] := hrx
          have hdat := hxi.2.2
          have e1 : IntKind.i64.wrap ((ho : Int) + 1) = ((ho + 1 : Nat) : Int) := wrap_i64 (by omega) (by omega)
          have e2 : IntKind.i64.wrap (((ho + 1 : Nat) : Int) + (k : Int)) = ((ho + 1 + k : Nat) : Int) := by rw [wrap_i64 (by omega) (by omega)]; omega
          have hrx2 := hrx.up (A := blk s 97 (stV d (ho : Nat) false)) |>.up (A := rdkA I d D)
          repeat' (first
            | rw [e1]
            | rw [e2]
            | (refine VcD.append (m := 1) (ds := wrC (((ho + 1 + k : Nat) : Int), ((Value.slice A9 dat.length c9, dat) : Vb))) tabOk rfl rfl rfl rfl rfl (Holds.f1 H) (Src.slice rfl (Holds.pt_rd H)) (wrC_one _ rfl) (by show (_ + 1) * 32 ≤ _; omega) rfl rfl rfl (fun pv2 w H => ⟨⟨Holds.rdWhole (Holds.f5 H), RdW.rd hrx2 H.drop.drop.drop.drop⟩, ?_⟩))
            | (refine VcL.load1 tabOk rfl rfl rfl rfl rfl (RdW.get hrx rfl H.drop.drop.drop.drop.drop.drop) ?_)
            | (refine VcL.load1 tabOk rfl rfl rfl rfl rfl (RdW.get0 hrx rfl H.drop.drop.drop.drop.drop.drop) ?_)
            | (refine VcL.append (m := dat.length) (ds := byL dat) tabOk rfl rfl rfl rfl (Holds.f2 H) (SlR.src hxd H.drop.drop.drop.drop.drop.drop) (by_one _) (by show (_ + _) * 1 ≤ _; omega) rfl rfl rfl (fun av2 w H => ?_))
            | (refine VcL.append (m := 2) (ds := byL (two tk)) tabOk rfl rfl rfl rfl (Holds.f4 H) (Holds.own_src H) (by_one _) (by show (_ + 2) * 1 ≤ _; omega) rfl rfl rfl (fun hv6 w H => ?_))
            | (show VcL _ _ _ _ _ _ _ _; first
      | refine VcL.pures tabOk rfl ?_
      | refine VcL.nil ?_
      | (show VcL _ _ _ _ (⟨_, .indexAddr _ _ _, _, _, _, _⟩ :: _) _ _ _; refine VcL.indexAddr tabOk rfl rfl rfl rfl rfl rfl (by omega) (by omega) ?_)
      | (show VcL _ _ _ _ (⟨_, .call ⟨.value (.func F_tithingref16_two), _, _⟩, _, _, _, _⟩ :: _) _ _ _; (refine VcL.callF ok_tithingref16_two rfl rfl rfl rfl (Rets.mono (two_any (n := tk) H (by omega)) ?_); rintro _ w H)))
            | (show VcD _ _ _ _ _ _ _ _ _; first
      | refine VcD.pures tabOk rfl ?_
      | refine VcD.done ?_
      | (show VcD _ _ _ _ _ (.pure _ _) _ _ _; refine VcD.indexAddr tabOk rfl rfl rfl rfl rfl rfl rfl (by omega) (by omega) ?_)
      | (show VcD _ _ _ _ _ (.take _ _) _ _ _; refine VcD.load1 tabOk rfl rfl rfl rfl rfl rfl (by intro w_ hw_; first | exact hw_.1 _ _ rfl | exact hw_.2 _ _ rfl) (by exact rfl) ?_)
      | (show VcD _ _ _ _ _ (.only _ _) _ _ _; (refine VcD.eff rfl rfl rfl rfl (OpE.buildSliceP tabOk H rfl rfl rfl rfl) ?_; rintro _ w ⟨b_, rfl, H⟩; refine ⟨(by (refine ⟨?_, ?_⟩ <;> first | exact Holds.rdWhole (Holds.f5 H) | exact RdW.rd (by assumption) (Holds.drop (Holds.drop (Holds.drop (Holds.drop H)))))), ?_⟩)))
            | (show Vc _ _ _ _ _ _; first
      | refine Vc.seq ?_
      | refine Vc.region ?_
      | refine Vc.skip ?_
      | refine Vc.block ?_
      | (refine Vc.drawn (id := 12) (.pure 0 (.pure 1 (.pure 2 (.pure 3 (.pure 6 (.pure 8 (.pure 9 (.take 4 (.pure 5 (.pure 7 (.pure 10 (.pure 11 (.take 12 (.pure 13 (.only 14 (.only 15 (.pure 16 .done))))))))))))))))) (.one (fun w => Rd w s 0 (stV d (ho : Nat) false) ∧ Rd w bw (ow + k * 2) [.int .i64 (tk : Int), .slice A9 dat.length c9])) mixed (by kernel_rfl) (by (refine ⟨?_, ?_⟩ <;> first | exact Holds.rdWhole (Holds.f4 (Holds.drew H _)) | exact RdW.rd (by assumption) (Holds.drop (Holds.drop (Holds.drop (Holds.drew H _)))))) ?_; have H := H.drew (w.drawn + 1))
      | (refine Vc.cond rfl (fun h => ?_) (fun h => ?_) <;> first | (exfalso; simp only [decide_eq_true_eq, decide_eq_false_iff_not, Bool.not_eq_true', Bool.not_eq_false'] at h; omega) | (with_reducible have hp := of_decide_eq_true h)))
            | (show KSeq _ _ _ _ _ _ _; refine KSeq.normal ?_)
            | (show KBlock _ _ _ _ _ _; refine KBlock.normal ?_))
          refine KLoop.again (k + 1, hv6, av2, pv2) ⟨rfl, rfl, rfl, got_succ rfl (by omega), trivial⟩ ⟨rfl, rfl, trivial⟩ ⟨hlt, pls ++ [(((ho + 1 + k : Nat) : Int), (.slice A9 dat.length c9, dat))], ?_, fun y hy => ?_, ?_⟩ (by show _ < _; omega)
          · unfold wsOf at hps ⊢
            rw [List.map_append, hps, take_atD (by omega), plW_at _ _ (by omega), hwx]
            rfl
          · rcases List.mem_append.1 hy with hy | hy
            · exact hpd y hy
            · simp only [List.mem_singleton] at hy
              subst hy
              exact hxd
          · rw [datS_take (by omega), hwx, preK_succ (by omega), hwx, byL_app, byL_app, flat_snoc]
            dsimp only
            rw [show 256 * (k + 1) = 256 * k + dat.length by omega]
            exact Holds.re [2, 1, 0] H.drop1.drop3 rfl
        · obtain rfl : k = wl.length := by omega
          rw [List.take_of_length_le (by omega)] at hps
          rw [List.take_of_length_le (by omega)] at H
          have hpre : preK ws wl.length = preB ws := by rw [← hwl, preK_all]
          have hprl : (preB ws).length = 6 + 2 * wl.length := by rw [← hpre, preK_len (by omega)]
          rw [hpre] at H
          have hhl : (headB ws).length = 8 + 2 * wl.length := by rw [headB_len, hwl]
          have hdl : (datS ws).length = 256 * wl.length := by rw [datS_len hw256, hwl]
          have hsum : ∀ {w : World} {M : List Asn} {zv : Value}, Holds I w (own zv 5 1 (256 * wl.length + (6 + 2 * wl.length)) (byL (datS ws) ++ byL (preB ws)) :: M) → SlR I (own zv 5 1 (256 * wl.length + (6 + 2 * wl.length)) (byL (datS ws) ++ byL (preB ws)) :: M) zv 1 (datS ws ++ preB ws).length (byL (datS ws ++ preB ws)) := fun H => by
            rw [byL_app, List.length_append, hdl, hprl]
            exact Holds.own_toR H
          have hheadR : ∀ {K : Imm} {w : World} {M : List Asn} {zv : Value}, Holds K w (own zv 5 1 (6 + 2 * wl.length + 2) (byL (preB ws) ++ byL (two (sumN (datS ws ++ preB ws)))) :: M) → SlR K (own zv 5 1 (6 + 2 * wl.length + 2) (byL (preB ws) ++ byL (two (sumN (datS ws ++ preB ws)))) :: M) zv 1 (headB ws).length (byL (headB ws)) := fun H => by
            rw [hhl, show 8 + 2 * wl.length = 6 + 2 * wl.length + 2 by omega]
            unfold headB
            rw [byL_app]
            exact Holds.own_toR H
          have hsn := sumN_lt (datS ws ++ preB ws)
          have hpin : ∀ x ∈ pls, 0 ≤ x.1 ∧ x.1 < D.blocks.length ∧ x.2.2.length = 256 := fun x hx => by
            have h1 : (x.1, x.2.2) ∈ plW ho ws := by rw [← hps]; exact List.mem_map_of_mem hx
            obtain ⟨i, hi, h2⟩ := mem_atD h1
            rw [plW_len] at hi
            rw [plW_at _ _ hi] at h2
            injection h2 with h4 h5
            exact ⟨by omega, by omega, by rw [← h5]; exact hw256 _ (atD_mem hi)⟩
          have hv1 : ∀ {K : Imm} {w : World} {M : List Asn}, Holds K w (own pv 86 2 wl.length (pls.flatMap wrC) :: M) → SlR K (own pv 86 2 wl.length (pls.flatMap wrC) :: M) pv 2 pls.length (pls.flatMap wrC) := fun H => by rw [hpll]; exact Holds.own_toR H
          have hlit : ∀ {K : Imm} {w : World} {M : List Asn} {lv : Value} {A9 : Option Addr} {c9 : Nat} (l : By), Holds K w (own lv 86 2 1 [.int .i64 (ho : Int), .slice A9 256 c9] :: M) → SlR K (own lv 86 2 1 [.int .i64 (ho : Int), .slice A9 256 c9] :: M) lv 2 1 ([(((ho : Nat) : Int), ((Value.slice A9 256 c9, l) : Vb))].flatMap wrC) := fun l H => Holds.own_toR H
          have hwl1 : ∀ {A9 : Option Addr} {c9 : Nat} (l : By), wsOf [(((ho : Nat) : Int), ((Value.slice A9 256 c9, l) : Vb))] = [((ho : Int), l)] := fun l => rfl
          have hone : ∀ {n : Nat} {A9 : Option Addr} {c9 : Nat} (l : By), l.length = 256 → ho < n → ∀ x ∈ [(((ho : Nat) : Int), ((Value.slice A9 256 c9, l) : Vb))], 0 ≤ x.1 ∧ x.1 < n ∧ x.2.2.length = 256 := fun l h1 h2 x hx => by
            simp only [List.mem_singleton] at hx
            subst hx
            exact ⟨by show (0 : Int) ≤ ho; omega, by show (ho : Int) < _; omega, h1⟩
          have hdat1 : ∀ {K : Imm} {M : List Asn} {A9 : Option Addr} {c9 : Nat} (l : By), l.length = 256 → SlR K M (.slice A9 256 c9) 1 256 (byL l) → ∀ x ∈ [(((ho : Nat) : Int), ((Value.slice A9 256 c9, l) : Vb))], SlR K M x.2.1 1 x.2.2.length (byL x.2.2) := fun l h1 h2 x hx => by
            simp only [List.mem_singleton] at hx
            subst hx
            show SlR _ _ _ 1 l.length (byL l)
            rw [h1]
            exact h2
          obtain ⟨R1, hR1⟩ : ∃ R1, wsS D (plW ho ws) = R1 := ⟨_, rfl⟩
          obtain ⟨R2, hR2⟩ : ∃ R2, wsS R1.1 [((ho : Int), padB (headB ws))] = R2 := ⟨_, rfl⟩
          obtain ⟨R3, hR3⟩ : ∃ R3, wsS R2.1 ws = R3 := ⟨_, rfl⟩
          obtain ⟨R4, hR4⟩ : ∃ R4, wsS R3.1 [((ho : Int), zeroB)] = R4 := ⟨_, rfl⟩
          have hcom : comS D ho ws = if R1.2 = false then R1 else if R2.2 = false then R2 else if R3.2 = false then R3 else R4 := by rw [← hR4, ← hR3, ← hR2, ← hR1]; rfl
          have w1 : R1.1.writes ≤ D.writes + 40 := by rw [← hR1]; have := wsS_writes (plW ho ws) D; omega
          have w2 : R2.1.writes ≤ R1.1.writes + 1 := by rw [← hR2]; exact wsS_writes _ _
          have w3 : R3.1.writes ≤ R2.1.writes + 40 := by rw [← hR3]; have := wsS_writes ws R2.1; omega
          have b1 : R1.1.blocks.length = D.blocks.length := by rw [← hR1, wsS_blocks]
          have b2 : R2.1.blocks.length = D.blocks.length := by rw [← hR2, wsS_blocks, b1]
          have b3 : R3.1.blocks.length = D.blocks.length := by rw [← hR3, wsS_blocks, b2]
          have hpadl := padB_len (headB ws)
          rw [hcom]
          repeat' (first
            | (refine VcL.append (m := 6 + 2 * wl.length) (ds := byL (preB ws)) tabOk rfl rfl rfl rfl (Holds.f1 H) (Holds.own_src (Holds.f2 H)) (by_one _) (by show (_ + _) * 1 ≤ _; omega) rfl rfl rfl (fun av2 w H => ?_))
            | (refine VcL.append (m := 2) (ds := byL (two (sumN (datS ws ++ preB ws)))) tabOk rfl rfl rfl rfl (Holds.f3 H) (Holds.own_src H) (by_one _) (by show (_ + 2) * 1 ≤ _; omega) rfl rfl rfl (fun hv6 w H => ?_); have H := Holds.re [2, 1, 0] (Holds.drop1 (Holds.drop1 H)) rfl)
            | (show VcL _ _ _ _ _ _ _ _; first
      | refine VcL.pures tabOk rfl ?_
      | refine VcL.nil ?_
      | (show VcL _ _ _ _ (⟨_, .load _ _, _, _, _, _⟩ :: _) _ _ _; refine VcL.load1 tabOk rfl rfl rfl rfl rfl (by exact Holds.cell (Holds.f3 H) rfl) ?_)
      | (show VcL _ _ _ _ (⟨_, .store _ _ _, _, _, _, _⟩ :: _) _ _ _; refine VcL.store tabOk rfl (by first | exact (Holds.f1 H) | exact (Holds.f2 H)) rfl rfl (by exact rfl) (by exact rfl) (by exact rfl) (by exact rfl) (fun w H => ?_))
      | (show VcL _ _ _ _ (⟨_, .call ⟨.value (.func F_tithingref01_Sum), _, _⟩, _, _, _, _⟩ :: _) _ _ _; (refine VcL.callF ok_tithingref01_Sum rfl rfl rfl rfl (Rets.mono (SumR_any (l := datS ws ++ preB ws) H (hsum H) (by rw [List.length_append, hdl, hprl]; omega)) ?_); rintro _ w ⟨rfl, H⟩))
      | (show VcL _ _ _ _ (⟨_, .call ⟨.value (.func F_tithingref16_two), _, _⟩, _, _, _, _⟩ :: _) _ _ _; (refine VcL.callF ok_tithingref16_two rfl rfl rfl rfl (Rets.mono (two_any (n := sumN (datS ws ++ preB ws)) H hsn) ?_); rintro _ w H)))
            | (show VcD _ _ _ _ _ _ _ _ _; first
      | refine VcD.pures tabOk rfl ?_
      | refine VcD.done ?_
      | (show VcD _ _ _ _ _ (.pure _ _) _ _ _; (refine VcD.guardP rfl rfl rfl rfl rfl (fun h => ?_) (fun h => ?_) <;> first | (cases h; done) | skip))
      | (show VcD _ _ _ _ _ (.take _ _) _ _ _; first
      | refine VcD.load1 tabOk rfl rfl rfl rfl rfl rfl (by intro w_ hw_; first | exact hw_ _ _ rfl | exact hw_ 0 _ rfl) (by exact rfl) ?_
      | refine VcD.skipT rfl rfl rfl ?_)
      | (show VcD _ _ _ _ _ (.only _ _) _ _ _; first
      | (refine VcD.callF (f := F_tithingref16_Disk_writes) rfl ok_tithingref16_Disk_writes rfl rfl rfl rfl (Rets.mono (writesR_any (D := D) (wl := pls) H (by omega) (hv1 H.drop) (fun x hx => (hpd x hx).up.up.up) hpin (by omega)) ?_); rintro _ w ⟨J1, hJ1, rfl, H⟩; rw [hps, hR1] at H ⊢; have H := Holds.drop1 H; refine ⟨(by exact Holds.rdWhole (Holds.f2 H)), ?_⟩)
      | (refine VcD.callF (f := F_tithingref16_block) rfl ok_tithingref16_block rfl rfl rfl rfl (Rets.mono (blockR_any (l := headB ws) H (SlR.up (hheadR (Holds.drop H)))) ?_); rintro _ w H; obtain ⟨_, A9, c9, rfl⟩ := Holds.own_len H; refine ⟨(by exact Holds.rdWhole (Holds.f3 H)), ?_⟩)
      | (refine VcD.callF (f := F_tithingref16_Disk_writes) rfl ok_tithingref16_Disk_writes rfl rfl rfl rfl (Rets.mono (writesR_any (D := R1.1) (wl := [(((ho : Nat) : Int), ((Value.slice A9 256 c9, padB (headB ws)) : Vb))]) (Holds.re [2] (Holds.pt_own (m := 1) (sz := 2) rfl H) rfl) (by omega) (hlit (padB (headB ws)) (Holds.drop2 (Holds.pt_own (m := 1) (sz := 2) rfl H))) (hdat1 (padB (headB ws)) hpadl (SlR.up (Holds.own_toR (Holds.drop (Holds.drop2 (Holds.pt_own (m := 1) (sz := 2) rfl H)))))) (hone (padB (headB ws)) hpadl (by omega)) (by show 1 ≤ 40; omega)) ?_); rintro _ w ⟨J2, hJ2, rfl, H⟩; rw [hwl1, hR2] at H ⊢; have H := Holds.drop1 (Holds.drop1 (Holds.drop1 H)); refine ⟨(by exact Holds.rdWhole (Holds.f1 H)), ?_⟩)
      | (refine VcD.callF (f := F_tithingref16_Disk_writes) rfl ok_tithingref16_Disk_writes rfl rfl rfl rfl (Rets.mono (writesR_any (D := R2.1) (wl := wl) H (by omega) (SlR.up (hv.mono (hJ1.trans hJ2))) (fun x hx => SlR.up ((hda x hx).mono (hJ1.trans hJ2))) (fun x hx => by have := hin x hx; omega) (by omega)) ?_); rintro _ w ⟨J3, hJ3, rfl, H⟩; rw [hws, hR3] at H ⊢; refine ⟨(by exact Holds.rdWhole (Holds.f1 H)), ?_⟩)
      | (refine VcD.callF (f := F_tithingref16_block) rfl ok_tithingref16_block rfl rfl rfl rfl (Rets.mono (blockR_any (l := []) H SlR_nil) ?_); rintro _ w H; rw [padB_nil] at H; obtain ⟨_, A7, c7, rfl⟩ := Holds.own_len H; refine ⟨(by exact Holds.rdWhole (Holds.f2 H)), ?_⟩)
      | (refine VcD.callF (f := F_tithingref16_Disk_writes) rfl ok_tithingref16_Disk_writes rfl rfl rfl rfl (Rets.mono (writesR_any (D := R3.1) (wl := [(((ho : Nat) : Int), ((Value.slice A7 256 c7, zeroB) : Vb))]) (Holds.re [2] (Holds.pt_own (m := 1) (sz := 2) rfl H) rfl) (by omega) (hlit zeroB (Holds.drop2 (Holds.pt_own (m := 1) (sz := 2) rfl H))) (hdat1 zeroB zeroB_len (SlR.up (Holds.own_toR (Holds.drop (Holds.drop2 (Holds.pt_own (m := 1) (sz := 2) rfl H)))))) (hone zeroB zeroB_len (by omega)) (by show 1 ≤ 40; omega)) ?_); rintro _ w ⟨J4, hJ4, rfl, H⟩; rw [hwl1, hR4] at H ⊢; have H := Holds.drop1 (Holds.drop1 H); refine ⟨(by exact Holds.rdWhole (Holds.f1 H)), ?_⟩)
      | (refine VcD.eff rfl rfl rfl rfl (OpE.buildSliceP tabOk H rfl rfl rfl rfl) ?_; rintro _ w ⟨b_, rfl, H⟩; refine ⟨(by first | exact Holds.rdWhole (Holds.f3 H) | exact Holds.rdWhole (Holds.f4 H)), ?_⟩)
      | refine VcD.skip rfl rfl rfl (by first | exact Holds.rdWhole (Holds.f1 H) | exact Holds.rdWhole (Holds.f2 H)) ?_))
            | (show Vc _ _ _ _ _ _; first
      | refine Vc.seq ?_
      | refine Vc.region ?_
      | refine Vc.condT rfl ?_
      | refine Vc.ret ?_
      | refine Vc.skip ?_
      | refine Vc.exit ?_
      | (refine Vc.drawn (id := 17) (.pure 0 (.pure 1 (.only 2 (.pure 3 (.pure 4 (.pure 5 (.pure 6 (.pure 7 (.pure 8 (.pure 10 (.take 9 (.only 11 (.pure 12 (.only 13 (.only 14 (.pure 15 (.pure 16 (.pure 17 (.pure 18 (.pure 19 (.only 20 (.pure 21 (.pure 22 (.pure 23 (.pure 24 (.pure 25 (.pure 26 (.pure 27 (.take 28 (.only 29 (.pure 30 (.only 31 (.only 32 (.pure 33 (.pure 34 .done))))))))))))))))))))))))))))))))))) (.one (fun w => Rd w s 0 (stV d (ho : Nat) false))) mixed (by kernel_rfl) (by first | exact Holds.rdWhole (Holds.f1 (Holds.drew H _)) | exact Holds.rdWhole (Holds.f3 (Holds.drew H _)) | exact Holds.rdWhole (Holds.f4 (Holds.drew H _))) ?_; have H := H.drew (w.drawn + 1))
      | (refine Vc.cond rfl (fun h => ?_) (fun h => ?_) <;> first | (exfalso; simp only [decide_eq_true_eq, decide_eq_false_iff_not, Bool.not_eq_true', Bool.not_eq_false'] at h; omega) | (with_reducible have hp := of_decide_eq_false h) | skip))
            | (show KSeq _ _ _ _ _ _ _; first
      | refine KSeq.normal ?_
      | refine KSeq.ret ?_
      | refine KSeq.exit ?_)
            | (show KBlock _ _ _ _ _ _; refine KBlock.here ?_)
            | refine KLoop.exit ?_
            | (show KEnd _ _ _ _ _ _ _; refine KEnd.fin (Or.inr rfl) ⟨_, (ResL.tmp rfl ResL.nil), ?_⟩))
          · have r1 : R1.2 = false := by
              have h' : (!R1.2) = true := by assumption
              simpa using h'
            have e : (if R1.2 = false then R1 else if R2.2 = false then R2 else if R3.2 = false then R3 else R4) = R1 := by rw [if_pos r1]
            rw [e, r1]
            exact ⟨J1, hJ1, rfl, H.swap.drop2⟩
          · have r1 : R1.2 = true := by
              have h' : (!R1.2) = false := by assumption
              simpa using h'
            have r2 : R2.2 = false := by
              have h' : (!R2.2) = true := by assumption
              simpa using h'
            have e : (if R1.2 = false then R1 else if R2.2 = false then R2 else if R3.2 = false then R3 else R4) = R2 := by rw [if_neg (by rw [r1]; decide), if_pos r2]
            rw [e, r2]
            exact ⟨J2, (hJ1.trans hJ2), rfl, H.swap⟩
          · have r1 : R1.2 = true := by
              have h' : (!R1.2) = false := by assumption
              simpa using h'
            have r2 : R2.2 = true := by
              have h' : (!R2.2) = false := by assumption
              simpa using h'
            have r3 : R3.2 = false := by
              have h' : (!R3.2) = true := by assumption
              simpa using h'
            have e : (if R1.2 = false then R1 else if R2.2 = false then R2 else if R3.2 = false then R3 else R4) = R3 := by rw [if_neg (by rw [r1]; decide), if_neg (by rw [r2]; decide), if_pos r3]
            rw [e, r3]
            exact ⟨J3, ((hJ1.trans hJ2).trans hJ3), rfl, H.swap⟩
          · have r1 : R1.2 = true := by
              have h' : (!R1.2) = false := by assumption
              simpa using h'
            have r2 : R2.2 = true := by
              have h' : (!R2.2) = false := by assumption
              simpa using h'
            have r3 : R3.2 = true := by
              have h' : (!R3.2) = false := by assumption
              simpa using h'
            have r4 : R4.2 = false := by
              have h' : (!R4.2) = true := by assumption
              simpa using h'
            have e : (if R1.2 = false then R1 else if R2.2 = false then R2 else if R3.2 = false then R3 else R4) = R4 := by rw [if_neg (by rw [r1]; decide), if_neg (by rw [r2]; decide), if_neg (by rw [r3]; decide)]
            rw [e, r4]
            exact ⟨J4, (((hJ1.trans hJ2).trans hJ3).trans hJ4), rfl, H.swap⟩
          · have r1 : R1.2 = true := by
              have h' : (!R1.2) = false := by assumption
              simpa using h'
            have r2 : R2.2 = true := by
              have h' : (!R2.2) = false := by assumption
              simpa using h'
            have r3 : R3.2 = true := by
              have h' : (!R3.2) = false := by assumption
              simpa using h'
            have r4 : R4.2 = true := by
              have h' : (!R4.2) = false := by assumption
              simpa using h'
            have e : (if R1.2 = false then R1 else if R2.2 = false then R2 else if R3.2 = false then R3 else R4) = R4 := by rw [if_neg (by rw [r1]; decide), if_neg (by rw [r2]; decide), if_neg (by rw [r3]; decide)]
            rw [e, r4]
            exact ⟨J4, (((hJ1.trans hJ2).trans hJ3).trans hJ4), rfl, H⟩
end Go.Proofs.Ytoahfjfknljacaa.V
