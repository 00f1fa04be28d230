/- The document's store. -/
import Derived.Test.YtoahfjfknljacaaVX
namespace Go.Proofs.Ytoahfjfknljacaa.V
open Go Go.Proofs.YtoahfjfknljacaaV
set_option linter.unusedVariables false
set_option linter.unusedSimpArgs false
set_option maxHeartbeats 1000000
set_option maxRecDepth 4000
attribute [local irreducible] IntKind.wrap
variable {I : Imm} {w : World} {L : List Asn}
/-- What readers of a list and its data know. -/
structure WlR (I : Imm) (L : List Asn) (v : Value) (wl : Wl) : Prop where mk ::
  out : SlR I L v 2 wl.length (wl.flatMap wrC) ∧ ∀ x ∈ wl, SlR I L x.2.1 1 x.2.2.length (byL x.2.2)
theorem rdk_ok {J : Imm} {d : Nat} {D : Dk} (H : Holds I w (rdkA J d D :: L)) : DkOk D := by
  obtain ⟨b0, o0, cap, A2, cap2, P, rfl, hk, hcap, hf, HB⟩ := rdk_open H
  exact hk.ok
theorem writesR_any {d : Nat} {D : Dk} (H : Holds I w (rdkA I d D :: L)) (hw : D.writes + 200 < 2 ^ 40) {v : Value} {wl : Wl} (hv : SlR I L v 2 wl.length (wl.flatMap wrC)) (hda : ∀ x ∈ wl, SlR I L x.2.1 1 x.2.2.length (byL x.2.2)) (hin : ∀ x ∈ wl, 0 ≤ x.1 ∧ x.1 < D.blocks.length ∧ x.2.2.length = 256) (hlen : wl.length ≤ 40) :
    Rets Try.prog F_tithingref16_Disk_writes #[ptr d, v] w fun u w' => ∃ J, Imm.Le I J ∧ u = .bool (wsS D (wsOf wl)).2 ∧ Holds J w' (rdkA J d (wsS D (wsOf wl)).1 :: L) := by
  obtain ⟨A, cap, rfl, hcap⟩ := hv.form
  obtain ⟨ws, hws⟩ : ∃ ws, wsOf wl = ws := ⟨_, rfl⟩
  have hwl : ws.length = wl.length := by rw [← hws, wsOf_len]
  have hwa : ∀ k, k < wl.length → atD ws k = ((atD wl k).1, (atD wl k).2.2) := fun k hk => by rw [← hws]; exact wsOf_at hk
  rw [hws]
  refine ok_tithingref16_Disk_writes.rets rfl ?_
  repeat' (first
    | (show VcL _ _ _ _ _ _ _ _; first
      | refine VcL.pures tabOk rfl ?_
      | refine VcL.nil ?_)
    | (show Vc _ _ _ _ _ _; first
      | refine Vc.seq ?_
      | refine Vc.region ?_
      | refine Vc.block ?_)
    | (show KSeq _ _ _ _ _ _ _; refine KSeq.normal ?_))
  refine Vc.loopS [(0, _), (1, _)] (fun k : Nat => [(5, .int .i64 k)]) (fun k w => k ≤ wl.length ∧ ∃ J Dj, Imm.Le I J ∧ wsS D ws = wsS Dj (ws.drop k) ∧ Dj.writes ≤ D.writes + k ∧ Dj.blocks.length = D.blocks.length ∧ Holds J w (rdkA J d Dj :: L)) (fun k _ => wl.length - k) 0 ⟨rfl, trivial⟩ ⟨rfl, rfl, trivial⟩ ⟨Nat.zero_le _, I, D, Imm.Le.rfl' I, rfl, Nat.le_refl _, rfl, H⟩ ?_
  rintro k w ⟨hk, J, Dj, hJ, hwj, hwrj, hbj, H⟩
  by_cases hlt : k < wl.length
  · obtain ⟨x, hx⟩ : ∃ x, atD wl k = x := ⟨_, rfl⟩
    have hxm : x ∈ wl := hx ▸ atD_mem hlt
    have hxi := hin x hxm
    have hxd := (hda x hxm).mono hJ
    obtain ⟨bw, ow, rfl, hrw⟩ := hv.at (by omega)
    have hrx := (hrw.elem wrC_len (atD_get hlt)).mono hJ
    obtain ⟨A9, c9, hxf, _⟩ := hxd.form
    rw [hx] at hrx
    have hwx := hwa k hlt
    rw [hx] at hwx
    obtain ⟨xi, xv, dat⟩ := x
    dsimp only at hxi hxd hxf hwx
    subst hxf
    have hrx : RdW J L bw (ow + k * 2) [.int .i64 xi, .slice A9 dat.length c9] := hrx
    have hrx1 := hrx.up (A := rdkA J d Dj)
    have hdat := hxi.2.2
    have hdrop : ws.drop k = (xi, dat) :: ws.drop (k + 1) := by rw [drop_atD (by omega), hwx]
    rw [hdrop] at hwj
    have he := wrS_err (D := Dj) (k := xi) (b := dat) ⟨hxi.1, by omega, hdat⟩
    have hww := wrS_writes Dj xi dat
    have hwb := wrS_blocks Dj xi dat
    rcases he with ⟨h0, _⟩ | ⟨h0, _, hDj⟩
    ·
      repeat' (first
        | rw [h0]
        | (show VcL _ _ _ _ _ _ _ _; first
      | refine VcL.pures tabOk rfl ?_
      | refine VcL.nil ?_)
        | (show VcD _ _ _ _ _ _ _ _ _; first
      | refine VcD.pures tabOk rfl ?_
      | refine VcD.done ?_
      | (show VcD _ _ _ _ _ (.pure _ _) _ _ _; refine VcD.indexAddr tabOk rfl rfl rfl rfl rfl rfl rfl (by omega) (by omega) ?_)
      | (show VcD _ _ _ _ _ (.take _ _) _ _ _; refine VcD.load1 tabOk rfl rfl rfl rfl rfl rfl (by intro w_ hw_; first | exact hw_ _ _ rfl | exact hw_ 0 _ rfl) (by exact rfl) ?_)
      | (show VcD _ _ _ _ _ (.only _ _) _ _ _; (refine VcD.callF (f := F_tithingref16_Disk_Write) rfl ok_tithingref16_Disk_Write rfl rfl rfl rfl (Rets.mono (WriteR_any (k := xi) (l := dat) H (by omega) hxd (by omega)) ?_); rintro _ w ⟨J2, hJ2, rfl, H⟩; refine ⟨(by trivial), ?_⟩)))
        | (show Vc _ _ _ _ _ _; first
      | refine Vc.seq ?_
      | refine Vc.region ?_
      | refine Vc.condF rfl ?_
      | refine Vc.skip ?_
      | refine Vc.block ?_
      | (refine Vc.drawn (id := 4) (.pure 0 (.pure 1 (.pure 2 (.pure 6 (.pure 7 (.pure 3 (.pure 4 (.take 5 (.pure 8 (.pure 9 (.take 10 (.only 11 (.pure 12 .done))))))))))))) (.till (fun w => Rd w bw (ow + k * 2) [.int .i64 xi, .slice A9 dat.length c9]) 11 (.one (fun w => True))) mixed (by kernel_rfl) (by exact RdW.rd (by assumption) (Holds.drew H _)) ?_; have H := H.drew (w.drawn + 1))
      | (refine Vc.cond rfl (fun h => ?_) (fun h => ?_) <;> first | (exfalso; simp only [decide_eq_true_eq, decide_eq_false_iff_not, Bool.not_eq_true', Bool.not_eq_false'] at h; omega) | (with_reducible have hp := of_decide_eq_true h)))
        | (show KSeq _ _ _ _ _ _ _; refine KSeq.normal ?_)
        | (show KBlock _ _ _ _ _ _; refine KBlock.normal ?_))
      exact KLoop.again (k + 1) ⟨got_succ rfl (by omega), trivial⟩ ⟨rfl, rfl, trivial⟩ ⟨hlt, J2, (wrS Dj xi dat).1, hJ.trans hJ2, by rw [hwj, wsS_cons0 h0], by omega, by rw [hwb]; exact hbj, H⟩ (by omega)
    ·
      repeat' (first
        | rw [h0]
        | (show VcL _ _ _ _ _ _ _ _; first
      | refine VcL.pures tabOk rfl ?_
      | refine VcL.nil ?_)
        | (show VcD _ _ _ _ _ _ _ _ _; first
      | refine VcD.pures tabOk rfl ?_
      | refine VcD.done ?_
      | (show VcD _ _ _ _ _ (.pure _ _) _ _ _; refine VcD.indexAddr tabOk rfl rfl rfl rfl rfl rfl rfl (by omega) (by omega) ?_)
      | (show VcD _ _ _ _ _ (.take _ _) _ _ _; refine VcD.load1 tabOk rfl rfl rfl rfl rfl rfl (by intro w_ hw_; first | exact hw_ _ _ rfl | exact hw_ 0 _ rfl) (by exact rfl) ?_)
      | (show VcD _ _ _ _ _ (.only _ _) _ _ _; (refine VcD.callF (f := F_tithingref16_Disk_Write) rfl ok_tithingref16_Disk_Write rfl rfl rfl rfl (Rets.mono (WriteR_any (k := xi) (l := dat) H (by omega) hxd (by omega)) ?_); rintro _ w ⟨J2, hJ2, rfl, H⟩; refine ⟨(by trivial), ?_⟩)))
        | (show Vc _ _ _ _ _ _; first
      | refine Vc.seq ?_
      | refine Vc.region ?_
      | refine Vc.condT rfl ?_
      | refine Vc.ret ?_
      | refine Vc.skip ?_
      | refine Vc.block ?_
      | (refine Vc.drawn (id := 4) (.pure 0 (.pure 1 (.pure 2 (.pure 6 (.pure 7 (.pure 3 (.pure 4 (.take 5 (.pure 8 (.pure 9 (.take 10 (.only 11 (.pure 12 .done))))))))))))) (.till (fun w => Rd w bw (ow + k * 2) [.int .i64 xi, .slice A9 dat.length c9]) 11 (.one (fun w => True))) mixed (by kernel_rfl) (by exact RdW.rd (by assumption) (Holds.drew H _)) ?_; have H := H.drew (w.drawn + 1))
      | (refine Vc.cond rfl (fun h => ?_) (fun h => ?_) <;> first | (exfalso; simp only [decide_eq_true_eq, decide_eq_false_iff_not, Bool.not_eq_true', Bool.not_eq_false'] at h; omega) | (with_reducible have hp := of_decide_eq_true h)))
        | (show KSeq _ _ _ _ _ _ _; first
      | refine KSeq.normal ?_
      | refine KSeq.ret ?_)
        | (show KBlock _ _ _ _ _ _; refine KBlock.ret ?_)
        | refine KLoop.ret ?_
        | (show KEnd _ _ _ _ _ _ _; refine KEnd.fin (Or.inr rfl) ⟨_, (ResL.tmp rfl ResL.nil), ?_⟩))
      rw [hwj, wsS_cons1 h0 hDj]
      rw [hDj] at H
      exact ⟨J2, hJ.trans hJ2, rfl, H⟩
  · obtain rfl : k = wl.length := by omega
    rw [List.drop_of_length_le (by omega)] at hwj
    repeat' (first
      | (show VcL _ _ _ _ _ _ _ _; first
      | refine VcL.pures tabOk rfl ?_
      | refine VcL.nil ?_
      | (show VcL _ _ _ _ (⟨_, .call ⟨.value (.func F_tithingref16_Disk_Flush), _, _⟩, _, _, _, _⟩ :: _) _ _ _; (refine VcL.callF ok_tithingref16_Disk_Flush rfl rfl rfl rfl (Rets.mono (FlushR_any H (by omega)) ?_); rintro _ w ⟨rfl, H⟩)))
      | (show Vc _ _ _ _ _ _; first
      | refine Vc.seq ?_
      | refine Vc.region ?_
      | refine Vc.ret ?_
      | refine Vc.exit ?_
      | (refine Vc.cond rfl (fun h => ?_) (fun h => ?_) <;> first | (exfalso; simp only [decide_eq_true_eq, decide_eq_false_iff_not, Bool.not_eq_true', Bool.not_eq_false'] at h; omega) | (with_reducible have hp := of_decide_eq_false h)))
      | (show KSeq _ _ _ _ _ _ _; first
      | refine KSeq.normal ?_
      | refine KSeq.exit ?_)
      | (show KBlock _ _ _ _ _ _; refine KBlock.here ?_)
      | refine KLoop.exit ?_
      | (show KEnd _ _ _ _ _ _ _; refine KEnd.fin (Or.inr rfl) ⟨_, (ResL.tmp rfl ResL.nil), ?_⟩))
    rw [hwj]
    exact ⟨J, hJ, rfl, H⟩
end Go.Proofs.Ytoahfjfknljacaa.V
