/- The program's disk: flush and crash. -/
import Derived.Test.YtkeapkmjkmbdpaaVE
namespace Go.Proofs.Ytkeapkmjkmbdpaa.V
open Go Go.Proofs.YtkeapkmjkmbdpaaV
set_option linter.unusedVariables false
set_option linter.unusedSimpArgs false
set_option maxHeartbeats 1000000
set_option maxRecDepth 4000
attribute [local irreducible] IntKind.wrap
variable {I : Imm} {w : World} {L : List Asn}
/-- Blocks, as they lie, behind some writes. -/
def flK (bl : List Vb) (wt : List (Nat × Vb)) : List Vb := wt.foldl (fun bs x => bs.set x.1 x.2) bl
theorem flK_len (wt : List (Nat × Vb)) : ∀ bl, (flK bl wt).length = bl.length := by
  unfold flK
  induction wt with
  | nil => exact fun bl => rfl
  | cons x r ih => intro bl; rw [List.foldl_cons, ih, List.length_set]
theorem flK_succ {bl : List Vb} {wt : List (Nat × Vb)} {k : Nat} (h : k < wt.length) : flK bl (wt.take (k + 1)) = (flK bl (wt.take k)).set (atD wt k).1 (atD wt k).2 := by
  unfold flK
  rw [take_atD h, List.foldl_append]
  rfl
theorem flK_dk (wt : List (Nat × Vb)) : ∀ bl : List Vb, (flK bl wt).map (·.2) = putS (bl.map (·.2)) (wt.map fun x => (x.1, x.2.2)) := by
  unfold flK putS
  induction wt with
  | nil => exact fun bl => rfl
  | cons x r ih => intro bl; rw [List.foldl_cons, ih, List.map_cons, List.foldl_cons, List.map_set]
theorem FlushP_any {d : Nat} {D : Dk} (H : Holds I w (dskA d D :: L)) (hw : D.writes < 2 ^ 40) :
    Rets Try.prog F_journal_Disk_Flush #[ptr d] w fun u w' => u = .int .i64 (flS D).2 ∧ Holds I w' (dskA d (flS D).1 :: L) := by
  obtain ⟨b0, o0, cap, A2, cap2, P, rfl, hk, hcap, HB⟩ := dsk_open H
  clear H
  have H := HB
  clear HB
  have hst : P.dk.stop = P.stop := rfl
  have hmany := hk.many
  have hwr : P.dk.writes = P.writes := rfl
  rw [hwr] at hw
  by_cases hs0 : P.stop = 0
  · have e : flS P.dk = (P.dk, 160) := by unfold flS; rw [if_pos (hst.trans hs0)]
    rw [e]
    refine ok_journal_Disk_Flush.rets rfl ?_
    repeat' (first
      | (show VcL _ _ _ _ _ _ _ _; first
      | refine VcL.pures tabOk rfl ?_
      | refine VcL.nil ?_
      | (show VcL _ _ _ _ (⟨_, .load _ _, _, _, _, _⟩ :: _) _ _ _; refine VcL.load1 tabOk rfl rfl rfl rfl rfl (by exact Holds.cell H rfl) ?_)
      | (show VcL _ _ _ _ (⟨_, .call ⟨.value (.func F_journal_Disk_none), _, _⟩, _, _, _, _⟩ :: _) _ _ _; (refine VcL.callF ok_journal_Disk_none rfl rfl rfl rfl (Rets.mono (noneD_any H Holds.toW hk.some) ?_); rintro _ w ⟨rfl, H⟩)))
      | (show Vc _ _ _ _ _ _; first
      | refine Vc.seq ?_
      | refine Vc.region ?_
      | refine Vc.condF rfl ?_
      | refine Vc.ret ?_
      | refine Vc.block ?_
      | (refine Vc.cond rfl (fun h => ?_) (fun h => ?_) <;> first | (exfalso; simp only [decide_eq_true_eq, decide_eq_false_iff_not, Bool.not_eq_true', Bool.not_eq_false'] at h; omega) | (with_reducible have hp := of_decide_eq_true h)))
      | (show KSeq _ _ _ _ _ _ _; first
      | refine KSeq.normal ?_
      | refine KSeq.ret ?_)
      | (show KBlock _ _ _ _ _ _; refine KBlock.ret ?_)
      | (show KEnd _ _ _ _ _ _ _; refine KEnd.fin (Or.inr rfl) ⟨_, (ResL.tmp rfl ResL.nil), ?_⟩))
    exact ⟨rfl, dsk_close P rfl hk.ok H⟩
  · have e : flS P.dk = (⟨putS P.dk.blocks P.dk.wait, [], P.writes, P.stop⟩, 0) := by unfold flS; rw [if_neg (fun e => hs0 (hst.symm.trans e))]; rfl
    have hok := flS_ok hk.ok
    rw [e] at hok ⊢
    refine ok_journal_Disk_Flush.rets rfl ?_
    repeat' (first
      | (show VcL _ _ _ _ _ _ _ _; first
      | refine VcL.pures tabOk rfl ?_
      | refine VcL.nil ?_
      | (show VcL _ _ _ _ (⟨_, .load _ _, _, _, _, _⟩ :: _) _ _ _; refine VcL.load1 tabOk rfl rfl rfl rfl rfl (by exact Holds.cell H rfl) ?_)
      | (show VcL _ _ _ _ (⟨_, .call ⟨.value (.func F_journal_Disk_none), _, _⟩, _, _, _, _⟩ :: _) _ _ _; (refine VcL.callF ok_journal_Disk_none rfl rfl rfl rfl (Rets.mono (noneD_any H Holds.toW hk.some) ?_); rintro _ w ⟨rfl, H⟩)))
      | (show Vc _ _ _ _ _ _; first
      | refine Vc.seq ?_
      | refine Vc.region ?_
      | refine Vc.condF rfl ?_
      | refine Vc.skip ?_
      | refine Vc.block ?_
      | (refine Vc.cond rfl (fun h => ?_) (fun h => ?_) <;> first | (exfalso; simp only [decide_eq_true_eq, decide_eq_false_iff_not, Bool.not_eq_true', Bool.not_eq_false'] at h; omega) | (with_reducible have hp := of_decide_eq_false h)))
      | (show KSeq _ _ _ _ _ _ _; refine KSeq.normal ?_)
      | (show KBlock _ _ _ _ _ _; refine KBlock.normal ?_))
    refine Vc.loopS [(0, _), (17, _), (18, _)] (fun k : Nat => [(19, .int .i64 k)]) (fun k w => k ≤ P.wt.length ∧ Holds I w (blk d 53 (dkV P (.slice (some ⟨b0, o0, none⟩) P.bl.length cap) (.slice A2 P.wt.length cap2)) :: own (.slice (some ⟨b0, o0, none⟩) P.bl.length cap) 40 1 P.bl.length ((flK P.bl (P.wt.take k)).flatMap bkC) :: own (.slice A2 P.wt.length cap2) 43 2 P.wt.length (P.wt.flatMap wkC) :: bysA (flK P.bl (P.wt.take k) ++ (P.wt.drop k).map (·.2)) :: L)) (fun k _ => P.wt.length - k) 0 ⟨rfl, trivial⟩ ⟨rfl, rfl, rfl, trivial⟩ ⟨Nat.zero_le _, H⟩ ?_
    rintro k w ⟨hkk, H⟩
    by_cases hlt : k < P.wt.length
    · obtain ⟨z, hz⟩ : ∃ z, atD P.wt k = z := ⟨_, rfl⟩
      have hzm := hk.wt _ (atD_mem hlt)
      rw [hz] at hzm
      have hfs : flK P.bl (P.wt.take (k + 1)) = (flK P.bl (P.wt.take k)).set z.1 z.2 := by rw [flK_succ hlt, hz]
      have hdr : (P.wt.drop k).map (·.2) = z.2 :: (P.wt.drop (k + 1)).map (·.2) := by rw [drop_atD hlt, hz]; rfl
      have hgk : P.wt[k]? = some z := by rw [← hz]; exact atD_get hlt
      obtain ⟨A3, c3, hf⟩ := bys_form (x := z.2) (by rw [hdr]; simp) (H.f3)
      obtain ⟨bk, v, dat⟩ := z
      dsimp only at hf hzm hfs
      subst hf
      obtain ⟨bl2, hbl2⟩ : ∃ bl2, flK P.bl (P.wt.take k) = bl2 := ⟨_, rfl⟩
      have hlen2 : bl2.length = P.bl.length := by rw [← hbl2, flK_len]
      rw [hbl2] at H hfs
      obtain ⟨b4, o4, rfl⟩ : ∃ b4 o4, A2 = some ⟨b4, o4, none⟩ := by
        obtain ⟨b, o, c, e, _⟩ := Holds.own_some (by omega) H.f2
        injection e with e1 e2 e3
        exact ⟨b, o, e1⟩
      have hq : bl2[bk]? = some (atD bl2 bk) := atD_get (by omega)
      repeat' (first
        | (refine VcD.eff rfl rfl rfl rfl (OpE.storeOwn (f := 0) (.slice A3 dat.length c3, dat) tabOk bkC_len (Holds.f2 H) hq rfl rfl rfl (by exact rfl) (by exact rfl) (by exact rfl) (by exact rfl) (by exact rfl)) ?_; rintro _ w ⟨_, H⟩; refine ⟨⟨Holds.rdWhole (Holds.f2 H), Holds.rdWhole (Holds.f1 H)⟩, ?_⟩)
        | (show VcL _ _ _ _ _ _ _ _; first
      | refine VcL.pures tabOk rfl ?_
      | refine VcL.nil ?_
      | (show VcL _ _ _ _ (⟨_, .load _ _, _, _, _, _⟩ :: _) _ _ _; refine VcL.loadOwnN0 tabOk rfl rfl rfl rfl rfl rfl (Holds.f2 H) (fun _ => rfl) (by assumption) (by exact rfl) (by exact rfl) (by exact rfl) ?_)
      | (show VcL _ _ _ _ (⟨_, .indexAddr _ _ _, _, _, _, _⟩ :: _) _ _ _; refine VcL.indexAddr tabOk rfl rfl rfl rfl rfl rfl (by omega) (by omega) ?_)
      | refine VcL.alloc tabOk H rfl rfl rfl rfl (fun b w H => ?_)
      | (show VcL _ _ _ _ (⟨_, .store _ _ _, _, _, _, _⟩ :: _) _ _ _; refine VcL.store tabOk rfl (by exact H) rfl rfl (by exact rfl) (by exact rfl) (by exact rfl) (by exact rfl) (fun w H => ?_)))
        | (show VcD _ _ _ _ _ _ _ _ _; first
      | refine VcD.pures tabOk rfl ?_
      | refine VcD.done ?_
      | (show VcD _ _ _ _ _ (.pure _ _) _ _ _; refine VcD.indexAddr tabOk rfl rfl rfl rfl rfl rfl rfl (by omega) (by omega) ?_)
      | (show VcD _ _ _ _ _ (.take _ _) _ _ _; refine VcD.load1 tabOk rfl rfl rfl rfl rfl rfl (by intro w_ hw_; first | exact hw_.1 0 _ rfl | exact hw_.2 _ _ rfl | exact hw_.2 0 _ rfl) (by exact rfl) ?_))
        | (show Vc _ _ _ _ _ _; first
      | refine Vc.seq ?_
      | refine Vc.region ?_
      | refine Vc.skip ?_
      | refine Vc.block ?_
      | (refine Vc.drawn (id := 8) (.pure 0 (.pure 1 (.pure 2 (.pure 4 (.pure 6 (.take 3 (.take 5 (.take 7 (.pure 8 (.only 9 .done)))))))))) (.one (fun w => Rd w d 0 (dkV P (.slice (some ⟨b0, o0, none⟩) P.bl.length cap) (.slice (some ⟨b4, o4, none⟩) P.wt.length cap2)) ∧ Rd w b 0 [.int .i64 (bk : Int), .slice A3 dat.length c3])) mixed (by kernel_rfl) (by (refine ⟨?_, ?_⟩ <;> first | exact Holds.rdWhole (Holds.drew H _) | exact Holds.rdWhole (Holds.f1 (Holds.drew H _)))) ?_; have H := H.drew (w.drawn + 1))
      | (refine Vc.cond rfl (fun h => ?_) (fun h => ?_) <;> first | (exfalso; simp only [decide_eq_true_eq, decide_eq_false_iff_not, Bool.not_eq_true', Bool.not_eq_false'] at h; omega) | (with_reducible have hp := of_decide_eq_true h)))
        | (show KSeq _ _ _ _ _ _ _; refine KSeq.normal ?_)
        | (show KBlock _ _ _ _ _ _; refine KBlock.normal ?_))
      have H2 := Holds.re [3, 1, 0, 0] (Holds.drop1 H) rfl
      rw [hdr] at H2
      have H3 := (bys_move (i := bk) (by omega) H2).re [1, 1, 1, 0] rfl
      refine KLoop.again (k + 1) ⟨got_succ rfl (by omega), trivial⟩ ⟨rfl, rfl, rfl, trivial⟩ ⟨hlt, ?_⟩ (by omega)
      rw [hfs]
      exact H3
    ·
      obtain rfl : k = P.wt.length := by omega
      repeat' (first
        | (show VcL _ _ _ _ _ _ _ _; first
      | refine VcL.pures tabOk rfl ?_
      | refine VcL.nil ?_
      | (show VcL _ _ _ _ (⟨_, .store _ _ _, _, _, _, _⟩ :: _) _ _ _; refine VcL.store tabOk rfl (by exact H) rfl rfl (by exact rfl) (by exact rfl) (by exact rfl) (by exact rfl) (fun w H => ?_)))
        | (show Vc _ _ _ _ _ _; first
      | refine Vc.seq ?_
      | refine Vc.region ?_
      | refine Vc.ret ?_
      | refine Vc.exit ?_
      | (refine Vc.cond rfl (fun h => ?_) (fun h => ?_) <;> first | (exfalso; simp only [decide_eq_true_eq, decide_eq_false_iff_not, Bool.not_eq_true', Bool.not_eq_false'] at h; omega) | (with_reducible have hp := of_decide_eq_false h)))
        | (show KSeq _ _ _ _ _ _ _; first
      | refine KSeq.normal ?_
      | refine KSeq.exit ?_)
        | (show KBlock _ _ _ _ _ _; refine KBlock.here ?_)
        | refine KLoop.exit ?_
        | (show KEnd _ _ _ _ _ _ _; refine KEnd.fin (Or.inr rfl) ⟨_, (ResL.tmp rfl ResL.nil), ?_⟩))
      refine ⟨rfl, dsk_close (bv := .slice (some ⟨b0, o0, none⟩) P.bl.length cap) (wv := .slice none 0 0) ⟨flK P.bl P.wt, [], P.writes, P.stop⟩ ?_ hok ?_⟩
      · unfold Kd.dk; rw [flK_dk]; rfl
      · rw [List.take_length, List.drop_length] at H
        have H2 := H.drop2.own_nil (e := 43) (sz := 2)
        have H3 := H2.re [1, 1, 0, 0] rfl
        show Holds I w (blk d _ [_, _, _, _] :: own _ _ _ (flK P.bl P.wt).length _ :: _ :: bysA (flK P.bl P.wt ++ []) :: L)
        rw [flK_len]
        exact H3
end Go.Proofs.Ytkeapkmjkmbdpaa.V
