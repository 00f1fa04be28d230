/- Disks are copied. -/
import Derived.Test.YtoahfjfknljacaaVMM
namespace Go.Proofs.Ytoahfjfknljacaa.V
open Go Go.Proofs.YtoahfjfknljacaaV
set_option linter.unusedVariables false
set_option linter.unusedSimpArgs false
set_option maxHeartbeats 1000000
set_option maxRecDepth 4000
attribute [local irreducible] IntKind.wrap
variable {I : Imm} {w : World} {L : List Asn}
theorem bys_join {xs ys : List Vb} : ∀ {L : List Asn}, Holds I w (bysA xs :: bysA ys :: L) → Holds I w (bysA (xs ++ ys) :: L) := by
  induction xs with
  | nil => exact fun H => H.drop
  | cons x r ih =>
    intro L H
    have H1 := bys_cons.1 H
    exact bys_cons.2 (Holds.swap (ih (Holds.re [1, 1, 0] H1 rfl)))
theorem CopyP_any {d : Nat} {D : Dk} (H : Holds I w (dskA d D :: L)) (hw : D.writes < 2 ^ 40) :
    Rets Try.prog F_journal_Disk_Copy #[ptr d] w fun u w' => ∃ c, u = ptr c ∧ Holds I w' (dskA c D :: dskA d D :: L) := by
  obtain ⟨b1, o1, cap1, A2, cap2, P, rfl, hk, hcap, HB⟩ := dsk_open H
  clear H
  have H := HB
  clear HB
  have hwr : P.dk.writes = P.writes := rfl
  rw [hwr] at hw
  have hmany := hk.many
  have hfew := hk.few
  have d1 := fun (x : Vb) (hx : x ∈ P.all) => SlR.via H (fun _ H => Holds.re [3] H rfl) (bys_rd hx (Holds.re [3] H rfl))
  refine ok_journal_Disk_Copy.rets rfl ?_
  repeat' (first
    | (show VcL _ _ _ _ _ _ _ _; first
      | refine VcL.pures tabOk rfl ?_
      | refine VcL.nil ?_
      | (show VcL _ _ _ _ (⟨_, .load _ _, _, _, _, _⟩ :: _) _ _ _; refine VcL.load1 tabOk rfl rfl rfl rfl rfl (by exact Holds.cell (Holds.f1 H) rfl) ?_)
      | (show VcL _ _ _ _ (⟨_, .call ⟨.value (.func F_journal_Disk_none), _, _⟩, _, _, _, _⟩ :: _) _ _ _; (refine VcL.callF ok_journal_Disk_none rfl rfl rfl rfl (Rets.mono (noneD_any H Holds.toW hk.some) ?_); rintro _ w ⟨rfl, H⟩)))
    | (show VcD _ _ _ _ _ _ _ _ _; first
      | refine VcD.pures tabOk rfl ?_
      | refine VcD.done ?_
      | (show VcD _ _ _ _ _ (.take _ _) _ _ _; refine VcD.load1 tabOk rfl rfl rfl rfl rfl rfl (by intro w_ hw_; exact Holds.cell hw_ rfl) (by exact rfl) ?_)
      | (show VcD _ _ _ _ _ (.only _ _) _ _ _; (refine VcD.eff rfl rfl rfl rfl (OpE.box H rfl rfl rfl) ?_; rintro _ w ⟨b, rfl, H⟩; refine ⟨(by exact Holds.drop H), ?_⟩)))
    | (show Vc _ _ _ _ _ _; first
      | refine Vc.seq ?_
      | refine Vc.region ?_
      | refine Vc.condF rfl ?_
      | refine Vc.skip ?_
      | refine Vc.block ?_
      | refine Vc.drawnH (id := 3) H (.pure 0 (.pure 1 (.pure 2 (.pure 4 (.pure 5 (.pure 6 (.take 3 (.take 7 (.pure 8 (.only 9 (.pure 10 .done))))))))))) mixed (by kernel_rfl) (fun w H => ?_))
    | (show KSeq _ _ _ _ _ _ _; refine KSeq.normal ?_))
  obtain ⟨c, rfl⟩ : ∃ c, c = b := ⟨b, rfl⟩
  refine Vc.loopS [(0, _), (3, _), (23, _), (24, _)] (fun k : Nat => [(25, .int .i64 k)]) (fun k w => k ≤ P.bl.length ∧ ∃ (bl : List Vb) (bv : Value), snds bl = (snds P.bl).take k ∧ Holds I w (blk c 76 [bv, .slice none 0 0, .int .i64 (P.writes : Nat), .int .i64 P.stop] :: own bv 22 1 k (bl.flatMap bkC) :: bysA bl :: blk d 76 (dkV P (.slice (some ⟨b1, o1, none⟩) P.bl.length cap1) (.slice A2 P.wt.length cap2)) :: own (.slice (some ⟨b1, o1, none⟩) P.bl.length cap1) 22 1 P.bl.length (P.bl.flatMap bkC) :: own (.slice A2 P.wt.length cap2) 86 2 P.wt.length (P.wt.flatMap wkC) :: bysA P.all :: L)) (fun k _ => P.bl.length - k) 0 ⟨rfl, trivial⟩ ⟨rfl, rfl, rfl, rfl, trivial⟩ ⟨Nat.zero_le _, [], .slice none 0 0, rfl, (bys_nil.2 H).own_nil.re [2, 0, 0] rfl⟩ ?_
  clear H
  rintro k w ⟨hk1, bl, bv, hbl, H⟩
  have hlenB : bl.length = k := by have := congrArg List.length hbl; simp only [List.length_map, List.length_take] at this; omega
  obtain ⟨_, A1, c1, rfl⟩ := Holds.own_len H.f1
  by_cases hlt : k < P.bl.length
  · have hq : P.bl[k]? = some (atD P.bl k) := atD_get hlt
    have hmem := atD_mem hlt
    have htk : (snds P.bl).take (k + 1) = (snds P.bl).take k ++ [(atD P.bl k).2] := by
      rw [take_atD (by rw [List.length_map]; exact hlt)]
      congr 2
      exact atD_of (by rw [List.getElem?_map, hq]; rfl)
    obtain ⟨x, hx⟩ : ∃ x, atD P.bl k = x := ⟨_, rfl⟩
    rw [hx] at hq hmem htk
    have h256 := hk.bl x hmem
    have hd := d1 x (List.mem_append_left _ hmem)
    obtain ⟨xv, xd⟩ := x
    dsimp only at h256 hd htk
    obtain ⟨A5, c5, rfl, hc5⟩ := hd.form
    repeat' (first
      | (refine VcD.append tabOk rfl rfl rfl rfl rfl (Holds.f3 H) (Src.slice rfl (Holds.pt_rd H)) (bk_one (.slice A6 xd.length c6, []) rfl) (by show (_ + 1) * 24 ≤ _; omega) rfl rfl rfl (fun v_ w H => ⟨Holds.rdWhole (Holds.f3 H), ?_⟩); obtain ⟨_, A7, c7, rfl⟩ := Holds.own_len H)
      | (show VcL _ _ _ _ _ _ _ _; first
      | refine VcL.pures tabOk rfl ?_
      | refine VcL.nil ?_
      | (show VcL _ _ _ _ (⟨_, .load _ _, _, _, _, _⟩ :: _) _ _ _; refine VcL.load1 tabOk rfl rfl rfl rfl rfl (by exact Holds.ownCell0 (Holds.f4 H) (fun _ => rfl) (by assumption) rfl) ?_)
      | (show VcL _ _ _ _ (⟨_, .indexAddr _ _ _, _, _, _, _⟩ :: _) _ _ _; refine VcL.indexAddr tabOk rfl rfl rfl rfl rfl rfl (by omega) (by omega) ?_))
      | (show VcD _ _ _ _ _ _ _ _ _; first
      | refine VcD.pures tabOk rfl ?_
      | refine VcD.done ?_
      | (show VcD _ _ _ _ _ (.take _ _) _ _ _; refine VcD.load1 tabOk rfl rfl rfl rfl rfl rfl (by intro w_ hw_; exact hw_ 0 _ rfl) (by exact rfl) ?_)
      | (show VcD _ _ _ _ _ (.only _ _) _ _ _; first
      | (refine VcD.callF (f := F_slices_Clone_byte_byte) rfl ok_slices_Clone_byte_byte rfl rfl rfl rfl (Rets.mono (CloneB_any H hd.up.up.up (by_one xd) (by omega)) ?_); rintro _ w H; obtain ⟨_, A6, c6, rfl⟩ := Holds.own_len H; refine ⟨(by exact Holds.rdWhole (Holds.f1 H)), ?_⟩)
      | (refine VcD.eff rfl rfl rfl rfl (OpE.buildSliceP tabOk H rfl rfl rfl rfl) ?_; rintro _ w ⟨b_, rfl, H⟩; refine ⟨(by exact Holds.rdWhole (Holds.f2 H)), ?_⟩)
      | (refine VcD.eff rfl rfl rfl rfl (OpE.store tabOk (by exact (Holds.f3 H)) rfl rfl rfl (by exact rfl) (by exact rfl) (by exact rfl) (by exact rfl)) ?_; rintro _ w ⟨_, H⟩; refine ⟨(by trivial), ?_⟩)))
      | (show Vc _ _ _ _ _ _; first
      | refine Vc.seq ?_
      | refine Vc.region ?_
      | refine Vc.skip ?_
      | refine Vc.block ?_
      | (refine Vc.drawn (id := 7) (.pure 0 (.pure 1 (.pure 2 (.pure 3 (.pure 5 (.take 4 (.only 6 (.only 7 (.only 8 (.pure 9 (.pure 10 (.only 11 .done)))))))))))) (.till (fun w => Rd w c 0 [.slice A1 k c1, .slice none 0 0, .int .i64 (P.writes : Nat), .int .i64 P.stop]) 11 (.one (fun w => True))) mixed (by kernel_rfl) (by exact Holds.rdWhole (Holds.drew H _)) ?_; have H := H.drew (w.drawn + 1))
      | (refine Vc.cond rfl (fun h => ?_) (fun h => ?_) <;> first | (exfalso; simp only [decide_eq_true_eq, decide_eq_false_iff_not, Bool.not_eq_true', Bool.not_eq_false'] at h; omega) | (with_reducible have hp := of_decide_eq_true h)))
      | (show KSeq _ _ _ _ _ _ _; refine KSeq.normal ?_)
      | (show KBlock _ _ _ _ _ _; refine KBlock.normal ?_))
    refine KLoop.again (k + 1) ⟨got_succ rfl (by omega), trivial⟩ ⟨rfl, rfl, rfl, rfl, trivial⟩ ⟨hlt, bl ++ [(.slice A6 xd.length c6, xd)], .slice A7 (k + 1) c7, ?_, ?_⟩ (by omega)
    · rw [htk, ← hbl]; unfold snds; rw [List.map_append]; rfl
    · rw [flat_snoc]
      have H3 := bys_snoc (y := (.slice A6 xd.length c6, xd)) (Holds.re [2, 2, 0, 0] (Holds.drop2 H) rfl)
      exact Holds.re [1, 1, 0] H3 rfl
  · obtain rfl : k = P.bl.length := by omega
    rw [List.take_of_length_le (by rw [List.length_map]; exact Nat.le_refl _)] at hbl
    repeat' (first
      | (show VcL _ _ _ _ _ _ _ _; first
      | refine VcL.pures tabOk rfl ?_
      | refine VcL.nil ?_
      | (show VcL _ _ _ _ (⟨_, .load _ _, _, _, _, _⟩ :: _) _ _ _; refine VcL.load1 tabOk rfl rfl rfl rfl rfl (by exact Holds.cell (Holds.f3 H) rfl) ?_))
      | (show Vc _ _ _ _ _ _; first
      | refine Vc.seq ?_
      | refine Vc.region ?_
      | refine Vc.block ?_
      | refine Vc.exit ?_
      | (refine Vc.cond rfl (fun h => ?_) (fun h => ?_) <;> first | (exfalso; simp only [decide_eq_true_eq, decide_eq_false_iff_not, Bool.not_eq_true', Bool.not_eq_false'] at h; omega) | (with_reducible have hp := of_decide_eq_false h)))
      | (show KSeq _ _ _ _ _ _ _; first
      | refine KSeq.normal ?_
      | refine KSeq.exit ?_)
      | (show KBlock _ _ _ _ _ _; refine KBlock.here ?_)
      | refine KLoop.exit ?_)
    have H := Holds.re [7, 2, 1, 0] (bys_nil.2 (H.own_nil (e := 86) (sz := 2))) rfl
    refine Vc.loopS [(3, _), (44, _), (45, _)] (fun k : Nat => [(46, .int .i64 k)]) (fun k w => k ≤ P.wt.length ∧ ∃ (wl : List (Nat × Vb)) (wv : Value), prs wl = (prs P.wt).take k ∧ Holds I w (own (.slice A2 P.wt.length cap2) 86 2 P.wt.length (P.wt.flatMap wkC) :: blk c 76 [.slice A1 P.bl.length c1, wv, .int .i64 (P.writes : Nat), .int .i64 P.stop] :: own wv 86 2 k (wl.flatMap wkC) :: bysA (wl.map (·.2)) :: own (.slice A1 P.bl.length c1) 22 1 P.bl.length (bl.flatMap bkC) :: bysA bl :: blk d 76 (dkV P (.slice (some ⟨b1, o1, none⟩) P.bl.length cap1) (.slice A2 P.wt.length cap2)) :: own (.slice (some ⟨b1, o1, none⟩) P.bl.length cap1) 22 1 P.bl.length (P.bl.flatMap bkC) :: bysA P.all :: L)) (fun k _ => P.wt.length - k) 0 ⟨rfl, trivial⟩ ⟨rfl, rfl, rfl, trivial⟩ ⟨Nat.zero_le _, [], .slice none 0 0, rfl, H⟩ ?_
    clear H
    rintro k w ⟨hk1, wl, wv, hwl, H⟩
    have hlen : wl.length = k := by have := congrArg List.length hwl; simp only [List.length_map, List.length_take] at this; omega
    obtain ⟨_, A8, c8, rfl⟩ := Holds.own_len H.f2
    by_cases hlt : k < P.wt.length
    · have hq : P.wt[k]? = some (atD P.wt k) := atD_get hlt
      have hmem := atD_mem hlt
      have htk : (prs P.wt).take (k + 1) = (prs P.wt).take k ++ [((atD P.wt k).1, (atD P.wt k).2.2)] := by
        rw [take_atD (by rw [List.length_map]; exact hlt)]
        congr 2
        exact atD_of (by rw [List.getElem?_map, hq]; rfl)
      obtain ⟨x, hx⟩ : ∃ x, atD P.wt k = x := ⟨_, rfl⟩
      rw [hx] at hq hmem htk
      have h256 := (hk.wt x hmem).2
      have hd := SlR.via H (fun _ H => Holds.drop4 (Holds.drop4 (Holds.drop4 (Holds.drop4 (Holds.drop4 (Holds.re [6, 6, 0, 5] H rfl)))))) (d1 x.2 (List.mem_append_right _ (List.mem_map_of_mem hmem)))
      obtain ⟨n, xv, xd⟩ := x
      dsimp only at h256 hd htk
      obtain ⟨A5, c5, rfl, hc5⟩ := hd.form
      obtain ⟨b4, o4, rfl⟩ : ∃ b4 o4, A2 = some ⟨b4, o4, none⟩ := by
        obtain ⟨b, o, c, e, _⟩ := Holds.own_some (by omega) H
        injection e with e1 e2 e3
        exact ⟨b, o, e1⟩
      repeat' (first
        | (refine VcD.append tabOk rfl rfl rfl rfl rfl (Holds.f5 H) (Src.slice rfl (Holds.pt_rd H)) (wk_one (n, .slice A6 xd.length c6, []) rfl) (by show (_ + 1) * 32 ≤ _; omega) rfl rfl rfl (fun v_ w H => ⟨⟨Holds.rdWhole (Holds.f5 H), Holds.rdWhole (Holds.f3 H)⟩, ?_⟩); obtain ⟨_, A7, c7, rfl⟩ := Holds.own_len H)
        | (show VcL _ _ _ _ _ _ _ _; first
      | refine VcL.pures tabOk rfl ?_
      | refine VcL.nil ?_
      | (show VcL _ _ _ _ (⟨_, .load _ _, _, _, _, _⟩ :: _) _ _ _; refine VcL.loadOwnN0 tabOk rfl rfl rfl rfl rfl rfl H (fun _ => rfl) (by assumption) (by exact rfl) (by exact rfl) (by exact rfl) ?_)
      | (show VcL _ _ _ _ (⟨_, .indexAddr _ _ _, _, _, _, _⟩ :: _) _ _ _; refine VcL.indexAddr tabOk rfl rfl rfl rfl rfl rfl (by omega) (by omega) ?_)
      | refine VcL.alloc tabOk H rfl rfl rfl rfl (fun b w H => ?_)
      | (show VcL _ _ _ _ (⟨_, .store _ _ _, _, _, _, _⟩ :: _) _ _ _; refine VcL.store tabOk rfl (by exact H) rfl rfl (by exact rfl) (by exact rfl) (by exact rfl) (by exact rfl) (fun w H => ?_)))
        | (show VcD _ _ _ _ _ _ _ _ _; first
      | refine VcD.pures tabOk rfl ?_
      | refine VcD.done ?_
      | (show VcD _ _ _ _ _ (.take _ _) _ _ _; refine VcD.load1 tabOk rfl rfl rfl rfl rfl rfl (by intro w_ hw_; first | exact hw_.1 _ _ rfl | exact hw_.2 _ _ rfl | exact hw_.2 0 _ rfl) (by exact rfl) ?_)
      | (show VcD _ _ _ _ _ (.only _ _) _ _ _; first
      | (refine VcD.callF (f := F_slices_Clone_byte_byte) rfl ok_slices_Clone_byte_byte rfl rfl rfl rfl (Rets.mono (CloneB_any H hd.up (by_one xd) (by omega)) ?_); rintro _ w H; obtain ⟨_, A6, c6, rfl⟩ := Holds.own_len H; refine ⟨(by (refine ⟨?_, ?_⟩ <;> first | exact Holds.rdWhole (Holds.f1 H) | exact Holds.rdWhole (Holds.f3 H))), ?_⟩)
      | (refine VcD.eff rfl rfl rfl rfl (OpE.buildSliceP tabOk H rfl rfl rfl rfl) ?_; rintro _ w ⟨b_, rfl, H⟩; refine ⟨(by (refine ⟨?_, ?_⟩ <;> first | exact Holds.rdWhole (Holds.f2 H) | exact Holds.rdWhole (Holds.f4 H))), ?_⟩)
      | (refine VcD.eff rfl rfl rfl rfl (OpE.store tabOk (by exact (Holds.f5 H)) rfl rfl rfl (by exact rfl) (by exact rfl) (by exact rfl) (by exact rfl)) ?_; rintro _ w ⟨_, H⟩; refine ⟨(by trivial), ?_⟩)))
        | (show Vc _ _ _ _ _ _; first
      | refine Vc.seq ?_
      | refine Vc.region ?_
      | refine Vc.skip ?_
      | refine Vc.block ?_
      | (refine Vc.drawn (id := 12) (.pure 0 (.pure 1 (.pure 2 (.pure 3 (.pure 5 (.pure 7 (.take 4 (.take 6 (.take 8 (.only 9 (.pure 10 (.only 11 (.only 12 (.pure 13 (.pure 14 (.only 15 .done)))))))))))))))) (.till (fun w => Rd w c 0 [.slice A1 P.bl.length c1, .slice A8 k c8, .int .i64 (P.writes : Nat), .int .i64 P.stop] ∧ Rd w b 0 [.int .i64 (n : Nat), .slice A5 xd.length c5]) 15 (.one (fun w => True))) mixed (by kernel_rfl) (by (refine ⟨?_, ?_⟩ <;> first | exact Holds.rdWhole (Holds.drew H _) | exact Holds.rdWhole (Holds.f2 (Holds.drew H _)))) ?_; have H := H.drew (w.drawn + 1))
      | (refine Vc.cond rfl (fun h => ?_) (fun h => ?_) <;> first | (exfalso; simp only [decide_eq_true_eq, decide_eq_false_iff_not, Bool.not_eq_true', Bool.not_eq_false'] at h; omega) | (with_reducible have hp := of_decide_eq_true h)))
        | (show KSeq _ _ _ _ _ _ _; refine KSeq.normal ?_)
        | (show KBlock _ _ _ _ _ _; refine KBlock.normal ?_))
      refine KLoop.again (k + 1) ⟨got_succ rfl (by omega), trivial⟩ ⟨rfl, rfl, rfl, trivial⟩ ⟨hlt, wl ++ [(n, .slice A6 xd.length c6, xd)], .slice A7 (k + 1) c7, ?_, ?_⟩ (by omega)
      · rw [htk, ← hwl]; unfold prs; rw [List.map_append]; rfl
      · rw [flat_snoc, List.map_append]
        have H3 := bys_snoc (y := (.slice A6 xd.length c6, xd)) (Holds.re [2, 3] (Holds.drop3 (Holds.drop2 H)) rfl)
        exact Holds.re [3, 1, 1, 0] H3 rfl
    · obtain rfl : k = P.wt.length := by omega
      rw [List.take_of_length_le (by rw [List.length_map]; exact Nat.le_refl _)] at hwl
      repeat' (first
        | (show VcL _ _ _ _ _ _ _ _; first
      | refine VcL.pures tabOk rfl ?_
      | refine VcL.nil ?_)
        | (show Vc _ _ _ _ _ _; first
      | refine Vc.seq ?_
      | refine Vc.region ?_
      | refine Vc.ret ?_
      | refine Vc.exit ?_
      | (refine Vc.cond rfl (fun h => ?_) (fun h => ?_) <;> first | (exfalso; simp only [decide_eq_true_eq, decide_eq_false_iff_not, Bool.not_eq_true', Bool.not_eq_false'] at h; omega) | (with_reducible have hp := of_decide_eq_false h)))
        | (show KSeq _ _ _ _ _ _ _; first
      | refine KSeq.normal ?_
      | refine KSeq.exit ?_)
        | (show KBlock _ _ _ _ _ _; refine KBlock.here ?_)
        | refine KLoop.exit ?_
        | (show KEnd _ _ _ _ _ _ _; refine KEnd.fin (Or.inr rfl) ⟨_, (ResL.tmp rfl ResL.nil), ?_⟩))
      refine ⟨c, rfl, ?_⟩
      have H1 := dsk_close (d := d) P rfl hk.ok (Holds.re [6, 6, 0, 5] H rfl)
      have H2 := Holds.re [2, 3, 2, 0] (bys_join (Holds.re [5, 3] H1 rfl)) rfl
      exact dsk_close (d := c) ⟨bl, wl, P.writes, P.stop⟩ (by unfold Kd.dk; show (⟨snds bl, prs wl, _, _⟩ : Dk) = _; rw [hbl, hwl]) hk.ok (by
        show Holds I w (blk c _ [_, _, _, _] :: own _ _ _ bl.length _ :: own _ _ _ wl.length _ :: bysA (bl ++ wl.map (·.2)) :: _)
        rw [hlenB, hlen]
        exact H2)
theorem own0 {b e sz : Nat} {x : List Value} (H : Holds I w (Go.Proofs.YtoahfjfknljacaaV.pt b (.cells (repL 0 x).toArray e (0, 0)) :: L)) : Holds I w (own (.slice (some ⟨b, 0, none⟩) 0 0) e sz 0 [] :: L) := by
  have H2 := Holds.pt_own (sz := sz) (m := 0) (by rw [repL_length, Nat.zero_mul, Nat.zero_mul]) H
  have e : repL 0 x = [] := List.eq_nil_of_length_eq_zero (by rw [repL_length, Nat.zero_mul])
  rw [e] at H2
  exact H2
theorem CopyR_any {d : Nat} {D : Dk} (H : Holds I w (rdkA I d D :: L)) (hw : D.writes < 2 ^ 40) :
    Rets Try.prog F_tithingref16_Disk_Copy #[ptr d] w fun u w' => ∃ c, u = ptr c ∧ Holds I w' (rdkA I c D :: rdkA I d D :: L) := by
  obtain ⟨b1, o1, cap1, A2, cap2, P, rfl, hk, hcap, hf, HB⟩ := rdk_open H
  clear H
  have H := HB
  clear HB
  have hwr : P.dk.writes = P.writes := rfl
  rw [hwr] at hw
  have hmany := hk.many
  have hfew := hk.few
  have s1 := SlR.via H (fun _ H => Holds.re [1] H rfl) (Holds.own_toR (Holds.re [1] H rfl))
  have s2 := SlR.via H (fun _ H => Holds.re [2] H rfl) (Holds.own_toR (Holds.re [2] H rfl))
  have hb1 : ∀ u ∈ P.bl.flatMap bkC, oneC u = true := fun u hu => by
    obtain ⟨x, hx, hu⟩ := List.mem_flatMap.1 hu
    obtain ⟨A, c, e, _⟩ := (hf x (List.mem_append_left _ hx)).form
    exact bk_one x e u hu
  have hb2 : ∀ u ∈ P.wt.flatMap wkC, oneC u = true := fun u hu => by
    obtain ⟨x, hx, hu⟩ := List.mem_flatMap.1 hu
    obtain ⟨A, c, e, _⟩ := (hf x.2 (List.mem_append_right _ (List.mem_map_of_mem hx))).form
    exact wk_one x e u hu
  have fin : ∀ {w : World} {c A7 c7 A8 c8}, Holds I w (blk c 88 [.slice A7 (0 + P.bl.length) c7, .slice A8 (0 + P.wt.length) c8, .int .i64 P.stop, .int .i64 (P.writes : Nat)] :: own (.slice A8 (0 + P.wt.length) c8) 86 2 (0 + P.wt.length) ([] ++ P.wt.flatMap wkC) :: own (.slice A7 (0 + P.bl.length) c7) 22 1 (0 + P.bl.length) ([] ++ P.bl.flatMap bkC) :: blk d 88 (rkV P (.slice (some ⟨b1, o1, none⟩) P.bl.length cap1) (.slice A2 P.wt.length cap2)) :: own (.slice (some ⟨b1, o1, none⟩) P.bl.length cap1) 22 1 P.bl.length (P.bl.flatMap bkC) :: own (.slice A2 P.wt.length cap2) 86 2 P.wt.length (P.wt.flatMap wkC) :: L) → ∃ e, ptr c = ptr e ∧ Holds I w (rdkA I e P.dk :: rdkA I d P.dk :: L) := fun {w c A7 c7 A8 c8} H => by
    simp only [Nat.zero_add, List.nil_append] at H
    have H1 := rdk_close (d := c) P rfl hk.ok hf (Holds.re [0, 1, 0] H rfl)
    exact ⟨c, rfl, Holds.swap (rdk_close (d := d) P rfl hk.ok hf (Holds.re [1, 1, 1] H1 rfl))⟩
  have hl1 : (0 + P.bl.length) * 24 ≤ 2 ^ 46 := by omega
  have hl2 : (0 + P.wt.length) * 32 ≤ 2 ^ 46 := by omega
  refine ok_tithingref16_Disk_Copy.rets rfl ?_
  repeat' (first
    | (refine EfO.eff rfl rfl rfl rfl (OpE.buildSliceP (e := 22) tabOk H rfl rfl rfl rfl) ?_; rintro _ w ⟨b_, rfl, H⟩; refine ⟨(by exact Holds.drop H), ?_⟩; have H := own0 (sz := 1) H)
    | (refine VcD.eff rfl rfl rfl rfl (OpE.buildSliceP (e := 22) tabOk H rfl rfl rfl rfl) ?_; rintro _ w ⟨b_, rfl, H⟩; refine ⟨(by exact Holds.drop (Holds.drop H)), ?_⟩; have H := own0 (sz := 1) H)
    | (refine EfO.eff rfl rfl rfl rfl (OpE.buildSliceP (e := 86) tabOk H rfl rfl rfl rfl) ?_; rintro _ w ⟨b_, rfl, H⟩; refine ⟨(by first | exact Holds.drop H | exact Holds.drop (Holds.drop H)), ?_⟩; have H := own0 (sz := 2) H)
    | (show VcL _ _ _ _ _ _ _ _; first
      | refine VcL.pures tabOk rfl ?_
      | refine VcL.nil ?_)
    | (show VcD _ _ _ _ _ _ _ _ _; first
      | refine VcD.pures tabOk rfl ?_
      | (show VcD _ _ _ _ _ (.take _ _) _ _ _; refine VcD.load1 tabOk rfl rfl rfl rfl rfl rfl (by intro w_ hw_; exact Holds.cell hw_ rfl) (by exact rfl) ?_)
      | (show VcD _ _ _ _ _ (.two _ _ _ _) _ _ _; refine VcD.two ?_ ?_))
    | (show Vc _ _ _ _ _ _; first
      | refine Vc.seq ?_
      | refine Vc.region ?_
      | refine Vc.drawnH (id := 1) H (.pure 1 (.pure 2 (.pure 3 (.pure 7 (.pure 8 (.pure 9 (.pure 12 (.pure 13 (.pure 14 (.pure 16 (.pure 17 (.pure 18 (.take 4 (.take 10 (.take 15 (.take 19 (.two 0 6 (.two 5 6 (.only 6 (.only 11 (.pure 20 (.only 21 (.pure 22 .done))))) (.only 5 (.only 11 (.pure 20 (.only 21 (.pure 22 .done)))))) (.only 0 (.only 5 (.only 11 (.pure 20 (.only 21 (.pure 22 .done))))))))))))))))))))))) mixed (by kernel_rfl) (fun w H => ?_))
    | (show KSeq _ _ _ _ _ _ _; refine KSeq.normal ?_))
  case refine_2 =>
    refine VcD.eff rfl rfl rfl rfl (OpE.append tabOk rfl rfl rfl rfl H (SlR.src s1 (Holds.drop (Holds.drop H))) hb1 hl1) ?_
    rintro _ w H
    refine ⟨Holds.drop (Holds.drop H), ?_⟩
    obtain ⟨_, A7, c7, rfl⟩ := Holds.own_len H
    refine VcD.eff rfl rfl rfl rfl (OpE.append tabOk rfl rfl rfl rfl (Holds.f1 H) (SlR.src s2 (Holds.drop (Holds.drop H))) hb2 hl2) ?_
    rintro _ w H
    refine ⟨Holds.drop (Holds.drop H), ?_⟩
    obtain ⟨_, A8, c8, rfl⟩ := Holds.own_len H
    repeat' (first
      | (refine VcD.eff rfl rfl rfl rfl (OpE.box H rfl rfl rfl) ?_; rintro _ w ⟨b, rfl, H⟩; refine ⟨Holds.drop (Holds.drop (Holds.drop H)), ?_⟩)
      | (show VcD _ _ _ _ _ _ _ _ _; first
      | refine VcD.pures tabOk rfl ?_
      | refine VcD.done ?_)
      | (show Vc _ _ _ _ _ _; refine Vc.ret ?_)
      | (show KSeq _ _ _ _ _ _ _; refine KSeq.normal ?_)
      | (show KEnd _ _ _ _ _ _ _; refine KEnd.fin (Or.inr rfl) ⟨_, (ResL.tmp rfl ResL.nil), ?_⟩))
    exact fin H
  case refine_1.refine_2 =>
    refine VcD.eff rfl rfl rfl rfl (OpE.append tabOk rfl rfl rfl rfl (Holds.f1 H) (SlR.src s1 (Holds.drop (Holds.drop H))) hb1 hl1) ?_
    rintro _ w H
    refine ⟨Holds.drop (Holds.drop H), ?_⟩
    obtain ⟨_, A7, c7, rfl⟩ := Holds.own_len H
    refine VcD.eff rfl rfl rfl rfl (OpE.append tabOk rfl rfl rfl rfl (Holds.f1 H) (SlR.src s2 (Holds.drop (Holds.drop H))) hb2 hl2) ?_
    rintro _ w H
    refine ⟨Holds.drop (Holds.drop H), ?_⟩
    obtain ⟨_, A8, c8, rfl⟩ := Holds.own_len H
    repeat' (first
      | (refine VcD.eff rfl rfl rfl rfl (OpE.box H rfl rfl rfl) ?_; rintro _ w ⟨b, rfl, H⟩; refine ⟨Holds.drop (Holds.drop (Holds.drop H)), ?_⟩)
      | (show VcD _ _ _ _ _ _ _ _ _; first
      | refine VcD.pures tabOk rfl ?_
      | refine VcD.done ?_)
      | (show Vc _ _ _ _ _ _; refine Vc.ret ?_)
      | (show KSeq _ _ _ _ _ _ _; refine KSeq.normal ?_)
      | (show KEnd _ _ _ _ _ _ _; refine KEnd.fin (Or.inr rfl) ⟨_, (ResL.tmp rfl ResL.nil), ?_⟩))
    exact fin H
  case refine_1.refine_1 =>
    refine EfO.eff rfl rfl rfl rfl (OpE.append tabOk rfl rfl rfl rfl H (SlR.src s1 (Holds.drop H)) hb1 hl1) ?_
    rintro _ w H
    refine ⟨Holds.drop H, ?_⟩
    obtain ⟨_, A7, c7, rfl⟩ := Holds.own_len H
    refine VcD.eff rfl rfl rfl rfl (OpE.buildSliceP tabOk H rfl rfl rfl rfl) ?_
    rintro _ w ⟨b_, rfl, H⟩
    refine ⟨Holds.drop (Holds.drop H), ?_⟩
    have H := own0 (sz := 2) H
    refine VcD.eff rfl rfl rfl rfl (OpE.append tabOk rfl rfl rfl rfl H (SlR.src s2 (Holds.drop (Holds.drop H))) hb2 hl2) ?_
    rintro _ w H
    refine ⟨Holds.drop (Holds.drop H), ?_⟩
    obtain ⟨_, A8, c8, rfl⟩ := Holds.own_len H
    repeat' (first
      | (refine VcD.eff rfl rfl rfl rfl (OpE.box H rfl rfl rfl) ?_; rintro _ w ⟨b, rfl, H⟩; refine ⟨Holds.drop (Holds.drop (Holds.drop H)), ?_⟩)
      | (show VcD _ _ _ _ _ _ _ _ _; first
      | refine VcD.pures tabOk rfl ?_
      | refine VcD.done ?_)
      | (show Vc _ _ _ _ _ _; refine Vc.ret ?_)
      | (show KSeq _ _ _ _ _ _ _; refine KSeq.normal ?_)
      | (show KEnd _ _ _ _ _ _ _; refine KEnd.fin (Or.inr rfl) ⟨_, (ResL.tmp rfl ResL.nil), ?_⟩))
    exact fin H
end Go.Proofs.Ytoahfjfknljacaa.V
