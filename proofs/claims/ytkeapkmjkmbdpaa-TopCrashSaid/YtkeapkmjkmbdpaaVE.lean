/- The program's disk, deed by deed. -/
import Derived.Test.YtkeapkmjkmbdpaaVD
namespace Go.Proofs.Ytkeapkmjkmbdpaa.V
open Go Go.Proofs.YtkeapkmjkmbdpaaV
set_option linter.unusedVariables false
set_option linter.unusedSimpArgs false
set_option maxHeartbeats 1000000
set_option maxRecDepth 4000
attribute [local irreducible] IntKind.wrap
variable {I : Imm} {w : World} {L : List Asn}
abbrev ptr (d : Nat) : Value := .pointer (some ⟨d, 0, none⟩)
theorem dsk_open {d : Nat} {D : Dk} (H : Holds I w (dskA d D :: L)) : ∃ b o cap A2 cap2 P, Kd.dk P = D ∧ KdOk P ∧ P.bl.length ≤ cap ∧
    Holds I w (blk d 53 (dkV P (.slice (some ⟨b, o, none⟩) P.bl.length cap) (.slice A2 P.wt.length cap2)) :: own (.slice (some ⟨b, o, none⟩) P.bl.length cap) 40 1 P.bl.length (P.bl.flatMap bkC) :: own (.slice A2 P.wt.length cap2) 43 2 P.wt.length (P.wt.flatMap wkC) :: bysA P.all :: L) := by
  obtain ⟨bv, wv, P, rfl, h2, H⟩ := dsk_iff.1 H
  have hk := h2.kd
  obtain ⟨b, o, cap, rfl, hcap⟩ := Holds.own_some hk.some H.f1
  obtain ⟨_, A2, cap2, rfl⟩ := Holds.own_len H.f2
  exact ⟨b, o, cap, A2, cap2, P, rfl, hk, hcap, H⟩
theorem dsk_close {d : Nat} {D : Dk} {bv wv : Value} (P : Kd) (e : P.dk = D) (hD : DkOk D) (H : Holds I w (blk d 53 (dkV P bv wv) :: own bv 40 1 P.bl.length (P.bl.flatMap bkC) :: own wv 43 2 P.wt.length (P.wt.flatMap wkC) :: bysA P.all :: L)) : Holds I w (dskA d D :: L) :=
  dsk_iff.2 ⟨bv, wv, P, e, hD, H⟩
theorem bys_form {xs : List Vb} {x : Vb} (h : x ∈ xs) (H : Holds I w (bysA xs :: L)) : ∃ A c, x.1 = .slice A x.2.length c := by
  obtain ⟨A, c, e, _⟩ := (bys_rd h H).form
  exact ⟨A, c, e⟩
theorem noneD_any (H : Holds I w L) {d m cap : Nat} {A : Option Addr} {x y z : Value} (hd : RdW I L d 0 [.slice A m cap, x, y, z]) (h0 : 0 < m) : Rets Try.prog F_journal_Disk_none #[ptr d] w fun u w' => u = .bool false ∧ Holds I w' L := by
  have e : decide ((m : Int) = 0) = false := decide_eq_false (by omega)
  refine ok_journal_Disk_none.rets rfl ?_
  repeat' (first
    | rw [e]
    | (show VcL _ _ _ _ _ _ _ _; first
      | refine VcL.pures tabOk rfl ?_
      | refine VcL.nil ?_
      | (show VcL _ _ _ _ (⟨_, .load _ _, _, _, _, _⟩ :: _) _ _ _; refine VcL.load1 tabOk rfl rfl rfl rfl rfl (by exact RdW.get0 (by assumption) rfl H) ?_)
      | (refine VcL.guard rfl rfl rfl rfl (fun h => ?_) (fun h => ?_) <;> first | (cases h; done) | skip))
    | (show Vc _ _ _ _ _ _; first
      | refine Vc.seq ?_
      | refine Vc.region ?_
      | refine Vc.ret ?_)
    | (show KSeq _ _ _ _ _ _ _; refine KSeq.normal ?_)
    | (show KEnd _ _ _ _ _ _ _; refine KEnd.fin (Or.inr rfl) ⟨_, (ResL.tmp rfl ResL.nil), ?_⟩))
  exact ⟨rfl, H⟩
theorem noneD0_any (H : Holds I w L) {d : Nat} {x y z : Value} (hd : RdW I L d 0 [.slice none 0 0, x, y, z]) : Rets Try.prog F_journal_Disk_none #[ptr d] w fun u w' => u = .bool true ∧ Holds I w' L := by
  refine ok_journal_Disk_none.rets rfl ?_
  repeat' (first
    | (show VcL _ _ _ _ _ _ _ _; first
      | refine VcL.pures tabOk rfl ?_
      | refine VcL.nil ?_
      | (show VcL _ _ _ _ (⟨_, .load _ _, _, _, _, _⟩ :: _) _ _ _; refine VcL.load1 tabOk rfl rfl rfl rfl rfl (by exact RdW.get0 (by assumption) rfl H) ?_)
      | (refine VcL.guard rfl rfl rfl rfl (fun h => ?_) (fun h => ?_) <;> first | (cases h; done) | skip))
    | (show Vc _ _ _ _ _ _; first
      | refine Vc.seq ?_
      | refine Vc.region ?_
      | refine Vc.ret ?_)
    | (show KSeq _ _ _ _ _ _ _; refine KSeq.normal ?_)
    | (show KEnd _ _ _ _ _ _ _; refine KEnd.fin (Or.inr rfl) ⟨_, (ResL.tmp rfl ResL.nil), ?_⟩))
  exact ⟨rfl, H⟩
theorem noneNil_any (H : Holds I w L) : Rets Try.prog F_journal_Disk_none #[.pointer none] w fun u w' => u = .bool true ∧ Holds I w' L := by
  refine ok_journal_Disk_none.rets rfl ?_
  repeat' (first
    | (show VcL _ _ _ _ _ _ _ _; first
      | refine VcL.pures tabOk rfl ?_
      | refine VcL.nil ?_
      | (refine VcL.guard rfl rfl rfl rfl (fun h => ?_) (fun h => ?_) <;> first | (cases h; done) | skip))
    | (show Vc _ _ _ _ _ _; first
      | refine Vc.seq ?_
      | refine Vc.region ?_
      | refine Vc.ret ?_)
    | (show KSeq _ _ _ _ _ _ _; refine KSeq.normal ?_)
    | (show KEnd _ _ _ _ _ _ _; refine KEnd.fin (Or.inr rfl) ⟨_, (ResL.tmp rfl ResL.nil), ?_⟩))
  exact ⟨rfl, H⟩
theorem dskNone_any {d : Nat} {D : Dk} (H : Holds I w (dskA d D :: L)) : Rets Try.prog F_journal_Disk_none #[ptr d] w fun u w' => u = .bool false ∧ Holds I w' (dskA d D :: L) := by
  obtain ⟨b, o, cap, A2, cap2, P, rfl, hk, hcap, H⟩ := dsk_open H
  exact (noneD_any H Holds.toW hk.some).mono fun u w' ⟨h1, h2⟩ => ⟨h1, dsk_close P rfl hk.ok h2⟩
theorem Waiting_any {d : Nat} {D : Dk} (H : Holds I w (dskA d D :: L)) : Rets Try.prog F_journal_Disk_Waiting #[ptr d] w fun u w' => u = .int .i64 (D.wait.length : Nat) ∧ Holds I w' (dskA d D :: L) := by
  obtain ⟨b, o, cap, A2, cap2, P, rfl, hk, hcap, HB⟩ := dsk_open H
  clear H
  have H := HB
  clear HB
  refine ok_journal_Disk_Waiting.rets rfl ?_
  repeat' (first
    | (show VcL _ _ _ _ _ _ _ _; first
      | refine VcL.pures tabOk rfl ?_
      | refine VcL.nil ?_
      | (show VcL _ _ _ _ (⟨_, .load _ _, _, _, _, _⟩ :: _) _ _ _; refine VcL.load1 tabOk rfl rfl rfl rfl rfl (by exact Holds.cell H rfl) ?_)
      | (show VcL _ _ _ _ (⟨_, .call ⟨.value (.func F_journal_Disk_none), _, _⟩, _, _, _, _⟩ :: _) _ _ _; (refine VcL.callF ok_journal_Disk_none rfl rfl rfl rfl (Rets.mono (noneD_any H Holds.toW hk.some) ?_); rintro _ w ⟨rfl, H⟩)))
    | (show Vc _ _ _ _ _ _; first
      | refine Vc.seq ?_
      | refine Vc.region ?_
      | refine Vc.condF rfl ?_
      | refine Vc.ret ?_
      | refine Vc.skip ?_)
    | (show KSeq _ _ _ _ _ _ _; refine KSeq.normal ?_)
    | (show KEnd _ _ _ _ _ _ _; refine KEnd.fin (Or.inr rfl) ⟨_, (ResL.tmp rfl ResL.nil), ?_⟩))
  exact ⟨by simp [resVal, Kd.dk], dsk_close P rfl hk.ok H⟩
theorem Writes_any {d : Nat} {D : Dk} (H : Holds I w (dskA d D :: L)) : Rets Try.prog F_journal_Disk_Writes #[ptr d] w fun u w' => u = .int .i64 (D.writes : Nat) ∧ Holds I w' (dskA d D :: L) := by
  obtain ⟨b, o, cap, A2, cap2, P, rfl, hk, hcap, HB⟩ := dsk_open H
  clear H
  have H := HB
  clear HB
  refine ok_journal_Disk_Writes.rets rfl ?_
  repeat' (first
    | (show VcL _ _ _ _ _ _ _ _; first
      | refine VcL.pures tabOk rfl ?_
      | refine VcL.nil ?_
      | (show VcL _ _ _ _ (⟨_, .load _ _, _, _, _, _⟩ :: _) _ _ _; refine VcL.load1 tabOk rfl rfl rfl rfl rfl (by exact Holds.cell H rfl) ?_)
      | (show VcL _ _ _ _ (⟨_, .call ⟨.value (.func F_journal_Disk_none), _, _⟩, _, _, _, _⟩ :: _) _ _ _; (refine VcL.callF ok_journal_Disk_none rfl rfl rfl rfl (Rets.mono (noneD_any H Holds.toW hk.some) ?_); rintro _ w ⟨rfl, H⟩)))
    | (show Vc _ _ _ _ _ _; first
      | refine Vc.seq ?_
      | refine Vc.region ?_
      | refine Vc.condF rfl ?_
      | refine Vc.ret ?_
      | refine Vc.skip ?_)
    | (show KSeq _ _ _ _ _ _ _; refine KSeq.normal ?_)
    | (show KEnd _ _ _ _ _ _ _; refine KEnd.fin (Or.inr rfl) ⟨_, (ResL.tmp rfl ResL.nil), ?_⟩))
  exact ⟨rfl, dsk_close P rfl hk.ok H⟩
theorem Blocks_any {d : Nat} {D : Dk} (H : Holds I w (dskA d D :: L)) : Rets Try.prog F_journal_Disk_Blocks #[ptr d] w fun u w' => u = .int .i64 (D.blocks.length : Nat) ∧ Holds I w' (dskA d D :: L) := by
  obtain ⟨b, o, cap, A2, cap2, P, rfl, hk, hcap, HB⟩ := dsk_open H
  clear H
  have H := HB
  clear HB
  refine ok_journal_Disk_Blocks.rets rfl ?_
  repeat' (first
    | (show VcL _ _ _ _ _ _ _ _; first
      | refine VcL.pures tabOk rfl ?_
      | refine VcL.nil ?_
      | (show VcL _ _ _ _ (⟨_, .load _ _, _, _, _, _⟩ :: _) _ _ _; refine VcL.load1 tabOk rfl rfl rfl rfl rfl (by exact Holds.cell H rfl) ?_)
      | (show VcL _ _ _ _ (⟨_, .call ⟨.value (.func F_journal_Disk_none), _, _⟩, _, _, _, _⟩ :: _) _ _ _; (refine VcL.callF ok_journal_Disk_none rfl rfl rfl rfl (Rets.mono (noneD_any H Holds.toW hk.some) ?_); rintro _ w ⟨rfl, H⟩)))
    | (show Vc _ _ _ _ _ _; first
      | refine Vc.seq ?_
      | refine Vc.region ?_
      | refine Vc.condF rfl ?_
      | refine Vc.ret ?_
      | refine Vc.skip ?_)
    | (show KSeq _ _ _ _ _ _ _; refine KSeq.normal ?_)
    | (show KEnd _ _ _ _ _ _ _; refine KEnd.fin (Or.inr rfl) ⟨_, (ResL.tmp rfl ResL.nil), ?_⟩))
  exact ⟨by simp [resVal, Kd.dk], dsk_close P rfl hk.ok H⟩
theorem Stop_any {d : Nat} {D : Dk} (H : Holds I w (dskA d D :: L)) {n : Int} (hn : n ≤ 9223372036854775807) : Rets Try.prog F_journal_Disk_Stop #[ptr d, .int .i64 n] w fun u w' => u = .int .i64 0 ∧ Holds I w' (dskA d (stS D n) :: L) := by
  obtain ⟨b, o, cap, A2, cap2, P, rfl, hk, hcap, HB⟩ := dsk_open H
  clear H
  have H := HB
  clear HB
  refine ok_journal_Disk_Stop.rets rfl ?_
  repeat' (first
    | (show VcL _ _ _ _ _ _ _ _; first
      | refine VcL.pures tabOk rfl ?_
      | refine VcL.nil ?_
      | (show VcL _ _ _ _ (⟨_, .store _ _ _, _, _, _, _⟩ :: _) _ _ _; refine VcL.store tabOk rfl (by exact H) rfl rfl (by exact rfl) (by exact rfl) (by exact rfl) (by exact rfl) (fun w H => ?_))
      | (show VcL _ _ _ _ (⟨_, .call ⟨.value (.func F_journal_Disk_none), _, _⟩, _, _, _, _⟩ :: _) _ _ _; (refine VcL.callF ok_journal_Disk_none rfl rfl rfl rfl (Rets.mono (noneD_any H Holds.toW hk.some) ?_); rintro _ w ⟨rfl, H⟩)))
    | (show Vc _ _ _ _ _ _; first
      | refine Vc.seq ?_
      | refine Vc.region ?_
      | refine Vc.condF rfl ?_
      | refine Vc.ret ?_
      | refine Vc.skip ?_)
    | (show KSeq _ _ _ _ _ _ _; refine KSeq.normal ?_)
    | (show KEnd _ _ _ _ _ _ _; refine KEnd.fin (Or.inr rfl) ⟨_, (ResL.tmp rfl ResL.nil), ?_⟩))
  exact ⟨rfl, dsk_close ⟨P.bl, P.wt, P.writes, max n (-1)⟩ rfl (stS_ok hk.ok hn) H⟩
theorem bk_one (x : Vb) {A : Option Addr} {m c : Nat} (h : x.1 = .slice A m c) : ∀ u ∈ bkC x, oneC u = true := by
  intro u hu
  simp only [bkC, List.mem_singleton] at hu
  rw [hu, h]
  rfl
theorem flat_snoc {α : Type} {enc : α → List Value} (l : List α) (x : α) : (l ++ [x]).flatMap enc = l.flatMap enc ++ enc x := by rw [List.flatMap_append]; simp
theorem NewDisk_bad (H : Holds I w L) {n : Int} (hn : ¬ (1 ≤ n ∧ n ≤ 650)) : Rets Try.prog F_journal_NewDisk #[.int .i64 n] w fun u w' => u = .tuple #[.pointer none, .int .i64 2] ∧ Holds I w' L := by
  refine ok_journal_NewDisk.rets rfl ?_
  repeat' (first
    | (show VcL _ _ _ _ _ _ _ _; first
      | refine VcL.pures tabOk rfl ?_
      | refine VcL.nil ?_
      | (refine VcL.guard rfl rfl rfl rfl (fun h => ?_) (fun h => ?_) <;> first | (with_reducible have hp := of_decide_eq_true h) | (with_reducible have hp := of_decide_eq_false h)))
    | (show Vc _ _ _ _ _ _; first
      | refine Vc.seq ?_
      | refine Vc.region ?_
      | refine Vc.condT rfl ?_
      | refine Vc.ret ?_
      | (refine Vc.cond rfl (fun h => ?_) (fun h => ?_) <;> first | (exfalso; simp only [decide_eq_true_eq, decide_eq_false_iff_not, Bool.not_eq_true', Bool.not_eq_false'] at h; omega) | (with_reducible have hp := of_decide_eq_true h)))
    | (show KSeq _ _ _ _ _ _ _; first
      | refine KSeq.normal ?_
      | refine KSeq.ret ?_)
    | (show KEnd _ _ _ _ _ _ _; refine KEnd.fin (Or.inr rfl) ⟨_, (ResL.tmp rfl (ResL.tmp rfl ResL.nil)), ?_⟩))
  all_goals exact ⟨rfl, H⟩
theorem NewDisk_any (H : Holds I w L) {n : Nat} (h0 : 0 < n) (h1 : n ≤ 650) : Rets Try.prog F_journal_NewDisk #[.int .i64 (n : Nat)] w fun u w' => ∃ d, u = .tuple #[ptr d, .int .i64 0] ∧ Holds I w' (dskA d (newS n) :: L) := by
  refine ok_journal_NewDisk.rets rfl ?_
  repeat' (first
    | (show VcL _ _ _ _ _ _ _ _; first
      | refine VcL.pures tabOk rfl ?_
      | refine VcL.nil ?_
      | refine VcL.box H rfl rfl rfl rfl rfl (fun b w H => ?_)
      | (refine VcL.guard rfl rfl rfl rfl (fun h => ?_) (fun h => ?_) <;> first | (exfalso; simp only [decide_eq_true_eq, decide_eq_false_iff_not, Bool.not_eq_true', Bool.not_eq_false'] at h; omega) | (with_reducible have hp := of_decide_eq_false h)))
    | (show Vc _ _ _ _ _ _; first
      | refine Vc.seq ?_
      | refine Vc.region ?_
      | refine Vc.skip ?_
      | refine Vc.block ?_
      | (refine Vc.cond rfl (fun h => ?_) (fun h => ?_) <;> first | (exfalso; simp only [decide_eq_true_eq, decide_eq_false_iff_not, Bool.not_eq_true', Bool.not_eq_false'] at h; omega) | (with_reducible have hp := of_decide_eq_false h)))
    | (show KSeq _ _ _ _ _ _ _; refine KSeq.normal ?_))
  obtain ⟨d, rfl⟩ : ∃ d, d = b := ⟨b, rfl⟩
  refine Vc.loopS [(4, _), (13, _)] (fun k : Nat => [(14, .int .i64 k)]) (fun k w => k ≤ n ∧ ∃ (bl : List Vb) (bv : Value), bl.map (·.2) = List.replicate k zeroB ∧ Holds I w (blk d 53 [bv, .slice none 0 0, .int .i64 0, .int .i64 (-1)] :: own bv 40 1 k (bl.flatMap bkC) :: bysA bl :: L)) (fun k _ => n - k) 0 ⟨rfl, trivial⟩ ⟨rfl, rfl, trivial⟩ ⟨Nat.zero_le _, [], .slice none 0 0, rfl, (bys_nil.2 H).own_nil.re [2, 0, 0] rfl⟩ ?_
  rintro k w ⟨hk, bl, bv, hbl, H⟩
  have hlen : bl.length = k := by have := congrArg List.length hbl; simpa using this
  by_cases hlt : k < n
  · obtain ⟨_, A1, c1, rfl⟩ := Holds.own_len H.f1
    repeat' (first
      | (refine VcD.eff rfl rfl rfl rfl (OpE.makeSlice (m := 256) tabOk H rfl rfl rfl rfl (by decide)) ?_; rintro _ w H; refine ⟨Holds.rdWhole (Holds.f1 H), ?_⟩; obtain ⟨_, A2, c2, rfl⟩ := Holds.own_len H)
      | (refine VcD.append tabOk rfl rfl rfl rfl rfl (Holds.f3 H) (Src.slice rfl (Holds.pt_rd H)) (bk_one (.slice A2 256 c2, []) rfl) (by show (_ + 1) * 24 ≤ _; omega) rfl rfl rfl (fun v_ w H => ⟨Holds.rdWhole (Holds.f3 H), ?_⟩); obtain ⟨_, A3, c3, rfl⟩ := Holds.own_len H)
      | (show VcL _ _ _ _ _ _ _ _; first
      | refine VcL.pures tabOk rfl ?_
      | refine VcL.nil ?_)
      | (show VcD _ _ _ _ _ _ _ _ _; first
      | refine VcD.pures tabOk rfl ?_
      | refine VcD.done ?_
      | (show VcD _ _ _ _ _ (.take _ _) _ _ _; refine VcD.load1 tabOk rfl rfl rfl rfl rfl rfl (by intro w_ hw_; exact hw_ 0 _ rfl) (by exact rfl) ?_)
      | (show VcD _ _ _ _ _ (.only _ _) _ _ _; first
      | (refine VcD.eff rfl rfl rfl rfl (OpE.buildSliceP tabOk H rfl rfl rfl rfl) ?_; rintro _ w ⟨b_, rfl, H⟩; refine ⟨(by exact Holds.rdWhole (Holds.f2 H)), ?_⟩)
      | (refine VcD.eff rfl rfl rfl rfl (OpE.store tabOk (by exact (Holds.f3 H)) rfl rfl rfl (by exact rfl) (by exact rfl) (by exact rfl) (by exact rfl)) ?_; rintro _ w ⟨_, H⟩; refine ⟨(by trivial), ?_⟩)))
      | (show Vc _ _ _ _ _ _; first
      | refine Vc.seq ?_
      | refine Vc.region ?_
      | refine Vc.skip ?_
      | refine Vc.block ?_
      | (refine Vc.drawn (id := 6) (.pure 0 (.pure 1 (.pure 2 (.pure 3 (.take 4 (.only 5 (.only 6 (.only 7 (.pure 8 (.pure 9 (.only 10 .done))))))))))) (.till (fun w => Rd w d 0 [.slice A1 k c1, .slice none 0 0, .int .i64 0, .int .i64 (-1)]) 10 (.one (fun w => True))) mixed (by kernel_rfl) (by exact Holds.rdWhole (Holds.drew H _)) ?_; have H := H.drew (w.drawn + 1))
      | (refine Vc.cond rfl (fun h => ?_) (fun h => ?_) <;> first | (exfalso; simp only [decide_eq_true_eq, decide_eq_false_iff_not, Bool.not_eq_true', Bool.not_eq_false'] at h; omega) | (with_reducible have hp := of_decide_eq_true h)))
      | (show KSeq _ _ _ _ _ _ _; refine KSeq.normal ?_)
      | (show KBlock _ _ _ _ _ _; refine KBlock.normal ?_))
    have HN : Holds I w (own (.slice A2 256 c2) 5 1 256 (byL zeroB) :: bysA bl :: blk d 53 [.slice A3 (k + 1) c3, .slice none 0 0, .int .i64 0, .int .i64 (-1)] :: own (.slice A3 (k + 1) c3) 40 1 (k + 1) (bl.flatMap bkC ++ bkC (.slice A2 256 c2, zeroB)) :: L) := by
      have H2 := Holds.re [2, 2, 0, 0] H.drop2 rfl
      exact repL_zero 256 ▸ H2
    refine KLoop.again (k + 1) ⟨got_succ rfl (by omega), trivial⟩ ⟨rfl, rfl, trivial⟩ ⟨hlt, bl ++ [(.slice A2 256 c2, zeroB)], .slice A3 (k + 1) c3, ?_, ?_⟩ (by omega)
    · rw [List.map_append, hbl, List.replicate_succ']
      rfl
    · rw [flat_snoc]
      have H3 := bys_snoc (y := (.slice A2 256 c2, zeroB)) (by rw [zeroB_len]; exact HN)
      exact H3.re [1, 1, 0] rfl
  ·
    obtain rfl : k = n := by omega
    repeat' (first
      | (show VcL _ _ _ _ _ _ _ _; first
      | refine VcL.pures tabOk rfl ?_
      | refine VcL.nil ?_)
      | (show Vc _ _ _ _ _ _; first
      | refine Vc.seq ?_
      | refine Vc.region ?_
      | refine Vc.ret ?_
      | refine Vc.exit ?_
      | (refine Vc.cond rfl (fun h => ?_) (fun h => ?_) <;> first | (exfalso; simp only [decide_eq_true_eq, decide_eq_false_iff_not, Bool.not_eq_true', Bool.not_eq_false'] at h; omega) | (with_reducible have hp := of_decide_eq_false h)))
      | (show KSeq _ _ _ _ _ _ _; first
      | refine KSeq.normal ?_
      | refine KSeq.exit ?_)
      | (show KBlock _ _ _ _ _ _; refine KBlock.here ?_)
      | refine KLoop.exit ?_
      | (show KEnd _ _ _ _ _ _ _; refine KEnd.fin (Or.inr rfl) ⟨_, (ResL.tmp rfl (ResL.tmp rfl ResL.nil)), ?_⟩))
    exact ⟨d, rfl, dsk_close ⟨bl, [], 0, -1⟩ (by unfold Kd.dk newS; rw [hbl]; rfl) (newS_ok h0 h1) (by
      have H2 := H.own_nil (e := 43) (sz := 2)
      have H3 := H2.re [1, 1, 0, 0] rfl
      show Holds I w (blk d 53 [_, _, _, _] :: own _ _ _ bl.length _ :: _ :: bysA (bl ++ []) :: L)
      rw [hlen, List.append_nil]
      exact H3)⟩
theorem wk_one (x : Nat × Vb) {A : Option Addr} {m c : Nat} (h : x.2.1 = .slice A m c) : ∀ u ∈ wkC x, oneC u = true := by
  intro u hu
  simp only [wkC, List.mem_cons, List.not_mem_nil, or_false] at hu
  rcases hu with rfl | rfl
  · rfl
  · rw [h]; rfl
theorem WriteP_any {d : Nat} {D : Dk} (H : Holds I w (dskA d D :: L)) (hw : D.writes < 2 ^ 40) {k : Int} {v : Value} {l : By} (hv : SlR I L v 1 l.length (byL l)) (hl : l.length ≤ 140737488355328) :
    Rets Try.prog F_journal_Disk_Write #[ptr d, .int .i64 k, v] w fun u w' => u = .int .i64 (wrS D k l).2 ∧ Holds I w' (dskA d (wrS D k l).1 :: L) := by
  obtain ⟨A, cap1, rfl, hcap1⟩ := hv.form
  obtain ⟨b, o, cap, A2, cap2, P, rfl, hk, hcap, HB⟩ := dsk_open H
  clear H
  have H := HB
  clear HB
  have hbl : P.dk.blocks.length = P.bl.length := List.length_map ..
  by_cases hin : 0 ≤ k ∧ k < P.bl.length ∧ l.length = 256
  · obtain ⟨h0, h1, h2⟩ := hin
    obtain ⟨n, rfl⟩ := Int.eq_ofNat_of_zero_le h0
    have hst : P.dk.stop = P.stop := rfl
    have hlow := hk.ok.low
    have hhigh := hk.ok.high
    rw [hst] at hlow hhigh
    by_cases hs0 : P.stop = 0
    · have e : wrS P.dk (n : Int) l = (P.dk, 160) := by
        unfold wrS
        rw [if_neg (by rw [hbl]; omega), if_pos (hst.trans hs0)]
      rw [e]
      refine ok_journal_Disk_Write.rets rfl ?_
      repeat' (first
        | (show VcL _ _ _ _ _ _ _ _; first
      | refine VcL.pures tabOk rfl ?_
      | refine VcL.nil ?_
      | (show VcL _ _ _ _ (⟨_, .load _ _, _, _, _, _⟩ :: _) _ _ _; refine VcL.load1 tabOk rfl rfl rfl rfl rfl (by exact Holds.cell H rfl) ?_)
      | (show VcL _ _ _ _ (⟨_, .call ⟨.value (.func F_journal_Disk_none), _, _⟩, _, _, _, _⟩ :: _) _ _ _; (refine VcL.callF ok_journal_Disk_none rfl rfl rfl rfl (Rets.mono (noneD_any H Holds.toW hk.some) ?_); rintro _ w ⟨rfl, H⟩))
      | (refine VcL.guard rfl rfl rfl rfl (fun h => ?_) (fun h => ?_) <;> first | (cases h; done) | (exfalso; simp only [decide_eq_true_eq, decide_eq_false_iff_not, Bool.not_eq_true', Bool.not_eq_false'] at h; omega) | (with_reducible have hp := of_decide_eq_false h)))
        | (show Vc _ _ _ _ _ _; first
      | refine Vc.seq ?_
      | refine Vc.region ?_
      | refine Vc.condF rfl ?_
      | refine Vc.ret ?_
      | refine Vc.block ?_
      | (refine Vc.cond rfl (fun h => ?_) (fun h => ?_) <;> first | (exfalso; simp only [decide_eq_true_eq, decide_eq_false_iff_not, Bool.not_eq_true', Bool.not_eq_false'] at h; omega) | (with_reducible have hp := of_decide_eq_true h) | (with_reducible have hp := ndec_f h)))
        | (show KSeq _ _ _ _ _ _ _; first
      | refine KSeq.normal ?_
      | refine KSeq.ret ?_)
        | (show KBlock _ _ _ _ _ _; refine KBlock.ret ?_)
        | (show KEnd _ _ _ _ _ _ _; refine KEnd.fin (Or.inr rfl) ⟨_, (ResL.tmp rfl ResL.nil), ?_⟩))
      all_goals first | exact ⟨rfl, dsk_close P rfl hk.ok H⟩ | (exfalso; omega)
    · have e : wrS P.dk (n : Int) l = (⟨P.dk.blocks, P.dk.wait ++ [(n, l)], P.writes + 1, max (P.stop - 1) (-1)⟩, 0) := by
        unfold wrS
        rw [if_neg (by rw [hbl]; omega), if_neg (fun e => hs0 (hst.symm.trans e))]
        rfl
      have hok := wrS_ok hk.ok (n : Int) l
      rw [e] at hok
      rw [e]
      have hwr : P.dk.writes = P.writes := rfl
      rw [hwr] at hw
      have hmany := hk.many
      have hwrap : IntKind.i64.wrap ((P.writes : Int) + 1) = ((P.writes + 1 : Nat) : Int) := wrap_succ _ (by omega)
      have fin : ∀ {w : World} {st : Int} {A3 A4 : Option Addr} {c3 c4 : Nat}, st = max (P.stop - 1) (-1) → Holds I w (own (.slice A3 l.length c3) 5 1 l.length (byL l) :: bysA P.all :: blk d 53 [.slice (some ⟨b, o, none⟩) P.bl.length cap, .slice A4 (P.wt.length + 1) c4, .int .i64 ((P.writes + 1 : Nat) : Int), .int .i64 st] :: own (.slice (some ⟨b, o, none⟩) P.bl.length cap) 40 1 P.bl.length (P.bl.flatMap bkC) ::
          own (.slice A4 (P.wt.length + 1) c4) 43 2 (P.wt.length + 1) (P.wt.flatMap wkC ++ wkC (n, .slice A3 l.length c3, l)) :: L) →
          Holds I w (dskA d ⟨P.dk.blocks, P.dk.wait ++ [(n, l)], P.writes + 1, max (P.stop - 1) (-1)⟩ :: L) := by
        rintro w st A3 A4 c3 c4 rfl H
        refine dsk_close (bv := .slice (some ⟨b, o, none⟩) P.bl.length cap) (wv := .slice A4 (P.wt.length + 1) c4) ⟨P.bl, P.wt ++ [(n, .slice A3 l.length c3, l)], P.writes + 1, max (P.stop - 1) (-1)⟩ ?_ hok ?_
        · unfold Kd.dk; simp
        · have H3 := bys_snoc (y := (.slice A3 l.length c3, l)) H
          have H4 := H3.re [1, 1, 1, 0] rfl
          show Holds I w (blk d _ [_, _, _, _] :: own _ _ _ _ _ :: own _ _ _ (P.wt ++ [_]).length _ :: bysA (P.bl ++ (P.wt ++ [_]).map (fun x : Nat × Vb => x.2)) :: L)
          rw [List.length_append, List.map_append, ← List.append_assoc, flat_snoc]
          exact H4
      by_cases hs1 : 0 < P.stop
      · have hwrap2 : IntKind.i64.wrap (P.stop - 1) = P.stop - 1 := wrap_i64 (by omega) (by omega)
        refine ok_journal_Disk_Write.rets rfl ?_
        repeat' (first
          | rw [hwrap]
          | rw [hwrap2]
          | (refine VcD.append tabOk rfl rfl rfl rfl rfl (Holds.f4 H) (Src.slice rfl (Holds.pt_rd H)) (wk_one (n, .slice A3 l.length c3, []) rfl) (by show (_ + 1) * 32 ≤ _; omega) rfl rfl rfl (fun v_ w H => ⟨Holds.rdWhole (Holds.f3 H), ?_⟩); obtain ⟨_, A4, c4, rfl⟩ := Holds.own_len H)
          | (show VcL _ _ _ _ _ _ _ _; first
      | refine VcL.pures tabOk rfl ?_
      | refine VcL.nil ?_
      | (show VcL _ _ _ _ (⟨_, .load _ _, _, _, _, _⟩ :: _) _ _ _; refine VcL.load1 tabOk rfl rfl rfl rfl rfl (by exact Holds.cell H rfl) ?_)
      | (show VcL _ _ _ _ (⟨_, .store _ _ _, _, _, _, _⟩ :: _) _ _ _; refine VcL.store tabOk rfl (by exact H) rfl rfl (by exact rfl) (by exact rfl) (by exact rfl) (by exact rfl) (fun w H => ?_))
      | (show VcL _ _ _ _ (⟨_, .call ⟨.value (.func F_journal_Disk_none), _, _⟩, _, _, _, _⟩ :: _) _ _ _; (refine VcL.callF ok_journal_Disk_none rfl rfl rfl rfl (Rets.mono (noneD_any H Holds.toW hk.some) ?_); rintro _ w ⟨rfl, H⟩))
      | (refine VcL.guard rfl rfl rfl rfl (fun h => ?_) (fun h => ?_) <;> first | (cases h; done) | (exfalso; simp only [decide_eq_true_eq, decide_eq_false_iff_not, Bool.not_eq_true', Bool.not_eq_false'] at h; omega) | (with_reducible have hp := of_decide_eq_false h)))
          | (show VcD _ _ _ _ _ _ _ _ _; first
      | refine VcD.pures tabOk rfl ?_
      | refine VcD.done ?_
      | (show VcD _ _ _ _ _ (.take _ _) _ _ _; refine VcD.load1 tabOk rfl rfl rfl rfl rfl rfl (by intro w_ hw_; exact hw_ _ _ rfl) (by exact rfl) ?_)
      | (show VcD _ _ _ _ _ (.only _ _) _ _ _; first
      | (refine VcD.callF (f := F_slices_Clone_byte_byte) rfl ok_slices_Clone_byte_byte rfl rfl rfl rfl (Rets.mono (CloneB_any H hv.up.up.up.up (by_one l) (by omega)) ?_); rintro _ w H; obtain ⟨_, A3, c3, rfl⟩ := Holds.own_len H; refine ⟨(by exact Holds.rdWhole (Holds.f1 H)), ?_⟩)
      | (refine VcD.eff rfl rfl rfl rfl (OpE.buildSliceP tabOk H rfl rfl rfl rfl) ?_; rintro _ w ⟨b_, rfl, H⟩; refine ⟨(by exact Holds.rdWhole (Holds.f2 H)), ?_⟩)
      | (refine VcD.eff rfl rfl rfl rfl (OpE.store tabOk (by exact (Holds.f3 H)) rfl rfl rfl (by exact rfl) (by exact rfl) (by exact rfl) (by exact rfl)) ?_; rintro _ w ⟨_, H⟩; refine ⟨(by trivial), ?_⟩)))
          | (show Vc _ _ _ _ _ _; first
      | refine Vc.seq ?_
      | refine Vc.region ?_
      | refine Vc.condF rfl ?_
      | refine Vc.ret ?_
      | refine Vc.skip ?_
      | refine Vc.block ?_
      | (refine Vc.drawn (id := 9) (.pure 0 (.pure 1 (.pure 2 (.pure 3 (.pure 5 (.pure 6 (.take 4 (.only 7 (.pure 8 (.only 9 (.only 10 (.pure 11 (.pure 12 (.only 13 .done)))))))))))))) (.till (fun w => Rd w d 0 [.slice (some ⟨b, o, none⟩) P.bl.length cap, .slice A2 P.wt.length cap2, .int .i64 P.writes, .int .i64 (P.stop - 1)]) 13 (.one (fun w => True))) mixed (by kernel_rfl) (by exact Holds.rdWhole (Holds.drew H _)) ?_; have H := H.drew (w.drawn + 1))
      | (refine Vc.cond rfl (fun h => ?_) (fun h => ?_) <;> first | (exfalso; simp only [decide_eq_true_eq, decide_eq_false_iff_not, Bool.not_eq_true', Bool.not_eq_false'] at h; omega) | (with_reducible have hp := of_decide_eq_true h) | (with_reducible have hp := of_decide_eq_false h) | (with_reducible have hp := ndec_f h)))
          | (show KSeq _ _ _ _ _ _ _; refine KSeq.normal ?_)
          | (show KBlock _ _ _ _ _ _; refine KBlock.normal ?_)
          | (show KEnd _ _ _ _ _ _ _; refine KEnd.fin (Or.inr rfl) ⟨_, (ResL.tmp rfl ResL.nil), ?_⟩))
        exact ⟨rfl, fin (by omega) (H.drop2.re [2, 3, 0, 1, 0] rfl)⟩
      ·
        refine ok_journal_Disk_Write.rets rfl ?_
        repeat' (first
          | rw [hwrap]
          | (refine VcD.append tabOk rfl rfl rfl rfl rfl (Holds.f4 H) (Src.slice rfl (Holds.pt_rd H)) (wk_one (n, .slice A3 l.length c3, []) rfl) (by show (_ + 1) * 32 ≤ _; omega) rfl rfl rfl (fun v_ w H => ⟨Holds.rdWhole (Holds.f3 H), ?_⟩); obtain ⟨_, A4, c4, rfl⟩ := Holds.own_len H)
          | (show VcL _ _ _ _ _ _ _ _; first
      | refine VcL.pures tabOk rfl ?_
      | refine VcL.nil ?_
      | (show VcL _ _ _ _ (⟨_, .load _ _, _, _, _, _⟩ :: _) _ _ _; refine VcL.load1 tabOk rfl rfl rfl rfl rfl (by exact Holds.cell H rfl) ?_)
      | (show VcL _ _ _ _ (⟨_, .store _ _ _, _, _, _, _⟩ :: _) _ _ _; refine VcL.store tabOk rfl (by exact H) rfl rfl (by exact rfl) (by exact rfl) (by exact rfl) (by exact rfl) (fun w H => ?_))
      | (show VcL _ _ _ _ (⟨_, .call ⟨.value (.func F_journal_Disk_none), _, _⟩, _, _, _, _⟩ :: _) _ _ _; (refine VcL.callF ok_journal_Disk_none rfl rfl rfl rfl (Rets.mono (noneD_any H Holds.toW hk.some) ?_); rintro _ w ⟨rfl, H⟩))
      | (refine VcL.guard rfl rfl rfl rfl (fun h => ?_) (fun h => ?_) <;> first | (cases h; done) | (exfalso; simp only [decide_eq_true_eq, decide_eq_false_iff_not, Bool.not_eq_true', Bool.not_eq_false'] at h; omega) | (with_reducible have hp := of_decide_eq_false h)))
          | (show VcD _ _ _ _ _ _ _ _ _; first
      | refine VcD.pures tabOk rfl ?_
      | refine VcD.done ?_
      | (show VcD _ _ _ _ _ (.take _ _) _ _ _; refine VcD.load1 tabOk rfl rfl rfl rfl rfl rfl (by intro w_ hw_; exact hw_ _ _ rfl) (by exact rfl) ?_)
      | (show VcD _ _ _ _ _ (.only _ _) _ _ _; first
      | (refine VcD.callF (f := F_slices_Clone_byte_byte) rfl ok_slices_Clone_byte_byte rfl rfl rfl rfl (Rets.mono (CloneB_any H hv.up.up.up.up (by_one l) (by omega)) ?_); rintro _ w H; obtain ⟨_, A3, c3, rfl⟩ := Holds.own_len H; refine ⟨(by exact Holds.rdWhole (Holds.f1 H)), ?_⟩)
      | (refine VcD.eff rfl rfl rfl rfl (OpE.buildSliceP tabOk H rfl rfl rfl rfl) ?_; rintro _ w ⟨b_, rfl, H⟩; refine ⟨(by exact Holds.rdWhole (Holds.f2 H)), ?_⟩)
      | (refine VcD.eff rfl rfl rfl rfl (OpE.store tabOk (by exact (Holds.f3 H)) rfl rfl rfl (by exact rfl) (by exact rfl) (by exact rfl) (by exact rfl)) ?_; rintro _ w ⟨_, H⟩; refine ⟨(by trivial), ?_⟩)))
          | (show Vc _ _ _ _ _ _; first
      | refine Vc.seq ?_
      | refine Vc.region ?_
      | refine Vc.condF rfl ?_
      | refine Vc.ret ?_
      | refine Vc.skip ?_
      | refine Vc.block ?_
      | (refine Vc.drawn (id := 9) (.pure 0 (.pure 1 (.pure 2 (.pure 3 (.pure 5 (.pure 6 (.take 4 (.only 7 (.pure 8 (.only 9 (.only 10 (.pure 11 (.pure 12 (.only 13 .done)))))))))))))) (.till (fun w => Rd w d 0 [.slice (some ⟨b, o, none⟩) P.bl.length cap, .slice A2 P.wt.length cap2, .int .i64 P.writes, .int .i64 P.stop]) 13 (.one (fun w => True))) mixed (by kernel_rfl) (by exact Holds.rdWhole (Holds.drew H _)) ?_; have H := H.drew (w.drawn + 1))
      | (refine Vc.cond rfl (fun h => ?_) (fun h => ?_) <;> first | (exfalso; simp only [decide_eq_true_eq, decide_eq_false_iff_not, Bool.not_eq_true', Bool.not_eq_false'] at h; omega) | (with_reducible have hp := of_decide_eq_false h) | (with_reducible have hp := ndec_f h)))
          | (show KSeq _ _ _ _ _ _ _; refine KSeq.normal ?_)
          | (show KBlock _ _ _ _ _ _; refine KBlock.normal ?_)
          | (show KEnd _ _ _ _ _ _ _; refine KEnd.fin (Or.inr rfl) ⟨_, (ResL.tmp rfl ResL.nil), ?_⟩))
        exact ⟨rfl, fin (by omega) (H.drop2.re [2, 3, 0, 1, 0] rfl)⟩
  · have e : wrS P.dk k l = (P.dk, 2) := by
      unfold wrS
      rw [if_pos (by rw [hbl]; exact hin)]
    rw [e]
    refine ok_journal_Disk_Write.rets rfl ?_
    repeat' (first
      | (show VcL _ _ _ _ _ _ _ _; first
      | refine VcL.pures tabOk rfl ?_
      | refine VcL.nil ?_
      | (show VcL _ _ _ _ (⟨_, .load _ _, _, _, _, _⟩ :: _) _ _ _; refine VcL.load1 tabOk rfl rfl rfl rfl rfl (by exact Holds.cell H rfl) ?_)
      | (show VcL _ _ _ _ (⟨_, .call ⟨.value (.func F_journal_Disk_none), _, _⟩, _, _, _, _⟩ :: _) _ _ _; (refine VcL.callF ok_journal_Disk_none rfl rfl rfl rfl (Rets.mono (noneD_any H Holds.toW hk.some) ?_); rintro _ w ⟨rfl, H⟩))
      | (refine VcL.guard rfl rfl rfl rfl (fun h => ?_) (fun h => ?_) <;> first | (cases h; done) | (with_reducible have hp := of_decide_eq_true h) | (with_reducible have hp := of_decide_eq_false h) | skip))
      | (show Vc _ _ _ _ _ _; first
      | refine Vc.seq ?_
      | refine Vc.region ?_
      | refine Vc.condT rfl ?_
      | refine Vc.condF rfl ?_
      | refine Vc.ret ?_
      | refine Vc.block ?_
      | (refine Vc.cond rfl (fun h => ?_) (fun h => ?_) <;> first | (exfalso; simp only [decide_eq_true_eq, decide_eq_false_iff_not, Bool.not_eq_true', Bool.not_eq_false'] at h; omega) | (with_reducible have hp := ndec_t h)))
      | (show KSeq _ _ _ _ _ _ _; first
      | refine KSeq.normal ?_
      | refine KSeq.ret ?_)
      | (show KBlock _ _ _ _ _ _; refine KBlock.ret ?_)
      | (show KEnd _ _ _ _ _ _ _; refine KEnd.fin (Or.inr rfl) ⟨_, (ResL.tmp rfl ResL.nil), ?_⟩))
    all_goals first | exact ⟨rfl, dsk_close P rfl hk.ok H⟩ | (exfalso; omega)
end Go.Proofs.Ytkeapkmjkmbdpaa.V
