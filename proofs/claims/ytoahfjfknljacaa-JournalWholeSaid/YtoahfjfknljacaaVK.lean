/- The document's disk, deed by deed. -/
import Derived.Test.YtoahfjfknljacaaVH
namespace Go.Proofs.Ytoahfjfknljacaa.V
open Go Go.Proofs.YtoahfjfknljacaaV
set_option linter.unusedVariables false
set_option linter.unusedSimpArgs false
set_option maxHeartbeats 1000000
set_option maxRecDepth 4000
attribute [local irreducible] IntKind.wrap
variable {I : Imm} {w : World} {L : List Asn}
abbrev rkV (P : Kd) (bv wv : Value) : List Value := [bv, wv, .int .i64 P.stop, .int .i64 (P.writes : Int)]
/-- A slice of bytes that never change. -/
def FzB (I : Imm) (x : Vb) : Prop := SlI I x.1 1 x.2.length (byL x.2)
theorem FzB.mono {I J : Imm} {x : Vb} (h : FzB I x) (hl : Imm.Le I J) : FzB J x := SlI.mono h hl
/-- The document's disk. -/
def rdkA (I : Imm) (d : Nat) (D : Dk) : Asn := ex fun x : Value × Value × Kd => fact (x.2.2.dk = D ∧ DkOk D ∧ ∀ y ∈ x.2.2.all, FzB I y) (star (blk d 88 (rkV x.2.2 x.1 x.2.1)) (star (own x.1 22 1 x.2.2.bl.length (x.2.2.bl.flatMap bkC)) (own x.2.1 86 2 x.2.2.wt.length (x.2.2.wt.flatMap wkC))))
theorem rdk_iff {J : Imm} {d : Nat} {D : Dk} : Holds I w (rdkA J d D :: L) ↔ ∃ bv wv P, Kd.dk P = D ∧ DkOk D ∧ (∀ y ∈ P.all, FzB J y) ∧ Holds I w (blk d 88 (rkV P bv wv) :: own bv 22 1 P.bl.length (P.bl.flatMap bkC) :: own wv 86 2 P.wt.length (P.wt.flatMap wkC) :: L) := by
  unfold rdkA
  rw [Holds.ex]
  constructor
  · rintro ⟨⟨bv, wv, P⟩, H⟩
    obtain ⟨⟨h1, h2, h3⟩, H⟩ := Holds.fact.1 H
    refine ⟨bv, wv, P, h1, h2, h3, ?_⟩
    have H := Holds.star.1 H
    have H := Holds.star.1 H.swap
    exact H.re [2, 0, 0] rfl
  · rintro ⟨bv, wv, P, h1, h2, h3, H⟩
    refine ⟨⟨bv, wv, P⟩, Holds.fact.2 ⟨⟨h1, h2, h3⟩, ?_⟩⟩
    refine Holds.star.2 (Holds.swap ?_)
    refine Holds.star.2 ?_
    exact H.re [1, 1, 0] rfl
theorem rdk_open {J : Imm} {d : Nat} {D : Dk} (H : Holds I w (rdkA J d D :: L)) : ∃ b o cap A2 cap2 P, Kd.dk P = D ∧ KdOk P ∧ P.bl.length ≤ cap ∧ (∀ y ∈ P.all, FzB J y) ∧
    Holds I w (blk d 88 (rkV P (.slice (some ⟨b, o, none⟩) P.bl.length cap) (.slice A2 P.wt.length cap2)) :: own (.slice (some ⟨b, o, none⟩) P.bl.length cap) 22 1 P.bl.length (P.bl.flatMap bkC) :: own (.slice A2 P.wt.length cap2) 86 2 P.wt.length (P.wt.flatMap wkC) :: L) := by
  obtain ⟨bv, wv, P, rfl, h2, h3, H⟩ := rdk_iff.1 H
  have hk := h2.kd
  obtain ⟨b, o, cap, rfl, hcap⟩ := Holds.own_some hk.some H.f1
  obtain ⟨_, A2, cap2, rfl⟩ := Holds.own_len H.f2
  exact ⟨b, o, cap, A2, cap2, P, rfl, hk, hcap, h3, H⟩
theorem rdk_close {J : Imm} {d : Nat} {D : Dk} {bv wv : Value} (P : Kd) (e : P.dk = D) (hD : DkOk D) (hf : ∀ y ∈ P.all, FzB J y) (H : Holds I w (blk d 88 (rkV P bv wv) :: own bv 22 1 P.bl.length (P.bl.flatMap bkC) :: own wv 86 2 P.wt.length (P.wt.flatMap wkC) :: L)) : Holds I w (rdkA J d D :: L) :=
  rdk_iff.2 ⟨bv, wv, P, e, hD, hf, H⟩
theorem rdk_mono {J K : Imm} {d : Nat} {D : Dk} (hl : Imm.Le J K) (H : Holds I w (rdkA J d D :: L)) : Holds I w (rdkA K d D :: L) := by
  obtain ⟨bv, wv, P, h1, h2, h3, H⟩ := rdk_iff.1 H
  exact rdk_iff.2 ⟨bv, wv, P, h1, h2, fun y hy => (h3 y hy).mono hl, H⟩
theorem FzB.form {J : Imm} {x : Vb} (h : FzB J x) : ∃ A c, x.1 = .slice A x.2.length c ∧ x.2.length ≤ c := SlI.form h
theorem StopR_any {J : Imm} {d : Nat} {D : Dk} (H : Holds I w (rdkA J d D :: L)) {n : Int} (hn : n ≤ 9223372036854775807) : Rets Try.prog F_tithingref16_Disk_Stop #[ptr d, .int .i64 n] w fun u w' => Holds I w' (rdkA J d (stS D n) :: L) := by
  obtain ⟨b, o, cap, A2, cap2, P, rfl, hk, hcap, hf, HB⟩ := rdk_open H
  clear H
  have H := HB
  clear HB
  refine ok_tithingref16_Disk_Stop.rets rfl ?_
  repeat' (first
    | (show VcL _ _ _ _ _ _ _ _; first
      | refine VcL.pures tabOk rfl ?_
      | refine VcL.nil ?_
      | (show VcL _ _ _ _ (⟨_, .store _ _ _, _, _, _, _⟩ :: _) _ _ _; refine VcL.store tabOk rfl (by exact H) rfl rfl (by exact rfl) (by exact rfl) (by exact rfl) (by exact rfl) (fun w H => ?_)))
    | (show Vc _ _ _ _ _ _; refine Vc.region ?_)
    | (show KEnd _ _ _ _ _ _ _; refine KEnd.fin (Or.inl rfl) ⟨_, ResL.nil, ?_⟩))
  all_goals exact rdk_close ⟨P.bl, P.wt, P.writes, max n (-1)⟩ rfl (stS_ok hk.ok hn) hf H
theorem NewDiskR_bad (H : Holds I w L) {n : Int} (hn : ¬ (1 ≤ n ∧ n ≤ 650)) : Rets Try.prog F_tithingref16_NewDisk #[.int .i64 n] w fun u w' => u = .tuple #[.pointer none, .int .i64 2] ∧ Holds I w' L := by
  refine ok_tithingref16_NewDisk.rets rfl ?_
  repeat' (first
    | (show VcL _ _ _ _ _ _ _ _; first
      | refine VcL.pures tabOk rfl ?_
      | refine VcL.nil ?_
      | (refine VcL.guard rfl rfl rfl rfl (fun h => ?_) (fun h => ?_) <;> first | (with_reducible have hp := of_decide_eq_true h) | (with_reducible have hp := of_decide_eq_false h)))
    | (show Vc _ _ _ _ _ _; first
      | refine Vc.seq ?_
      | refine Vc.region ?_
      | refine Vc.condT rfl ?_
      | refine Vc.ret ?_
      | (refine Vc.cond rfl (fun h => ?_) (fun h => ?_) <;> first | (exfalso; simp only [decide_eq_true_eq, decide_eq_false_iff_not, Bool.not_eq_true', Bool.not_eq_false'] at h; omega) | (with_reducible have hp := of_decide_eq_true h)))
    | (show KSeq _ _ _ _ _ _ _; first
      | refine KSeq.normal ?_
      | refine KSeq.ret ?_)
    | (show KEnd _ _ _ _ _ _ _; refine KEnd.fin (Or.inr rfl) ⟨_, (ResL.tmp rfl (ResL.tmp rfl ResL.nil)), ?_⟩))
  all_goals exact ⟨rfl, H⟩
theorem SlR_nil : SlR I L (.slice none 0 0) 1 ([] : By).length (byL []) := ⟨none, 0, rfl, rfl, Nat.le_refl _, fun _ => ⟨rfl, rfl⟩, fun a e => by cases e⟩
theorem NewDiskR_any (H : Holds I w L) {n : Nat} (h0 : 0 < n) (h1 : n ≤ 650) : Rets Try.prog F_tithingref16_NewDisk #[.int .i64 (n : Nat)] w fun u w' => ∃ J d, Imm.Le I J ∧ u = .tuple #[ptr d, .int .i64 0] ∧ Holds J w' (rdkA J d (newS n) :: L) := by
  refine ok_tithingref16_NewDisk.rets rfl ?_
  repeat' (first
    | (show VcL _ _ _ _ _ _ _ _; first
      | refine VcL.pures tabOk rfl ?_
      | refine VcL.nil ?_
      | refine VcL.box H rfl rfl rfl rfl rfl (fun b w H => ?_)
      | (refine VcL.guard rfl rfl rfl rfl (fun h => ?_) (fun h => ?_) <;> first | (exfalso; simp only [decide_eq_true_eq, decide_eq_false_iff_not, Bool.not_eq_true', Bool.not_eq_false'] at h; omega) | (with_reducible have hp := of_decide_eq_false h)))
    | (show Vc _ _ _ _ _ _; first
      | refine Vc.seq ?_
      | refine Vc.region ?_
      | refine Vc.skip ?_
      | refine Vc.block ?_
      | (refine Vc.cond rfl (fun h => ?_) (fun h => ?_) <;> first | (exfalso; simp only [decide_eq_true_eq, decide_eq_false_iff_not, Bool.not_eq_true', Bool.not_eq_false'] at h; omega) | (with_reducible have hp := of_decide_eq_false h)))
    | (show KSeq _ _ _ _ _ _ _; refine KSeq.normal ?_))
  obtain ⟨d, rfl⟩ : ∃ d, d = b := ⟨b, rfl⟩
  refine Vc.loopS [(0, _), (4, _)] (fun k : Nat => [(5, .int .i64 k)]) (fun k w => k ≤ n ∧ ∃ (J : Imm) (bl : List Vb) (bv : Value), Imm.Le I J ∧ (∀ x ∈ bl, FzB J x) ∧ bl.map (·.2) = List.replicate k zeroB ∧ Holds J w (blk d 88 [bv, .slice none 0 0, .int .i64 (-1), .int .i64 0] :: own bv 22 1 k (bl.flatMap bkC) :: L)) (fun k _ => n - k) 0 ⟨rfl, trivial⟩ ⟨rfl, rfl, trivial⟩ ⟨Nat.zero_le _, I, [], .slice none 0 0, Imm.Le.rfl' I, (fun x hx => by cases hx), rfl, H.own_nil.swap⟩ ?_
  rintro k w ⟨hk, J, bl, bv, hJ, hfz, hbl, H⟩
  have hlen : bl.length = k := by have := congrArg List.length hbl; simpa using this
  by_cases hlt : k < n
  · obtain ⟨_, A1, c1, rfl⟩ := Holds.own_len H.f1
    repeat' (first
      | (refine VcD.append tabOk rfl rfl rfl rfl rfl (Holds.f2 H) (Src.slice rfl (Holds.pt_rd H)) (bk_one (.slice A2 256 c2, []) rfl) (by show (_ + 1) * 24 ≤ _; omega) rfl rfl rfl (fun v_ w H => ⟨Holds.rdWhole (Holds.f2 H), ?_⟩); obtain ⟨_, A3, c3, rfl⟩ := Holds.own_len H)
      | (show VcL _ _ _ _ _ _ _ _; first
      | refine VcL.pures tabOk rfl ?_
      | refine VcL.nil ?_)
      | (show VcD _ _ _ _ _ _ _ _ _; first
      | refine VcD.pures tabOk rfl ?_
      | refine VcD.done ?_
      | (show VcD _ _ _ _ _ (.take _ _) _ _ _; refine VcD.load1 tabOk rfl rfl rfl rfl rfl rfl (by intro w_ hw_; exact hw_ 0 _ rfl) (by exact rfl) ?_)
      | (show VcD _ _ _ _ _ (.only _ _) _ _ _; first
      | (refine VcD.callF (f := F_tithingref16_block) rfl ok_tithingref16_block rfl rfl rfl rfl (Rets.mono (blockR_any (l := []) H SlR_nil) ?_); rintro _ w H; rw [padB_nil] at H; obtain ⟨_, A2, c2, rfl⟩ := Holds.own_len H; obtain ⟨J2, hJ2, H, hsl⟩ := Holds.freezeOwn H; refine ⟨(by exact Holds.rdWhole H), ?_⟩)
      | (refine VcD.eff rfl rfl rfl rfl (OpE.buildSliceP tabOk H rfl rfl rfl rfl) ?_; rintro _ w ⟨b_, rfl, H⟩; refine ⟨(by exact Holds.rdWhole (Holds.f1 H)), ?_⟩)
      | (refine VcD.eff rfl rfl rfl rfl (OpE.store tabOk (by exact (Holds.f2 H)) rfl rfl rfl (by exact rfl) (by exact rfl) (by exact rfl) (by exact rfl)) ?_; rintro _ w ⟨_, H⟩; refine ⟨(by trivial), ?_⟩)))
      | (show Vc _ _ _ _ _ _; first
      | refine Vc.seq ?_
      | refine Vc.region ?_
      | refine Vc.skip ?_
      | refine Vc.block ?_
      | (refine Vc.drawn (id := 7) (.pure 0 (.pure 1 (.pure 2 (.pure 3 (.take 4 (.only 5 (.only 6 (.only 7 (.pure 8 (.pure 9 (.only 10 .done))))))))))) (.till (fun w => Rd w d 0 [.slice A1 k c1, .slice none 0 0, .int .i64 (-1), .int .i64 0]) 10 (.one (fun w => True))) mixed (by kernel_rfl) (by exact Holds.rdWhole (Holds.drew H _)) ?_; have H := H.drew (w.drawn + 1))
      | (refine Vc.cond rfl (fun h => ?_) (fun h => ?_) <;> first | (exfalso; simp only [decide_eq_true_eq, decide_eq_false_iff_not, Bool.not_eq_true', Bool.not_eq_false'] at h; omega) | (with_reducible have hp := of_decide_eq_true h)))
      | (show KSeq _ _ _ _ _ _ _; refine KSeq.normal ?_)
      | (show KBlock _ _ _ _ _ _; refine KBlock.normal ?_))
    refine KLoop.again (k + 1) ⟨got_succ rfl (by omega), trivial⟩ ⟨rfl, rfl, trivial⟩ ⟨hlt, J2, bl ++ [(.slice A2 256 c2, zeroB)], .slice A3 (k + 1) c3, hJ.trans hJ2, fun x hx => ?_, ?_, ?_⟩ (by omega)
    · rcases List.mem_append.1 hx with hx | hx
      · exact (hfz x hx).mono hJ2
      · simp only [List.mem_singleton] at hx
        subst hx
        show SlI J2 (.slice A2 256 c2) 1 zeroB.length (byL zeroB)
        rw [zeroB_len]
        exact hsl
    · rw [List.map_append, hbl, List.replicate_succ']
      rfl
    · rw [flat_snoc]
      exact H.drop2
  ·
    obtain rfl : k = n := by omega
    repeat' (first
      | (show VcL _ _ _ _ _ _ _ _; first
      | refine VcL.pures tabOk rfl ?_
      | refine VcL.nil ?_)
      | (show Vc _ _ _ _ _ _; first
      | refine Vc.seq ?_
      | refine Vc.region ?_
      | refine Vc.ret ?_
      | refine Vc.exit ?_
      | (refine Vc.cond rfl (fun h => ?_) (fun h => ?_) <;> first | (exfalso; simp only [decide_eq_true_eq, decide_eq_false_iff_not, Bool.not_eq_true', Bool.not_eq_false'] at h; omega) | (with_reducible have hp := of_decide_eq_false h)))
      | (show KSeq _ _ _ _ _ _ _; first
      | refine KSeq.normal ?_
      | refine KSeq.exit ?_)
      | (show KBlock _ _ _ _ _ _; refine KBlock.here ?_)
      | refine KLoop.exit ?_
      | (show KEnd _ _ _ _ _ _ _; refine KEnd.fin (Or.inr rfl) ⟨_, (ResL.tmp rfl (ResL.tmp rfl ResL.nil)), ?_⟩))
    exact ⟨J, d, hJ, rfl, rdk_close ⟨bl, [], 0, -1⟩ (by unfold Kd.dk newS; rw [hbl]; rfl) (newS_ok h0 h1) (fun y hy => hfz y (by simpa [Kd.all] using hy)) (by
      have H2 := H.own_nil (e := 86) (sz := 2)
      have H3 := H2.re [1, 1, 0] rfl
      show Holds J w (blk d 88 [_, _, _, _] :: own _ _ _ bl.length _ :: _ :: L)
      rw [hlen]
      exact H3)⟩
theorem ReadR_bad {J : Imm} {d : Nat} {D : Dk} (H : Holds I w (rdkA J d D :: L)) {k : Int} (hk : ¬ (0 ≤ k ∧ k < D.blocks.length)) :
    Rets Try.prog F_tithingref16_Disk_Read #[ptr d, .int .i64 k] w fun u w' => u = .tuple #[.slice none 0 0, .int .i64 2] ∧ Holds I w' (rdkA J d D :: L) := by
  obtain ⟨b0, o0, cap, A2, cap2, P, rfl, hkk, hcap, hf, HB⟩ := rdk_open H
  clear H
  have H := HB
  clear HB
  have hbl : P.dk.blocks.length = P.bl.length := List.length_map ..
  rw [hbl] at hk
  refine ok_tithingref16_Disk_Read.rets rfl ?_
  repeat' (first
    | (show VcL _ _ _ _ _ _ _ _; first
      | refine VcL.pures tabOk rfl ?_
      | refine VcL.nil ?_
      | (show VcL _ _ _ _ (⟨_, .load _ _, _, _, _, _⟩ :: _) _ _ _; refine VcL.load1 tabOk rfl rfl rfl rfl rfl (by exact Holds.cell H rfl) ?_)
      | (refine VcL.guard rfl rfl rfl rfl (fun h => ?_) (fun h => ?_) <;> first | (with_reducible have hp := of_decide_eq_true h) | (with_reducible have hp := of_decide_eq_false h)))
    | (show Vc _ _ _ _ _ _; first
      | refine Vc.seq ?_
      | refine Vc.region ?_
      | refine Vc.condT rfl ?_
      | refine Vc.ret ?_
      | (refine Vc.cond rfl (fun h => ?_) (fun h => ?_) <;> first | (exfalso; simp only [decide_eq_true_eq, decide_eq_false_iff_not, Bool.not_eq_true', Bool.not_eq_false'] at h; omega) | (with_reducible have hp := of_decide_eq_true h)))
    | (show KSeq _ _ _ _ _ _ _; first
      | refine KSeq.normal ?_
      | refine KSeq.ret ?_)
    | (show KEnd _ _ _ _ _ _ _; refine KEnd.fin (Or.inr rfl) ⟨_, (ResL.tmp rfl (ResL.tmp rfl ResL.nil)), ?_⟩))
  all_goals exact ⟨rfl, rdk_close P rfl hkk.ok hf H⟩
theorem ReadR_good {d : Nat} {D : Dk} (H : Holds I w (rdkA I d D :: L)) (hw : D.writes < 2 ^ 40) {k : Nat} (hk : k < D.blocks.length) :
    Rets Try.prog F_tithingref16_Disk_Read #[ptr d, .int .i64 (k : Nat)] w fun u w' => ∃ uv, u = .tuple #[uv, .int .i64 0] ∧ Holds I w' (own uv 5 1 256 (byL (rdB D k)) :: rdkA I d D :: L) := by
  obtain ⟨b0, o0, cap, A2, cap2, P, rfl, hkk, hcap, hf, HB⟩ := rdk_open H
  clear H
  have H := HB
  clear HB
  have hbl : P.dk.blocks.length = P.bl.length := List.length_map ..
  have hrl := rdB_len hkk.ok hk
  rw [hbl] at hk
  have hmany := hkk.many
  have hwr : P.dk.writes = P.writes := rfl
  rw [hwr] at hw
  obtain ⟨x, hx⟩ : ∃ x, atD P.bl k = x := ⟨_, rfl⟩
  have hq : P.bl[k]? = some x := by rw [← hx]; exact atD_get hk
  have hxf := hf x (List.mem_append_left _ (hx ▸ atD_mem hk))
  have hx2 : atD P.dk.blocks k = x.2 := atD_of (by show (P.bl.map _)[k]? = _; rw [List.getElem?_map, hq]; rfl)
  refine ok_tithingref16_Disk_Read.rets rfl ?_
  repeat' (first
    | (show VcL _ _ _ _ _ _ _ _; first
      | refine VcL.pures tabOk rfl ?_
      | refine VcL.nil ?_
      | (show VcL _ _ _ _ (⟨_, .load _ _, _, _, _, _⟩ :: _) _ _ _; refine VcL.load1 tabOk rfl rfl rfl rfl rfl (by first | exact Holds.cell H rfl | exact Holds.ownCell0 (Holds.f1 H) (fun _ => rfl) (by assumption) rfl) ?_)
      | (show VcL _ _ _ _ (⟨_, .indexAddr _ _ _, _, _, _, _⟩ :: _) _ _ _; refine VcL.indexAddr tabOk rfl rfl rfl rfl rfl rfl (by omega) (by omega) ?_)
      | (refine VcL.guard rfl rfl rfl rfl (fun h => ?_) (fun h => ?_) <;> first | (cases h; done) | (with_reducible have hp := of_decide_eq_false h)))
    | (show Vc _ _ _ _ _ _; first
      | refine Vc.seq ?_
      | refine Vc.region ?_
      | refine Vc.skip ?_
      | refine Vc.block ?_
      | (refine Vc.cond rfl (fun h => ?_) (fun h => ?_) <;> first | (exfalso; simp only [decide_eq_true_eq, decide_eq_false_iff_not, Bool.not_eq_true', Bool.not_eq_false'] at h; omega) | (with_reducible have hp := of_decide_eq_false h)))
    | (show KSeq _ _ _ _ _ _ _; refine KSeq.normal ?_))
  refine Vc.loopS [(0, _), (1, _)] (fun s : Nat × Vb => [(6, s.2.1), (7, .int .i64 s.1)]) (fun s w => s.1 ≤ P.wt.length ∧ FzB I s.2 ∧ s.2.2 = (P.dk.wait.take s.1).foldl (rdStep k) (atD P.dk.blocks k) ∧ Holds I w (blk d 88 (rkV P (.slice (some ⟨b0, o0, none⟩) P.bl.length cap) (.slice A2 P.wt.length cap2)) :: own (.slice (some ⟨b0, o0, none⟩) P.bl.length cap) 22 1 P.bl.length (P.bl.flatMap bkC) :: own (.slice A2 P.wt.length cap2) 86 2 P.wt.length (P.wt.flatMap wkC) :: L)) (fun s _ => P.wt.length - s.1) (0, x) ⟨rfl, rfl, trivial⟩ ⟨rfl, rfl, trivial⟩ ⟨Nat.zero_le _, hxf, hx2.symm, H⟩ ?_
  rintro ⟨j, y⟩ w ⟨hj, hyf, hy, H⟩
  dsimp only at hj hyf hy ⊢
  by_cases hlt : j < P.wt.length
  · obtain ⟨z, hz⟩ : ∃ z, atD P.wt j = z := ⟨_, rfl⟩
    have hgk : P.wt[j]? = some z := by rw [← hz]; exact atD_get hlt
    have hzf := hf z.2 (List.mem_append_right _ (List.mem_map_of_mem (hz ▸ atD_mem hlt)))
    have hst : (P.dk.wait.take (j + 1)).foldl (rdStep k) (atD P.dk.blocks k) = rdStep k y.2 (z.1, z.2.2) := by
      rw [take_atD (by show j < (P.wt.map _).length; rw [List.length_map]; exact hlt), List.foldl_append, ← hy, dk_wait hlt, hz]
      rfl
    obtain ⟨b4, o4, rfl⟩ : ∃ b4 o4, A2 = some ⟨b4, o4, none⟩ := by
      obtain ⟨b, o, c, e, _⟩ := Holds.own_some (by omega) H.f2
      injection e with e1 e2 e3
      exact ⟨b, o, e1⟩
    obtain ⟨bk, v, dat⟩ := z
    repeat' (first
      | (show VcL _ _ _ _ _ _ _ _; first
      | refine VcL.pures tabOk rfl ?_
      | refine VcL.nil ?_
      | (show VcL _ _ _ _ (⟨_, .load _ _, _, _, _, _⟩ :: _) _ _ _; refine VcL.load1 tabOk rfl rfl rfl rfl rfl (by first | exact Holds.cell H rfl | exact Holds.ownCell (Holds.f2 H) (fun _ => rfl) (by assumption) rfl | exact Holds.ownCell0 (Holds.f2 H) (fun _ => rfl) (by assumption) rfl) ?_)
      | (show VcL _ _ _ _ (⟨_, .indexAddr _ _ _, _, _, _, _⟩ :: _) _ _ _; refine VcL.indexAddr tabOk rfl rfl rfl rfl rfl rfl (by omega) (by omega) ?_))
      | (show Vc _ _ _ _ _ _; first
      | refine Vc.seq ?_
      | refine Vc.region ?_
      | refine Vc.skip ?_
      | refine Vc.block ?_
      | (refine Vc.cond rfl (fun h => ?_) (fun h => ?_) <;> first | (exfalso; simp only [decide_eq_true_eq, decide_eq_false_iff_not, Bool.not_eq_true', Bool.not_eq_false'] at h; omega) | (with_reducible have hp := of_decide_eq_true h) | (with_reducible have hp := of_decide_eq_false h)))
      | (show KSeq _ _ _ _ _ _ _; refine KSeq.normal ?_)
      | (show KBlock _ _ _ _ _ _; refine KBlock.normal ?_))
    · refine KLoop.again (j + 1, (v, dat)) ⟨rfl, got_succ rfl (by omega), trivial⟩ ⟨rfl, rfl, trivial⟩ ⟨hlt, hzf, ?_, H⟩ (by show _ < _; omega)
      rw [hst]
      exact (if_pos (show bk = k by omega)).symm
    · refine KLoop.again (j + 1, y) ⟨rfl, got_succ rfl (by omega), trivial⟩ ⟨rfl, rfl, trivial⟩ ⟨hlt, hyf, ?_, H⟩ (by show _ < _; omega)
      rw [hst]
      exact (if_neg (show ¬ bk = k by omega)).symm
  ·
    obtain rfl : j = P.wt.length := by omega
    have hy2 : y.2 = rdB P.dk k := by
      rw [hy]
      unfold rdB
      rw [List.take_of_length_le (by show (P.wt.map _).length ≤ _; rw [List.length_map]; exact Nat.le_refl _)]
    repeat' (first
      | (show VcL _ _ _ _ _ _ _ _; first
      | refine VcL.pures tabOk rfl ?_
      | refine VcL.nil ?_
      | (show VcL _ _ _ _ (⟨_, .load _ _, _, _, _, _⟩ :: _) _ _ _; refine VcL.load1 tabOk rfl rfl rfl rfl rfl (by exact Holds.cell H rfl) ?_)
      | (show VcL _ _ _ _ (⟨_, .call ⟨.value (.func F_tithingref16_block), _, _⟩, _, _, _, _⟩ :: _) _ _ _; (refine VcL.callF ok_tithingref16_block rfl rfl rfl rfl (Rets.mono (blockR_any (l := y.2) H hyf.toR) ?_); rintro _ w H)))
      | (show Vc _ _ _ _ _ _; first
      | refine Vc.seq ?_
      | refine Vc.region ?_
      | refine Vc.ret ?_
      | refine Vc.exit ?_
      | (refine Vc.cond rfl (fun h => ?_) (fun h => ?_) <;> first | (exfalso; simp only [decide_eq_true_eq, decide_eq_false_iff_not, Bool.not_eq_true', Bool.not_eq_false'] at h; omega) | (with_reducible have hp := of_decide_eq_false h)))
      | (show KSeq _ _ _ _ _ _ _; first
      | refine KSeq.normal ?_
      | refine KSeq.exit ?_)
      | (show KBlock _ _ _ _ _ _; refine KBlock.here ?_)
      | refine KLoop.exit ?_
      | (show KEnd _ _ _ _ _ _ _; refine KEnd.fin (Or.inr rfl) ⟨_, (ResL.tmp rfl (ResL.tmp rfl ResL.nil)), ?_⟩))
    refine ⟨_, rfl, ?_⟩
    rw [padB_full (by rw [hy2]; exact hrl), hy2] at H
    exact (rdk_close P rfl hkk.ok hf (H.re [1, 1, 1, 0] rfl)).swap
theorem WriteR_any {d : Nat} {D : Dk} (H : Holds I w (rdkA I d D :: L)) (hw : D.writes < 2 ^ 40) {k : Int} {v : Value} {l : By} (hv : SlR I L v 1 l.length (byL l)) (hl : l.length ≤ 140737488355328) :
    Rets Try.prog F_tithingref16_Disk_Write #[ptr d, .int .i64 k, v] w fun u w' => ∃ J, Imm.Le I J ∧ u = .int .i64 (wrS D k l).2 ∧ Holds J w' (rdkA J d (wrS D k l).1 :: L) := by
  obtain ⟨A, cap1, rfl, hcap1⟩ := hv.form
  obtain ⟨b, o, cap, A2, cap2, P, rfl, hk, hcap, hf, HB⟩ := rdk_open H
  clear H
  have H := HB
  clear HB
  have hbl : P.dk.blocks.length = P.bl.length := List.length_map ..
  by_cases hin : 0 ≤ k ∧ k < P.bl.length ∧ l.length = 256
  · obtain ⟨h0, h1, h2⟩ := hin
    obtain ⟨n, rfl⟩ := Int.eq_ofNat_of_zero_le h0
    have hst : P.dk.stop = P.stop := rfl
    have hlow := hk.ok.low
    have hhigh := hk.ok.high
    rw [hst] at hlow hhigh
    by_cases hs0 : P.stop = 0
    · have e : wrS P.dk (n : Int) l = (P.dk, 160) := by
        unfold wrS
        rw [if_neg (by rw [hbl]; omega), if_pos (hst.trans hs0)]
      rw [e]
      refine ok_tithingref16_Disk_Write.rets rfl ?_
      repeat' (first
        | (show VcL _ _ _ _ _ _ _ _; first
      | refine VcL.pures tabOk rfl ?_
      | refine VcL.nil ?_
      | (show VcL _ _ _ _ (⟨_, .load _ _, _, _, _, _⟩ :: _) _ _ _; refine VcL.load1 tabOk rfl rfl rfl rfl rfl (by exact Holds.cell H rfl) ?_)
      | (refine VcL.guard rfl rfl rfl rfl (fun h => ?_) (fun h => ?_) <;> first | (cases h; done) | (exfalso; simp only [decide_eq_true_eq, decide_eq_false_iff_not, Bool.not_eq_true', Bool.not_eq_false'] at h; omega) | (with_reducible have hp := of_decide_eq_false h)))
        | (show Vc _ _ _ _ _ _; first
      | refine Vc.seq ?_
      | refine Vc.region ?_
      | refine Vc.ret ?_
      | refine Vc.block ?_
      | (refine Vc.cond rfl (fun h => ?_) (fun h => ?_) <;> first | (exfalso; simp only [decide_eq_true_eq, decide_eq_false_iff_not, Bool.not_eq_true', Bool.not_eq_false'] at h; omega) | (with_reducible have hp := of_decide_eq_true h) | (with_reducible have hp := ndec_f h)))
        | (show KSeq _ _ _ _ _ _ _; first
      | refine KSeq.normal ?_
      | refine KSeq.ret ?_)
        | (show KBlock _ _ _ _ _ _; refine KBlock.ret ?_)
        | (show KEnd _ _ _ _ _ _ _; refine KEnd.fin (Or.inr rfl) ⟨_, (ResL.tmp rfl ResL.nil), ?_⟩))
      exact ⟨I, Imm.Le.rfl' I, rfl, rdk_close P rfl hk.ok hf H⟩
    · have e : wrS P.dk (n : Int) l = (⟨P.dk.blocks, P.dk.wait ++ [(n, l)], P.writes + 1, max (P.stop - 1) (-1)⟩, 0) := by
        unfold wrS
        rw [if_neg (by rw [hbl]; omega), if_neg (fun e => hs0 (hst.symm.trans e))]
        rfl
      have hok := wrS_ok hk.ok (n : Int) l
      rw [e] at hok
      rw [e]
      have hwr : P.dk.writes = P.writes := rfl
      rw [hwr] at hw
      have hmany := hk.many
      have hwrap : IntKind.i64.wrap ((P.writes : Int) + 1) = ((P.writes + 1 : Nat) : Int) := wrap_succ _ (by omega)
      have hwrap2 : IntKind.i64.wrap (P.stop - 1) = P.stop - 1 := wrap_i64 (by omega) (by omega)
      refine ok_tithingref16_Disk_Write.rets rfl ?_
      repeat' (first
        | rw [hwrap]
        | rw [hwrap2]
        | (refine VcD.append tabOk rfl rfl rfl rfl rfl (Holds.f3 H) (Src.slice rfl (Holds.pt_rd H)) (wk_one (n, .slice A3 256 c3, []) rfl) (by show (_ + 1) * 32 ≤ _; omega) rfl rfl rfl (fun v_ w H => ⟨Holds.rdWhole (Holds.f2 H), ?_⟩); obtain ⟨_, A4, c4, rfl⟩ := Holds.own_len H)
        | (show VcL _ _ _ _ _ _ _ _; first
      | refine VcL.pures tabOk rfl ?_
      | refine VcL.nil ?_
      | (show VcL _ _ _ _ (⟨_, .load _ _, _, _, _, _⟩ :: _) _ _ _; refine VcL.load1 tabOk rfl rfl rfl rfl rfl (by exact Holds.cell H rfl) ?_)
      | (show VcL _ _ _ _ (⟨_, .store _ _ _, _, _, _, _⟩ :: _) _ _ _; refine VcL.store tabOk rfl (by exact H) rfl rfl (by exact rfl) (by exact rfl) (by exact rfl) (by exact rfl) (fun w H => ?_))
      | (refine VcL.guard rfl rfl rfl rfl (fun h => ?_) (fun h => ?_) <;> first | (cases h; done) | (exfalso; simp only [decide_eq_true_eq, decide_eq_false_iff_not, Bool.not_eq_true', Bool.not_eq_false'] at h; omega) | (with_reducible have hp := of_decide_eq_false h)))
        | (show VcD _ _ _ _ _ _ _ _ _; first
      | refine VcD.pures tabOk rfl ?_
      | refine VcD.done ?_
      | (show VcD _ _ _ _ _ (.take _ _) _ _ _; refine VcD.load1 tabOk rfl rfl rfl rfl rfl rfl (by intro w_ hw_; exact hw_ _ _ rfl) (by exact rfl) ?_)
      | (show VcD _ _ _ _ _ (.only _ _) _ _ _; first
      | (refine VcD.callF (f := F_tithingref16_block) rfl ok_tithingref16_block rfl rfl rfl rfl (Rets.mono (blockR_any (l := l) H hv.up.up.up) ?_); rintro _ w H; rw [padB_full h2] at H; obtain ⟨_, A3, c3, rfl⟩ := Holds.own_len H; obtain ⟨J2, hJ2, H, hsl⟩ := Holds.freezeOwn H; refine ⟨(by exact Holds.rdWhole H), ?_⟩)
      | (refine VcD.eff rfl rfl rfl rfl (OpE.buildSliceP tabOk H rfl rfl rfl rfl) ?_; rintro _ w ⟨b_, rfl, H⟩; refine ⟨(by exact Holds.rdWhole (Holds.f1 H)), ?_⟩)
      | (refine VcD.eff rfl rfl rfl rfl (OpE.store tabOk (by exact (Holds.f2 H)) rfl rfl rfl (by exact rfl) (by exact rfl) (by exact rfl) (by exact rfl)) ?_; rintro _ w ⟨_, H⟩; refine ⟨(by trivial), ?_⟩)))
        | (show Vc _ _ _ _ _ _; first
      | refine Vc.seq ?_
      | refine Vc.region ?_
      | refine Vc.ret ?_
      | refine Vc.skip ?_
      | refine Vc.block ?_
      | (refine Vc.drawn (id := 7) (.pure 0 (.pure 1 (.pure 2 (.pure 3 (.pure 5 (.pure 6 (.take 4 (.only 7 (.pure 8 (.only 9 (.only 10 (.pure 11 (.pure 12 (.only 13 .done)))))))))))))) (.till (fun w => Rd w d 0 [.slice (some ⟨b, o, none⟩) P.bl.length cap, .slice A2 P.wt.length cap2, .int .i64 (max (P.stop - 1) (-1)), .int .i64 ((P.writes + 1 : Nat) : Int)]) 13 (.one (fun w => True))) mixed (by kernel_rfl) (by exact Holds.rdWhole (Holds.drew H _)) ?_; have H := H.drew (w.drawn + 1))
      | (refine Vc.cond rfl (fun h => ?_) (fun h => ?_) <;> first | (exfalso; simp only [decide_eq_true_eq, decide_eq_false_iff_not, Bool.not_eq_true', Bool.not_eq_false'] at h; omega) | (with_reducible have hp := of_decide_eq_false h) | (with_reducible have hp := ndec_f h)))
        | (show KSeq _ _ _ _ _ _ _; refine KSeq.normal ?_)
        | (show KBlock _ _ _ _ _ _; refine KBlock.normal ?_)
        | (show KEnd _ _ _ _ _ _ _; refine KEnd.fin (Or.inr rfl) ⟨_, (ResL.tmp rfl ResL.nil), ?_⟩))
      refine ⟨J2, hJ2, rfl, rdk_close (bv := .slice (some ⟨b, o, none⟩) P.bl.length cap) (wv := .slice A4 (P.wt.length + 1) c4) ⟨P.bl, P.wt ++ [(n, .slice A3 256 c3, l)], P.writes + 1, max (P.stop - 1) (-1)⟩ ?_ hok (fun y hy => ?_) ?_⟩
      · unfold Kd.dk; simp
      · have hy : y ∈ P.bl ++ (P.wt ++ [((n, (Value.slice A3 256 c3, l)) : Nat × Vb)]).map (fun x : Nat × Vb => x.2) := hy
        rw [List.map_append, ← List.append_assoc] at hy
        rcases List.mem_append.1 hy with hy | hy
        · exact (hf y hy).mono hJ2
        · simp only [List.map_cons, List.map_nil, List.mem_singleton] at hy
          subst hy
          show SlI J2 (.slice A3 256 c3) 1 l.length (byL l)
          rw [h2]
          exact hsl
      · have H2 := H.drop2.re [0, 1, 0] rfl
        show Holds J2 w (blk d _ [_, _, _, _] :: own _ _ _ _ _ :: own _ _ _ (P.wt ++ [_]).length _ :: L)
        rw [List.length_append, flat_snoc]
        exact H2
  · have e : wrS P.dk k l = (P.dk, 2) := by
      unfold wrS
      rw [if_pos (by rw [hbl]; exact hin)]
    rw [e]
    refine ok_tithingref16_Disk_Write.rets rfl ?_
    repeat' (first
      | (show VcL _ _ _ _ _ _ _ _; first
      | refine VcL.pures tabOk rfl ?_
      | refine VcL.nil ?_
      | (show VcL _ _ _ _ (⟨_, .load _ _, _, _, _, _⟩ :: _) _ _ _; refine VcL.load1 tabOk rfl rfl rfl rfl rfl (by exact Holds.cell H rfl) ?_)
      | (refine VcL.guard rfl rfl rfl rfl (fun h => ?_) (fun h => ?_) <;> first | (cases h; done) | (with_reducible have hp := of_decide_eq_true h) | (with_reducible have hp := of_decide_eq_false h) | skip))
      | (show Vc _ _ _ _ _ _; first
      | refine Vc.seq ?_
      | refine Vc.region ?_
      | refine Vc.condT rfl ?_
      | refine Vc.ret ?_
      | refine Vc.block ?_
      | (refine Vc.cond rfl (fun h => ?_) (fun h => ?_) <;> first | (exfalso; simp only [decide_eq_true_eq, decide_eq_false_iff_not, Bool.not_eq_true', Bool.not_eq_false'] at h; omega) | (with_reducible have hp := ndec_t h)))
      | (show KSeq _ _ _ _ _ _ _; first
      | refine KSeq.normal ?_
      | refine KSeq.ret ?_)
      | (show KBlock _ _ _ _ _ _; refine KBlock.ret ?_)
      | (show KEnd _ _ _ _ _ _ _; refine KEnd.fin (Or.inr rfl) ⟨_, (ResL.tmp rfl ResL.nil), ?_⟩))
    all_goals first | exact ⟨I, Imm.Le.rfl' I, rfl, rdk_close P rfl hk.ok hf H⟩ | (exfalso; omega)
end Go.Proofs.Ytoahfjfknljacaa.V
