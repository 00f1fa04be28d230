/- The document's disk: flush and crash. -/
import Derived.Test.YtoahfjfknljacaaVK
namespace Go.Proofs.Ytoahfjfknljacaa.V
open Go Go.Proofs.YtoahfjfknljacaaV
set_option linter.unusedVariables false
set_option linter.unusedSimpArgs false
set_option maxHeartbeats 1000000
set_option maxRecDepth 4000
attribute [local irreducible] IntKind.wrap
variable {I : Imm} {w : World} {L : List Asn}
theorem flK_mem {wt : List (Nat × Vb)} {x : Vb} : ∀ {bl : List Vb}, x ∈ flK bl wt → x ∈ bl ∨ x ∈ wt.map (·.2) := by
  unfold flK
  induction wt with
  | nil => exact fun h => .inl h
  | cons y r ih =>
    intro bl h
    rw [List.foldl_cons] at h
    rcases ih h with h | h
    · rcases List.mem_or_eq_of_mem_set h with h | rfl
      · exact .inl h
      · exact .inr (List.mem_cons_self ..)
    · exact .inr (List.mem_cons_of_mem _ h)
theorem own_at {v : Value} {A : Option Addr} {e sz m cap : Nat} {cs : List Value} (hn : 0 < m) (H : Holds I w (own (.slice A m cap) e sz m cs :: L)) : ∃ b o, A = some ⟨b, o, none⟩ := by
  obtain ⟨b, o, c, e, _⟩ := Holds.own_some hn H
  injection e with e1 e2 e3
  exact ⟨b, o, e1⟩
theorem FlushR_any {J : Imm} {d : Nat} {D : Dk} (H : Holds I w (rdkA J d D :: L)) (hw : D.writes < 2 ^ 40) :
    Rets Try.prog F_tithingref16_Disk_Flush #[ptr d] w fun u w' => u = .int .i64 (flS D).2 ∧ Holds I w' (rdkA J d (flS D).1 :: L) := by
  obtain ⟨b0, o0, cap, A2, cap2, P, rfl, hk, hcap, hfz, HB⟩ := rdk_open H
  clear H
  have H := HB
  clear HB
  have hst : P.dk.stop = P.stop := rfl
  have hmany := hk.many
  have hwr : P.dk.writes = P.writes := rfl
  rw [hwr] at hw
  by_cases hs0 : P.stop = 0
  · have e : flS P.dk = (P.dk, 160) := by unfold flS; rw [if_pos (hst.trans hs0)]
    rw [e]
    refine ok_tithingref16_Disk_Flush.rets rfl ?_
    repeat' (first
      | (show VcL _ _ _ _ _ _ _ _; first
      | refine VcL.pures tabOk rfl ?_
      | refine VcL.nil ?_
      | (show VcL _ _ _ _ (⟨_, .load _ _, _, _, _, _⟩ :: _) _ _ _; refine VcL.load1 tabOk rfl rfl rfl rfl rfl (by exact Holds.cell H rfl) ?_))
      | (show Vc _ _ _ _ _ _; first
      | refine Vc.seq ?_
      | refine Vc.region ?_
      | refine Vc.ret ?_
      | (refine Vc.cond rfl (fun h => ?_) (fun h => ?_) <;> first | (exfalso; simp only [decide_eq_true_eq, decide_eq_false_iff_not, Bool.not_eq_true', Bool.not_eq_false'] at h; omega) | (with_reducible have hp := of_decide_eq_true h)))
      | (show KSeq _ _ _ _ _ _ _; first
      | refine KSeq.normal ?_
      | refine KSeq.ret ?_)
      | (show KEnd _ _ _ _ _ _ _; refine KEnd.fin (Or.inr rfl) ⟨_, (ResL.tmp rfl ResL.nil), ?_⟩))
    exact ⟨rfl, rdk_close P rfl hk.ok hfz H⟩
  · have e : flS P.dk = (⟨putS P.dk.blocks P.dk.wait, [], P.writes, P.stop⟩, 0) := by unfold flS; rw [if_neg (fun e => hs0 (hst.symm.trans e))]; rfl
    have hok := flS_ok hk.ok
    rw [e] at hok ⊢
    refine ok_tithingref16_Disk_Flush.rets rfl ?_
    repeat' (first
      | (show VcL _ _ _ _ _ _ _ _; first
      | refine VcL.pures tabOk rfl ?_
      | refine VcL.nil ?_
      | (show VcL _ _ _ _ (⟨_, .load _ _, _, _, _, _⟩ :: _) _ _ _; refine VcL.load1 tabOk rfl rfl rfl rfl rfl (by exact Holds.cell H rfl) ?_))
      | (show Vc _ _ _ _ _ _; first
      | refine Vc.seq ?_
      | refine Vc.region ?_
      | refine Vc.skip ?_
      | refine Vc.block ?_
      | (refine Vc.cond rfl (fun h => ?_) (fun h => ?_) <;> first | (exfalso; simp only [decide_eq_true_eq, decide_eq_false_iff_not, Bool.not_eq_true', Bool.not_eq_false'] at h; omega) | (with_reducible have hp := of_decide_eq_false h)))
      | (show KSeq _ _ _ _ _ _ _; refine KSeq.normal ?_))
    refine Vc.loopS [(0, _)] (fun k : Nat => [(3, .int .i64 k)]) (fun k w => k ≤ P.wt.length ∧ Holds I w (own (.slice (some ⟨b0, o0, none⟩) P.bl.length cap) 22 1 P.bl.length ((flK P.bl (P.wt.take k)).flatMap bkC) :: blk d 88 (rkV P (.slice (some ⟨b0, o0, none⟩) P.bl.length cap) (.slice A2 P.wt.length cap2)) :: own (.slice A2 P.wt.length cap2) 86 2 P.wt.length (P.wt.flatMap wkC) :: L)) (fun k _ => P.wt.length - k) 0 ⟨rfl, trivial⟩ ⟨rfl, trivial⟩ ⟨Nat.zero_le _, H.swap⟩ ?_
    rintro k w ⟨hkk, H⟩
    by_cases hlt : k < P.wt.length
    · obtain ⟨z, hz⟩ : ∃ z, atD P.wt k = z := ⟨_, rfl⟩
      have hzm := hk.wt _ (atD_mem hlt)
      rw [hz] at hzm
      have hfs : flK P.bl (P.wt.take (k + 1)) = (flK P.bl (P.wt.take k)).set z.1 z.2 := by rw [flK_succ hlt, hz]
      have hgk : P.wt[k]? = some z := by rw [← hz]; exact atD_get hlt
      obtain ⟨A3, c3, hf, _⟩ := (hfz z.2 (List.mem_append_right _ (List.mem_map_of_mem (hz ▸ atD_mem hlt)))).form
      obtain ⟨bk, v, dat⟩ := z
      dsimp only at hf hzm hfs
      subst hf
      obtain ⟨bl2, hbl2⟩ : ∃ bl2, flK P.bl (P.wt.take k) = bl2 := ⟨_, rfl⟩
      have hlen2 : bl2.length = P.bl.length := by rw [← hbl2, flK_len]
      rw [hbl2] at H hfs
      obtain ⟨b4, o4, rfl⟩ := own_at (v := .bool true) (by omega) H.f2
      have hq : bl2[bk]? = some (atD bl2 bk) := atD_get (by omega)
      repeat' (first
        | (refine VcD.eff rfl rfl rfl rfl (OpE.storeOwn (f := 0) (.slice A3 dat.length c3, dat) tabOk bkC_len H hq rfl rfl rfl (by exact rfl) (by exact rfl) (by exact rfl) (by exact rfl) (by exact rfl)) ?_; rintro _ w ⟨_, H⟩; refine ⟨Holds.drop H, ?_⟩)
        | (show VcL _ _ _ _ _ _ _ _; first
      | refine VcL.pures tabOk rfl ?_
      | refine VcL.nil ?_
      | (show VcL _ _ _ _ (⟨_, .load _ _, _, _, _, _⟩ :: _) _ _ _; refine VcL.load1 tabOk rfl rfl rfl rfl rfl (by exact Holds.cell (Holds.f1 H) rfl) ?_))
        | (show VcD _ _ _ _ _ _ _ _ _; first
      | refine VcD.pures tabOk rfl ?_
      | refine VcD.done ?_
      | (show VcD _ _ _ _ _ (.pure _ _) _ _ _; refine VcD.indexAddr tabOk rfl rfl rfl rfl rfl rfl rfl (by omega) (by omega) ?_)
      | (show VcD _ _ _ _ _ (.take _ _) _ _ _; refine VcD.load1 tabOk rfl rfl rfl rfl rfl rfl (by intro w_ hw_; first | exact Holds.cell hw_ rfl | exact Holds.ownCell (Holds.f1 hw_) (fun _ => rfl) (by assumption) rfl | exact Holds.ownCell0 (Holds.f1 hw_) (fun _ => rfl) (by assumption) rfl) (by exact rfl) ?_))
        | (show Vc _ _ _ _ _ _; first
      | refine Vc.seq ?_
      | refine Vc.region ?_
      | refine Vc.skip ?_
      | refine Vc.block ?_
      | (refine Vc.drawn (id := 6) (.pure 0 (.pure 1 (.pure 2 (.pure 4 (.pure 5 (.pure 6 (.pure 8 (.pure 12 (.pure 13 (.pure 14 (.pure 16 (.take 3 (.take 7 (.pure 9 (.pure 10 (.take 11 (.take 15 (.pure 17 (.pure 18 (.take 19 (.pure 20 (.only 21 .done)))))))))))))))))))))) (.one (fun w => Holds I w (blk d 88 (rkV P (.slice (some ⟨b0, o0, none⟩) P.bl.length cap) (.slice (some ⟨b4, o4, none⟩) P.wt.length cap2)) :: own (.slice (some ⟨b4, o4, none⟩) P.wt.length cap2) 86 2 P.wt.length (P.wt.flatMap wkC) :: L))) mixed (by kernel_rfl) (by exact Holds.drop (Holds.drew H _)) ?_; have H := H.drew (w.drawn + 1))
      | (refine Vc.cond rfl (fun h => ?_) (fun h => ?_) <;> first | (exfalso; simp only [decide_eq_true_eq, decide_eq_false_iff_not, Bool.not_eq_true', Bool.not_eq_false'] at h; omega) | (with_reducible have hp := of_decide_eq_true h)))
        | (show KSeq _ _ _ _ _ _ _; refine KSeq.normal ?_)
        | (show KBlock _ _ _ _ _ _; refine KBlock.normal ?_))
      refine KLoop.again (k + 1) ⟨got_succ rfl (by omega), trivial⟩ ⟨rfl, trivial⟩ ⟨hlt, ?_⟩ (by omega)
      rw [hfs]
      exact H
    ·
      obtain rfl : k = P.wt.length := by omega
      repeat' (first
        | (show VcL _ _ _ _ _ _ _ _; first
      | refine VcL.pures tabOk rfl ?_
      | refine VcL.nil ?_
      | (show VcL _ _ _ _ (⟨_, .load _ _, _, _, _, _⟩ :: _) _ _ _; refine VcL.load1 tabOk rfl rfl rfl rfl rfl (by exact Holds.cell (Holds.f1 H) rfl) ?_)
      | (show VcL _ _ _ _ (⟨_, .store _ _ _, _, _, _, _⟩ :: _) _ _ _; refine VcL.store tabOk rfl (by exact (Holds.f1 H)) rfl rfl (by exact rfl) (by exact rfl) (by exact rfl) (by exact rfl) (fun w H => ?_)))
        | (show Vc _ _ _ _ _ _; first
      | refine Vc.seq ?_
      | refine Vc.region ?_
      | refine Vc.ret ?_
      | refine Vc.exit ?_
      | (refine Vc.cond rfl (fun h => ?_) (fun h => ?_) <;> first | (exfalso; simp only [decide_eq_true_eq, decide_eq_false_iff_not, Bool.not_eq_true', Bool.not_eq_false'] at h; omega) | (with_reducible have hp := of_decide_eq_false h)))
        | (show KSeq _ _ _ _ _ _ _; first
      | refine KSeq.normal ?_
      | refine KSeq.exit ?_)
        | (show KBlock _ _ _ _ _ _; refine KBlock.here ?_)
        | refine KLoop.exit ?_
        | (show KEnd _ _ _ _ _ _ _; refine KEnd.fin (Or.inr rfl) ⟨_, (ResL.tmp rfl ResL.nil), ?_⟩))
      rw [List.take_length] at H
      refine ⟨rfl, rdk_close (bv := .slice (some ⟨b0, o0, none⟩) P.bl.length cap) (wv := .slice none 0 0) ⟨flK P.bl P.wt, [], P.writes, P.stop⟩ ?_ hok (fun y hy => ?_) ?_⟩
      · unfold Kd.dk; rw [flK_dk]; rfl
      · have hy : y ∈ flK P.bl P.wt ++ [] := hy
        rw [List.append_nil] at hy
        exact hfz y (List.mem_append.2 (flK_mem hy))
      · have H2 := H.drop2.own_nil (e := 86) (sz := 2)
        have H3 := H2.re [1, 1, 0] rfl
        show Holds I w (blk d _ [_, _, _, _] :: own _ _ _ (flK P.bl P.wt).length _ :: _ :: L)
        rw [flK_len]
        exact H3
theorem CrashR_bad {J : Imm} {d : Nat} {D : Dk} (H : Holds I w (rdkA J d D :: L)) {A : Option Addr} {m c : Nat} {torn : Int} (ht : ¬ (0 ≤ torn ∧ torn < 256)) :
    Rets Try.prog F_tithingref16_Disk_Crash #[ptr d, .slice A m c, .int .i64 torn] w fun u w' => u = .int .i64 2 ∧ Holds I w' (rdkA J d D :: L) := by
  refine ok_tithingref16_Disk_Crash.rets rfl ?_
  repeat' (first
    | (show VcL _ _ _ _ _ _ _ _; first
      | refine VcL.pures tabOk rfl ?_
      | refine VcL.nil ?_
      | (refine VcL.guard rfl rfl rfl rfl (fun h => ?_) (fun h => ?_) <;> first | (with_reducible have hp := of_decide_eq_true h) | (with_reducible have hp := of_decide_eq_false h)))
    | (show Vc _ _ _ _ _ _; first
      | refine Vc.seq ?_
      | refine Vc.region ?_
      | refine Vc.condT rfl ?_
      | refine Vc.ret ?_
      | (refine Vc.cond rfl (fun h => ?_) (fun h => ?_) <;> first | (exfalso; simp only [decide_eq_true_eq, decide_eq_false_iff_not, Bool.not_eq_true', Bool.not_eq_false'] at h; omega) | (with_reducible have hp := of_decide_eq_true h)))
    | (show KSeq _ _ _ _ _ _ _; first
      | refine KSeq.normal ?_
      | refine KSeq.ret ?_)
    | (show KEnd _ _ _ _ _ _ _; refine KEnd.fin (Or.inr rfl) ⟨_, (ResL.tmp rfl ResL.nil), ?_⟩))
  all_goals exact ⟨rfl, H⟩
theorem CrashR_good {d : Nat} {D : Dk} (H : Holds I w (rdkA I d D :: L)) (hw : D.writes < 2 ^ 40) {v : Value} {done : List Bool} (hv : SlR I L v 1 done.length (done.flatMap boC)) {torn : Nat} (ht : torn < 256) :
    Rets Try.prog F_tithingref16_Disk_Crash #[ptr d, v, .int .i64 (torn : Nat)] w fun u w' => ∃ J, Imm.Le I J ∧ u = .int .i64 0 ∧ Holds J w' (rdkA J d ⟨crG done torn 0 true D.blocks D.wait, [], D.writes, -1⟩ :: L) := by
  obtain ⟨A, cap1, rfl, hcap1⟩ := hv.form
  obtain ⟨b0, o0, cap, A2, cap2, P, rfl, hk, hcap, hfz, HB⟩ := rdk_open H
  clear H
  have H := HB
  clear HB
  have hmany := hk.many
  have hwr : P.dk.writes = P.writes := rfl
  rw [hwr] at hw
  have hok : DkOk ⟨crG done torn 0 true P.dk.blocks P.dk.wait, [], P.dk.writes, -1⟩ := by
    have := crS_ok hk.ok done (torn : Int)
    unfold crS at this
    rw [if_pos (by omega)] at this
    exact this
  refine ok_tithingref16_Disk_Crash.rets rfl ?_
  repeat' (first
    | (show VcL _ _ _ _ _ _ _ _; first
      | refine VcL.pures tabOk rfl ?_
      | refine VcL.nil ?_
      | (refine VcL.guard rfl rfl rfl rfl (fun h => ?_) (fun h => ?_) <;> first | (cases h; done) | (with_reducible have hp := of_decide_eq_false h)))
    | (show Vc _ _ _ _ _ _; first
      | refine Vc.seq ?_
      | refine Vc.region ?_
      | refine Vc.skip ?_
      | refine Vc.block ?_
      | (refine Vc.cond rfl (fun h => ?_) (fun h => ?_) <;> first | (exfalso; simp only [decide_eq_true_eq, decide_eq_false_iff_not, Bool.not_eq_true', Bool.not_eq_false'] at h; omega) | (with_reducible have hp := of_decide_eq_false h)))
    | (show KSeq _ _ _ _ _ _ _; refine KSeq.normal ?_))
  refine Vc.loopS [(0, _), (1, _), (2, _)] (fun s : Nat × Bool => [(7, .bool s.2), (8, .int .i64 s.1)]) (fun s w => s.1 ≤ P.wt.length ∧ ∃ (J : Imm) (bl : List Vb), Imm.Le I J ∧ (∀ x ∈ bl, FzB J x) ∧ bl.length = P.bl.length ∧ (∀ x ∈ bl, x.2.length = 256) ∧ crG done torn s.1 s.2 (bl.map (·.2)) ((P.wt.drop s.1).map fun x => (x.1, x.2.2)) = crG done torn 0 true P.dk.blocks P.dk.wait ∧
    Holds J w (own (.slice (some ⟨b0, o0, none⟩) P.bl.length cap) 22 1 P.bl.length (bl.flatMap bkC) :: blk d 88 (rkV P (.slice (some ⟨b0, o0, none⟩) P.bl.length cap) (.slice A2 P.wt.length cap2)) :: own (.slice A2 P.wt.length cap2) 86 2 P.wt.length (P.wt.flatMap wkC) :: L)) (fun s _ => P.wt.length - s.1) (0, true) ⟨rfl, rfl, trivial⟩ ⟨rfl, rfl, rfl, trivial⟩ ⟨Nat.zero_le _, I, P.bl, Imm.Le.rfl' I, fun x hx => hfz x (List.mem_append_left _ hx), rfl, hk.bl, rfl, H.swap⟩ ?_
  rintro ⟨k, f⟩ w ⟨hkk, J, bl, hJ, hfb, hbl, hl256, hcr, H⟩
  dsimp only at hkk hcr ⊢
  by_cases hlt : k < P.wt.length
  · obtain ⟨z, hz⟩ : ∃ z, atD P.wt k = z := ⟨_, rfl⟩
    have hzm := hk.wt _ (atD_mem hlt)
    have hzf := hfz z.2 (List.mem_append_right _ (List.mem_map_of_mem (hz ▸ atD_mem hlt)))
    rw [hz] at hzm
    have hgk : P.wt[k]? = some z := by rw [← hz]; exact atD_get hlt
    rw [drop_atD hlt, hz, List.map_cons] at hcr
    obtain ⟨A3, c3, hf, hc3⟩ := hzf.form
    obtain ⟨bk, v, dat⟩ := z
    dsimp only at hf hzm hcr hc3 hzf
    subst hf
    obtain ⟨b4, o4, rfl⟩ := own_at (v := .bool true) (by omega) H.f2
    obtain ⟨x, hx⟩ : ∃ x, atD bl bk = x := ⟨_, rfl⟩
    have hq : bl[bk]? = some x := by rw [← hx]; exact atD_get (by omega)
    have hxl : x.2.length = 256 := hl256 x (hx ▸ atD_mem (by omega))
    have hxf := hfb x (hx ▸ atD_mem (by omega))
    have hat : atD (bl.map (·.2)) bk = x.2 := atD_of (by rw [List.getElem?_map, hq]; rfl)
    rw [crG_step hzm.2 (by rw [List.length_map]; omega) (by rw [hat]; exact hxl), hat] at hcr
    obtain ⟨A6, c6, hf6, hc6⟩ := hxf.form
    obtain ⟨xv, old⟩ := x
    dsimp only at hxl hcr hf6 hc6 hxf
    subst hf6
    obtain ⟨b5, o5, rfl, _⟩ := (SlI.toR (L := L) hzf).at (by omega)
    obtain ⟨b7, o7, rfl, _⟩ := (SlI.toR (L := L) hxf).at (by omega)
    have hz256 : dat.length = 256 := hzm.2
    have fin : ∀ (q : Nat × Bool) (K : Imm) (y : Vb), crOut done torn k f = q → (∀ x ∈ bl, FzB K x) → FzB K y → y.2 = dat.take q.1 ++ old.drop q.1 → q.1 ≤ 256 →
        (∀ x ∈ bl.set bk y, FzB K x) ∧ (bl.set bk y).length = P.bl.length ∧ (∀ x ∈ bl.set bk y, x.2.length = 256) ∧ crG done torn (k + 1) q.2 ((bl.set bk y).map (·.2)) ((P.wt.drop (k + 1)).map fun x => (x.1, x.2.2)) = crG done torn 0 true P.dk.blocks P.dk.wait := by
      intro q K y hqo hb hy hyd hq1
      rw [hqo] at hcr
      refine ⟨fun x hx => ?_, by rw [List.length_set]; exact hbl, fun x hx => ?_, ?_⟩
      · rcases List.mem_or_eq_of_mem_set hx with hx | rfl
        · exact hb x hx
        · exact hy
      · rcases List.mem_or_eq_of_mem_set hx with hx | rfl
        · exact hl256 x hx
        · rw [hyd]; exact torn_len hz256 hxl hq1
      · rw [List.map_set, hyd]
        exact hcr
    have hone : ∀ (l : By) (u : Value), u ∈ byL l → oneC u = true := fun l u hu => by_one l u hu
    have hdz : SlI J (.slice (some ⟨b5, o5, none⟩) dat.length c3) 1 dat.length (byL dat) := hzf.mono hJ
    have hdx : SlI J (.slice (some ⟨b7, o7, none⟩) old.length c6) 1 old.length (byL old) := hxf
    have hs1 : SlR J L (.slice (some ⟨b5, o5, none⟩) torn c3) 1 torn (byL (dat.take torn)) := by
      have := (hdz.toR (L := L)).take (k := torn) (by omega)
      rwa [Nat.mul_one, ← List.map_take] at this
    have hs2 : ∀ p, (torn < c6 → p = o7 + torn * 1) → SlR J L (.slice (some ⟨b7, p, none⟩) (old.length - torn) (c6 - torn)) 1 (old.length - torn) (byL (old.drop torn)) := fun p hp => by
      have := (hdx.toR (L := L)).drop (k := torn) (by omega) hp
      rwa [Nat.mul_one, ← List.map_drop] at this
    have hnew : (dat.take torn ++ old.drop torn).length = 256 := torn_len hz256 hxl (by omega)
    by_cases hkd : k < done.length
    · obtain ⟨b6, o6, rfl, hrd⟩ := hv.at (by omega)
      have hrd := (hrd.elem boC_len (atD_get hkd)).mono hJ
      repeat' (first
        | (refine VcD.eff rfl rfl rfl rfl (OpE.storeOwn (f := 0) (.slice (some ⟨b5, o5, none⟩) dat.length c3, dat) tabOk bkC_len (Holds.f1 H) hq rfl rfl rfl (by exact rfl) (by exact rfl) (by exact rfl) (by exact rfl) (by exact rfl)) ?_; rintro _ w ⟨_, H⟩; refine ⟨Holds.drop H, ?_⟩)
        | (refine VcD.append (m := torn) (ds := byL (dat.take torn)) tabOk rfl rfl rfl rfl rfl (Holds.pt_own rfl H) (SlR.src hs1.up.up.up.up.up H) (hone _) (by show (0 + torn) * 1 ≤ _; omega) rfl rfl rfl (fun v_ w H => ⟨Holds.drop H, ?_⟩))
        | (refine VcD.append (m := old.length - torn) (ds := byL (old.drop torn)) tabOk rfl rfl rfl rfl rfl H (SlR.src (SlR.up (SlR.up (SlR.up (SlR.up (SlR.up (hs2 _ (by assumption))))))) H) (hone _) (by show (0 + torn + _) * 1 ≤ _; omega) rfl rfl rfl (fun v_ w H => ⟨Holds.drop H, ?_⟩); obtain ⟨_, A8, c8, rfl⟩ := Holds.own_len H; obtain ⟨J2, hJ2, H, hsl⟩ := Holds.freezeOwn H)
        | (refine VcD.eff rfl rfl rfl rfl (OpE.storeOwn (f := 0) (.slice A8 (0 + torn + (old.length - torn)) c8, dat.take torn ++ old.drop torn) tabOk bkC_len (Holds.f1 H) hq rfl rfl rfl (by exact rfl) (by exact rfl) (by exact rfl) (by exact rfl) (by exact rfl)) ?_; rintro _ w ⟨_, H⟩; refine ⟨trivial, ?_⟩)
        | (refine VcL.load1 tabOk rfl rfl rfl rfl rfl (RdW.get0 hrd rfl H.drop.drop.drop.drop) ?_)
        | (show VcL _ _ _ _ _ _ _ _; first
      | refine VcL.pures tabOk rfl ?_
      | refine VcL.nil ?_
      | (show VcL _ _ _ _ (⟨_, .load _ _, _, _, _, _⟩ :: _) _ _ _; first
      | refine VcL.load1 tabOk rfl rfl rfl rfl rfl (by first | exact Holds.cell (Holds.f1 H) rfl | exact Holds.ownCell0 (Holds.f2 H) (fun _ => rfl) (by assumption) rfl) ?_
      | refine VcL.loadOwnN0 tabOk rfl rfl rfl rfl rfl rfl (Holds.f2 H) (fun _ => rfl) (by assumption) (by exact rfl) (by exact rfl) (by exact rfl) ?_)
      | (show VcL _ _ _ _ (⟨_, .indexAddr _ _ _, _, _, _, _⟩ :: _) _ _ _; refine VcL.indexAddr tabOk rfl rfl rfl rfl rfl rfl (by omega) (by omega) ?_)
      | refine VcL.alloc tabOk H rfl rfl rfl rfl (fun b w H => ?_)
      | (show VcL _ _ _ _ (⟨_, .store _ _ _, _, _, _, _⟩ :: _) _ _ _; refine VcL.store tabOk rfl (by exact H) rfl rfl (by exact rfl) (by exact rfl) (by exact rfl) (by exact rfl) (fun w H => ?_))
      | (refine VcL.guard rfl rfl rfl rfl (fun h => ?_) (fun h => ?_) <;> first | (exfalso; simp only [decide_eq_true_eq, decide_eq_false_iff_not, Bool.not_eq_true', Bool.not_eq_false'] at h; omega) | (with_reducible have hp := of_decide_eq_true h)))
        | (show VcD _ _ _ _ _ _ _ _ _; first
      | refine VcD.pures tabOk rfl ?_
      | refine VcD.done ?_
      | (show VcD _ _ _ _ _ (.pure _ _) _ _ _; first
      | refine VcD.indexAddr tabOk rfl rfl rfl rfl rfl rfl rfl (by omega) (by omega) ?_
      | refine VcD.sliceTo tabOk rfl rfl rfl rfl rfl rfl rfl (by omega) ?_
      | refine VcD.sliceFrom tabOk rfl rfl rfl rfl rfl rfl rfl (by omega) (by omega) (fun p_ hp_ => ?_))
      | (show VcD _ _ _ _ _ (.take _ _) _ _ _; refine VcD.load1 tabOk rfl rfl rfl rfl rfl rfl (by intro w_ hw_; first | exact Holds.cell hw_ rfl | exact Holds.cell (Holds.f1 hw_) rfl | exact Holds.cell (Holds.f2 hw_) rfl | exact Holds.ownCell0 (Holds.f1 hw_) (fun _ => rfl) (by assumption) rfl) (by exact rfl) ?_)
      | (show VcD _ _ _ _ _ (.only _ _) _ _ _; (refine VcD.eff rfl rfl rfl rfl (OpE.buildSliceP tabOk H rfl rfl rfl rfl) ?_; rintro _ w ⟨b_, rfl, H⟩; refine ⟨(by exact Holds.drop H), ?_⟩)))
        | (show Vc _ _ _ _ _ _; first
      | refine Vc.seq ?_
      | refine Vc.region ?_
      | refine Vc.skip ?_
      | refine Vc.block ?_
      | (refine Vc.drawn (id := 9) (.pure 0 (.pure 1 (.pure 2 (.pure 4 (.pure 6 (.take 3 (.take 5 (.take 7 (.pure 8 (.only 9 .done)))))))))) (.one (fun w => Holds J w (blk b 86 [.int .i64 (bk : Int), .slice (some ⟨b5, o5, none⟩) dat.length c3] :: blk d 88 (rkV P (.slice (some ⟨b0, o0, none⟩) P.bl.length cap) (.slice (some ⟨b4, o4, none⟩) P.wt.length cap2)) :: own (.slice (some ⟨b4, o4, none⟩) P.wt.length cap2) 86 2 P.wt.length (P.wt.flatMap wkC) :: L))) mixed (by kernel_rfl) (by exact Holds.drop (Holds.swap (Holds.drew H _))) ?_; have H := H.drew (w.drawn + 1))
      | (refine Vc.drawn (id := 12) (.pure 0 (.pure 1 (.pure 2 (.pure 4 (.pure 7 (.pure 9 (.pure 12 (.pure 13 (.pure 14 (.pure 16 (.pure 20 (.take 3 (.take 5 (.take 8 (.pure 10 (.take 15 (.take 17 (.pure 18 (.take 19 (.pure 21 (.only 6 (.only 11 (.only 22 (.pure 23 (.only 24 .done))))))))))))))))))))))))) (.till (fun w => Holds J w (blk b 86 [.int .i64 (bk : Int), .slice (some ⟨b5, o5, none⟩) dat.length c3] :: own (.slice (some ⟨b0, o0, none⟩) P.bl.length cap) 22 1 P.bl.length (bl.flatMap bkC) :: blk d 88 (rkV P (.slice (some ⟨b0, o0, none⟩) P.bl.length cap) (.slice (some ⟨b4, o4, none⟩) P.wt.length cap2)) :: own (.slice (some ⟨b4, o4, none⟩) P.wt.length cap2) 86 2 P.wt.length (P.wt.flatMap wkC) :: L)) 24 (.one (fun w => True))) mixed (by kernel_rfl) (by exact (Holds.drew H _)) ?_; have H := H.drew (w.drawn + 1))
      | (refine Vc.cond rfl (fun h => ?_) (fun h => ?_) <;> first | (exfalso; simp only [decide_eq_true_eq, decide_eq_false_iff_not, Bool.not_eq_true', Bool.not_eq_false'] at h; omega) | (with_reducible have hp := of_decide_eq_true h) | skip))
        | (show KSeq _ _ _ _ _ _ _; refine KSeq.normal ?_)
        | (show KBlock _ _ _ _ _ _; refine KBlock.normal ?_))
      · have e : crOut done torn k f = (256, f) := by unfold crOut; rw [if_pos ⟨hkd, h⟩]
        obtain ⟨f1, f2, f3, f4⟩ := fin (256, f) J (.slice (some ⟨b5, o5, none⟩) dat.length c3, dat) e hfb (hzf.mono hJ) (by rw [List.take_of_length_le (by omega), List.drop_of_length_le (by omega), List.append_nil]) (Nat.le_refl _)
        exact KLoop.again (k + 1, f) ⟨rfl, got_succ rfl (by omega), trivial⟩ ⟨rfl, rfl, rfl, trivial⟩ ⟨hlt, J, _, hJ, f1, f2, f3, f4, H.drop1⟩ (by show P.wt.length - (k + 1) < P.wt.length - k; omega)
      · have e : crOut done torn k f = (torn, false) := by unfold crOut; have h0 : atD done k = false := (by assumption); rw [if_neg (fun e => by rw [h0] at e; cases e.2), h]; rfl
        have hn : 0 + torn + (old.length - torn) = (dat.take torn ++ old.drop torn).length := by rw [hnew]; omega
        rw [hn] at hsl H
        have hsl2 : FzB J2 (.slice A8 (dat.take torn ++ old.drop torn).length c8, dat.take torn ++ old.drop torn) := by
          show SlI J2 _ 1 _ (byL (dat.take torn ++ old.drop torn))
          rw [show byL (dat.take torn ++ old.drop torn) = byL (dat.take torn) ++ byL (old.drop torn) from List.map_append ..]
          exact hsl
        obtain ⟨f1, f2, f3, f4⟩ := fin (torn, false) J2 (.slice A8 (dat.take torn ++ old.drop torn).length c8, dat.take torn ++ old.drop torn) e (fun x hx => (hfb x hx).mono hJ2) hsl2 rfl (by show torn ≤ 256; omega)
        exact KLoop.again (k + 1, false) ⟨rfl, got_succ rfl (by omega), trivial⟩ ⟨rfl, rfl, rfl, trivial⟩ ⟨hlt, J2, _, hJ.trans hJ2, f1, f2, f3, f4, H.drop1⟩ (by show P.wt.length - (k + 1) < P.wt.length - k; omega)
      · have e : crOut done torn k f = (0, f) := by unfold crOut; have h0 : atD done k = false := (by assumption); rw [if_neg (fun e => by rw [h0] at e; cases e.2), h]; rfl
        have hsame : bl.set bk (.slice (some ⟨b7, o7, none⟩) old.length c6, old) = bl := set_same hq
        obtain ⟨f1, f2, f3, f4⟩ := fin (0, f) J (.slice (some ⟨b7, o7, none⟩) old.length c6, old) e hfb hxf rfl (Nat.zero_le _)
        rw [hsame] at f1 f2 f3 f4
        exact KLoop.again (k + 1, f) ⟨rfl, got_succ rfl (by omega), trivial⟩ ⟨rfl, rfl, rfl, trivial⟩ ⟨hlt, J, bl, hJ, f1, f2, f3, f4, H.drop⟩ (by show P.wt.length - (k + 1) < P.wt.length - k; omega)
    ·
      repeat' (first
        | (refine VcD.append (m := torn) (ds := byL (dat.take torn)) tabOk rfl rfl rfl rfl rfl (Holds.pt_own rfl H) (SlR.src hs1.up.up.up.up.up H) (hone _) (by show (0 + torn) * 1 ≤ _; omega) rfl rfl rfl (fun v_ w H => ⟨Holds.drop H, ?_⟩))
        | (refine VcD.append (m := old.length - torn) (ds := byL (old.drop torn)) tabOk rfl rfl rfl rfl rfl H (SlR.src (SlR.up (SlR.up (SlR.up (SlR.up (SlR.up (hs2 _ (by assumption))))))) H) (hone _) (by show (0 + torn + _) * 1 ≤ _; omega) rfl rfl rfl (fun v_ w H => ⟨Holds.drop H, ?_⟩); obtain ⟨_, A8, c8, rfl⟩ := Holds.own_len H; obtain ⟨J2, hJ2, H, hsl⟩ := Holds.freezeOwn H)
        | (refine VcD.eff rfl rfl rfl rfl (OpE.storeOwn (f := 0) (.slice A8 (0 + torn + (old.length - torn)) c8, dat.take torn ++ old.drop torn) tabOk bkC_len (Holds.f1 H) hq rfl rfl rfl (by exact rfl) (by exact rfl) (by exact rfl) (by exact rfl) (by exact rfl)) ?_; rintro _ w ⟨_, H⟩; refine ⟨trivial, ?_⟩)
        | (show VcL _ _ _ _ _ _ _ _; first
      | refine VcL.pures tabOk rfl ?_
      | refine VcL.nil ?_
      | (show VcL _ _ _ _ (⟨_, .load _ _, _, _, _, _⟩ :: _) _ _ _; first
      | refine VcL.load1 tabOk rfl rfl rfl rfl rfl (by first | exact Holds.cell (Holds.f1 H) rfl | exact Holds.ownCell0 (Holds.f2 H) (fun _ => rfl) (by assumption) rfl) ?_
      | refine VcL.loadOwnN0 tabOk rfl rfl rfl rfl rfl rfl (Holds.f2 H) (fun _ => rfl) (by assumption) (by exact rfl) (by exact rfl) (by exact rfl) ?_)
      | (show VcL _ _ _ _ (⟨_, .indexAddr _ _ _, _, _, _, _⟩ :: _) _ _ _; refine VcL.indexAddr tabOk rfl rfl rfl rfl rfl rfl (by omega) (by omega) ?_)
      | refine VcL.alloc tabOk H rfl rfl rfl rfl (fun b w H => ?_)
      | (show VcL _ _ _ _ (⟨_, .store _ _ _, _, _, _, _⟩ :: _) _ _ _; refine VcL.store tabOk rfl (by exact H) rfl rfl (by exact rfl) (by exact rfl) (by exact rfl) (by exact rfl) (fun w H => ?_))
      | (refine VcL.guard rfl rfl rfl rfl (fun h => ?_) (fun h => ?_) <;> first | (exfalso; simp only [decide_eq_true_eq, decide_eq_false_iff_not, Bool.not_eq_true', Bool.not_eq_false'] at h; omega) | (with_reducible have hp := of_decide_eq_false h)))
        | (show VcD _ _ _ _ _ _ _ _ _; first
      | refine VcD.pures tabOk rfl ?_
      | refine VcD.done ?_
      | (show VcD _ _ _ _ _ (.pure _ _) _ _ _; first
      | refine VcD.indexAddr tabOk rfl rfl rfl rfl rfl rfl rfl (by omega) (by omega) ?_
      | refine VcD.sliceTo tabOk rfl rfl rfl rfl rfl rfl rfl (by omega) ?_
      | refine VcD.sliceFrom tabOk rfl rfl rfl rfl rfl rfl rfl (by omega) (by omega) (fun p_ hp_ => ?_))
      | (show VcD _ _ _ _ _ (.take _ _) _ _ _; refine VcD.load1 tabOk rfl rfl rfl rfl rfl rfl (by intro w_ hw_; first | exact Holds.cell hw_ rfl | exact Holds.cell (Holds.f2 hw_) rfl | exact Holds.ownCell0 (Holds.f1 hw_) (fun _ => rfl) (by assumption) rfl) (by exact rfl) ?_)
      | (show VcD _ _ _ _ _ (.only _ _) _ _ _; (refine VcD.eff rfl rfl rfl rfl (OpE.buildSliceP tabOk H rfl rfl rfl rfl) ?_; rintro _ w ⟨b_, rfl, H⟩; refine ⟨(by exact Holds.drop H), ?_⟩)))
        | (show Vc _ _ _ _ _ _; first
      | refine Vc.seq ?_
      | refine Vc.region ?_
      | refine Vc.condF rfl ?_
      | refine Vc.skip ?_
      | refine Vc.block ?_
      | (refine Vc.drawn (id := 12) (.pure 0 (.pure 1 (.pure 2 (.pure 4 (.pure 7 (.pure 9 (.pure 12 (.pure 13 (.pure 14 (.pure 16 (.pure 20 (.take 3 (.take 5 (.take 8 (.pure 10 (.take 15 (.take 17 (.pure 18 (.take 19 (.pure 21 (.only 6 (.only 11 (.only 22 (.pure 23 (.only 24 .done))))))))))))))))))))))))) (.till (fun w => Holds J w (blk b 86 [.int .i64 (bk : Int), .slice (some ⟨b5, o5, none⟩) dat.length c3] :: own (.slice (some ⟨b0, o0, none⟩) P.bl.length cap) 22 1 P.bl.length (bl.flatMap bkC) :: blk d 88 (rkV P (.slice (some ⟨b0, o0, none⟩) P.bl.length cap) (.slice (some ⟨b4, o4, none⟩) P.wt.length cap2)) :: own (.slice (some ⟨b4, o4, none⟩) P.wt.length cap2) 86 2 P.wt.length (P.wt.flatMap wkC) :: L)) 24 (.one (fun w => True))) mixed (by kernel_rfl) (by exact (Holds.drew H _)) ?_; have H := H.drew (w.drawn + 1))
      | (refine Vc.cond rfl (fun h => ?_) (fun h => ?_) <;> first | (exfalso; simp only [decide_eq_true_eq, decide_eq_false_iff_not, Bool.not_eq_true', Bool.not_eq_false'] at h; omega) | (with_reducible have hp := of_decide_eq_true h) | skip))
        | (show KSeq _ _ _ _ _ _ _; refine KSeq.normal ?_)
        | (show KBlock _ _ _ _ _ _; refine KBlock.normal ?_))
      · have e : crOut done torn k f = (torn, false) := by unfold crOut; rw [if_neg (fun e => hkd e.1), h]; rfl
        have hn : 0 + torn + (old.length - torn) = (dat.take torn ++ old.drop torn).length := by rw [hnew]; omega
        rw [hn] at hsl H
        have hsl2 : FzB J2 (.slice A8 (dat.take torn ++ old.drop torn).length c8, dat.take torn ++ old.drop torn) := by
          show SlI J2 _ 1 _ (byL (dat.take torn ++ old.drop torn))
          rw [show byL (dat.take torn ++ old.drop torn) = byL (dat.take torn) ++ byL (old.drop torn) from List.map_append ..]
          exact hsl
        obtain ⟨f1, f2, f3, f4⟩ := fin (torn, false) J2 (.slice A8 (dat.take torn ++ old.drop torn).length c8, dat.take torn ++ old.drop torn) e (fun x hx => (hfb x hx).mono hJ2) hsl2 rfl (by show torn ≤ 256; omega)
        exact KLoop.again (k + 1, false) ⟨rfl, got_succ rfl (by omega), trivial⟩ ⟨rfl, rfl, rfl, trivial⟩ ⟨hlt, J2, _, hJ.trans hJ2, f1, f2, f3, f4, H.drop1⟩ (by show P.wt.length - (k + 1) < P.wt.length - k; omega)
      · have e : crOut done torn k f = (0, f) := by unfold crOut; rw [if_neg (fun e => hkd e.1), h]; rfl
        have hsame : bl.set bk (.slice (some ⟨b7, o7, none⟩) old.length c6, old) = bl := set_same hq
        obtain ⟨f1, f2, f3, f4⟩ := fin (0, f) J (.slice (some ⟨b7, o7, none⟩) old.length c6, old) e hfb hxf rfl (Nat.zero_le _)
        rw [hsame] at f1 f2 f3 f4
        exact KLoop.again (k + 1, f) ⟨rfl, got_succ rfl (by omega), trivial⟩ ⟨rfl, rfl, rfl, trivial⟩ ⟨hlt, J, bl, hJ, f1, f2, f3, f4, H.drop⟩ (by show P.wt.length - (k + 1) < P.wt.length - k; omega)
  ·
    obtain rfl : k = P.wt.length := by omega
    rw [List.drop_length] at hcr
    have hcr : bl.map (·.2) = crG done torn 0 true P.dk.blocks P.dk.wait := hcr
    repeat' (first
      | (show VcL _ _ _ _ _ _ _ _; first
      | refine VcL.pures tabOk rfl ?_
      | refine VcL.nil ?_
      | (show VcL _ _ _ _ (⟨_, .load _ _, _, _, _, _⟩ :: _) _ _ _; refine VcL.load1 tabOk rfl rfl rfl rfl rfl (by exact Holds.cell (Holds.f1 H) rfl) ?_)
      | (show VcL _ _ _ _ (⟨_, .store _ _ _, _, _, _, _⟩ :: _) _ _ _; refine VcL.store tabOk rfl (by first | exact H | exact (Holds.f1 H)) rfl rfl (by exact rfl) (by exact rfl) (by exact rfl) (by exact rfl) (fun w H => ?_)))
      | (show Vc _ _ _ _ _ _; first
      | refine Vc.seq ?_
      | refine Vc.region ?_
      | refine Vc.ret ?_
      | refine Vc.exit ?_
      | (refine Vc.cond rfl (fun h => ?_) (fun h => ?_) <;> first | (exfalso; simp only [decide_eq_true_eq, decide_eq_false_iff_not, Bool.not_eq_true', Bool.not_eq_false'] at h; omega) | (with_reducible have hp := of_decide_eq_false h)))
      | (show KSeq _ _ _ _ _ _ _; first
      | refine KSeq.normal ?_
      | refine KSeq.exit ?_)
      | (show KBlock _ _ _ _ _ _; refine KBlock.here ?_)
      | refine KLoop.exit ?_
      | (show KEnd _ _ _ _ _ _ _; refine KEnd.fin (Or.inr rfl) ⟨_, (ResL.tmp rfl ResL.nil), ?_⟩))
    refine ⟨J, hJ, rfl, rdk_close (bv := .slice (some ⟨b0, o0, none⟩) P.bl.length cap) (wv := .slice none 0 0) ⟨bl, [], P.writes, -1⟩ ?_ hok (fun y hy => hfb y (by simpa [Kd.all] using hy)) ?_⟩
    · unfold Kd.dk; rw [hcr]; rfl
    · have H2 := H.drop2.own_nil (e := 86) (sz := 2)
      have H3 := H2.re [1, 1, 0] rfl
      show Holds J w (blk d _ [_, _, _, _] :: own _ _ _ bl.length _ :: _ :: L)
      rw [hbl]
      exact H3
end Go.Proofs.Ytoahfjfknljacaa.V
