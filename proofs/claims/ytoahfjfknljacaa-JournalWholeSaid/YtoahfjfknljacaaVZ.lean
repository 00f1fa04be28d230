/- The document's store is opened. -/
import Derived.Test.YtoahfjfknljacaaVY
namespace Go.Proofs.Ytoahfjfknljacaa.V
open Go Go.Proofs.YtoahfjfknljacaaV
set_option linter.unusedVariables false
set_option linter.unusedSimpArgs false
set_option maxHeartbeats 1000000
set_option maxRecDepth 4000
attribute [local irreducible] IntKind.wrap
variable {I : Imm} {w : World} {L : List Asn}
theorem all_zero {l : By} (h : l.length = 256) : l.all isZ = decide (l = zeroB) := by
  by_cases hz : l = zeroB
  · rw [decide_eq_true hz, hz, List.all_eq_true]
    intro x hx
    unfold zeroB fullB at hx
    rw [List.eq_of_mem_replicate hx]
    rfl
  · rw [decide_eq_false hz]
    rw [← Bool.not_eq_true, List.all_eq_true]
    intro hall
    apply hz
    unfold zeroB fullB
    rw [List.eq_replicate_iff]
    refine ⟨h, fun x hx => ?_⟩
    have := hall x hx
    simp only [isZ, decide_eq_true_eq] at this
    exact UInt8.toNat_inj.1 this
theorem wrC_one (x : Int × Vb) {A : Option Addr} {m c : Nat} (h : x.2.1 = .slice A m c) : ∀ u ∈ wrC x, oneC u = true := by
  intro u hu
  simp only [wrC, List.mem_cons, List.not_mem_nil, or_false] at hu
  rcases hu with rfl | rfl
  · rfl
  · rw [h]; rfl
theorem OpenR_bad {d : Nat} {D : Dk} (H : Holds I w (rdkA I d D :: L)) {home : Int} (hm1 : -9223372036854775808 ≤ home ∧ home ≤ 9223372036854775807) (hin : ¬ (1 ≤ home ∧ home ≤ 300 ∧ home + 41 ≤ D.blocks.length)) :
    Rets Try.prog F_tithingref16_Open #[ptr d, .int .i64 home] w fun u w' => u = .tuple #[.pointer none, .int .i64 2] ∧ Holds I w' (rdkA I d D :: L) := by
  obtain ⟨b0, o0, cap, A2, cap2, P, rfl, hkk, hcap, hf, HB⟩ := rdk_open H
  clear H
  have H := HB
  clear HB
  have hbl : P.dk.blocks.length = P.bl.length := List.length_map ..
  rw [hbl] at hin
  have hfew := hkk.few
  by_cases h13 : 1 ≤ home ∧ home ≤ 300
  · obtain ⟨ho, rfl⟩ := Int.eq_ofNat_of_zero_le (show 0 ≤ home by omega)
    have e1 : IntKind.i64.wrap ((ho : Int) + 1) = ((ho + 1 : Nat) : Int) := wrap_i64 (by omega) (by omega)
    have e2 : IntKind.i64.wrap (((ho + 1 : Nat) : Int) + 40) = ((ho + 41 : Nat) : Int) := by rw [wrap_i64 (by omega) (by omega)]; omega
    refine ok_tithingref16_Open.rets rfl ?_
    repeat' (first
      | rw [e1]
      | rw [e2]
      | (show VcL _ _ _ _ _ _ _ _; first
      | refine VcL.pures tabOk rfl ?_
      | refine VcL.nil ?_
      | (show VcL _ _ _ _ (⟨_, .load _ _, _, _, _, _⟩ :: _) _ _ _; refine VcL.load1 tabOk rfl rfl rfl rfl rfl (by exact Holds.cell H rfl) ?_)
      | (refine VcL.guard rfl rfl rfl rfl (fun h => ?_) (fun h => ?_) <;> first | (exfalso; simp only [decide_eq_true_eq, decide_eq_false_iff_not, Bool.not_eq_true', Bool.not_eq_false'] at h; omega) | (with_reducible have hp := of_decide_eq_false h)))
      | (show Vc _ _ _ _ _ _; first
      | refine Vc.seq ?_
      | refine Vc.region ?_
      | refine Vc.ret ?_
      | (refine Vc.cond rfl (fun h => ?_) (fun h => ?_) <;> first | (exfalso; simp only [decide_eq_true_eq, decide_eq_false_iff_not, Bool.not_eq_true', Bool.not_eq_false'] at h; omega) | (with_reducible have hp := of_decide_eq_true h)))
      | (show KSeq _ _ _ _ _ _ _; first
      | refine KSeq.normal ?_
      | refine KSeq.ret ?_)
      | (show KEnd _ _ _ _ _ _ _; refine KEnd.fin (Or.inr rfl) ⟨_, (ResL.tmp rfl (ResL.tmp rfl ResL.nil)), ?_⟩))
    all_goals first | exact ⟨rfl, rdk_close P rfl hkk.ok hf H⟩ | (exfalso; omega)
  ·
    refine ok_tithingref16_Open.rets rfl ?_
    repeat' (first
      | (show VcL _ _ _ _ _ _ _ _; first
      | refine VcL.pures tabOk rfl ?_
      | refine VcL.nil ?_
      | (refine VcL.guard rfl rfl rfl rfl (fun h => ?_) (fun h => ?_) <;> first | (cases h; done) | (exfalso; simp only [decide_eq_true_eq, decide_eq_false_iff_not, Bool.not_eq_true', Bool.not_eq_false'] at h; omega) | (with_reducible have hp := of_decide_eq_true h) | (with_reducible have hp := of_decide_eq_false h) | skip))
      | (show Vc _ _ _ _ _ _; first
      | refine Vc.seq ?_
      | refine Vc.region ?_
      | refine Vc.condT rfl ?_
      | refine Vc.ret ?_)
      | (show KSeq _ _ _ _ _ _ _; first
      | refine KSeq.normal ?_
      | refine KSeq.ret ?_)
      | (show KEnd _ _ _ _ _ _ _; refine KEnd.fin (Or.inr rfl) ⟨_, (ResL.tmp rfl (ResL.tmp rfl ResL.nil)), ?_⟩))
    all_goals first | exact ⟨rfl, rdk_close P rfl hkk.ok hf H⟩ | (exfalso; omega)
theorem OpenR_good {d ho : Nat} {D : Dk} (H : Holds I w (rdkA I d D :: L)) (hw : D.writes + 300 < 2 ^ 40) (hin : 1 ≤ ho ∧ ho ≤ 300 ∧ ho + 41 ≤ D.blocks.length) :
    Rets Try.prog F_tithingref16_Open #[ptr d, .int .i64 (ho : Nat)] w fun u w' => ∃ J, Imm.Le I J ∧ OpR J w' L (rdkA J d) 97 d (ho : Nat) ((recS D ho).1, if (recS D ho).2 then 0 else 160) u := by
  have hok := rdk_ok H
  have hhl := rdB_len hok (show ho < D.blocks.length by omega)
  obtain ⟨hd, hhd⟩ : ∃ hd, rdB D ho = hd := ⟨_, rfl⟩
  rw [hhd] at hhl
  have e1 : IntKind.i64.wrap ((ho : Int) + 1) = ((ho + 1 : Nat) : Int) := wrap_i64 (by omega) (by omega)
  have e2 : IntKind.i64.wrap (((ho + 1 : Nat) : Int) + 40) = ((ho + 41 : Nat) : Int) := by rw [wrap_i64 (by omega) (by omega)]; omega
  obtain ⟨b0, o0, cap, A2, cap2, P, hP, hkk, hcap, hf, HB⟩ := rdk_open H
  clear H
  have H := HB
  clear HB
  have hbl : D.blocks.length = P.bl.length := by rw [← hP]; exact List.length_map ..
  have hfew := hkk.few
  have hlit : ∀ {K : Imm} {w : World} {M : List Asn} {lv : Value} {A9 : Option Addr} {c9 : Nat}, Holds K w (own lv 86 2 1 [.int .i64 (ho : Int), .slice A9 256 c9] :: M) → SlR K (own lv 86 2 1 [.int .i64 (ho : Int), .slice A9 256 c9] :: M) lv 2 1 ([(((ho : Nat) : Int), ((Value.slice A9 256 c9, zeroB) : Vb))].flatMap wrC) := fun H => Holds.own_toR H
  have hwl1 : ∀ {A9 : Option Addr} {c9 : Nat}, wsOf [(((ho : Nat) : Int), ((Value.slice A9 256 c9, zeroB) : Vb))] = [((ho : Int), zeroB)] := rfl
  refine ok_tithingref16_Open.rets rfl ?_
  repeat' (first
    | rw [e1]
    | rw [e2]
    | (show VcL _ _ _ _ _ _ _ _; first
      | refine VcL.pures tabOk rfl ?_
      | refine VcL.nil ?_
      | (show VcL _ _ _ _ (⟨_, .load _ _, _, _, _, _⟩ :: _) _ _ _; refine VcL.load1 tabOk rfl rfl rfl rfl rfl (by exact Holds.cell H rfl) ?_)
      | (show VcL _ _ _ _ (⟨_, .call ⟨.value (.func F_tithingref16_Disk_Read), _, _⟩, _, _, _, _⟩ :: _) _ _ _; (refine VcL.callF ok_tithingref16_Disk_Read rfl rfl rfl rfl (Rets.mono (ReadR_good (k := ho) (rdk_close P hP hok hf H) (by omega) (by omega)) ?_); rintro _ w ⟨hv, rfl, H⟩; obtain ⟨bh, oh, ch, rfl, hch⟩ := Holds.own_some (by omega) H; rw [hhd] at H))
      | (show VcL _ _ _ _ (⟨_, .call ⟨.value (.func F_tithingref16_Places), _, _⟩, _, _, _, _⟩ :: _) _ _ _; (refine VcL.callF ok_tithingref16_Places rfl rfl rfl rfl (Rets.mono (Places_any (l := hd) H (by rw [hhl]; exact Holds.own_toR H) (by omega) (ho : Int)) ?_); rintro _ w ⟨⟨hno, rfl, H⟩ | ⟨tv, hyes, rfl, H⟩⟩))
      | (refine VcL.guard rfl rfl rfl rfl (fun h => ?_) (fun h => ?_) <;> first | (exfalso; simp only [decide_eq_true_eq, decide_eq_false_iff_not, Bool.not_eq_true', Bool.not_eq_false'] at h; omega) | (with_reducible have hp := of_decide_eq_false h)))
    | (show Vc _ _ _ _ _ _; first
      | refine Vc.seq ?_
      | refine Vc.region ?_
      | refine Vc.skip ?_
      | refine Vc.block ?_
      | (refine Vc.cond rfl (fun h => ?_) (fun h => ?_) <;> first | (exfalso; simp only [decide_eq_true_eq, decide_eq_false_iff_not, Bool.not_eq_true', Bool.not_eq_false'] at h; omega) | (with_reducible have hp := of_decide_eq_false h)))
    | (show KSeq _ _ _ _ _ _ _; refine KSeq.normal ?_))
  · refine Vc.loopS [(0, _), (1, _), (6, _), (8, _), (9, _), (10, _)] (fun _ : Unit => [(11, .slice none 0 0), (12, .slice none 0 0), (13, .int .i64 0)]) (fun _ w => Holds I w (own (.slice (some ⟨bh, oh, none⟩) 256 ch) 5 1 256 (byL hd) :: rdkA I d D :: L)) (fun _ _ => 0) () ⟨rfl, rfl, rfl, trivial⟩ ⟨rfl, rfl, rfl, rfl, rfl, rfl, trivial⟩ H ?_
    rintro _ w H
    have eA : recA D ho = (D, true) := by unfold recA; rw [hhd, if_neg (fun hh => hno hh.1)]
    have hhd2 : ∀ {K : Imm} {w : World} {M : List Asn}, Holds K w (own (.slice (some ⟨bh, oh, none⟩) 256 ch) 5 1 256 (byL hd) :: M) → SlR K (own (.slice (some ⟨bh, oh, none⟩) 256 ch) 5 1 256 (byL hd) :: M) (.slice (some ⟨bh, oh, none⟩) 256 ch) 1 hd.length (byL hd) := fun H => by rw [hhl]; exact Holds.own_toR H
    have eS : recS D ho = if hd = zeroB then (D, true) else wsS D [((ho : Int), zeroB)] := by unfold recS; rw [eA, hhd]; rfl
    by_cases hz : hd = zeroB
    ·
      repeat' (first
        | (show VcL _ _ _ _ _ _ _ _; first
      | refine VcL.pures tabOk rfl ?_
      | refine VcL.nil ?_
      | refine VcL.box H rfl rfl rfl rfl rfl (fun b w H => ?_)
      | (show VcL _ _ _ _ (⟨_, .call ⟨.value (.func F_tithingref16_zeros), _, _⟩, _, _, _, _⟩ :: _) _ _ _; (refine VcL.callF ok_tithingref16_zeros rfl rfl rfl rfl (Rets.mono (zerosR_any (l := hd) H (hhd2 H) (by omega)) ?_); rintro _ w ⟨rfl, H⟩; rw [all_zero hhl, decide_eq_true hz]))
      | (refine VcL.guard rfl rfl rfl rfl (fun h => ?_) (fun h => ?_) <;> first | (cases h; done) | skip))
        | (show Vc _ _ _ _ _ _; first
      | refine Vc.seq ?_
      | refine Vc.region ?_
      | refine Vc.condF rfl ?_
      | refine Vc.ret ?_
      | refine Vc.skip ?_
      | refine Vc.exit ?_)
        | (show KSeq _ _ _ _ _ _ _; first
      | refine KSeq.normal ?_
      | refine KSeq.exit ?_)
        | (show KBlock _ _ _ _ _ _; refine KBlock.here ?_)
        | refine KLoop.exit ?_
        | (show KEnd _ _ _ _ _ _ _; refine KEnd.fin (Or.inr rfl) ⟨_, (ResL.tmp rfl (ResL.tmp rfl ResL.nil)), ?_⟩))
      rw [eS, if_pos hz]
      exact ⟨I, Imm.Le.rfl' I, ⟨.inl ⟨rfl, _, rfl, H.drop1.swap⟩⟩⟩
    · by_cases hr : (wsS D [((ho : Int), zeroB)]).2 = true
      ·
        repeat' (first
          | (show VcL _ _ _ _ _ _ _ _; first
      | refine VcL.pures tabOk rfl ?_
      | refine VcL.nil ?_
      | refine VcL.box H rfl rfl rfl rfl rfl (fun b w H => ?_)
      | refine VcL.buildSlice tabOk H rfl rfl rfl rfl rfl rfl (fun sv w H => ?_)
      | (show VcL _ _ _ _ (⟨_, .call ⟨.value (.func F_tithingref16_zeros), _, _⟩, _, _, _, _⟩ :: _) _ _ _; (refine VcL.callF ok_tithingref16_zeros rfl rfl rfl rfl (Rets.mono (zerosR_any (l := hd) H (hhd2 H) (by omega)) ?_); rintro _ w ⟨rfl, H⟩; rw [all_zero hhl, decide_eq_false hz]))
      | (show VcL _ _ _ _ (⟨_, .call ⟨.value (.func F_tithingref16_block), _, _⟩, _, _, _, _⟩ :: _) _ _ _; (refine VcL.callF ok_tithingref16_block rfl rfl rfl rfl (Rets.mono (blockR_any (l := []) H SlR_nil) ?_); rintro _ w H; rw [padB_nil] at H; obtain ⟨_, A9, c9, rfl⟩ := Holds.own_len H))
      | (show VcL _ _ _ _ (⟨_, .call ⟨.value (.func F_tithingref16_Disk_writes), _, _⟩, _, _, _, _⟩ :: _) _ _ _; (refine VcL.callF ok_tithingref16_Disk_writes rfl rfl rfl rfl (Rets.mono (writesR_any (D := D) (wl := [(((ho : Nat) : Int), ((Value.slice A9 256 c9, zeroB) : Vb))]) (Holds.re [3] H rfl) (by omega) (hlit (Holds.drop3 H)) (fun x hx => by simp only [List.mem_singleton] at hx; subst hx; show SlR _ _ _ 1 zeroB.length (byL zeroB); rw [zeroB_len]; exact (Holds.own_toR (Holds.drop3 H).drop).up) (fun x hx => by simp only [List.mem_singleton] at hx; subst hx; exact ⟨by show (0 : Int) ≤ ho; omega, by show (ho : Int) < _; omega, zeroB_len⟩) (by show 1 ≤ 40; omega)) ?_); rintro _ w ⟨J, hJ, rfl, H⟩; rw [hwl1] at H ⊢; rw [hr]))
      | (refine VcL.guard rfl rfl rfl rfl (fun h => ?_) (fun h => ?_) <;> first | (cases h; done) | skip))
          | (show Vc _ _ _ _ _ _; first
      | refine Vc.seq ?_
      | refine Vc.region ?_
      | refine Vc.condF rfl ?_
      | refine Vc.ret ?_
      | refine Vc.skip ?_
      | refine Vc.exit ?_)
          | (show KSeq _ _ _ _ _ _ _; first
      | refine KSeq.normal ?_
      | refine KSeq.exit ?_)
          | (show KBlock _ _ _ _ _ _; refine KBlock.here ?_)
          | refine KLoop.exit ?_
          | (show KEnd _ _ _ _ _ _ _; refine KEnd.fin (Or.inr rfl) ⟨_, (ResL.tmp rfl (ResL.tmp rfl ResL.nil)), ?_⟩))
        rw [eS, if_neg hz, hr]
        exact ⟨J, hJ, ⟨.inl ⟨rfl, _, rfl, H.drop2.drop2.drop2.swap⟩⟩⟩
      ·
        have hr : (wsS D [((ho : Int), zeroB)]).2 = false := by simpa using hr
        repeat' (first
          | (show VcL _ _ _ _ _ _ _ _; first
      | refine VcL.pures tabOk rfl ?_
      | refine VcL.nil ?_
      | refine VcL.buildSlice tabOk H rfl rfl rfl rfl rfl rfl (fun sv w H => ?_)
      | (show VcL _ _ _ _ (⟨_, .call ⟨.value (.func F_tithingref16_zeros), _, _⟩, _, _, _, _⟩ :: _) _ _ _; (refine VcL.callF ok_tithingref16_zeros rfl rfl rfl rfl (Rets.mono (zerosR_any (l := hd) H (hhd2 H) (by omega)) ?_); rintro _ w ⟨rfl, H⟩; rw [all_zero hhl, decide_eq_false hz]))
      | (show VcL _ _ _ _ (⟨_, .call ⟨.value (.func F_tithingref16_block), _, _⟩, _, _, _, _⟩ :: _) _ _ _; (refine VcL.callF ok_tithingref16_block rfl rfl rfl rfl (Rets.mono (blockR_any (l := []) H SlR_nil) ?_); rintro _ w H; rw [padB_nil] at H; obtain ⟨_, A9, c9, rfl⟩ := Holds.own_len H))
      | (show VcL _ _ _ _ (⟨_, .call ⟨.value (.func F_tithingref16_Disk_writes), _, _⟩, _, _, _, _⟩ :: _) _ _ _; (refine VcL.callF ok_tithingref16_Disk_writes rfl rfl rfl rfl (Rets.mono (writesR_any (D := D) (wl := [(((ho : Nat) : Int), ((Value.slice A9 256 c9, zeroB) : Vb))]) (Holds.re [3] H rfl) (by omega) (hlit (Holds.drop3 H)) (fun x hx => by simp only [List.mem_singleton] at hx; subst hx; show SlR _ _ _ 1 zeroB.length (byL zeroB); rw [zeroB_len]; exact (Holds.own_toR (Holds.drop3 H).drop).up) (fun x hx => by simp only [List.mem_singleton] at hx; subst hx; exact ⟨by show (0 : Int) ≤ ho; omega, by show (ho : Int) < _; omega, zeroB_len⟩) (by show 1 ≤ 40; omega)) ?_); rintro _ w ⟨J, hJ, rfl, H⟩; rw [hwl1] at H ⊢; rw [hr]))
      | (refine VcL.guard rfl rfl rfl rfl (fun h => ?_) (fun h => ?_) <;> first | (cases h; done) | skip))
          | (show Vc _ _ _ _ _ _; first
      | refine Vc.seq ?_
      | refine Vc.region ?_
      | refine Vc.condT rfl ?_
      | refine Vc.condF rfl ?_
      | refine Vc.ret ?_
      | refine Vc.skip ?_
      | refine Vc.exit ?_)
          | (show KSeq _ _ _ _ _ _ _; first
      | refine KSeq.normal ?_
      | refine KSeq.ret ?_
      | refine KSeq.exit ?_)
          | (show KBlock _ _ _ _ _ _; refine KBlock.here ?_)
          | refine KLoop.exit ?_
          | (show KEnd _ _ _ _ _ _ _; refine KEnd.fin (Or.inr rfl) ⟨_, (ResL.tmp rfl (ResL.tmp rfl ResL.nil)), ?_⟩))
        rw [eS, if_neg hz, hr]
        exact ⟨J, hJ, ⟨.inr ⟨by show (160 : Int) ≠ 0; omega, rfl, H.drop1.drop1.drop1⟩⟩⟩
  · obtain ⟨bt, ot, ct, rfl, hct⟩ := Holds.own_some (by have := hyes.2.2.1; omega) H
    obtain ⟨n, hn⟩ : ∃ n, num hd 4 = n := ⟨_, rfl⟩
    have hn1 : 1 ≤ n := by rw [← hn]; exact hyes.2.2.1
    have hn2 : n ≤ 40 := by rw [← hn]; exact hyes.2.2.2.1
    obtain ⟨ws, hws⟩ : ∃ ws, recW D ho = ws := ⟨_, rfl⟩
    have hwl : ws.length = n := by rw [← hws, ← hn]; unfold recW; rw [bkW_len, tgts_len, hhd]
    have hwa : ∀ i, i < n → atD ws i = (tgtAt hd i, rdB D (ho + 1 + i)) := fun i hi => by
      rw [← hws]
      unfold recW
      rw [bkW_at _ _ _ (by rw [tgts_len, hhd, hn]; exact hi), hhd, hn, atD_of (tgts_at hi)]
    have hw256 : ∀ x ∈ ws, x.2.length = 256 := fun x hx => by
      obtain ⟨i, hi, rfl⟩ := mem_atD hx
      rw [hwa i (by omega)]
      exact rdB_len hok (by omega)
    have hrange : ∀ i, i < n → 0 ≤ tgtAt hd i ∧ tgtAt hd i < ho := fun i hi => ⟨by unfold tgtAt; omega, hyes.2.2.2.2.1 _ (by rw [hn]; exact List.mem_of_getElem? (tgts_at hi))⟩
    rw [hn] at H
    have hatn : atS hd = 6 + 2 * n := by unfold atS; rw [hn]
    repeat' (rw [hn])
    refine Vc.loopS [(0, _), (1, _), (6, _), (8, _), (9, _), (10, _)] (fun s : Nat × Value × Value => [(11, s.2.1), (12, s.2.2), (13, .int .i64 s.1)]) (fun s w => s.1 ≤ n ∧ ∃ bls : Wl, wsOf bls = ws.take s.1 ∧ Holds I w (rdkA I d D :: own s.2.1 5 1 (256 * s.1) (byL (datS (ws.take s.1))) :: own s.2.2 86 2 s.1 (bls.flatMap wrC) :: bysA (bls.map (·.2)) :: own (.slice (some ⟨bt, ot, none⟩) n ct) 3 1 n ((tgts hd n).flatMap inC) :: own (.slice (some ⟨bh, oh, none⟩) 256 ch) 5 1 256 (byL hd) :: L)) (fun s _ => n - s.1) (0, .slice none 0 0, .slice none 0 0) ⟨rfl, rfl, rfl, trivial⟩ ⟨rfl, rfl, rfl, rfl, rfl, rfl, trivial⟩ ⟨Nat.zero_le _, [], rfl, ((bys_nil.2 H).own_nil.own_nil).re [5, 0, 0, 0, 0, 0] rfl⟩ ?_
    rintro ⟨k, av, bv⟩ w ⟨hk, bls, hpl, H⟩
    dsimp only at hk hpl H ⊢
    have hpll : bls.length = k := by rw [← wsOf_len bls, hpl, List.length_take]; omega
    by_cases hlt : k < n
    · have e3 : IntKind.i64.wrap (((ho + 1 : Nat) : Int) + (k : Int)) = ((ho + 1 + k : Nat) : Int) := by rw [wrap_i64 (by omega) (by omega)]; omega
      have hrl := rdB_len hok (show ho + 1 + k < D.blocks.length by omega)
      have hgt := tgts_at (b := hd) hlt
      obtain ⟨tk, htk⟩ : ∃ tk, tgtAt hd k = tk := ⟨_, rfl⟩
      rw [htk] at hgt
      have hwk := hwa k hlt
      rw [htk] at hwk
      repeat' (first
        | rw [e1]
        | rw [e3]
        | (refine VcL.append (m := 256) (ds := byL (rdB D (ho + 1 + k))) tabOk rfl rfl rfl rfl (Holds.f2 H) (Holds.own_src H) (by_one _) (by show (_ + 256) * 1 ≤ _; omega) rfl rfl rfl (fun av2 w H => ?_))
        | (refine VcL.load1 tabOk rfl rfl rfl rfl rfl (Holds.ownCell0 (Holds.f5 H) (fun _ => rfl) hgt rfl) ?_)
        | (refine VcL.append (m := 1) (ds := wrC (tk, ((Value.slice A8 256 c8, rdB D (ho + 1 + k)) : Vb))) tabOk rfl rfl rfl rfl (Holds.f4 H) (Holds.own_src H) (wrC_one _ rfl) (by show (_ + 1) * 32 ≤ _; omega) rfl rfl rfl (fun bv2 w H => ?_))
        | (show VcL _ _ _ _ _ _ _ _; first
      | refine VcL.pures tabOk rfl ?_
      | refine VcL.nil ?_
      | (show VcL _ _ _ _ (⟨_, .indexAddr _ _ _, _, _, _, _⟩ :: _) _ _ _; refine VcL.indexAddr tabOk rfl rfl rfl rfl rfl rfl (by omega) (by omega) ?_)
      | refine VcL.buildSlice tabOk H rfl rfl rfl rfl rfl rfl (fun sv w H => ?_)
      | (show VcL _ _ _ _ (⟨_, .call ⟨.value (.func F_tithingref16_Disk_Read), _, _⟩, _, _, _, _⟩ :: _) _ _ _; (refine VcL.callF ok_tithingref16_Disk_Read rfl rfl rfl rfl (Rets.mono (ReadR_good (D := D) (k := ho + 1 + k) H (by omega) (by omega)) ?_); rintro _ w ⟨uv, rfl, H⟩; obtain ⟨_, A8, c8, rfl⟩ := Holds.own_len H)))
        | (show Vc _ _ _ _ _ _; first
      | refine Vc.seq ?_
      | refine Vc.region ?_
      | refine Vc.skip ?_
      | refine Vc.block ?_
      | (refine Vc.cond rfl (fun h => ?_) (fun h => ?_) <;> first | (exfalso; simp only [decide_eq_true_eq, decide_eq_false_iff_not, Bool.not_eq_true', Bool.not_eq_false'] at h; omega) | (with_reducible have hp := of_decide_eq_true h)))
        | (show KSeq _ _ _ _ _ _ _; refine KSeq.normal ?_)
        | (show KBlock _ _ _ _ _ _; refine KBlock.normal ?_))
      have H2 := bys_snoc (xs := bls.map (·.2)) (y := (.slice A8 256 c8, rdB D (ho + 1 + k))) (by rw [hrl]; exact Holds.re [2, 3, 2, 1, 0] H.drop1 rfl)
      refine KLoop.again (k + 1, av2, bv2) ⟨rfl, rfl, got_succ rfl (by omega), trivial⟩ ⟨rfl, rfl, rfl, rfl, rfl, rfl, trivial⟩ ⟨hlt, bls ++ [(tk, (.slice A8 256 c8, rdB D (ho + 1 + k)))], ?_, ?_⟩ (by show _ < _; omega)
      · unfold wsOf at hpl ⊢
        rw [List.map_append, hpl, take_atD (by omega), hwk]
        rfl
      · rw [datS_take (by omega), hwk, flat_snoc, byL_app, List.map_append]
        exact H2.re [1, 1, 1, 0] rfl
    · obtain rfl : n = k := by omega
      rw [List.take_of_length_le (by omega)] at hpl H
      have hdl : (datS ws).length = 256 * n := by rw [datS_len hw256, hwl]
      have hhv0 : SlR I (own (.slice (some ⟨bh, oh, none⟩) 256 ch) 5 1 256 (byL hd) :: L) (.slice (some ⟨bh, oh, none⟩) 256 ch) 1 256 (byL hd) := Holds.own_toR H.drop.drop.drop.drop.drop
      have hhv : SlR I (own (.slice (some ⟨bh, oh, none⟩) 256 ch) 5 1 256 (byL hd) :: L) (.slice (some ⟨bh, oh, none⟩) 256 ch) 1 hd.length (byL hd) := by rw [hhl]; exact hhv0
      have hht : SlR I (own (.slice (some ⟨bh, oh, none⟩) 256 ch) 5 1 256 (byL hd) :: L) (.slice (some ⟨bh, oh, none⟩) (6 + 2 * n) ch) 1 (6 + 2 * n) (byL (hd.take (6 + 2 * n))) := by
        have := hhv0.take (k := 6 + 2 * n) (by omega)
        rwa [Nat.mul_one, ← List.map_take] at this
      have hsum : ∀ {w : World} {M : List Asn} {zv : Value}, Holds I w (own zv 5 1 (256 * n + (6 + 2 * n)) (byL (datS ws) ++ byL (hd.take (6 + 2 * n))) :: M) → SlR I (own zv 5 1 (256 * n + (6 + 2 * n)) (byL (datS ws) ++ byL (hd.take (6 + 2 * n))) :: M) zv 1 (datS ws ++ hd.take (6 + 2 * n)).length (byL (datS ws ++ hd.take (6 + 2 * n))) := fun H => by
        rw [byL_app, List.length_append, List.length_take, show min (6 + 2 * n) hd.length = 6 + 2 * n by omega, hdl]
        exact Holds.own_toR H
      have hback : ∀ {w : World} {M : List Asn}, Holds I w (own bv 86 2 n (bls.flatMap wrC) :: M) → SlR I (own bv 86 2 n (bls.flatMap wrC) :: M) bv 2 bls.length (bls.flatMap wrC) := fun H => by rw [hpll]; exact Holds.own_toR H
      have hbin : ∀ x ∈ bls, 0 ≤ x.1 ∧ x.1 < D.blocks.length ∧ x.2.2.length = 256 := fun x hx => by
        have h1 : (x.1, x.2.2) ∈ ws := by rw [← hpl]; exact List.mem_map_of_mem hx
        obtain ⟨i, hi, h2⟩ := mem_atD h1
        rw [hwa i (by omega)] at h2
        have h3 := hrange i (by omega)
        injection h2 with h4 h5
        exact ⟨by omega, by omega, by rw [← h5]; exact rdB_len hok (by omega)⟩
      have hhd2 : ∀ {K : Imm} {w : World} {M : List Asn}, Holds K w (own (.slice (some ⟨bh, oh, none⟩) 256 ch) 5 1 256 (byL hd) :: M) → SlR K (own (.slice (some ⟨bh, oh, none⟩) 256 ch) 5 1 256 (byL hd) :: M) (.slice (some ⟨bh, oh, none⟩) 256 ch) 1 hd.length (byL hd) := fun H => by rw [hhl]; exact Holds.own_toR H
      have hrec : recA D ho = if sumN (datS ws ++ hd.take (6 + 2 * n)) = num hd (6 + 2 * n) then wsS D ws else (D, true) := by
        have hso : sumOk hd ws ↔ sumN (datS ws ++ hd.take (6 + 2 * n)) = num hd (6 + 2 * n) := by unfold sumOk; rw [hatn]
        unfold recA
        rw [hhd, hws]
        by_cases hq : sumN (datS ws ++ hd.take (6 + 2 * n)) = num hd (6 + 2 * n)
        · rw [if_pos ⟨hyes, hso.2 hq⟩, if_pos hq]
        · rw [if_neg (fun e => hq (hso.1 e.2)), if_neg hq]
      by_cases hq : sumN (datS ws ++ hd.take (6 + 2 * n)) = num hd (6 + 2 * n)
      · rw [if_pos hq] at hrec
        have hsd : decide (((sumN (datS ws ++ hd.take (6 + 2 * n)) : Nat) : Int) = ((num hd (6 + 2 * n) : Nat) : Int)) = true := decide_eq_true (by omega)
        have hw1 := wsS_writes ws D
        have hb1 := wsS_blocks ws D
        by_cases hr1 : (wsS D ws).2 = true
        · have eA : recA D ho = ((wsS D ws).1, true) := by rw [hrec, ← hr1]
          have eS : recS D ho = if hd = zeroB then ((wsS D ws).1, true) else wsS (wsS D ws).1 [((ho : Int), zeroB)] := by unfold recS; rw [eA, hhd]; rfl
          by_cases hz : hd = zeroB
          ·
            repeat' (first
              | (refine VcL.append (m := 6 + 2 * n) (ds := byL (hd.take (6 + 2 * n))) tabOk rfl rfl rfl rfl (Holds.f1 H) (SlR.src hht.up.up.up.up.up (Holds.f1 H)) (by_one _) (by show (_ + _) * 1 ≤ _; omega) rfl rfl rfl (fun av2 w H => ?_))
              | rw [hsd]
              | (show VcL _ _ _ _ _ _ _ _; first
      | refine VcL.pures tabOk rfl ?_
      | refine VcL.nil ?_
      | (show VcL _ _ _ _ (⟨_, .slice _ _ _ _ none, _, _, _, _⟩ :: _) _ _ _; refine VcL.sliceTo tabOk rfl rfl rfl rfl rfl rfl (by omega) ?_)
      | refine VcL.box H rfl rfl rfl rfl rfl (fun b w H => ?_)
      | (show VcL _ _ _ _ (⟨_, .call ⟨.value (.func F_tithingref16_number), _, _⟩, _, _, _, _⟩ :: _) _ _ _; (refine VcL.callF ok_tithingref16_number rfl rfl rfl rfl (Rets.mono (number_any (l := hd) (at_ := 6 + 2 * n) H hhv.up.up.up.up.up (show 6 + 2 * n + 2 ≤ hd.length by omega) (by omega)) ?_); rintro _ w ⟨rfl, H⟩))
      | (show VcL _ _ _ _ (⟨_, .call ⟨.value (.func F_tithingref01_Sum), _, _⟩, _, _, _, _⟩ :: _) _ _ _; (refine VcL.callF ok_tithingref01_Sum rfl rfl rfl rfl (Rets.mono (SumR_any (l := datS ws ++ hd.take (6 + 2 * n)) H (hsum H) (by rw [List.length_append, List.length_take]; omega)) ?_); rintro _ w ⟨rfl, H⟩))
      | (show VcL _ _ _ _ (⟨_, .call ⟨.value (.func F_tithingref16_Disk_writes), _, _⟩, _, _, _, _⟩ :: _) _ _ _; (refine VcL.callF ok_tithingref16_Disk_writes rfl rfl rfl rfl (Rets.mono (writesR_any (D := D) (wl := bls) (Holds.re [1] H rfl) (by omega) (SlR.up (hback (Holds.drop1 H).drop)) (fun x hx => SlR.up (SlR.up (bys_rd (List.mem_map_of_mem hx) (Holds.drop1 H).drop.drop))) hbin (by omega)) ?_); rintro _ w ⟨J1, hJ1, rfl, H⟩; rw [hpl] at H ⊢; rw [hr1]; have H := Holds.swap (Holds.drop1 (Holds.drop1 (Holds.drop1 (Holds.drop1 H))))))
      | (show VcL _ _ _ _ (⟨_, .call ⟨.value (.func F_tithingref16_zeros), _, _⟩, _, _, _, _⟩ :: _) _ _ _; (refine VcL.callF ok_tithingref16_zeros rfl rfl rfl rfl (Rets.mono (zerosR_any (l := hd) H (hhd2 H) (by omega)) ?_); rintro _ w ⟨rfl, H⟩; rw [all_zero hhl, decide_eq_true hz]))
      | (refine VcL.guard rfl rfl rfl rfl (fun h => ?_) (fun h => ?_) <;> first | (cases h; done) | skip))
              | (show Vc _ _ _ _ _ _; first
      | refine Vc.seq ?_
      | refine Vc.region ?_
      | refine Vc.condF rfl ?_
      | refine Vc.ret ?_
      | refine Vc.skip ?_
      | refine Vc.exit ?_
      | (refine Vc.cond rfl (fun h => ?_) (fun h => ?_) <;> first | (exfalso; simp only [decide_eq_true_eq, decide_eq_false_iff_not, Bool.not_eq_true', Bool.not_eq_false'] at h; omega) | (with_reducible have hp := of_decide_eq_false h)))
              | (show KSeq _ _ _ _ _ _ _; first
      | refine KSeq.normal ?_
      | refine KSeq.exit ?_)
              | (show KBlock _ _ _ _ _ _; refine KBlock.here ?_)
              | refine KLoop.exit ?_
              | (show KEnd _ _ _ _ _ _ _; refine KEnd.fin (Or.inr rfl) ⟨_, (ResL.tmp rfl (ResL.tmp rfl ResL.nil)), ?_⟩))
            rw [eS, if_pos hz]
            exact ⟨J1, hJ1, ⟨.inl ⟨rfl, _, rfl, H.drop1.swap⟩⟩⟩
          · by_cases hr : (wsS (wsS D ws).1 [((ho : Int), zeroB)]).2 = true
            ·
              repeat' (first
                | (refine VcL.append (m := 6 + 2 * n) (ds := byL (hd.take (6 + 2 * n))) tabOk rfl rfl rfl rfl (Holds.f1 H) (SlR.src hht.up.up.up.up.up (Holds.f1 H)) (by_one _) (by show (_ + _) * 1 ≤ _; omega) rfl rfl rfl (fun av2 w H => ?_))
                | rw [hsd]
                | (show VcL _ _ _ _ _ _ _ _; first
      | refine VcL.pures tabOk rfl ?_
      | refine VcL.nil ?_
      | (show VcL _ _ _ _ (⟨_, .slice _ _ _ _ none, _, _, _, _⟩ :: _) _ _ _; refine VcL.sliceTo tabOk rfl rfl rfl rfl rfl rfl (by omega) ?_)
      | refine VcL.box H rfl rfl rfl rfl rfl (fun b w H => ?_)
      | refine VcL.buildSlice tabOk H rfl rfl rfl rfl rfl rfl (fun sv w H => ?_)
      | (show VcL _ _ _ _ (⟨_, .call ⟨.value (.func F_tithingref16_number), _, _⟩, _, _, _, _⟩ :: _) _ _ _; (refine VcL.callF ok_tithingref16_number rfl rfl rfl rfl (Rets.mono (number_any (l := hd) (at_ := 6 + 2 * n) H hhv.up.up.up.up.up (show 6 + 2 * n + 2 ≤ hd.length by omega) (by omega)) ?_); rintro _ w ⟨rfl, H⟩))
      | (show VcL _ _ _ _ (⟨_, .call ⟨.value (.func F_tithingref01_Sum), _, _⟩, _, _, _, _⟩ :: _) _ _ _; (refine VcL.callF ok_tithingref01_Sum rfl rfl rfl rfl (Rets.mono (SumR_any (l := datS ws ++ hd.take (6 + 2 * n)) H (hsum H) (by rw [List.length_append, List.length_take]; omega)) ?_); rintro _ w ⟨rfl, H⟩))
      | (show VcL _ _ _ _ (⟨_, .call ⟨.value (.func F_tithingref16_Disk_writes), _, _⟩, _, _, _, _⟩ :: _) _ _ _; (refine VcL.callF ok_tithingref16_Disk_writes rfl rfl rfl rfl (Rets.mono (writesR_any (D := D) (wl := bls) (Holds.re [1] H rfl) (by omega) (SlR.up (hback (Holds.drop1 H).drop)) (fun x hx => SlR.up (SlR.up (bys_rd (List.mem_map_of_mem hx) (Holds.drop1 H).drop.drop))) hbin (by omega)) ?_); rintro _ w ⟨J1, hJ1, rfl, H⟩; rw [hpl] at H ⊢; rw [hr1]; have H := Holds.swap (Holds.drop1 (Holds.drop1 (Holds.drop1 (Holds.drop1 H))))))
      | (show VcL _ _ _ _ (⟨_, .call ⟨.value (.func F_tithingref16_zeros), _, _⟩, _, _, _, _⟩ :: _) _ _ _; (refine VcL.callF ok_tithingref16_zeros rfl rfl rfl rfl (Rets.mono (zerosR_any (l := hd) H (hhd2 H) (by omega)) ?_); rintro _ w ⟨rfl, H⟩; rw [all_zero hhl, decide_eq_false hz]))
      | (show VcL _ _ _ _ (⟨_, .call ⟨.value (.func F_tithingref16_block), _, _⟩, _, _, _, _⟩ :: _) _ _ _; (refine VcL.callF ok_tithingref16_block rfl rfl rfl rfl (Rets.mono (blockR_any (l := []) H SlR_nil) ?_); rintro _ w H; rw [padB_nil] at H; obtain ⟨_, A9, c9, rfl⟩ := Holds.own_len H))
      | (show VcL _ _ _ _ (⟨_, .call ⟨.value (.func F_tithingref16_Disk_writes), _, _⟩, _, _, _, _⟩ :: _) _ _ _; (refine VcL.callF ok_tithingref16_Disk_writes rfl rfl rfl rfl (Rets.mono (writesR_any (D := (wsS D ws).1) (wl := [(((ho : Nat) : Int), ((Value.slice A9 256 c9, zeroB) : Vb))]) (Holds.re [3] H rfl) (by omega) (hlit (Holds.drop3 H)) (fun x hx => by simp only [List.mem_singleton] at hx; subst hx; show SlR _ _ _ 1 zeroB.length (byL zeroB); rw [zeroB_len]; exact (Holds.own_toR (Holds.drop3 H).drop).up) (fun x hx => by simp only [List.mem_singleton] at hx; subst hx; exact ⟨by show (0 : Int) ≤ ho; omega, by show (ho : Int) < _; omega, zeroB_len⟩) (by show 1 ≤ 40; omega)) ?_); rintro _ w ⟨J, hJ, rfl, H⟩; rw [hwl1] at H ⊢; rw [hr]))
      | (refine VcL.guard rfl rfl rfl rfl (fun h => ?_) (fun h => ?_) <;> first | (cases h; done) | skip))
                | (show Vc _ _ _ _ _ _; first
      | refine Vc.seq ?_
      | refine Vc.region ?_
      | refine Vc.condF rfl ?_
      | refine Vc.ret ?_
      | refine Vc.skip ?_
      | refine Vc.exit ?_
      | (refine Vc.cond rfl (fun h => ?_) (fun h => ?_) <;> first | (exfalso; simp only [decide_eq_true_eq, decide_eq_false_iff_not, Bool.not_eq_true', Bool.not_eq_false'] at h; omega) | (with_reducible have hp := of_decide_eq_false h)))
                | (show KSeq _ _ _ _ _ _ _; first
      | refine KSeq.normal ?_
      | refine KSeq.exit ?_)
                | (show KBlock _ _ _ _ _ _; refine KBlock.here ?_)
                | refine KLoop.exit ?_
                | (show KEnd _ _ _ _ _ _ _; refine KEnd.fin (Or.inr rfl) ⟨_, (ResL.tmp rfl (ResL.tmp rfl ResL.nil)), ?_⟩))
              rw [eS, if_neg hz, hr]
              exact ⟨J, hJ1.trans hJ, ⟨.inl ⟨rfl, _, rfl, H.drop2.drop2.drop2.swap⟩⟩⟩
            ·
              have hr : (wsS (wsS D ws).1 [((ho : Int), zeroB)]).2 = false := by simpa using hr
              repeat' (first
                | (refine VcL.append (m := 6 + 2 * n) (ds := byL (hd.take (6 + 2 * n))) tabOk rfl rfl rfl rfl (Holds.f1 H) (SlR.src hht.up.up.up.up.up (Holds.f1 H)) (by_one _) (by show (_ + _) * 1 ≤ _; omega) rfl rfl rfl (fun av2 w H => ?_))
                | rw [hsd]
                | (show VcL _ _ _ _ _ _ _ _; first
      | refine VcL.pures tabOk rfl ?_
      | refine VcL.nil ?_
      | (show VcL _ _ _ _ (⟨_, .slice _ _ _ _ none, _, _, _, _⟩ :: _) _ _ _; refine VcL.sliceTo tabOk rfl rfl rfl rfl rfl rfl (by omega) ?_)
      | refine VcL.buildSlice tabOk H rfl rfl rfl rfl rfl rfl (fun sv w H => ?_)
      | (show VcL _ _ _ _ (⟨_, .call ⟨.value (.func F_tithingref16_number), _, _⟩, _, _, _, _⟩ :: _) _ _ _; (refine VcL.callF ok_tithingref16_number rfl rfl rfl rfl (Rets.mono (number_any (l := hd) (at_ := 6 + 2 * n) H hhv.up.up.up.up.up (show 6 + 2 * n + 2 ≤ hd.length by omega) (by omega)) ?_); rintro _ w ⟨rfl, H⟩))
      | (show VcL _ _ _ _ (⟨_, .call ⟨.value (.func F_tithingref01_Sum), _, _⟩, _, _, _, _⟩ :: _) _ _ _; (refine VcL.callF ok_tithingref01_Sum rfl rfl rfl rfl (Rets.mono (SumR_any (l := datS ws ++ hd.take (6 + 2 * n)) H (hsum H) (by rw [List.length_append, List.length_take]; omega)) ?_); rintro _ w ⟨rfl, H⟩))
      | (show VcL _ _ _ _ (⟨_, .call ⟨.value (.func F_tithingref16_Disk_writes), _, _⟩, _, _, _, _⟩ :: _) _ _ _; (refine VcL.callF ok_tithingref16_Disk_writes rfl rfl rfl rfl (Rets.mono (writesR_any (D := D) (wl := bls) (Holds.re [1] H rfl) (by omega) (SlR.up (hback (Holds.drop1 H).drop)) (fun x hx => SlR.up (SlR.up (bys_rd (List.mem_map_of_mem hx) (Holds.drop1 H).drop.drop))) hbin (by omega)) ?_); rintro _ w ⟨J1, hJ1, rfl, H⟩; rw [hpl] at H ⊢; rw [hr1]; have H := Holds.swap (Holds.drop1 (Holds.drop1 (Holds.drop1 (Holds.drop1 H))))))
      | (show VcL _ _ _ _ (⟨_, .call ⟨.value (.func F_tithingref16_zeros), _, _⟩, _, _, _, _⟩ :: _) _ _ _; (refine VcL.callF ok_tithingref16_zeros rfl rfl rfl rfl (Rets.mono (zerosR_any (l := hd) H (hhd2 H) (by omega)) ?_); rintro _ w ⟨rfl, H⟩; rw [all_zero hhl, decide_eq_false hz]))
      | (show VcL _ _ _ _ (⟨_, .call ⟨.value (.func F_tithingref16_block), _, _⟩, _, _, _, _⟩ :: _) _ _ _; (refine VcL.callF ok_tithingref16_block rfl rfl rfl rfl (Rets.mono (blockR_any (l := []) H SlR_nil) ?_); rintro _ w H; rw [padB_nil] at H; obtain ⟨_, A9, c9, rfl⟩ := Holds.own_len H))
      | (show VcL _ _ _ _ (⟨_, .call ⟨.value (.func F_tithingref16_Disk_writes), _, _⟩, _, _, _, _⟩ :: _) _ _ _; (refine VcL.callF ok_tithingref16_Disk_writes rfl rfl rfl rfl (Rets.mono (writesR_any (D := (wsS D ws).1) (wl := [(((ho : Nat) : Int), ((Value.slice A9 256 c9, zeroB) : Vb))]) (Holds.re [3] H rfl) (by omega) (hlit (Holds.drop3 H)) (fun x hx => by simp only [List.mem_singleton] at hx; subst hx; show SlR _ _ _ 1 zeroB.length (byL zeroB); rw [zeroB_len]; exact (Holds.own_toR (Holds.drop3 H).drop).up) (fun x hx => by simp only [List.mem_singleton] at hx; subst hx; exact ⟨by show (0 : Int) ≤ ho; omega, by show (ho : Int) < _; omega, zeroB_len⟩) (by show 1 ≤ 40; omega)) ?_); rintro _ w ⟨J, hJ, rfl, H⟩; rw [hwl1] at H ⊢; rw [hr]))
      | (refine VcL.guard rfl rfl rfl rfl (fun h => ?_) (fun h => ?_) <;> first | (cases h; done) | skip))
                | (show Vc _ _ _ _ _ _; first
      | refine Vc.seq ?_
      | refine Vc.region ?_
      | refine Vc.condT rfl ?_
      | refine Vc.condF rfl ?_
      | refine Vc.ret ?_
      | refine Vc.skip ?_
      | refine Vc.exit ?_
      | (refine Vc.cond rfl (fun h => ?_) (fun h => ?_) <;> first | (exfalso; simp only [decide_eq_true_eq, decide_eq_false_iff_not, Bool.not_eq_true', Bool.not_eq_false'] at h; omega) | (with_reducible have hp := of_decide_eq_false h)))
                | (show KSeq _ _ _ _ _ _ _; first
      | refine KSeq.normal ?_
      | refine KSeq.ret ?_
      | refine KSeq.exit ?_)
                | (show KBlock _ _ _ _ _ _; refine KBlock.here ?_)
                | refine KLoop.exit ?_
                | (show KEnd _ _ _ _ _ _ _; refine KEnd.fin (Or.inr rfl) ⟨_, (ResL.tmp rfl (ResL.tmp rfl ResL.nil)), ?_⟩))
              rw [eS, if_neg hz, hr]
              exact ⟨J, hJ1.trans hJ, ⟨.inr ⟨by show (160 : Int) ≠ 0; omega, rfl, H.drop1.drop1.drop1⟩⟩⟩
        · have hr1f : (wsS D ws).2 = false := by simpa using hr1
          have eS : recS D ho = ((wsS D ws).1, false) := by unfold recS; rw [hrec, hr1f]; rfl
          repeat' (first
            | (refine VcL.append (m := 6 + 2 * n) (ds := byL (hd.take (6 + 2 * n))) tabOk rfl rfl rfl rfl (Holds.f1 H) (SlR.src hht.up.up.up.up.up (Holds.f1 H)) (by_one _) (by show (_ + _) * 1 ≤ _; omega) rfl rfl rfl (fun av2 w H => ?_))
            | rw [hsd]
            | (show VcL _ _ _ _ _ _ _ _; first
      | refine VcL.pures tabOk rfl ?_
      | refine VcL.nil ?_
      | (show VcL _ _ _ _ (⟨_, .slice _ _ _ _ none, _, _, _, _⟩ :: _) _ _ _; refine VcL.sliceTo tabOk rfl rfl rfl rfl rfl rfl (by omega) ?_)
      | (show VcL _ _ _ _ (⟨_, .call ⟨.value (.func F_tithingref16_number), _, _⟩, _, _, _, _⟩ :: _) _ _ _; (refine VcL.callF ok_tithingref16_number rfl rfl rfl rfl (Rets.mono (number_any (l := hd) (at_ := 6 + 2 * n) H hhv.up.up.up.up.up (show 6 + 2 * n + 2 ≤ hd.length by omega) (by omega)) ?_); rintro _ w ⟨rfl, H⟩))
      | (show VcL _ _ _ _ (⟨_, .call ⟨.value (.func F_tithingref01_Sum), _, _⟩, _, _, _, _⟩ :: _) _ _ _; (refine VcL.callF ok_tithingref01_Sum rfl rfl rfl rfl (Rets.mono (SumR_any (l := datS ws ++ hd.take (6 + 2 * n)) H (hsum H) (by rw [List.length_append, List.length_take]; omega)) ?_); rintro _ w ⟨rfl, H⟩))
      | (show VcL _ _ _ _ (⟨_, .call ⟨.value (.func F_tithingref16_Disk_writes), _, _⟩, _, _, _, _⟩ :: _) _ _ _; (refine VcL.callF ok_tithingref16_Disk_writes rfl rfl rfl rfl (Rets.mono (writesR_any (D := D) (wl := bls) (Holds.re [1] H rfl) (by omega) (SlR.up (hback (Holds.drop1 H).drop)) (fun x hx => SlR.up (SlR.up (bys_rd (List.mem_map_of_mem hx) (Holds.drop1 H).drop.drop))) hbin (by omega)) ?_); rintro _ w ⟨J1, hJ1, rfl, H⟩; rw [hpl] at H ⊢; rw [hr1f]))
      | (refine VcL.guard rfl rfl rfl rfl (fun h => ?_) (fun h => ?_) <;> first | (cases h; done) | skip))
            | (show Vc _ _ _ _ _ _; first
      | refine Vc.seq ?_
      | refine Vc.region ?_
      | refine Vc.condT rfl ?_
      | refine Vc.ret ?_
      | refine Vc.exit ?_
      | (refine Vc.cond rfl (fun h => ?_) (fun h => ?_) <;> first | (exfalso; simp only [decide_eq_true_eq, decide_eq_false_iff_not, Bool.not_eq_true', Bool.not_eq_false'] at h; omega) | (with_reducible have hp := of_decide_eq_false h)))
            | (show KSeq _ _ _ _ _ _ _; first
      | refine KSeq.normal ?_
      | refine KSeq.ret ?_
      | refine KSeq.exit ?_)
            | (show KBlock _ _ _ _ _ _; refine KBlock.here ?_)
            | refine KLoop.exit ?_
            | (show KEnd _ _ _ _ _ _ _; refine KEnd.fin (Or.inr rfl) ⟨_, (ResL.tmp rfl (ResL.tmp rfl ResL.nil)), ?_⟩))
          rw [eS]
          exact ⟨J1, hJ1, ⟨.inr ⟨by show (160 : Int) ≠ 0; omega, rfl, H.drop1.drop1.drop1.drop1.drop1⟩⟩⟩
      · rw [if_neg hq] at hrec
        have hsd : decide (((sumN (datS ws ++ hd.take (6 + 2 * n)) : Nat) : Int) = ((num hd (6 + 2 * n) : Nat) : Int)) = false := decide_eq_false (by omega)
        have eS : recS D ho = if hd = zeroB then (D, true) else wsS D [((ho : Int), zeroB)] := by unfold recS; rw [hrec, hhd]; rfl
        by_cases hz : hd = zeroB
        ·
          repeat' (first
            | (refine VcL.append (m := 6 + 2 * n) (ds := byL (hd.take (6 + 2 * n))) tabOk rfl rfl rfl rfl (Holds.f1 H) (SlR.src hht.up.up.up.up.up (Holds.f1 H)) (by_one _) (by show (_ + _) * 1 ≤ _; omega) rfl rfl rfl (fun av2 w H => ?_))
            | rw [hsd]
            | (show VcL _ _ _ _ _ _ _ _; first
      | refine VcL.pures tabOk rfl ?_
      | refine VcL.nil ?_
      | (show VcL _ _ _ _ (⟨_, .slice _ _ _ _ none, _, _, _, _⟩ :: _) _ _ _; refine VcL.sliceTo tabOk rfl rfl rfl rfl rfl rfl (by omega) ?_)
      | refine VcL.box H rfl rfl rfl rfl rfl (fun b w H => ?_)
      | (show VcL _ _ _ _ (⟨_, .call ⟨.value (.func F_tithingref16_number), _, _⟩, _, _, _, _⟩ :: _) _ _ _; (refine VcL.callF ok_tithingref16_number rfl rfl rfl rfl (Rets.mono (number_any (l := hd) (at_ := 6 + 2 * n) H hhv.up.up.up.up.up (show 6 + 2 * n + 2 ≤ hd.length by omega) (by omega)) ?_); rintro _ w ⟨rfl, H⟩; have H := Holds.swap (Holds.drop1 (Holds.drop1 (Holds.drop1 (Holds.drop H))))))
      | (show VcL _ _ _ _ (⟨_, .call ⟨.value (.func F_tithingref01_Sum), _, _⟩, _, _, _, _⟩ :: _) _ _ _; (refine VcL.callF ok_tithingref01_Sum rfl rfl rfl rfl (Rets.mono (SumR_any (l := datS ws ++ hd.take (6 + 2 * n)) H (hsum H) (by rw [List.length_append, List.length_take]; omega)) ?_); rintro _ w ⟨rfl, H⟩))
      | (show VcL _ _ _ _ (⟨_, .call ⟨.value (.func F_tithingref16_zeros), _, _⟩, _, _, _, _⟩ :: _) _ _ _; (refine VcL.callF ok_tithingref16_zeros rfl rfl rfl rfl (Rets.mono (zerosR_any (l := hd) H (hhd2 H) (by omega)) ?_); rintro _ w ⟨rfl, H⟩; rw [all_zero hhl, decide_eq_true hz]))
      | (refine VcL.guard rfl rfl rfl rfl (fun h => ?_) (fun h => ?_) <;> first | (cases h; done) | skip))
            | (show Vc _ _ _ _ _ _; first
      | refine Vc.seq ?_
      | refine Vc.region ?_
      | refine Vc.condF rfl ?_
      | refine Vc.ret ?_
      | refine Vc.skip ?_
      | refine Vc.exit ?_
      | (refine Vc.cond rfl (fun h => ?_) (fun h => ?_) <;> first | (exfalso; simp only [decide_eq_true_eq, decide_eq_false_iff_not, Bool.not_eq_true', Bool.not_eq_false'] at h; omega) | (with_reducible have hp := of_decide_eq_false h)))
            | (show KSeq _ _ _ _ _ _ _; first
      | refine KSeq.normal ?_
      | refine KSeq.exit ?_)
            | (show KBlock _ _ _ _ _ _; refine KBlock.here ?_)
            | refine KLoop.exit ?_
            | (show KEnd _ _ _ _ _ _ _; refine KEnd.fin (Or.inr rfl) ⟨_, (ResL.tmp rfl (ResL.tmp rfl ResL.nil)), ?_⟩))
          rw [eS, if_pos hz]
          exact ⟨I, Imm.Le.rfl' I, ⟨.inl ⟨rfl, _, rfl, H.drop1.swap⟩⟩⟩
        · by_cases hr : (wsS D [((ho : Int), zeroB)]).2 = true
          ·
            repeat' (first
              | (refine VcL.append (m := 6 + 2 * n) (ds := byL (hd.take (6 + 2 * n))) tabOk rfl rfl rfl rfl (Holds.f1 H) (SlR.src hht.up.up.up.up.up (Holds.f1 H)) (by_one _) (by show (_ + _) * 1 ≤ _; omega) rfl rfl rfl (fun av2 w H => ?_))
              | rw [hsd]
              | (show VcL _ _ _ _ _ _ _ _; first
      | refine VcL.pures tabOk rfl ?_
      | refine VcL.nil ?_
      | (show VcL _ _ _ _ (⟨_, .slice _ _ _ _ none, _, _, _, _⟩ :: _) _ _ _; refine VcL.sliceTo tabOk rfl rfl rfl rfl rfl rfl (by omega) ?_)
      | refine VcL.box H rfl rfl rfl rfl rfl (fun b w H => ?_)
      | refine VcL.buildSlice tabOk H rfl rfl rfl rfl rfl rfl (fun sv w H => ?_)
      | (show VcL _ _ _ _ (⟨_, .call ⟨.value (.func F_tithingref16_number), _, _⟩, _, _, _, _⟩ :: _) _ _ _; (refine VcL.callF ok_tithingref16_number rfl rfl rfl rfl (Rets.mono (number_any (l := hd) (at_ := 6 + 2 * n) H hhv.up.up.up.up.up (show 6 + 2 * n + 2 ≤ hd.length by omega) (by omega)) ?_); rintro _ w ⟨rfl, H⟩; have H := Holds.swap (Holds.drop1 (Holds.drop1 (Holds.drop1 (Holds.drop H))))))
      | (show VcL _ _ _ _ (⟨_, .call ⟨.value (.func F_tithingref01_Sum), _, _⟩, _, _, _, _⟩ :: _) _ _ _; (refine VcL.callF ok_tithingref01_Sum rfl rfl rfl rfl (Rets.mono (SumR_any (l := datS ws ++ hd.take (6 + 2 * n)) H (hsum H) (by rw [List.length_append, List.length_take]; omega)) ?_); rintro _ w ⟨rfl, H⟩))
      | (show VcL _ _ _ _ (⟨_, .call ⟨.value (.func F_tithingref16_zeros), _, _⟩, _, _, _, _⟩ :: _) _ _ _; (refine VcL.callF ok_tithingref16_zeros rfl rfl rfl rfl (Rets.mono (zerosR_any (l := hd) H (hhd2 H) (by omega)) ?_); rintro _ w ⟨rfl, H⟩; rw [all_zero hhl, decide_eq_false hz]))
      | (show VcL _ _ _ _ (⟨_, .call ⟨.value (.func F_tithingref16_block), _, _⟩, _, _, _, _⟩ :: _) _ _ _; (refine VcL.callF ok_tithingref16_block rfl rfl rfl rfl (Rets.mono (blockR_any (l := []) H SlR_nil) ?_); rintro _ w H; rw [padB_nil] at H; obtain ⟨_, A9, c9, rfl⟩ := Holds.own_len H))
      | (show VcL _ _ _ _ (⟨_, .call ⟨.value (.func F_tithingref16_Disk_writes), _, _⟩, _, _, _, _⟩ :: _) _ _ _; (refine VcL.callF ok_tithingref16_Disk_writes rfl rfl rfl rfl (Rets.mono (writesR_any (D := D) (wl := [(((ho : Nat) : Int), ((Value.slice A9 256 c9, zeroB) : Vb))]) (Holds.re [3] H rfl) (by omega) (hlit (Holds.drop3 H)) (fun x hx => by simp only [List.mem_singleton] at hx; subst hx; show SlR _ _ _ 1 zeroB.length (byL zeroB); rw [zeroB_len]; exact (Holds.own_toR (Holds.drop3 H).drop).up) (fun x hx => by simp only [List.mem_singleton] at hx; subst hx; exact ⟨by show (0 : Int) ≤ ho; omega, by show (ho : Int) < _; omega, zeroB_len⟩) (by show 1 ≤ 40; omega)) ?_); rintro _ w ⟨J, hJ, rfl, H⟩; rw [hwl1] at H ⊢; rw [hr]))
      | (refine VcL.guard rfl rfl rfl rfl (fun h => ?_) (fun h => ?_) <;> first | (cases h; done) | skip))
              | (show Vc _ _ _ _ _ _; first
      | refine Vc.seq ?_
      | refine Vc.region ?_
      | refine Vc.condF rfl ?_
      | refine Vc.ret ?_
      | refine Vc.skip ?_
      | refine Vc.exit ?_
      | (refine Vc.cond rfl (fun h => ?_) (fun h => ?_) <;> first | (exfalso; simp only [decide_eq_true_eq, decide_eq_false_iff_not, Bool.not_eq_true', Bool.not_eq_false'] at h; omega) | (with_reducible have hp := of_decide_eq_false h)))
              | (show KSeq _ _ _ _ _ _ _; first
      | refine KSeq.normal ?_
      | refine KSeq.exit ?_)
              | (show KBlock _ _ _ _ _ _; refine KBlock.here ?_)
              | refine KLoop.exit ?_
              | (show KEnd _ _ _ _ _ _ _; refine KEnd.fin (Or.inr rfl) ⟨_, (ResL.tmp rfl (ResL.tmp rfl ResL.nil)), ?_⟩))
            rw [eS, if_neg hz, hr]
            exact ⟨J, hJ, ⟨.inl ⟨rfl, _, rfl, H.drop2.drop2.drop2.swap⟩⟩⟩
          ·
            have hr : (wsS D [((ho : Int), zeroB)]).2 = false := by simpa using hr
            repeat' (first
              | (refine VcL.append (m := 6 + 2 * n) (ds := byL (hd.take (6 + 2 * n))) tabOk rfl rfl rfl rfl (Holds.f1 H) (SlR.src hht.up.up.up.up.up (Holds.f1 H)) (by_one _) (by show (_ + _) * 1 ≤ _; omega) rfl rfl rfl (fun av2 w H => ?_))
              | rw [hsd]
              | (show VcL _ _ _ _ _ _ _ _; first
      | refine VcL.pures tabOk rfl ?_
      | refine VcL.nil ?_
      | (show VcL _ _ _ _ (⟨_, .slice _ _ _ _ none, _, _, _, _⟩ :: _) _ _ _; refine VcL.sliceTo tabOk rfl rfl rfl rfl rfl rfl (by omega) ?_)
      | refine VcL.buildSlice tabOk H rfl rfl rfl rfl rfl rfl (fun sv w H => ?_)
      | (show VcL _ _ _ _ (⟨_, .call ⟨.value (.func F_tithingref16_number), _, _⟩, _, _, _, _⟩ :: _) _ _ _; (refine VcL.callF ok_tithingref16_number rfl rfl rfl rfl (Rets.mono (number_any (l := hd) (at_ := 6 + 2 * n) H hhv.up.up.up.up.up (show 6 + 2 * n + 2 ≤ hd.length by omega) (by omega)) ?_); rintro _ w ⟨rfl, H⟩; have H := Holds.swap (Holds.drop1 (Holds.drop1 (Holds.drop1 (Holds.drop H))))))
      | (show VcL _ _ _ _ (⟨_, .call ⟨.value (.func F_tithingref01_Sum), _, _⟩, _, _, _, _⟩ :: _) _ _ _; (refine VcL.callF ok_tithingref01_Sum rfl rfl rfl rfl (Rets.mono (SumR_any (l := datS ws ++ hd.take (6 + 2 * n)) H (hsum H) (by rw [List.length_append, List.length_take]; omega)) ?_); rintro _ w ⟨rfl, H⟩))
      | (show VcL _ _ _ _ (⟨_, .call ⟨.value (.func F_tithingref16_zeros), _, _⟩, _, _, _, _⟩ :: _) _ _ _; (refine VcL.callF ok_tithingref16_zeros rfl rfl rfl rfl (Rets.mono (zerosR_any (l := hd) H (hhd2 H) (by omega)) ?_); rintro _ w ⟨rfl, H⟩; rw [all_zero hhl, decide_eq_false hz]))
      | (show VcL _ _ _ _ (⟨_, .call ⟨.value (.func F_tithingref16_block), _, _⟩, _, _, _, _⟩ :: _) _ _ _; (refine VcL.callF ok_tithingref16_block rfl rfl rfl rfl (Rets.mono (blockR_any (l := []) H SlR_nil) ?_); rintro _ w H; rw [padB_nil] at H; obtain ⟨_, A9, c9, rfl⟩ := Holds.own_len H))
      | (show VcL _ _ _ _ (⟨_, .call ⟨.value (.func F_tithingref16_Disk_writes), _, _⟩, _, _, _, _⟩ :: _) _ _ _; (refine VcL.callF ok_tithingref16_Disk_writes rfl rfl rfl rfl (Rets.mono (writesR_any (D := D) (wl := [(((ho : Nat) : Int), ((Value.slice A9 256 c9, zeroB) : Vb))]) (Holds.re [3] H rfl) (by omega) (hlit (Holds.drop3 H)) (fun x hx => by simp only [List.mem_singleton] at hx; subst hx; show SlR _ _ _ 1 zeroB.length (byL zeroB); rw [zeroB_len]; exact (Holds.own_toR (Holds.drop3 H).drop).up) (fun x hx => by simp only [List.mem_singleton] at hx; subst hx; exact ⟨by show (0 : Int) ≤ ho; omega, by show (ho : Int) < _; omega, zeroB_len⟩) (by show 1 ≤ 40; omega)) ?_); rintro _ w ⟨J, hJ, rfl, H⟩; rw [hwl1] at H ⊢; rw [hr]))
      | (refine VcL.guard rfl rfl rfl rfl (fun h => ?_) (fun h => ?_) <;> first | (cases h; done) | skip))
              | (show Vc _ _ _ _ _ _; first
      | refine Vc.seq ?_
      | refine Vc.region ?_
      | refine Vc.condT rfl ?_
      | refine Vc.condF rfl ?_
      | refine Vc.ret ?_
      | refine Vc.skip ?_
      | refine Vc.exit ?_
      | (refine Vc.cond rfl (fun h => ?_) (fun h => ?_) <;> first | (exfalso; simp only [decide_eq_true_eq, decide_eq_false_iff_not, Bool.not_eq_true', Bool.not_eq_false'] at h; omega) | (with_reducible have hp := of_decide_eq_false h)))
              | (show KSeq _ _ _ _ _ _ _; first
      | refine KSeq.normal ?_
      | refine KSeq.ret ?_
      | refine KSeq.exit ?_)
              | (show KBlock _ _ _ _ _ _; refine KBlock.here ?_)
              | refine KLoop.exit ?_
              | (show KEnd _ _ _ _ _ _ _; refine KEnd.fin (Or.inr rfl) ⟨_, (ResL.tmp rfl (ResL.tmp rfl ResL.nil)), ?_⟩))
            rw [eS, if_neg hz, hr]
            exact ⟨J, hJ, ⟨.inr ⟨by show (160 : Int) ≠ 0; omega, rfl, H.drop1.drop1.drop1⟩⟩⟩
end Go.Proofs.Ytoahfjfknljacaa.V
