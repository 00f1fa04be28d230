/- A disk behind crashes is opened. -/
import Derived.Test.YtoahfjfknljacaaVTT
namespace Go.Proofs.Ytoahfjfknljacaa.V
open Go Go.Proofs.YtoahfjfknljacaaV
set_option linter.unusedVariables false
set_option linter.unusedSimpArgs false
set_option maxHeartbeats 1000000
set_option maxRecDepth 4000
attribute [local irreducible] IntKind.wrap
variable {I : Imm} {w : World} {L : List Asn}
theorem openS_in {D : Dk} {h : Nat} (h1 : 1 ≤ h) (h3 : h ≤ 300) (hb : h + 41 ≤ D.blocks.length) : openS D (h : Nat) = ((recS D h).1, if (recS D h).2 then 0 else 160) := by
  unfold openS
  rw [if_pos ⟨by omega, by omega, by omega⟩]
  rfl
theorem crS_in {D : Dk} {done : List Bool} {t : Nat} (ht : t < 256) : crS D done (t : Nat) = (⟨crG done t 0 true D.blocks D.wait, [], D.writes, -1⟩, 0) := by
  unfold crS
  rw [if_pos ⟨by omega, by omega⟩]
  rfl
/-- A disk behind a crash. -/
structure Fell (D : Dk) (h : Nat) (r : Nat → By) : Prop where
  ok : DkOk D
  wait : D.wait = []
  len : h + 41 ≤ D.blocks.length
  res : Res D.blocks h r
theorem Fell.stop {D : Dk} {h : Nat} {r : Nat → By} (f : Fell D h r) {n : Int} (hn : n ≤ 9223372036854775807) : Fell (stS D n) h r := ⟨stS_ok f.ok hn, f.wait, f.len, f.res⟩
theorem Fell.crash {D : Dk} {h : Nat} {r : Nat → By} (hD : DkOk D) (hb : h + 41 ≤ D.blocks.length) (hg : Gd D fun bs => Res bs h r) (done : List Bool) {t : Nat} (ht : t < 256) : Fell (crS D done (t : Nat)).1 h r := by
  have hok := crS_ok hD done (t : Nat)
  rw [crS_in ht] at hok ⊢
  exact ⟨hok, rfl, by show h + 41 ≤ (crG done t 0 true D.blocks D.wait).length; rw [crG_len]; exact hb, hg done t ht⟩
theorem Fell.open_ok {D : Dk} {h : Nat} {r : Nat → By} (f : Fell D h r) (h1 : 1 ≤ h) (h3 : h ≤ 300) (h0 : (openS D (h : Nat)).2 = 0) : Alive (openS D (h : Nat)).1 h r := by
  rw [openS_in h1 h3 f.len] at h0 ⊢
  have e : (recS D h).2 = true := by
    cases hh : (recS D h).2 with
    | true => rfl
    | false => rw [hh] at h0; exact absurd (show (160 : Int) = 0 from h0) (by decide)
  obtain ⟨a, b, c⟩ := (rec_run f.ok f.wait f.len f.res).1 e
  exact ⟨a, b, c⟩
theorem Fell.open_no {D : Dk} {h : Nat} {r : Nat → By} (f : Fell D h r) (h1 : 1 ≤ h) (h3 : h ≤ 300) (h0 : (openS D (h : Nat)).2 ≠ 0) (done : List Bool) {t : Nat} (ht : t < 256) : Fell (crS (openS D (h : Nat)).1 done (t : Nat)).1 h r := by
  rw [openS_in h1 h3 f.len] at h0 ⊢
  have e : (recS D h).2 = false := by
    cases hh : (recS D h).2 with
    | false => rfl
    | true => rw [hh] at h0; exact absurd (show (if true = true then (0 : Int) else 160) = 0 from rfl) h0
  exact Fell.crash (recS_ok f.ok h) (by rw [recS_blocks]; exact f.len) ((rec_run f.ok f.wait f.len f.res).2 e) done ht
theorem Fell.free {D : Dk} {h : Nat} {r : Nat → By} (f : Fell D h r) (h1 : 1 ≤ h) (h3 : h ≤ 300) (hs : D.stop = -1) : (openS D (h : Nat)).2 = 0 := by
  rw [openS_in h1 h3 f.len, rec_free f.ok f.wait f.len hs]
  rfl
theorem crS_stop {D : Dk} {done : List Bool} {t : Nat} (ht : t < 256) : (crS D done (t : Nat)).1.stop = -1 := by rw [crS_in ht]
theorem openS_writes' (D : Dk) (home : Int) : (openS D home).1.writes ≤ D.writes + 41 := by
  unfold openS
  split
  · exact recS_writes _ _
  · exact Nat.le_add_right _ _
theorem openS_blocks' (D : Dk) (home : Int) : (openS D home).1.blocks.length = D.blocks.length := by
  unfold openS
  split
  · exact recS_blocks _ _
  · rfl
theorem crS_writes' (D : Dk) (done : List Bool) (t : Int) : (crS D done t).1.writes = D.writes := by
  unfold crS
  split <;> rfl
theorem crS_blocks' (D : Dk) (done : List Bool) (t : Int) : (crS D done t).1.blocks.length = D.blocks.length := by
  unfold crS
  split
  · exact crG_len _ _ _ _ _ _
  · rfl
theorem Open_no' {d : Nat} {D : Dk} (H : Holds I w (dskA d D :: L)) (hw : D.writes + 100 < 2 ^ 40) {home : Int} (hm1 : -9223372036854775808 ≤ home ∧ home ≤ 9223372036854775807) (h0 : (openS D home).2 ≠ 0) :
    Rets Try.prog F_journal_Open #[ptr d, .int .i64 home] w fun u w' => u = .tuple #[.pointer none, .int .i64 (openS D home).2] ∧ Holds I w' (dskA d (openS D home).1 :: L) :=
  (Open_any H hw hm1).mono fun u w' h => by
    rcases h.out with ⟨he, _⟩ | ⟨_, h1, h2⟩
    · exact absurd he h0
    · exact ⟨h1, h2⟩
theorem opened_any {d ho : Nat} {D : Dk} (H : Holds I w (dskA d D :: L)) (hw : D.writes + 10000 < 2 ^ 40) (h1 : 1 ≤ ho) (h3 : ho ≤ 300) (hb : D.blocks.length = ho + 41) {r1 r2 : Nat → By} (hg : Gd D fun bs => Res bs ho r1 ∨ Res bs ho r2) {p : Pu} (hp1 : PuOk I p) :
    Rets Try.prog F_tithinglaw16_opened #[ptr d, .int .i64 (ho : Nat), .agg (puC p).toArray] w fun u w' => ∃ s D', u = ptr s ∧ D'.blocks.length = ho + 41 ∧ D'.writes ≤ D.writes + 400 ∧ (Alive D' ho r1 ∨ Alive D' ho r2) ∧ Holds I w' (dskA d D' :: blk s 82 (stV d (ho : Nat) false) :: L) := by
  have hok := dsk_ok H
  have hdv := hp1.done
  have hbl := hp1.blocks
  have hnum := hp1.num
  obtain ⟨what, num, ⟨A2, cap2, bs⟩, byte, ⟨A3, cap3, done⟩⟩ := p
  dsimp only at hnum
  have hdv : SlI I (.slice A3 done.length cap3) 1 done.length (done.flatMap boC) := hdv
  have hbl : SlI I (.slice A2 bs.length cap2) 1 bs.length (bs.flatMap inC) := hbl
  show Rets Try.prog F_tithinglaw16_opened #[ptr d, .int .i64 (ho : Nat), .agg #[.int .i64 what, .int .i64 num, .slice A2 bs.length cap2, .int .u8 byte, .slice A3 done.length cap3]] w _
  obtain ⟨t, ht⟩ : ∃ t : Nat, (max num 0).tmod (Int.ofNat (255 + 1)) = (t : Int) := Int.eq_ofNat_of_zero_le (Int.tmod_nonneg _ (by omega))
  have ht256 : t < 256 := by
    have e : (max num 0).tmod (Int.ofNat (255 + 1)) < 256 := by
      rw [Int.tmod_eq_emod_of_nonneg (by omega)]
      exact Int.emod_lt_of_pos _ (by decide)
    omega
  have hdone := hg done t ht256
  obtain ⟨r, hr, hres⟩ : ∃ r, (r = r1 ∨ r = r2) ∧ Res (crG done t 0 true D.blocks D.wait) ho r := by
    rcases hdone with h | h
    · exact ⟨r1, .inl rfl, h⟩
    · exact ⟨r2, .inr rfl, h⟩
  obtain ⟨D1, hD1⟩ : ∃ D1, crS D done (t : Nat) = D1 := ⟨_, rfl⟩
  have f1 : Fell D1.1 ho r := by
    rw [← hD1]
    have h2 := crS_ok hok done (t : Nat)
    rw [crS_in ht256] at h2 ⊢
    exact ⟨h2, rfl, by show ho + 41 ≤ (crG done t 0 true D.blocks D.wait).length; rw [crG_len]; omega, hres⟩
  have hs1 : D1.1.stop = -1 := by rw [← hD1]; exact crS_stop ht256
  have hw1 : D1.1.writes = D.writes := by rw [← hD1]; exact crS_writes' _ _ _
  have hb1 : D1.1.blocks.length = ho + 41 := by rw [← hD1, crS_blocks']; exact hb
  have he1 : D1.2 = 0 := by rw [← hD1, crS_in ht256]
  have hal : ∀ D', Alive D' ho r → Alive D' ho r1 ∨ Alive D' ho r2 := fun D' a => by
    rcases hr with rfl | rfl
    · exact .inl a
    · exact .inr a
  have hm : ((bs.length : Nat) : Int).tmod (Int.ofNat (4 + 1)) = ((bs.length % 5 : Nat) : Int) := by rw [Int.tmod_eq_emod_of_nonneg (by omega)]; rfl
  refine ok_tithinglaw16_opened.rets rfl ?_
  repeat' (first
    | rw [ht]
    | (show VcL _ _ _ _ _ _ _ _; first
      | refine VcL.pures tabOk rfl ?_
      | refine VcL.nil ?_
      | (show VcL _ _ _ _ (⟨_, .load _ _, _, _, _, _⟩ :: _) _ _ _; refine VcL.load1 tabOk rfl rfl rfl rfl rfl (by exact Holds.cell H rfl) ?_)
      | refine VcL.box H rfl rfl rfl rfl rfl (fun b w H => ?_)
      | (show VcL _ _ _ _ (⟨_, .call ⟨.value (.func F_journal_Disk_Crash), _, _⟩, _, _, _, _⟩ :: _) _ _ _; (refine VcL.callF ok_journal_Disk_Crash rfl rfl rfl rfl (Rets.mono (CrashP_any (D := D) (Holds.f1 H) (by omega) (SlI.toR hdv) (t : Nat)) ?_); rintro _ w ⟨rfl, H⟩; rw [hD1, he1] ; rw [hD1] at H)))
    | (show Vc _ _ _ _ _ _; first
      | refine Vc.seq ?_
      | refine Vc.region ?_
      | refine Vc.condF rfl ?_
      | refine Vc.skip ?_
      | refine Vc.block ?_)
    | (show KSeq _ _ _ _ _ _ _; refine KSeq.normal ?_))
  refine Vc.loopS [(0, _), (1, _), (5, _), (7, _)] (fun k : Nat => [(8, .int .i64 k)]) (fun k w => k ≤ bs.length % 5 ∧ ∃ D2, Fell D2 ho r ∧ D2.stop = -1 ∧ D2.writes ≤ D.writes + 41 * k ∧ D2.blocks.length = ho + 41 ∧ Holds I w (dskA d D2 :: blk b 55 [.int .i64 what, .int .i64 num, .slice A2 bs.length cap2, .int .u8 byte, .slice A3 done.length cap3] :: L)) (fun k _ => bs.length % 5 - k) 0 ⟨rfl, trivial⟩ ⟨rfl, rfl, rfl, rfl, trivial⟩ ⟨Nat.zero_le _, D1.1, f1, hs1, by omega, hb1, H⟩ ?_
  clear H
  rintro k w ⟨hk, D2, f2, hs2, hw2, hb2, H⟩
  have hk5 : k < 5 := by omega
  by_cases hlt : k < bs.length % 5
  · obtain ⟨C, hC⟩ : ∃ C, stS D2 (k : Nat) = C := ⟨_, rfl⟩
    have fC : Fell C ho r := by rw [← hC]; exact f2.stop (by omega)
    have hCw : C.writes = D2.writes := by rw [← hC]; rfl
    have hCb : C.blocks.length = ho + 41 := by rw [← hC]; exact hb2
    obtain ⟨oe, hoe⟩ : ∃ oe, openS C (ho : Nat) = oe := ⟨_, rfl⟩
    have how := openS_writes' C (ho : Nat)
    have hob := openS_blocks' C (ho : Nat)
    rw [hoe] at how hob
    by_cases he : oe.2 = 0
    · have hA := fC.open_ok h1 h3 (by rw [hoe]; exact he)
      rw [hoe] at hA
      repeat' (first
        | rw [hm]
        | (show VcL _ _ _ _ _ _ _ _; first
      | refine VcL.pures tabOk rfl ?_
      | refine VcL.nil ?_
      | (show VcL _ _ _ _ (⟨_, .load _ _, _, _, _, _⟩ :: _) _ _ _; refine VcL.load1 tabOk rfl rfl rfl rfl rfl (by exact Holds.cell (Holds.f1 H) rfl) ?_)
      | (show VcL _ _ _ _ (⟨_, .call ⟨.value (.func F_journal_Disk_Stop), _, _⟩, _, _, _, _⟩ :: _) _ _ _; (refine VcL.callF ok_journal_Disk_Stop rfl rfl rfl rfl (Rets.mono (Stop_any (D := D2) (n := (k : Nat)) H (by omega)) ?_); rintro _ w ⟨rfl, H⟩; rw [hC] at H))
      | (show VcL _ _ _ _ (⟨_, .call ⟨.value (.func F_journal_Open), _, _⟩, _, _, _, _⟩ :: _) _ _ _; (refine VcL.callF ok_journal_Open rfl rfl rfl rfl (Rets.mono (Open_ok (D := C) (home := (ho : Nat)) H (by omega) (by omega) (by rw [hoe]; exact he)) ?_); rintro _ w ⟨s, rfl, H⟩; rw [hoe] at H))
      | (show VcL _ _ _ _ (⟨_, .call ⟨.value (.func F_journal_Disk_Stop), _, _⟩, _, _, _, _⟩ :: _) _ _ _; (refine VcL.callF ok_journal_Disk_Stop rfl rfl rfl rfl (Rets.mono (Stop_any (D := oe.1) (n := -1) H (by omega)) ?_); rintro _ w ⟨rfl, H⟩)))
        | (show Vc _ _ _ _ _ _; first
      | refine Vc.seq ?_
      | refine Vc.region ?_
      | refine Vc.condT rfl ?_
      | refine Vc.ret ?_
      | refine Vc.skip ?_
      | refine Vc.block ?_
      | (refine Vc.cond rfl (fun h => ?_) (fun h => ?_) <;> first | (exfalso; simp only [decide_eq_true_eq, decide_eq_false_iff_not, Bool.not_eq_true', Bool.not_eq_false'] at h; omega) | (with_reducible have hp := of_decide_eq_true h)))
        | (show KSeq _ _ _ _ _ _ _; first
      | refine KSeq.normal ?_
      | refine KSeq.ret ?_)
        | (show KBlock _ _ _ _ _ _; refine KBlock.ret ?_)
        | refine KLoop.ret ?_
        | (show KEnd _ _ _ _ _ _ _; refine KEnd.fin (Or.inr rfl) ⟨_, (ResL.tmp rfl ResL.nil), ?_⟩))
      · exact ⟨s, stS oe.1 (-1), rfl, by show oe.1.blocks.length = _; omega, by show oe.1.writes ≤ _; omega, hal _ ⟨hA.wait, hA.zero, hA.home⟩, H.drop2⟩
    · have f3 := fC.open_no h1 h3 (by rw [hoe]; exact he) done ht256
      rw [hoe] at f3
      obtain ⟨D3, hD3⟩ : ∃ D3, crS oe.1 done (t : Nat) = D3 := ⟨_, rfl⟩
      have hs3 : D3.1.stop = -1 := by rw [← hD3]; exact crS_stop ht256
      have hw3 : D3.1.writes = oe.1.writes := by rw [← hD3]; exact crS_writes' _ _ _
      have hb3 : D3.1.blocks.length = ho + 41 := by rw [← hD3, crS_blocks']; omega
      have he3 : D3.2 = 0 := by rw [← hD3, crS_in ht256]
      rw [hD3] at f3
      have hne : decide (oe.2 = 0) = false := decide_eq_false he
      repeat' (first
        | rw [hm]
        | rw [hne]
        | (show VcL _ _ _ _ _ _ _ _; first
      | refine VcL.pures tabOk rfl ?_
      | refine VcL.nil ?_
      | (show VcL _ _ _ _ (⟨_, .load _ _, _, _, _, _⟩ :: _) _ _ _; refine VcL.load1 tabOk rfl rfl rfl rfl rfl (by exact Holds.cell (Holds.f1 H) rfl) ?_)
      | (show VcL _ _ _ _ (⟨_, .call ⟨.value (.func F_journal_Disk_Stop), _, _⟩, _, _, _, _⟩ :: _) _ _ _; (refine VcL.callF ok_journal_Disk_Stop rfl rfl rfl rfl (Rets.mono (Stop_any (D := D2) (n := (k : Nat)) H (by omega)) ?_); rintro _ w ⟨rfl, H⟩; rw [hC] at H))
      | (show VcL _ _ _ _ (⟨_, .call ⟨.value (.func F_journal_Open), _, _⟩, _, _, _, _⟩ :: _) _ _ _; (refine VcL.callF ok_journal_Open rfl rfl rfl rfl (Rets.mono (Open_no' (D := C) (home := (ho : Nat)) H (by omega) (by omega) (by rw [hoe]; exact he)) ?_); rintro _ w ⟨rfl, H⟩; rw [hoe] at H ⊢))
      | (show VcL _ _ _ _ (⟨_, .call ⟨.value (.func F_journal_Disk_Crash), _, _⟩, _, _, _, _⟩ :: _) _ _ _; (refine VcL.callF ok_journal_Disk_Crash rfl rfl rfl rfl (Rets.mono (CrashP_any (D := oe.1) H (by omega) (SlI.toR hdv) (t : Nat)) ?_); rintro _ w ⟨rfl, H⟩; rw [hD3, he3] ; rw [hD3] at H)))
        | (show Vc _ _ _ _ _ _; first
      | refine Vc.seq ?_
      | refine Vc.region ?_
      | refine Vc.condF rfl ?_
      | refine Vc.skip ?_
      | refine Vc.block ?_
      | (refine Vc.cond rfl (fun h => ?_) (fun h => ?_) <;> first | (exfalso; simp only [decide_eq_true_eq, decide_eq_false_iff_not, Bool.not_eq_true', Bool.not_eq_false'] at h; omega) | (with_reducible have hp := of_decide_eq_true h)))
        | (show KSeq _ _ _ _ _ _ _; refine KSeq.normal ?_)
        | (show KBlock _ _ _ _ _ _; refine KBlock.normal ?_))
      · exact KLoop.again (k + 1) ⟨got_succ rfl (by omega), trivial⟩ ⟨rfl, rfl, rfl, rfl, trivial⟩ ⟨hlt, D3.1, f3, hs3, by omega, hb3, H⟩ (by omega)
  · obtain rfl : k = bs.length % 5 := by omega
    obtain ⟨oe, hoe⟩ : ∃ oe, openS D2 (ho : Nat) = oe := ⟨_, rfl⟩
    have how := openS_writes' D2 (ho : Nat)
    have hob := openS_blocks' D2 (ho : Nat)
    have he := f2.free h1 h3 hs2
    have hA := f2.open_ok h1 h3 he
    rw [hoe] at how hob he hA
    repeat' (first
      | rw [hm]
      | (show VcL _ _ _ _ _ _ _ _; first
      | refine VcL.pures tabOk rfl ?_
      | refine VcL.nil ?_
      | (show VcL _ _ _ _ (⟨_, .load _ _, _, _, _, _⟩ :: _) _ _ _; refine VcL.load1 tabOk rfl rfl rfl rfl rfl (by exact Holds.cell (Holds.f1 H) rfl) ?_)
      | (show VcL _ _ _ _ (⟨_, .call ⟨.value (.func F_journal_Open), _, _⟩, _, _, _, _⟩ :: _) _ _ _; (refine VcL.callF ok_journal_Open rfl rfl rfl rfl (Rets.mono (Open_ok (D := D2) (home := (ho : Nat)) H (by omega) (by omega) (by rw [hoe]; exact he)) ?_); rintro _ w ⟨s, rfl, H⟩; rw [hoe] at H)))
      | (show Vc _ _ _ _ _ _; first
      | refine Vc.seq ?_
      | refine Vc.region ?_
      | refine Vc.condF rfl ?_
      | refine Vc.ret ?_
      | refine Vc.skip ?_
      | refine Vc.exit ?_
      | (refine Vc.cond rfl (fun h => ?_) (fun h => ?_) <;> first | (exfalso; simp only [decide_eq_true_eq, decide_eq_false_iff_not, Bool.not_eq_true', Bool.not_eq_false'] at h; omega) | (with_reducible have hp := of_decide_eq_false h)))
      | (show KSeq _ _ _ _ _ _ _; first
      | refine KSeq.normal ?_
      | refine KSeq.exit ?_)
      | (show KBlock _ _ _ _ _ _; refine KBlock.here ?_)
      | refine KLoop.exit ?_
      | (show KEnd _ _ _ _ _ _ _; refine KEnd.fin (Or.inr rfl) ⟨_, (ResL.tmp rfl ResL.nil), ?_⟩))
    exact ⟨s, oe.1, rfl, by omega, by omega, hal _ hA, H.drop2⟩
end Go.Proofs.Ytoahfjfknljacaa.V
