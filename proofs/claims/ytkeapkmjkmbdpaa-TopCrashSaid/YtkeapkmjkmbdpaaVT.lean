/- The program's store: opened, read. -/
import Derived.Test.YtkeapkmjkmbdpaaVS
namespace Go.Proofs.Ytkeapkmjkmbdpaa.V
open Go Go.Proofs.YtkeapkmjkmbdpaaV
set_option linter.unusedVariables false
set_option linter.unusedSimpArgs false
set_option maxHeartbeats 1000000
set_option maxRecDepth 4000
attribute [local irreducible] IntKind.wrap
variable {I : Imm} {w : World} {L : List Asn}
abbrev stV (d : Nat) (h : Int) (dead : Bool) : List Value := [ptr d, .int .i64 h, .bool dead]
theorem noneS_any (H : Holds I w L) {s d : Nat} {h : Int} {dead : Bool} (hs : RdW I L s 0 (stV d h dead)) : Rets Try.prog F_journal_Store_none #[ptr s] w fun u w' => u = .bool false ∧ Holds I w' L := by
  refine ok_journal_Store_none.rets rfl ?_
  repeat' (first
    | (show VcL _ _ _ _ _ _ _ _; first
      | refine VcL.pures tabOk rfl ?_
      | refine VcL.nil ?_
      | (show VcL _ _ _ _ (⟨_, .load _ _, _, _, _, _⟩ :: _) _ _ _; refine VcL.load1 tabOk rfl rfl rfl rfl rfl (by exact RdW.get0 (by assumption) rfl H) ?_)
      | (refine VcL.guard rfl rfl rfl rfl (fun h => ?_) (fun h => ?_) <;> first | (cases h; done) | skip))
    | (show Vc _ _ _ _ _ _; first
      | refine Vc.seq ?_
      | refine Vc.region ?_
      | refine Vc.ret ?_)
    | (show KSeq _ _ _ _ _ _ _; refine KSeq.normal ?_)
    | (show KEnd _ _ _ _ _ _ _; refine KEnd.fin (Or.inr rfl) ⟨_, (ResL.tmp rfl ResL.nil), ?_⟩))
  exact ⟨rfl, H⟩
theorem noneS0_any (H : Holds I w L) {s : Nat} {h : Int} {dead : Bool} (hs : RdW I L s 0 [.pointer none, .int .i64 h, .bool dead]) : Rets Try.prog F_journal_Store_none #[ptr s] w fun u w' => u = .bool true ∧ Holds I w' L := by
  refine ok_journal_Store_none.rets rfl ?_
  repeat' (first
    | (show VcL _ _ _ _ _ _ _ _; first
      | refine VcL.pures tabOk rfl ?_
      | refine VcL.nil ?_
      | (show VcL _ _ _ _ (⟨_, .load _ _, _, _, _, _⟩ :: _) _ _ _; refine VcL.load1 tabOk rfl rfl rfl rfl rfl (by exact RdW.get0 (by assumption) rfl H) ?_)
      | (refine VcL.guard rfl rfl rfl rfl (fun h => ?_) (fun h => ?_) <;> first | (cases h; done) | skip))
    | (show Vc _ _ _ _ _ _; first
      | refine Vc.seq ?_
      | refine Vc.region ?_
      | refine Vc.ret ?_)
    | (show KSeq _ _ _ _ _ _ _; refine KSeq.normal ?_)
    | (show KEnd _ _ _ _ _ _ _; refine KEnd.fin (Or.inr rfl) ⟨_, (ResL.tmp rfl ResL.nil), ?_⟩))
  exact ⟨rfl, H⟩
theorem noneSNil_any (H : Holds I w L) : Rets Try.prog F_journal_Store_none #[.pointer none] w fun u w' => u = .bool true ∧ Holds I w' L := by
  refine ok_journal_Store_none.rets rfl ?_
  repeat' (first
    | (show VcL _ _ _ _ _ _ _ _; first
      | refine VcL.pures tabOk rfl ?_
      | refine VcL.nil ?_
      | (refine VcL.guard rfl rfl rfl rfl (fun h => ?_) (fun h => ?_) <;> first | (cases h; done) | skip))
    | (show Vc _ _ _ _ _ _; first
      | refine Vc.seq ?_
      | refine Vc.region ?_
      | refine Vc.ret ?_)
    | (show KSeq _ _ _ _ _ _ _; refine KSeq.normal ?_)
    | (show KEnd _ _ _ _ _ _ _; refine KEnd.fin (Or.inr rfl) ⟨_, (ResL.tmp rfl ResL.nil), ?_⟩))
  exact ⟨rfl, H⟩
theorem headP_any {s d ho : Nat} {dead : Bool} {D : Dk} (H : Holds I w (dskA d D :: L)) (hs : RdW I L s 0 (stV d (ho : Nat) dead)) (hw : D.writes + 1 < 2 ^ 40) (hh : ho < D.blocks.length) {v : Value} {l : By} (hv : SlR I L v 1 l.length (byL l)) (hl : l.length = 256) :
    Rets Try.prog F_journal_Store_head #[ptr s, v] w fun u w' => u = .int .i64 (if (wsS D [((ho : Int), l)]).2 then 0 else 160) ∧ Holds I w' (dskA d (wsS D [((ho : Int), l)]).1 :: L) := by
  have hs1 := hs.up (A := dskA d D)
  have he := wrS_err (D := D) (k := (ho : Int)) (b := l) ⟨by omega, by omega, hl⟩
  have hww := wrS_writes D (ho : Int) l
  obtain ⟨A, c, rfl, _⟩ := hv.form
  rcases he with ⟨h0, hst⟩ | ⟨h0, hst, hD⟩
  · have hs2 := hs.up (A := dskA d (wrS D (ho : Int) l).1)
    have ef : wsS D [((ho : Int), l)] = ((flS (wrS D (ho : Int) l).1).1, decide ((flS (wrS D (ho : Int) l).1).2 = 0)) := by
      unfold wsS
      rw [if_pos h0]
      rfl
    rw [ef]
    refine ok_journal_Store_head.rets rfl ?_
    repeat' (first
      | rw [h0]
      | (show VcL _ _ _ _ _ _ _ _; first
      | refine VcL.pures tabOk rfl ?_
      | refine VcL.nil ?_
      | (show VcL _ _ _ _ (⟨_, .load _ _, _, _, _, _⟩ :: _) _ _ _; refine VcL.load1 tabOk rfl rfl rfl rfl rfl (by exact RdW.get0 (by assumption) rfl H) ?_)
      | (show VcL _ _ _ _ (⟨_, .call ⟨.value (.func F_journal_Disk_Flush), _, _⟩, _, _, _, _⟩ :: _) _ _ _; (refine VcL.callF ok_journal_Disk_Flush rfl rfl rfl rfl (Rets.mono (FlushP_any H (by omega)) ?_); rintro _ w ⟨rfl, H⟩)))
      | (show VcD _ _ _ _ _ _ _ _ _; first
      | refine VcD.pures tabOk rfl ?_
      | refine VcD.done ?_
      | (show VcD _ _ _ _ _ (.take _ _) _ _ _; refine VcD.load1 tabOk rfl rfl rfl rfl rfl rfl (by intro w_ hw_; first | exact RdW.get (by assumption) rfl hw_ | exact RdW.get0 (by assumption) rfl hw_) (by exact rfl) ?_)
      | (show VcD _ _ _ _ _ (.only _ _) _ _ _; (refine VcD.callF (f := F_journal_Disk_Write) rfl ok_journal_Disk_Write rfl rfl rfl rfl (Rets.mono (WriteP_any (k := (ho : Int)) H (by omega) hv (by omega)) ?_); rintro _ w ⟨rfl, H⟩; refine ⟨(by trivial), ?_⟩)))
      | (show Vc _ _ _ _ _ _; first
      | refine Vc.seq ?_
      | refine Vc.region ?_
      | refine Vc.condF rfl ?_
      | refine Vc.ret ?_
      | refine Vc.skip ?_
      | (refine Vc.drawn (id := 1) (.pure 0 (.pure 1 (.pure 2 (.pure 4 (.pure 5 (.pure 6 (.pure 8 (.take 3 (.take 7 (.only 9 (.pure 10 .done))))))))))) (.till (fun w => Holds I w (dskA d D :: L)) 9 (.one (fun w => True))) mixed (by kernel_rfl) (by exact (Holds.drew H _)) ?_; have H := H.drew (w.drawn + 1)))
      | (show KSeq _ _ _ _ _ _ _; refine KSeq.normal ?_)
      | (show KEnd _ _ _ _ _ _ _; refine KEnd.fin (Or.inr rfl) ⟨_, (ResL.tmp rfl ResL.nil), ?_⟩))
    refine ⟨?_, H⟩
    rcases flS_err (wrS D (ho : Int) l).1 with e | e <;> rw [e] <;> rfl
  · have ef : wsS D [((ho : Int), l)] = (D, false) := by
      unfold wsS
      rw [if_neg (by rw [h0]; decide), hD]
    rw [ef]
    refine ok_journal_Store_head.rets rfl ?_
    repeat' (first
      | rw [h0]
      | (show VcL _ _ _ _ _ _ _ _; first
      | refine VcL.pures tabOk rfl ?_
      | refine VcL.nil ?_)
      | (show VcD _ _ _ _ _ _ _ _ _; first
      | refine VcD.pures tabOk rfl ?_
      | refine VcD.done ?_
      | (show VcD _ _ _ _ _ (.take _ _) _ _ _; refine VcD.load1 tabOk rfl rfl rfl rfl rfl rfl (by intro w_ hw_; first | exact RdW.get (by assumption) rfl hw_ | exact RdW.get0 (by assumption) rfl hw_) (by exact rfl) ?_)
      | (show VcD _ _ _ _ _ (.only _ _) _ _ _; (refine VcD.callF (f := F_journal_Disk_Write) rfl ok_journal_Disk_Write rfl rfl rfl rfl (Rets.mono (WriteP_any (k := (ho : Int)) H (by omega) hv (by omega)) ?_); rintro _ w ⟨rfl, H⟩; refine ⟨(by trivial), ?_⟩)))
      | (show Vc _ _ _ _ _ _; first
      | refine Vc.seq ?_
      | refine Vc.region ?_
      | refine Vc.condT rfl ?_
      | refine Vc.ret ?_
      | (refine Vc.drawn (id := 1) (.pure 0 (.pure 1 (.pure 2 (.pure 4 (.pure 5 (.pure 6 (.pure 8 (.take 3 (.take 7 (.only 9 (.pure 10 .done))))))))))) (.till (fun w => Holds I w (dskA d D :: L)) 9 (.one (fun w => True))) mixed (by kernel_rfl) (by exact (Holds.drew H _)) ?_; have H := H.drew (w.drawn + 1)))
      | (show KSeq _ _ _ _ _ _ _; first
      | refine KSeq.normal ?_
      | refine KSeq.ret ?_)
      | (show KEnd _ _ _ _ _ _ _; refine KEnd.fin (Or.inr rfl) ⟨_, (ResL.tmp rfl ResL.nil), ?_⟩))
    exact ⟨rfl, hD ▸ H⟩
theorem recover_any {s d ho : Nat} {dead : Bool} {D : Dk} (H : Holds I w (dskA d D :: L)) (hs : RdW I L s 0 (stV d (ho : Nat) dead)) (hw : D.writes + 100 < 2 ^ 40) (hh : ho + 41 ≤ D.blocks.length) :
    Rets Try.prog F_journal_Store_recover #[ptr s] w fun u w' => u = .int .i64 (if (recS D ho).2 then 0 else 160) ∧ Holds I w' (dskA d (recS D ho).1 :: L) := by
  have hok := dsk_ok H
  have hhl := rdB_len hok (show ho < D.blocks.length by omega)
  have hs1 := hs.up (A := dskA d D)
  obtain ⟨hd, hhd⟩ : ∃ hd, rdB D ho = hd := ⟨_, rfl⟩
  rw [hhd] at hhl
  have hat : num hd 4 ≤ 40 → atS hd ≤ 86 := fun ho => by unfold atS; omega
  have hsz : ∀ {w : World} {M : List Asn} {zv : Value}, Holds I w (own zv 5 1 256 (byL zeroB) :: M) → SlR I (own zv 5 1 256 (byL zeroB) :: M) zv 1 zeroB.length (byL zeroB) := fun H => by rw [zeroB_len]; exact Holds.own_toR H
  refine ok_journal_Store_recover.rets rfl ?_
  repeat' (first
    | (show VcL _ _ _ _ _ _ _ _; first
      | refine VcL.pures tabOk rfl ?_
      | refine VcL.nil ?_
      | (show VcL _ _ _ _ (⟨_, .load _ _, _, _, _, _⟩ :: _) _ _ _; refine VcL.load1 tabOk rfl rfl rfl rfl rfl (by exact RdW.get (by assumption) rfl (Holds.drop H)) ?_)
      | (show VcL _ _ _ _ (⟨_, .call ⟨.value (.func F_journal_targets), _, _⟩, _, _, _, _⟩ :: _) _ _ _; (refine VcL.callF ok_journal_targets rfl rfl rfl rfl (Rets.mono (targets_any (l := hd) H (by rw [hhl]; exact Holds.own_toR H) (by omega) (ho : Int)) ?_); rintro _ w ⟨⟨hno, rfl, H⟩ | ⟨tv, hyes, rfl, H⟩⟩)))
    | (show VcD _ _ _ _ _ _ _ _ _; first
      | refine VcD.pures tabOk rfl ?_
      | refine VcD.done ?_
      | (show VcD _ _ _ _ _ (.take _ _) _ _ _; refine VcD.load1 tabOk rfl rfl rfl rfl rfl rfl (by intro w_ hw_; first | exact RdW.get (by assumption) rfl hw_ | exact RdW.get0 (by assumption) rfl hw_) (by exact rfl) ?_)
      | (show VcD _ _ _ _ _ (.only _ _) _ _ _; (refine VcD.callF (f := F_journal_Disk_Read) rfl ok_journal_Disk_Read rfl rfl rfl rfl (Rets.mono (ReadP_good (k := ho) H (by omega) (by omega)) ?_); rintro _ w ⟨hv, rfl, H⟩; obtain ⟨bh, oh, ch, rfl, hch⟩ := Holds.own_some (by omega) H; rw [hhd] at H; refine ⟨(by exact Holds.drop H), ?_⟩)))
    | (show Vc _ _ _ _ _ _; first
      | refine Vc.seq ?_
      | refine Vc.region ?_
      | refine Vc.condT rfl ?_
      | refine Vc.condF rfl ?_
      | refine Vc.skip ?_
      | refine Vc.drawnH (id := 1) H (.pure 0 (.pure 1 (.pure 2 (.pure 4 (.pure 5 (.pure 6 (.take 3 (.take 7 (.only 8 (.pure 9 (.pure 10 (.pure 11 (.pure 12 (.pure 13 .done)))))))))))))) mixed (by kernel_rfl) (fun w H => ?_))
    | (show KSeq _ _ _ _ _ _ _; refine KSeq.normal ?_))
  · have eA : recA D ho = (D, true) := by unfold recA; rw [hhd, if_neg (fun hh => hno hh.1)]
    have eS : recS D ho = if hd = zeroB then (D, true) else wsS D [((ho : Int), zeroB)] := by unfold recS; rw [eA, hhd]; rfl
    have hsh : ∀ {zv : Value}, SlR I (own zv 5 1 256 (byL zeroB) :: own (.slice (some ⟨bh, oh, none⟩) 256 ch) 5 1 256 (byL hd) :: dskA d D :: L) (.slice (some ⟨bh, oh, none⟩) 256 ch) 1 hd.length (byL hd) := by rw [hhl]; exact (Holds.own_toR H).up
    repeat' (first
      | (show VcL _ _ _ _ _ _ _ _; first
      | refine VcL.pures tabOk rfl ?_
      | refine VcL.nil ?_
      | (show VcL _ _ _ _ (⟨_, .call ⟨.value (.func F_journal_zeros), _, _⟩, _, _, _, _⟩ :: _) _ _ _; (refine VcL.callF ok_journal_zeros rfl rfl rfl rfl (Rets.mono (zerosP_any H) ?_); rintro _ w H))
      | (show VcL _ _ _ _ (⟨_, .call ⟨.value (.func F_slices_Equal_byte_byte), _, _⟩, _, _, _, _⟩ :: _) _ _ _; (refine VcL.callF ok_slices_Equal_byte_byte rfl rfl rfl rfl (Rets.mono (Equal_any (l := hd) (m := zeroB) H hsh (hsz H) (by omega)) ?_); rintro _ w ⟨rfl, H⟩))
      | (show VcL _ _ _ _ (⟨_, .call ⟨.value (.func F_journal_Store_head), _, _⟩, _, _, _, _⟩ :: _) _ _ _; (refine VcL.callF ok_journal_Store_head rfl rfl rfl rfl (Rets.mono (headP_any (l := zeroB) (ho := ho) (Holds.re [3] H rfl) hs.up.up.up (by omega) (by omega) (hsz (Holds.drop3 H)) zeroB_len) ?_); rintro _ w ⟨rfl, H⟩)))
      | (show Vc _ _ _ _ _ _; first
      | refine Vc.seq ?_
      | refine Vc.region ?_
      | refine Vc.ret ?_
      | refine Vc.skip ?_
      | (refine Vc.cond rfl (fun h => ?_) (fun h => ?_) <;> first | (with_reducible have hp := ndec_t h) | (with_reducible have hp := ndec_f h)))
      | (show KSeq _ _ _ _ _ _ _; first
      | refine KSeq.normal ?_
      | refine KSeq.ret ?_)
      | (show KEnd _ _ _ _ _ _ _; refine KEnd.fin (Or.inr rfl) ⟨_, (ResL.tmp rfl ResL.nil), ?_⟩))
    · rw [eS, if_neg hp]
      exact ⟨rfl, H.drop1.drop1.drop1⟩
    · rw [eS, if_pos hp]
      exact ⟨rfl, H.drop.drop⟩
  · obtain ⟨bt, ot, ct, rfl, hct⟩ := Holds.own_some (by have := hyes.2.2.1; omega) H
    obtain ⟨n, hn⟩ : ∃ n, num hd 4 = n := ⟨_, rfl⟩
    have hn1 : 1 ≤ n := by rw [← hn]; exact hyes.2.2.1
    have hn2 : n ≤ 40 := by rw [← hn]; exact hyes.2.2.2.1
    obtain ⟨ws, hws⟩ : ∃ ws, recW D ho = ws := ⟨_, rfl⟩
    have hwl : ws.length = n := by rw [← hws, ← hn]; unfold recW; rw [bkW_len, tgts_len, hhd]
    have hwa : ∀ i, i < n → atD ws i = (tgtAt hd i, rdB D (ho + 1 + i)) := fun i hi => by
      rw [← hws]
      unfold recW
      rw [bkW_at _ _ _ (by rw [tgts_len, hhd, hn]; exact hi), hhd, hn, atD_of (tgts_at hi)]
    have hw256 : ∀ x ∈ ws, x.2.length = 256 := fun x hx => by
      obtain ⟨i, hi, rfl⟩ := mem_atD hx
      rw [hwa i (by omega)]
      exact rdB_len hok (by omega)
    rw [hn] at H
    have hatn : atS hd = 6 + 2 * n := by unfold atS; rw [hn]
    repeat' (first
      | rw [hn]
      | (show VcL _ _ _ _ _ _ _ _; first
      | refine VcL.pures tabOk rfl ?_
      | refine VcL.nil ?_)
      | (show Vc _ _ _ _ _ _; refine Vc.block ?_)
      | (show KSeq _ _ _ _ _ _ _; refine KSeq.normal ?_))
    refine Vc.loopS [(0, _), (3, _), (5, _), (6, _), (44, _)] (fun s : Nat × Value × Value => [(8, s.2.1), (9, s.2.2), (45, .int .i64 s.1)]) (fun s w => s.1 ≤ n ∧ ∃ pls : List Vb, pls.map (·.2) = (ws.take s.1).map (·.2) ∧ Holds I w (dskA d D :: own s.2.1 5 1 (datS (ws.take s.1)).length (byL (datS (ws.take s.1))) :: own s.2.2 40 1 s.1 (pls.flatMap bkC) :: bysA pls :: own (.slice (some ⟨bt, ot, none⟩) n ct) 3 1 n ((tgts hd n).flatMap inC) :: own (.slice (some ⟨bh, oh, none⟩) 256 ch) 5 1 256 (byL hd) :: L)) (fun s _ => n - s.1) (0, .slice none 0 0, .slice none 0 0) ⟨rfl, rfl, rfl, trivial⟩ ⟨rfl, rfl, rfl, rfl, rfl, trivial⟩ ⟨Nat.zero_le _, [], rfl, ((bys_nil.2 H).own_nil.own_nil).re [5, 0, 0, 0, 0, 0] rfl⟩ ?_
    rintro ⟨k, av, pv⟩ w ⟨hk, pls, hpl, H⟩
    dsimp only at hk hpl H ⊢
    have hpll : pls.length = k := by have := congrArg List.length hpl; rw [List.length_map, List.length_map, List.length_take] at this; omega
    by_cases hlt : k < n
    · have e1 : IntKind.i64.wrap ((ho : Int) + 1) = ((ho + 1 : Nat) : Int) := wrap_i64 (by have := hok.few; omega) (by have := hok.few; omega)
      have e2 : IntKind.i64.wrap (((ho + 1 : Nat) : Int) + (k : Int)) = ((ho + 1 + k : Nat) : Int) := by rw [wrap_i64 (by have := hok.few; omega) (by have := hok.few; omega)]; omega
      have hs6 := hs.up (A := own (.slice (some ⟨bh, oh, none⟩) 256 ch) 5 1 256 (byL hd)) |>.up (A := own (.slice (some ⟨bt, ot, none⟩) n ct) 3 1 n ((tgts hd n).flatMap inC)) |>.up (A := bysA pls) |>.up (A := own pv 40 1 k (pls.flatMap bkC)) |>.up (A := own av 5 1 (datS (ws.take k)).length (byL (datS (ws.take k)))) |>.up (A := dskA d D)
      have hrl := rdB_len hok (show ho + 1 + k < D.blocks.length by omega)
      have hdl : (datS (ws.take k)).length ≤ 256 * 40 := by rw [datS_len (fun x hx => hw256 x (List.mem_of_mem_take hx)), List.length_take]; omega
      repeat' (first
        | rw [e1]
        | rw [e2]
        | (refine VcL.append (m := 1) (ds := bkC (.slice A8 256 c8, [])) tabOk rfl rfl rfl rfl (Holds.f4 H) (Holds.own_src H) (bk_one _ rfl) (by show (_ + 1) * 24 ≤ _; omega) rfl rfl rfl (fun pv2 w H => ?_))
        | (refine VcL.append (m := 256) (ds := byL (rdB D (ho + 1 + k))) tabOk rfl rfl rfl rfl (Holds.f4 H) (Holds.own_src (Holds.f2 H)) (by_one _) (by show (_ + 256) * 1 ≤ _; omega) rfl rfl rfl (fun av2 w H => ?_))
        | (show VcL _ _ _ _ _ _ _ _; first
      | refine VcL.pures tabOk rfl ?_
      | refine VcL.nil ?_
      | refine VcL.buildSlice tabOk H rfl rfl rfl rfl rfl rfl (fun sv w H => ?_))
        | (show VcD _ _ _ _ _ _ _ _ _; first
      | refine VcD.pures tabOk rfl ?_
      | refine VcD.done ?_
      | (show VcD _ _ _ _ _ (.take _ _) _ _ _; refine VcD.load1 tabOk rfl rfl rfl rfl rfl rfl (by intro w_ hw_; first | exact RdW.get (by assumption) rfl hw_ | exact RdW.get0 (by assumption) rfl hw_) (by exact rfl) ?_)
      | (show VcD _ _ _ _ _ (.only _ _) _ _ _; (refine VcD.callF (f := F_journal_Disk_Read) rfl ok_journal_Disk_Read rfl rfl rfl rfl (Rets.mono (ReadP_good (k := ho + 1 + k) H (by omega) (by omega)) ?_); rintro _ w ⟨uv, rfl, H⟩; obtain ⟨_, A8, c8, rfl⟩ := Holds.own_len H; refine ⟨(by exact Holds.drop H), ?_⟩)))
        | (show Vc _ _ _ _ _ _; first
      | refine Vc.seq ?_
      | refine Vc.region ?_
      | refine Vc.skip ?_
      | refine Vc.block ?_
      | refine Vc.drawnH (id := 9) H (.pure 0 (.pure 1 (.pure 2 (.pure 4 (.pure 5 (.pure 6 (.pure 9 (.take 3 (.take 7 (.pure 8 (.pure 10 (.only 11 (.pure 12 (.pure 13 (.pure 14 (.pure 15 (.pure 16 .done))))))))))))))))) mixed (by kernel_rfl) (fun w H => ?_)
      | (refine Vc.cond rfl (fun h => ?_) (fun h => ?_) <;> first | (exfalso; simp only [decide_eq_true_eq, decide_eq_false_iff_not, Bool.not_eq_true', Bool.not_eq_false'] at h; omega) | (with_reducible have hp := of_decide_eq_true h)))
        | (show KSeq _ _ _ _ _ _ _; refine KSeq.normal ?_)
        | (show KBlock _ _ _ _ _ _; refine KBlock.normal ?_))
      have H2 := bys_snoc (y := (.slice A8 256 c8, rdB D (ho + 1 + k))) (by rw [hrl]; exact Holds.re [2, 3, 2, 0, 0] H.drop2 rfl)
      refine KLoop.again (k + 1, av2, pv2) ⟨rfl, rfl, got_succ rfl (by omega), trivial⟩ ⟨rfl, rfl, rfl, rfl, rfl, trivial⟩ ⟨hlt, pls ++ [(.slice A8 256 c8, rdB D (ho + 1 + k))], ?_, ?_⟩ (by show _ < _; omega)
      · rw [take_atD (by omega), List.map_append, List.map_append, hpl, hwa k hlt]
        rfl
      · have H3 := H2.re [1, 1, 1, 0] rfl
        rw [datS_take (by omega), hwa k hlt, List.length_append, hrl, flat_snoc]
        rw [show byL (datS (ws.take k) ++ rdB D (ho + 1 + k)) = byL (datS (ws.take k)) ++ byL (rdB D (ho + 1 + k)) from List.map_append ..]
        exact H3
    · obtain rfl : n = k := by omega
      rw [List.take_of_length_le (by omega)] at hpl H
      have hdl : (datS ws).length = 256 * n := by rw [datS_len hw256, hwl]
      have hhv : SlR I (own (.slice (some ⟨bh, oh, none⟩) 256 ch) 5 1 256 (byL hd) :: L) (.slice (some ⟨bh, oh, none⟩) 256 ch) 1 hd.length (byL hd) := by rw [hhl]; exact Holds.own_toR H.drop.drop.drop.drop.drop
      have hht : SlR I (own (.slice (some ⟨bh, oh, none⟩) 256 ch) 5 1 256 (byL hd) :: L) (.slice (some ⟨bh, oh, none⟩) (6 + 2 * n) ch) 1 (6 + 2 * n) (byL (hd.take (6 + 2 * n))) := by
        have hhv0 : SlR I (own (.slice (some ⟨bh, oh, none⟩) 256 ch) 5 1 256 (byL hd) :: L) (.slice (some ⟨bh, oh, none⟩) 256 ch) 1 256 (byL hd) := Holds.own_toR H.drop.drop.drop.drop.drop
        have := hhv0.take (k := 6 + 2 * n) (by omega)
        rwa [Nat.mul_one, ← List.map_take] at this
      have hsum : ∀ {w : World} {M : List Asn} {zv : Value}, Holds I w (own zv 5 1 ((datS ws).length + (6 + 2 * n)) (byL (datS ws) ++ byL (hd.take (6 + 2 * n))) :: M) → SlR I (own zv 5 1 ((datS ws).length + (6 + 2 * n)) (byL (datS ws) ++ byL (hd.take (6 + 2 * n))) :: M) zv 1 (datS ws ++ hd.take (6 + 2 * n)).length (byL (datS ws ++ hd.take (6 + 2 * n))) := fun H => by
        rw [show byL (datS ws ++ hd.take (6 + 2 * n)) = byL (datS ws) ++ byL (hd.take (6 + 2 * n)) from List.map_append ..]
        rw [List.length_append, List.length_take, show min (6 + 2 * n) hd.length = 6 + 2 * n by omega]
        exact Holds.own_toR H
      have hrec : recA D ho = if sumN (datS ws ++ hd.take (6 + 2 * n)) = num hd (6 + 2 * n) then wsS D ws else (D, true) := by
        have hso : sumOk hd ws ↔ sumN (datS ws ++ hd.take (6 + 2 * n)) = num hd (6 + 2 * n) := by unfold sumOk; rw [hatn]
        unfold recA
        rw [hhd, hws]
        by_cases hq : sumN (datS ws ++ hd.take (6 + 2 * n)) = num hd (6 + 2 * n)
        · rw [if_pos ⟨hyes, hso.2 hq⟩, if_pos hq]
        · rw [if_neg (fun e => hq (hso.1 e.2)), if_neg hq]
      have hsh : ∀ (D1 : Dk) (zv : Value), SlR I (own zv 5 1 256 (byL zeroB) :: own (.slice (some ⟨bh, oh, none⟩) 256 ch) 5 1 256 (byL hd) :: dskA d D1 :: L) (.slice (some ⟨bh, oh, none⟩) 256 ch) 1 hd.length (byL hd) := fun D1 zv => hhv.more fun w H => H.drop.drop1
      repeat' (first
        | (refine VcL.append (m := 6 + 2 * n) (ds := byL (hd.take (6 + 2 * n))) tabOk rfl rfl rfl rfl (Holds.f1 H) (SlR.src hht.up.up.up.up.up (Holds.f1 H)) (by_one _) (by show (_ + _) * 1 ≤ _; omega) rfl rfl rfl (fun av2 w H => ?_))
        | (show VcL _ _ _ _ _ _ _ _; first
      | refine VcL.pures tabOk rfl ?_
      | refine VcL.nil ?_
      | (show VcL _ _ _ _ (⟨_, .slice _ _ _ _ none, _, _, _, _⟩ :: _) _ _ _; refine VcL.sliceTo tabOk rfl rfl rfl rfl rfl rfl (by omega) ?_)
      | (show VcL _ _ _ _ (⟨_, .call ⟨.value (.func F_octet_Get), _, _⟩, _, _, _, _⟩ :: _) _ _ _; (refine VcL.callF ok_octet_Get rfl rfl rfl rfl (Rets.mono (Get2_any (l := hd) (at_ := 6 + 2 * n) H hhv.up.up.up.up.up (show 6 + 2 * n + 2 ≤ hd.length by omega) (by omega)) ?_); rintro _ w ⟨rfl, H⟩))
      | (show VcL _ _ _ _ (⟨_, .call ⟨.value (.func F_octet_Sum), _, _⟩, _, _, _, _⟩ :: _) _ _ _; (refine VcL.callF ok_octet_Sum rfl rfl rfl rfl (Rets.mono (SumP_any (l := datS ws ++ hd.take (6 + 2 * n)) H (hsum H) (by rw [List.length_append, List.length_take]; omega)) ?_); rintro _ w ⟨rfl, H⟩)))
        | (show Vc _ _ _ _ _ _; first
      | refine Vc.seq ?_
      | refine Vc.region ?_
      | refine Vc.skip ?_
      | refine Vc.block ?_
      | refine Vc.exit ?_
      | (refine Vc.cond rfl (fun h => ?_) (fun h => ?_) <;> first | (exfalso; simp only [decide_eq_true_eq, decide_eq_false_iff_not, Bool.not_eq_true', Bool.not_eq_false'] at h; omega) | (with_reducible have hp := of_decide_eq_true h) | (with_reducible have hp := of_decide_eq_false h)))
        | (show KSeq _ _ _ _ _ _ _; first
      | refine KSeq.normal ?_
      | refine KSeq.exit ?_)
        | (show KBlock _ _ _ _ _ _; refine KBlock.here ?_)
        | refine KLoop.exit ?_)
      · have hp : sumN (datS ws ++ hd.take (6 + 2 * n)) = num hd (6 + 2 * n) := by omega
        rw [if_pos hp] at hrec
        obtain ⟨bp, op, cp, rfl, _⟩ := Holds.own_some (by omega) H.drop.drop
        have hdat : ∀ x ∈ pls, SlR I (bysA pls :: own (.slice (some ⟨bt, ot, none⟩) n ct) 3 1 n ((tgts hd n).flatMap inC) :: own (.slice (some ⟨bh, oh, none⟩) 256 ch) 5 1 256 (byL hd) :: L) x.1 1 x.2.length (byL x.2) := fun x hx => bys_rd hx H.drop.drop.drop
        have hform : ∀ x ∈ pls, ∃ A c, x.1 = .slice A x.2.length c := fun x hx => bys_form hx H.drop.drop.drop
        have hrange : ∀ i, i < n → 0 ≤ tgtAt hd i ∧ tgtAt hd i < ho := fun i hi => ⟨by unfold tgtAt; omega, hyes.2.2.2.2.1 _ (by rw [hn]; exact List.mem_of_getElem? (tgts_at hi))⟩
        refine Vc.loopS [(0, _), (3, _), (9, _), (86, _), (87, _)] (fun k : Nat => [(88, .int .i64 k)]) (fun k w => k ≤ n ∧ ∃ Dk, wsS D ws = wsS Dk (ws.drop k) ∧ Dk.writes ≤ D.writes + k ∧ Dk.blocks.length = D.blocks.length ∧ Holds I w (dskA d Dk :: own (.slice (some ⟨bp, op, none⟩) n cp) 40 1 n (pls.flatMap bkC) :: bysA pls :: own (.slice (some ⟨bt, ot, none⟩) n ct) 3 1 n ((tgts hd n).flatMap inC) :: own (.slice (some ⟨bh, oh, none⟩) 256 ch) 5 1 256 (byL hd) :: L)) (fun k _ => n - k) 0 ⟨rfl, trivial⟩ ⟨rfl, rfl, rfl, rfl, rfl, trivial⟩ ⟨Nat.zero_le _, D, rfl, Nat.le_refl _, rfl, H.drop⟩ ?_
        rintro k w ⟨hk, Dk, hwk, hwrk, hblk, H⟩
        by_cases hlt : k < n
        · obtain ⟨x, hx⟩ : ∃ x, atD pls k = x := ⟨_, rfl⟩
          have hgx : pls[k]? = some x := by rw [← hx]; exact atD_get (by omega)
          have hxd := hdat x (hx ▸ atD_mem (by omega))
          obtain ⟨A9, c9, hxf⟩ := hform x (hx ▸ atD_mem (by omega))
          have hx2 : x.2 = rdB D (ho + 1 + k) := by
            have h1 : (pls.map (·.2))[k]? = (ws.map (·.2))[k]? := by rw [hpl]
            rw [List.getElem?_map, List.getElem?_map, hgx, atD_get (by omega : k < ws.length), hwa k hlt] at h1
            simpa using h1
          have hxl : x.2.length = 256 := by rw [hx2]; exact rdB_len hok (by omega)
          obtain ⟨xv, dat⟩ := x
          dsimp only at hxd hxf hx2 hxl
          subst hxf
          have hgt := tgts_at (b := hd) hlt
          obtain ⟨tk, htk⟩ : ∃ tk, tgtAt hd k = tk := ⟨_, rfl⟩
          have htr := hrange k hlt
          rw [htk] at hgt htr
          have hs5 := hs.up (A := own (.slice (some ⟨bh, oh, none⟩) 256 ch) 5 1 256 (byL hd)) |>.up (A := own (.slice (some ⟨bt, ot, none⟩) n ct) 3 1 n ((tgts hd n).flatMap inC)) |>.up (A := bysA pls) |>.up (A := own (.slice (some ⟨bp, op, none⟩) n cp) 40 1 n (pls.flatMap bkC)) |>.up (A := dskA d Dk)
          have hdrop : ws.drop k = (tk, dat) :: ws.drop (k + 1) := by rw [drop_atD (by omega), hwa k hlt, htk, hx2]
          rw [hdrop] at hwk
          have he := wrS_err (D := Dk) (k := tk) (b := dat) ⟨htr.1, by omega, hxl⟩
          have hww := wrS_writes Dk tk dat
          have hwb := wrS_blocks Dk tk dat
          rcases he with ⟨h0, _⟩ | ⟨h0, _, hDk⟩
          ·
            repeat' (first
              | rw [h0]
              | (show VcL _ _ _ _ _ _ _ _; first
      | refine VcL.pures tabOk rfl ?_
      | refine VcL.nil ?_
      | (show VcL _ _ _ _ (⟨_, .load _ _, _, _, _, _⟩ :: _) _ _ _; refine VcL.load1 tabOk rfl rfl rfl rfl rfl (by exact Holds.ownCell0 (Holds.f3 H) (fun _ => rfl) (by assumption) rfl) ?_)
      | (show VcL _ _ _ _ (⟨_, .indexAddr _ _ _, _, _, _, _⟩ :: _) _ _ _; refine VcL.indexAddr tabOk rfl rfl rfl rfl rfl rfl (by omega) (by omega) ?_))
              | (show VcD _ _ _ _ _ _ _ _ _; first
      | refine VcD.pures tabOk rfl ?_
      | refine VcD.done ?_
      | (show VcD _ _ _ _ _ (.pure _ _) _ _ _; refine VcD.indexAddr tabOk rfl rfl rfl rfl rfl rfl rfl (by omega) (by omega) ?_)
      | (show VcD _ _ _ _ _ (.take _ _) _ _ _; refine VcD.load1 tabOk rfl rfl rfl rfl rfl rfl (by intro w_ hw_; first | exact RdW.get0 (by assumption) rfl hw_ | exact Holds.ownCell0 (Holds.f1 hw_) (fun _ => rfl) (by assumption) rfl) (by exact rfl) ?_)
      | (show VcD _ _ _ _ _ (.only _ _) _ _ _; (refine VcD.callF (f := F_journal_Disk_Write) rfl ok_journal_Disk_Write rfl rfl rfl rfl (Rets.mono (WriteP_any (k := tk) H (by omega) hxd.up (by omega)) ?_); rintro _ w ⟨rfl, H⟩; refine ⟨(by trivial), ?_⟩)))
              | (show Vc _ _ _ _ _ _; first
      | refine Vc.seq ?_
      | refine Vc.region ?_
      | refine Vc.condF rfl ?_
      | refine Vc.skip ?_
      | refine Vc.block ?_
      | (refine Vc.drawn (id := 18) (.pure 0 (.pure 1 (.pure 2 (.pure 4 (.pure 5 (.pure 6 (.take 3 (.pure 7 (.take 8 (.only 9 (.pure 10 .done))))))))))) (.till (fun w => Holds I w (dskA d Dk :: own (.slice (some ⟨bp, op, none⟩) n cp) 40 1 n (pls.flatMap bkC) :: bysA pls :: own (.slice (some ⟨bt, ot, none⟩) n ct) 3 1 n ((tgts hd n).flatMap inC) :: own (.slice (some ⟨bh, oh, none⟩) 256 ch) 5 1 256 (byL hd) :: L)) 9 (.one (fun w => True))) mixed (by kernel_rfl) (by exact (Holds.drew H _)) ?_; have H := H.drew (w.drawn + 1))
      | (refine Vc.cond rfl (fun h => ?_) (fun h => ?_) <;> first | (exfalso; simp only [decide_eq_true_eq, decide_eq_false_iff_not, Bool.not_eq_true', Bool.not_eq_false'] at h; omega) | (with_reducible have hp := of_decide_eq_true h)))
              | (show KSeq _ _ _ _ _ _ _; refine KSeq.normal ?_)
              | (show KBlock _ _ _ _ _ _; refine KBlock.normal ?_))
            refine KLoop.again (k + 1) ⟨got_succ rfl (by omega), trivial⟩ ⟨rfl, rfl, rfl, rfl, rfl, trivial⟩ ⟨hlt, (wrS Dk tk dat).1, ?_, by omega, by rw [hwb]; exact hblk, H⟩ (by omega)
            rw [hwk]
            conv => lhs; unfold wsS
            rw [if_pos h0]
          ·
            repeat' (first
              | rw [h0]
              | (show VcL _ _ _ _ _ _ _ _; first
      | refine VcL.pures tabOk rfl ?_
      | refine VcL.nil ?_
      | (show VcL _ _ _ _ (⟨_, .load _ _, _, _, _, _⟩ :: _) _ _ _; refine VcL.load1 tabOk rfl rfl rfl rfl rfl (by exact Holds.ownCell0 (Holds.f3 H) (fun _ => rfl) (by assumption) rfl) ?_)
      | (show VcL _ _ _ _ (⟨_, .indexAddr _ _ _, _, _, _, _⟩ :: _) _ _ _; refine VcL.indexAddr tabOk rfl rfl rfl rfl rfl rfl (by omega) (by omega) ?_))
              | (show VcD _ _ _ _ _ _ _ _ _; first
      | refine VcD.pures tabOk rfl ?_
      | refine VcD.done ?_
      | (show VcD _ _ _ _ _ (.pure _ _) _ _ _; refine VcD.indexAddr tabOk rfl rfl rfl rfl rfl rfl rfl (by omega) (by omega) ?_)
      | (show VcD _ _ _ _ _ (.take _ _) _ _ _; refine VcD.load1 tabOk rfl rfl rfl rfl rfl rfl (by intro w_ hw_; first | exact RdW.get0 (by assumption) rfl hw_ | exact Holds.ownCell0 (Holds.f1 hw_) (fun _ => rfl) (by assumption) rfl) (by exact rfl) ?_)
      | (show VcD _ _ _ _ _ (.only _ _) _ _ _; (refine VcD.callF (f := F_journal_Disk_Write) rfl ok_journal_Disk_Write rfl rfl rfl rfl (Rets.mono (WriteP_any (k := tk) H (by omega) hxd.up (by omega)) ?_); rintro _ w ⟨rfl, H⟩; refine ⟨(by trivial), ?_⟩)))
              | (show Vc _ _ _ _ _ _; first
      | refine Vc.seq ?_
      | refine Vc.region ?_
      | refine Vc.condT rfl ?_
      | refine Vc.ret ?_
      | refine Vc.skip ?_
      | refine Vc.block ?_
      | (refine Vc.drawn (id := 18) (.pure 0 (.pure 1 (.pure 2 (.pure 4 (.pure 5 (.pure 6 (.take 3 (.pure 7 (.take 8 (.only 9 (.pure 10 .done))))))))))) (.till (fun w => Holds I w (dskA d Dk :: own (.slice (some ⟨bp, op, none⟩) n cp) 40 1 n (pls.flatMap bkC) :: bysA pls :: own (.slice (some ⟨bt, ot, none⟩) n ct) 3 1 n ((tgts hd n).flatMap inC) :: own (.slice (some ⟨bh, oh, none⟩) 256 ch) 5 1 256 (byL hd) :: L)) 9 (.one (fun w => True))) mixed (by kernel_rfl) (by exact (Holds.drew H _)) ?_; have H := H.drew (w.drawn + 1))
      | (refine Vc.cond rfl (fun h => ?_) (fun h => ?_) <;> first | (exfalso; simp only [decide_eq_true_eq, decide_eq_false_iff_not, Bool.not_eq_true', Bool.not_eq_false'] at h; omega) | (with_reducible have hp := of_decide_eq_true h)))
              | (show KSeq _ _ _ _ _ _ _; first
      | refine KSeq.normal ?_
      | refine KSeq.ret ?_)
              | (show KBlock _ _ _ _ _ _; refine KBlock.ret ?_)
              | refine KLoop.ret ?_
              | (show KEnd _ _ _ _ _ _ _; refine KEnd.fin (Or.inr rfl) ⟨_, (ResL.tmp rfl ResL.nil), ?_⟩))
            have e0 : wsS D ws = (Dk, false) := by
              rw [hwk]
              unfold wsS
              rw [if_neg (by rw [h0]; decide), hDk]
            have eS : recS D ho = (Dk, false) := by unfold recS; rw [hrec, e0]; rfl
            rw [eS]
            rw [hDk] at H
            exact ⟨rfl, H.drop1.drop1.drop1.drop1⟩
        · obtain rfl : n = k := by omega
          rw [List.drop_of_length_le (by omega)] at hwk
          have hwk : wsS D ws = ((flS Dk).1, decide ((flS Dk).2 = 0)) := hwk
          have hs5 := hs.up (A := own (.slice (some ⟨bh, oh, none⟩) 256 ch) 5 1 256 (byL hd)) |>.up (A := own (.slice (some ⟨bt, ot, none⟩) n ct) 3 1 n ((tgts hd n).flatMap inC)) |>.up (A := bysA pls) |>.up (A := own (.slice (some ⟨bp, op, none⟩) n cp) 40 1 n (pls.flatMap bkC)) |>.up (A := dskA d Dk)
          have hfw := flS_writes Dk
          have hfb := flS_blocks Dk
          rcases flS_err Dk with h0 | h0
          ·
            repeat' (first
              | rw [h0]
              | (show VcL _ _ _ _ _ _ _ _; first
      | refine VcL.pures tabOk rfl ?_
      | refine VcL.nil ?_
      | (show VcL _ _ _ _ (⟨_, .load _ _, _, _, _, _⟩ :: _) _ _ _; refine VcL.load1 tabOk rfl rfl rfl rfl rfl (by exact RdW.get0 (by assumption) rfl H) ?_)
      | (show VcL _ _ _ _ (⟨_, .call ⟨.value (.func F_journal_Disk_Flush), _, _⟩, _, _, _, _⟩ :: _) _ _ _; (refine VcL.callF ok_journal_Disk_Flush rfl rfl rfl rfl (Rets.mono (FlushP_any H (by omega)) ?_); rintro _ w ⟨rfl, H⟩)))
              | (show Vc _ _ _ _ _ _; first
      | refine Vc.seq ?_
      | refine Vc.region ?_
      | refine Vc.condF rfl ?_
      | refine Vc.skip ?_
      | refine Vc.exit ?_
      | (refine Vc.cond rfl (fun h => ?_) (fun h => ?_) <;> first | (exfalso; simp only [decide_eq_true_eq, decide_eq_false_iff_not, Bool.not_eq_true', Bool.not_eq_false'] at h; omega) | (with_reducible have hp := of_decide_eq_false h)))
              | (show KSeq _ _ _ _ _ _ _; first
      | refine KSeq.normal ?_
      | refine KSeq.exit ?_)
              | (show KBlock _ _ _ _ _ _; refine KBlock.here ?_)
              | refine KLoop.exit ?_)
            have H2 := H.drop1.drop1.drop1
            clear H
            have H := H2.swap
            clear H2
            have eA : recA D ho = ((flS Dk).1, true) := by rw [hrec, hwk, h0]; rfl
            have eS : recS D ho = if hd = zeroB then ((flS Dk).1, true) else wsS (flS Dk).1 [((ho : Int), zeroB)] := by unfold recS; rw [eA, hhd]; rfl
            repeat' (first
              | (show VcL _ _ _ _ _ _ _ _; first
      | refine VcL.pures tabOk rfl ?_
      | refine VcL.nil ?_
      | (show VcL _ _ _ _ (⟨_, .call ⟨.value (.func F_journal_zeros), _, _⟩, _, _, _, _⟩ :: _) _ _ _; (refine VcL.callF ok_journal_zeros rfl rfl rfl rfl (Rets.mono (zerosP_any H) ?_); rintro _ w H))
      | (show VcL _ _ _ _ (⟨_, .call ⟨.value (.func F_slices_Equal_byte_byte), _, _⟩, _, _, _, _⟩ :: _) _ _ _; (refine VcL.callF ok_slices_Equal_byte_byte rfl rfl rfl rfl (Rets.mono (Equal_any (l := hd) (m := zeroB) H (hsh _ _) (hsz H) (by omega)) ?_); rintro _ w ⟨rfl, H⟩))
      | (show VcL _ _ _ _ (⟨_, .call ⟨.value (.func F_journal_Store_head), _, _⟩, _, _, _, _⟩ :: _) _ _ _; (refine VcL.callF ok_journal_Store_head rfl rfl rfl rfl (Rets.mono (headP_any (l := zeroB) (ho := ho) (Holds.re [3] H rfl) hs.up.up.up (by omega) (by omega) (hsz (Holds.drop3 H)) zeroB_len) ?_); rintro _ w ⟨rfl, H⟩)))
              | (show Vc _ _ _ _ _ _; first
      | refine Vc.seq ?_
      | refine Vc.region ?_
      | refine Vc.ret ?_
      | refine Vc.skip ?_
      | (refine Vc.cond rfl (fun h => ?_) (fun h => ?_) <;> first | (with_reducible have hp := ndec_t h) | (with_reducible have hp := ndec_f h)))
              | (show KSeq _ _ _ _ _ _ _; first
      | refine KSeq.normal ?_
      | refine KSeq.ret ?_)
              | (show KEnd _ _ _ _ _ _ _; refine KEnd.fin (Or.inr rfl) ⟨_, (ResL.tmp rfl ResL.nil), ?_⟩))
            · rw [eS, if_neg hp]
              exact ⟨rfl, H.drop1.drop1.drop1⟩
            · rw [eS, if_pos hp]
              exact ⟨rfl, H.drop.drop⟩
          ·
            repeat' (first
              | rw [h0]
              | (show VcL _ _ _ _ _ _ _ _; first
      | refine VcL.pures tabOk rfl ?_
      | refine VcL.nil ?_
      | (show VcL _ _ _ _ (⟨_, .load _ _, _, _, _, _⟩ :: _) _ _ _; refine VcL.load1 tabOk rfl rfl rfl rfl rfl (by exact RdW.get0 (by assumption) rfl H) ?_)
      | (show VcL _ _ _ _ (⟨_, .call ⟨.value (.func F_journal_Disk_Flush), _, _⟩, _, _, _, _⟩ :: _) _ _ _; (refine VcL.callF ok_journal_Disk_Flush rfl rfl rfl rfl (Rets.mono (FlushP_any H (by omega)) ?_); rintro _ w ⟨rfl, H⟩)))
              | (show Vc _ _ _ _ _ _; first
      | refine Vc.seq ?_
      | refine Vc.region ?_
      | refine Vc.condT rfl ?_
      | refine Vc.ret ?_
      | refine Vc.exit ?_
      | (refine Vc.cond rfl (fun h => ?_) (fun h => ?_) <;> first | (exfalso; simp only [decide_eq_true_eq, decide_eq_false_iff_not, Bool.not_eq_true', Bool.not_eq_false'] at h; omega) | (with_reducible have hp := of_decide_eq_false h)))
              | (show KSeq _ _ _ _ _ _ _; first
      | refine KSeq.normal ?_
      | refine KSeq.ret ?_
      | refine KSeq.exit ?_)
              | (show KBlock _ _ _ _ _ _; refine KBlock.here ?_)
              | refine KLoop.exit ?_
              | (show KEnd _ _ _ _ _ _ _; refine KEnd.fin (Or.inr rfl) ⟨_, (ResL.tmp rfl ResL.nil), ?_⟩))
            have eS : recS D ho = ((flS Dk).1, false) := by unfold recS; rw [hrec, hwk, h0]; rfl
            rw [eS]
            exact ⟨rfl, H.drop1.drop1.drop1.drop1⟩
      · have hp : ¬ sumN (datS ws ++ hd.take (6 + 2 * n)) = num hd (6 + 2 * n) := by omega
        rw [if_neg hp] at hrec
        have eS : recS D ho = if hd = zeroB then (D, true) else wsS D [((ho : Int), zeroB)] := by unfold recS; rw [hrec, hhd]; rfl
        have H2 := H.drop.drop1.drop1.drop1
        clear H
        have H := H2.swap
        clear H2
        repeat' (first
          | (show VcL _ _ _ _ _ _ _ _; first
      | refine VcL.pures tabOk rfl ?_
      | refine VcL.nil ?_
      | (show VcL _ _ _ _ (⟨_, .call ⟨.value (.func F_journal_zeros), _, _⟩, _, _, _, _⟩ :: _) _ _ _; (refine VcL.callF ok_journal_zeros rfl rfl rfl rfl (Rets.mono (zerosP_any H) ?_); rintro _ w H))
      | (show VcL _ _ _ _ (⟨_, .call ⟨.value (.func F_slices_Equal_byte_byte), _, _⟩, _, _, _, _⟩ :: _) _ _ _; (refine VcL.callF ok_slices_Equal_byte_byte rfl rfl rfl rfl (Rets.mono (Equal_any (l := hd) (m := zeroB) H (hsh _ _) (hsz H) (by omega)) ?_); rintro _ w ⟨rfl, H⟩))
      | (show VcL _ _ _ _ (⟨_, .call ⟨.value (.func F_journal_Store_head), _, _⟩, _, _, _, _⟩ :: _) _ _ _; (refine VcL.callF ok_journal_Store_head rfl rfl rfl rfl (Rets.mono (headP_any (l := zeroB) (ho := ho) (Holds.re [3] H rfl) hs.up.up.up (by omega) (by omega) (hsz (Holds.drop3 H)) zeroB_len) ?_); rintro _ w ⟨rfl, H⟩)))
          | (show Vc _ _ _ _ _ _; first
      | refine Vc.seq ?_
      | refine Vc.region ?_
      | refine Vc.ret ?_
      | refine Vc.skip ?_
      | (refine Vc.cond rfl (fun h => ?_) (fun h => ?_) <;> first | (with_reducible have hp := ndec_t h) | (with_reducible have hp := ndec_f h)))
          | (show KSeq _ _ _ _ _ _ _; first
      | refine KSeq.normal ?_
      | refine KSeq.ret ?_)
          | (show KEnd _ _ _ _ _ _ _; refine KEnd.fin (Or.inr rfl) ⟨_, (ResL.tmp rfl ResL.nil), ?_⟩))
        · rw [eS, if_neg hp]
          exact ⟨rfl, H.drop1.drop1.drop1⟩
        · rw [eS, if_pos hp]
          exact ⟨rfl, H.drop.drop⟩
end Go.Proofs.Ytkeapkmjkmbdpaa.V
