/- The program's end: what was heard. -/
import Derived.Test.YtpfgcchammlpgaaVF
namespace Go.Proofs.Ytpfgcchammlpgaa.V
open Go Go.Proofs.YtpfgcchammlpgaaV
set_option linter.unusedVariables false
set_option linter.unusedSimpArgs false
set_option maxHeartbeats 1000000
set_option maxRecDepth 4000
attribute [local irreducible] IntKind.wrap
variable {I : Imm} {w : World} {L : List Asn}
theorem ackS_room (E : En) (n r : Nat) : (ackS { E with room := r } n) = { ackS E n with room := r } := by
  unfold ackS
  split <;> rfl
theorem ackS_ok {E : En} (ok : EnOk E) {n : Nat} (hn : n < M) : EnOk (ackS E n) := by
  unfold ackS
  split
  · exact { ok with base := hn, out := by show (E.out.drop _).length ≤ 200; rw [List.length_drop]; have := ok.out; omega }
  · exact ok
theorem heard_any {e : Nat} {E : En} (H : Holds I w (endA I e E :: L)) {f : Fr} {dv : Value} (hdv : SlI I dv 1 f.data.length (byL f.data)) (h200 : f.data.length ≤ 1000) (hnn : 0 ≤ f.n ∧ f.n < 4294967296) (h2 : f.kind = 3 ∨ f.kind = 4 → 2 ≤ f.data.length) :
    Rets Try.prog F_stream_End_heard #[ptr e, frV f dv] w fun u w' => Holds I w' (endA I e (heardS E f) :: L) := by
  obtain ⟨A, cap, rfl, hcap⟩ := hdv.form
  obtain ⟨A1, c1, A2, c2, A3, c3, A4, c4, A5, c5, nv, cd, ob, es, ib, ms, hl, hm, HB⟩ := end_open H
  clear H
  have H := HB
  clear HB
  have ok := hm.ok
  have hol := hl.outL
  obtain ⟨kind, id, seq, n, data⟩ := f
  dsimp only at hdv h200 hnn h2 hcap
  obtain ⟨nn, rfl⟩ := Int.eq_ofNat_of_zero_le hnn.1
  have hnM : nn < M := by unfold M; omega
  obtain ⟨k, hk⟩ : ∃ k, fromS E.base nn = k := ⟨_, rfl⟩
  have hfrom := fun (w : World) (L : List Asn) (H : Holds I w L) => from_any H ok.base hnM
  rw [hk] at hfrom
  have hroom : ∀ E1 : En, heardS E ⟨kind, id, seq, (nn : Nat), data⟩ = if kind = 3 ∨ kind = 4 then { ackS E nn with room := num2 data (data.length - 2) } else ackS E nn := fun _ => rfl
  have hroom := hroom E
  rw [hroom]
  clear hroom
  show Rets Try.prog F_stream_End_heard #[ptr e, .agg #[.int .i64 kind, .int .i64 id, .int .i64 seq, .int .i64 (nn : Nat), .slice A data.length cap]] w _
  by_cases hle : k ≤ E.out.length
  · have hack : ackS E nn = { E with base := nn, out := E.out.drop k } := by unfold ackS; rw [hk, if_pos hle]
    have hakok := ackS_ok ok hnM
    obtain ⟨xs, hx1, hx2, hx3⟩ := ends_heard ok hnM (by rw [hk]; exact hle)
    rw [hl.ends, hk] at hx1
    rw [hk] at hx3
    obtain ⟨zs, hzs⟩ : ∃ zs, endsL nn (E.out.drop k) = zs := ⟨_, rfl⟩
    rw [hzs] at hx1 hx3
    subst hx1
    refine ok_stream_End_heard.rets rfl ?_
    repeat' (first
      | (refine VcL.sliceOwn (l := k) (A := A1) (len := ob.length) (cap := c1) (cs := byL ob) tabOk (Holds.f2 H) rfl rfl rfl rfl rfl rfl (by omega) (fun A7 c7 H => ?_))
      | (show VcL _ _ _ _ _ _ _ _; first
      | refine VcL.pures tabOk rfl ?_
      | refine VcL.nil ?_
      | (show VcL _ _ _ _ (⟨_, .load _ _, _, _, _, _⟩ :: _) _ _ _; refine VcL.load1 tabOk rfl rfl rfl rfl rfl (by first | exact Holds.cell (Holds.f1 H) rfl | exact Holds.cell (Holds.f2 H) rfl) ?_)
      | refine VcL.box H rfl rfl rfl rfl rfl (fun b w H => ?_)
      | (show VcL _ _ _ _ (⟨_, .store _ _ _, _, _, _, _⟩ :: _) _ _ _; refine VcL.store tabOk rfl (by first | exact H | exact (Holds.f2 H)) rfl rfl (by exact rfl) (by exact rfl) (by exact rfl) (by exact rfl) (fun w H => ?_)))
      | (show VcD _ _ _ _ _ _ _ _ _; first
      | refine VcD.pures tabOk rfl ?_
      | refine VcD.done ?_
      | (show VcD _ _ _ _ _ (.take _ _) _ _ _; refine VcD.load1 tabOk rfl rfl rfl rfl rfl rfl (by intro w_ hw_; first | exact Holds.cell hw_ rfl | exact Holds.cell (Holds.f1 hw_) rfl) (by exact rfl) ?_)
      | (show VcD _ _ _ _ _ (.only _ _) _ _ _; (refine VcD.callF (f := F_stream_from) rfl ok_stream_from rfl rfl rfl rfl (Rets.mono (hfrom _ _ H) ?_); rintro _ w ⟨rfl, H⟩; refine ⟨(by exact H), ?_⟩)))
      | (show Vc _ _ _ _ _ _; first
      | refine Vc.seq ?_
      | refine Vc.region ?_
      | refine Vc.block ?_
      | refine Vc.drawnH (id := 1) H (.pure 0 (.pure 1 (.pure 2 (.pure 4 (.take 3 (.take 5 (.only 6 (.pure 7 .done)))))))) mixed (by kernel_rfl) (fun w H => ?_)
      | (refine Vc.cond rfl (fun h => ?_) (fun h => ?_) <;> first | (exfalso; simp only [decide_eq_true_eq, decide_eq_false_iff_not, Bool.not_eq_true', Bool.not_eq_false'] at h; omega) | (with_reducible have hp := of_decide_eq_true h)))
      | (show KSeq _ _ _ _ _ _ _; refine KSeq.normal ?_))
    refine Vc.loopS [(0, _), (3, _)] (fun j : Nat => []) (fun j w => j ≤ xs.length ∧ ∃ A8 c8, Holds I w (blk e 56 (endV { E with base := nn, out := E.out.drop k } ⟨.slice A7 (ob.length - k) c7, .slice A8 (xs.drop j ++ zs).length c8, .slice A3 ib.length c3, .slice A4 ms.length c4, nv, .slice A5 cd.length c5, cd⟩) :: own (.slice A7 (ob.length - k) c7) 5 1 (ob.length - k) (byL (ob.drop k)) :: blk b 24 [.int .i64 kind, .int .i64 id, .int .i64 seq, .int .i64 (nn : Nat), .slice A data.length cap] :: own (.slice A8 (xs.drop j ++ zs).length c8) 3 1 (xs.drop j ++ zs).length ((xs.drop j ++ zs).flatMap ntC) :: own (.slice A3 ib.length c3) 5 1 ib.length (byL ib) :: own (.slice A4 ms.length c4) 3 1 ms.length (ms.flatMap ntC) :: own (.slice A5 cd.length c5) 22 1 cd.length (cd.flatMap bkC) :: L)) (fun j _ => xs.length - j) 0 trivial ⟨rfl, rfl, trivial⟩ ⟨Nat.zero_le _, A2, c2, by rw [byL_drop] at H; exact H⟩ ?_
    clear H
    rintro j w ⟨hj, A8, c8, H⟩
    by_cases hlt : j < xs.length
    · obtain ⟨y, hy⟩ : ∃ y, atD xs j = y := ⟨_, rfl⟩
      obtain ⟨hyM, hyf⟩ := hx2 _ (atD_mem hlt)
      rw [hy] at hyM hyf
      obtain ⟨rr, hrr⟩ : ∃ rr, xs.drop j ++ zs = rr := ⟨_, rfl⟩
      have hdj : rr = y :: (xs.drop (j + 1) ++ zs) := by rw [← hrr, Go.Proofs.YtpfgcchammlpgaaV.drop_atD hlt, hy]; rfl
      rw [hrr] at H
      have hrl : rr.length = (xs.drop (j + 1) ++ zs).length + 1 := by rw [hdj]; rfl
      have hq0 : rr[0]? = some y := by rw [hdj]; rfl
      have hmc : (rr.flatMap ntC).drop (1 * 1) = (xs.drop (j + 1) ++ zs).flatMap ntC := by rw [hdj]; rfl
      obtain ⟨b4, o4, _, e4, hc4⟩ := Holds.own_some (by omega) (Holds.f3 H)
      injection e4 with e5 e6 e7
      subst e5
      have hd0 : decide ((0 : Int) < (rr.length : Nat)) = true := decide_eq_true (by omega)
      have hd1 : decide ((2147483648 : Int) ≤ (fromS nn y : Nat)) = true := decide_eq_true (by omega)
      repeat' (first
        | rw [hd0]
        | rw [hd1]
        | (refine VcL.sliceOwn (l := 1) (A := some ⟨b4, o4, none⟩) (len := rr.length) (cap := c8) (cs := rr.flatMap ntC) tabOk (Holds.f3 H) rfl rfl rfl rfl rfl rfl (by omega) (fun A9 c9 H => ?_))
        | (show VcL _ _ _ _ _ _ _ _; first
      | refine VcL.pures tabOk rfl ?_
      | refine VcL.nil ?_
      | (show VcL _ _ _ _ (⟨_, .load _ _, _, _, _, _⟩ :: _) _ _ _; refine VcL.load1 tabOk rfl rfl rfl rfl rfl (by exact Holds.cell H rfl) ?_)
      | (show VcL _ _ _ _ (⟨_, .store _ _ _, _, _, _, _⟩ :: _) _ _ _; refine VcL.store tabOk rfl (by exact (Holds.f1 H)) rfl rfl (by exact rfl) (by exact rfl) (by exact rfl) (by exact rfl) (fun w H => ?_)))
        | (show VcD _ _ _ _ _ _ _ _ _; first
      | refine VcD.pures tabOk rfl ?_
      | refine VcD.done ?_
      | (show VcD _ _ _ _ _ (.pure _ _) _ _ _; first
      | refine VcD.indexAddr tabOk rfl rfl rfl rfl rfl rfl rfl (by omega) (by omega) ?_
      | (refine VcD.guardP rfl rfl rfl rfl rfl (fun h => ?_) (fun h => ?_) <;> first | (cases h; done) | skip))
      | (show VcD _ _ _ _ _ (.take _ _) _ _ _; refine VcD.load1 tabOk rfl rfl rfl rfl rfl rfl (by intro w_ hw_; first | exact Holds.cell hw_ rfl | exact Holds.ownCell0 (Holds.f3 hw_) (fun _ => rfl) (by assumption) rfl) (by exact rfl) ?_)
      | (show VcD _ _ _ _ _ (.only _ _) _ _ _; (refine VcD.callF (f := F_stream_from) rfl ok_stream_from rfl rfl rfl rfl (Rets.mono (from_any (a := nn) (b := y) H hnM hyM) ?_); rintro _ w ⟨rfl, H⟩; refine ⟨(by exact H), ?_⟩)))
        | (show Vc _ _ _ _ _ _; first
      | refine Vc.seq ?_
      | refine Vc.region ?_
      | refine Vc.condT rfl ?_
      | refine Vc.skip ?_
      | refine Vc.block ?_
      | refine Vc.drawnH (id := 5) H (.pure 0 (.pure 1 (.pure 2 (.take 3 (.pure 4 (.pure 5 (.pure 6 (.pure 7 (.pure 8 (.pure 9 (.pure 11 (.pure 12 (.pure 13 (.take 10 (.take 14 (.pure 15 (.take 16 (.only 17 (.pure 18 (.pure 19 .done)))))))))))))))))))) mixed (by kernel_rfl) (fun w H => ?_))
        | (show KSeq _ _ _ _ _ _ _; refine KSeq.normal ?_)
        | (show KBlock _ _ _ _ _ _; refine KBlock.normal ?_))
      exact KLoop.again (j + 1) trivial ⟨rfl, rfl, trivial⟩ ⟨hlt, A9, c9, by rw [show (xs.drop (j + 1) ++ zs).length = rr.length - 1 by omega, ← hmc]; exact Holds.re [0, 1, 1, 0] H rfl⟩ (by omega)
    · obtain rfl : j = xs.length := by omega
      rw [List.drop_length, List.nil_append] at H
      have hak : EnOk { E with base := nn, out := E.out.drop k } := by rw [← hack]; exact hakok
      rw [hack]
      by_cases hz : zs.length = 0
      · have hd0 : decide ((0 : Int) < (zs.length : Nat)) = false := decide_eq_false (by omega)
        by_cases h34 : kind = 3 ∨ kind = 4
        · have hd2 := h2 h34
          rw [if_pos h34]
          obtain ⟨x1, hx1'⟩ : ∃ x, atD data (data.length - 2) = x := ⟨_, rfl⟩
          obtain ⟨x2, hx2'⟩ : ∃ x, atD data (data.length - 1) = x := ⟨_, rfl⟩
          have hnum : num2 data (data.length - 2) = x1.toNat * 256 + x2.toNat := by unfold num2; rw [hx1', show data.length - 2 + 1 = data.length - 1 by omega, hx2']
          obtain ⟨b6, o6, rfl, hr6⟩ := hdv.at (by omega)
          have hy1 := (byL_flat data ▸ hr6).elem byC_len (atD_get (show data.length - 2 < data.length by omega))
          have hy2 := (byL_flat data ▸ hr6).elem byC_len (atD_get (show data.length - 1 < data.length by omega))
          rw [hx1'] at hy1
          rw [hx2'] at hy2
          have hy1 := RdI.toW (L := own (.slice A8 zs.length c8) 3 1 zs.length (zs.flatMap ntC) :: own (.slice A3 ib.length c3) 5 1 ib.length (byL ib) :: own (.slice A4 ms.length c4) 3 1 ms.length (ms.flatMap ntC) :: own (.slice A5 cd.length c5) 22 1 cd.length (cd.flatMap bkC) :: L) hy1
          have hy2 := RdI.toW (L := own (.slice A8 zs.length c8) 3 1 zs.length (zs.flatMap ntC) :: own (.slice A3 ib.length c3) 5 1 ib.length (byL ib) :: own (.slice A4 ms.length c4) 3 1 ms.length (ms.flatMap ntC) :: own (.slice A5 cd.length c5) 22 1 cd.length (cd.flatMap bkC) :: L) hy2
          have hlt1 := x1.toNat_lt
          have hlt2 := x2.toNat_lt
          have e1 : IntKind.i64.wrap ((data.length : Int) - 2) = ((data.length - 2 : Nat) : Int) := by rw [wrap_i64 (by omega) (by omega)]; omega
          have e2 : IntKind.i64.wrap ((data.length : Int) - 1) = ((data.length - 1 : Nat) : Int) := by rw [wrap_i64 (by omega) (by omega)]; omega
          have e3 : IntKind.i64.wrap (x1.toNat : Int) = (x1.toNat : Int) := wi64 (by omega)
          have e4 : IntKind.i64.wrap (x2.toNat : Int) = (x2.toNat : Int) := wi64 (by omega)
          have e5 : IntKind.i64.wrap ((x1.toNat : Int) * 2 ^ min 8 IntKind.i64.bits) = ((x1.toNat * 256 : Nat) : Int) := by
            rw [show (2 : Int) ^ min 8 IntKind.i64.bits = 256 from rfl, wrap_i64 (by omega) (by omega)]; omega
          have e6 : IntKind.i64.wrap (((x1.toNat * 256 : Nat) : Int) + (x2.toNat : Int)) = ((num2 data (data.length - 2) : Nat) : Int) := by rw [hnum, wrap_i64 (by omega) (by omega)]; omega
          rcases h34 with rfl | rfl
          all_goals (
            repeat' (first
              | rw [hd0]
              | rw [e1]
              | rw [e2]
              | rw [e3]
              | rw [e4]
              | rw [e5]
              | rw [e6]
              | (show VcL _ _ _ _ _ _ _ _; first
      | refine VcL.pures tabOk rfl ?_
      | refine VcL.nil ?_
      | (show VcL _ _ _ _ (⟨_, .load _ _, _, _, _, _⟩ :: _) _ _ _; refine VcL.load1 tabOk rfl rfl rfl rfl rfl (by exact Holds.cell (Holds.f2 H) rfl) ?_)
      | (refine VcL.guard rfl rfl rfl rfl (fun h => ?_) (fun h => ?_) <;> first | (cases h; done) | (with_reducible have hp := of_decide_eq_true h) | (with_reducible have hp := of_decide_eq_false h)))
              | (show VcD _ _ _ _ _ _ _ _ _; first
      | refine VcD.pures tabOk rfl ?_
      | refine VcD.done ?_
      | (show VcD _ _ _ _ _ (.pure _ _) _ _ _; first
      | refine VcD.indexAddr tabOk rfl rfl rfl rfl rfl rfl rfl (by omega) (by omega) ?_
      | (refine VcD.guardP rfl rfl rfl rfl rfl (fun h => ?_) (fun h => ?_) <;> first | (cases h; done) | skip))
      | (show VcD _ _ _ _ _ (.take _ _) _ _ _; first
      | refine VcD.load1 tabOk rfl rfl rfl rfl rfl rfl (by intro w_ hw_; first | exact Holds.cell hw_ rfl | exact Holds.cell (Holds.f2 hw_) rfl | exact RdW.get0 (by assumption) rfl (Holds.drop (Holds.drop (Holds.drop hw_)))) (by exact rfl) ?_
      | refine VcD.skipT rfl rfl rfl ?_)
      | (show VcD _ _ _ _ _ (.only _ _) _ _ _; first
      | (refine VcD.eff rfl rfl rfl rfl (OpE.store tabOk (by exact H) rfl rfl rfl (by exact rfl) (by exact rfl) (by exact rfl) (by exact rfl)) ?_; rintro _ w ⟨_, H⟩; refine ⟨(by trivial), ?_⟩)
      | refine VcD.skip rfl rfl rfl (by exact H) ?_))
              | (show Vc _ _ _ _ _ _; first
      | refine Vc.seq ?_
      | refine Vc.region ?_
      | refine Vc.condT rfl ?_
      | refine Vc.condF rfl ?_
      | refine Vc.exit ?_
      | refine Vc.drawnH (id := 5) H (.pure 0 (.pure 1 (.pure 2 (.take 3 (.pure 4 (.pure 5 (.pure 6 (.pure 7 (.pure 8 (.pure 9 (.pure 11 (.pure 12 (.pure 13 (.take 10 (.take 14 (.pure 15 (.take 16 (.only 17 (.pure 18 (.pure 19 .done)))))))))))))))))))) mixed (by kernel_rfl) (fun w H => ?_)
      | (refine Vc.drawn (id := 9) (.pure 0 (.pure 1 (.pure 3 (.pure 4 (.pure 9 (.pure 11 (.pure 12 (.take 2 (.pure 5 (.take 6 (.pure 7 (.pure 8 (.take 10 (.pure 13 (.take 14 (.pure 15 (.pure 16 (.pure 17 (.pure 18 (.only 19 .done)))))))))))))))))))) (.till (fun w => Holds I w _) 19 (.one (fun _ => True))) mixed (by kernel_rfl) (by exact (Holds.drew H _)) ?_; have H := H.drew (w.drawn + 1)))
              | (show KSeq _ _ _ _ _ _ _; first
      | refine KSeq.normal ?_
      | refine KSeq.exit ?_)
              | (show KBlock _ _ _ _ _ _; refine KBlock.here ?_)
              | refine KLoop.exit ?_
              | (show KEnd _ _ _ _ _ _ _; refine KEnd.fin (Or.inl rfl) ⟨_, ResL.nil, ?_⟩))
            refine end_close (ob := ob.drop k) (es := zs) (ib := ib) (ms := ms) ⟨.slice A7 (ob.length - k) c7, .slice A8 zs.length c8, .slice A3 ib.length c3, .slice A4 ms.length c4, nv, .slice A5 cd.length c5, cd⟩ ⟨{ hak with room := by show num2 data (data.length - 2) ≤ 65535; rw [hnum]; omega }, hm.news, hm.codes, hm.each⟩ ⟨(by show (E.out.drop k).map (·.1) = ob.drop k; rw [← hl.out]; exact List.map_drop), hzs, hl.inn, hl.marks⟩ ?_
            show Holds I w (blk e _ _ :: own _ _ 1 (ob.drop k).length _ :: own _ _ 1 zs.length _ :: _)
            rw [List.length_drop]
            exact Holds.drop2 H)
        · rw [if_neg h34]
          have dk3 : decide (kind = 3) = false := decide_eq_false fun h => h34 (.inl h)
          have dk4 : decide (kind = 4) = false := decide_eq_false fun h => h34 (.inr h)
          repeat' (first
            | rw [hd0]
            | rw [dk3]
            | rw [dk4]
            | (show VcL _ _ _ _ _ _ _ _; first
      | refine VcL.pures tabOk rfl ?_
      | refine VcL.nil ?_
      | (show VcL _ _ _ _ (⟨_, .load _ _, _, _, _, _⟩ :: _) _ _ _; refine VcL.load1 tabOk rfl rfl rfl rfl rfl (by exact Holds.cell (Holds.f2 H) rfl) ?_)
      | (refine VcL.guard rfl rfl rfl rfl (fun h => ?_) (fun h => ?_) <;> first | (cases h; done) | skip))
            | (show VcD _ _ _ _ _ _ _ _ _; first
      | refine VcD.pures tabOk rfl ?_
      | refine VcD.done ?_
      | (show VcD _ _ _ _ _ (.pure _ _) _ _ _; (refine VcD.guardP rfl rfl rfl rfl rfl (fun h => ?_) (fun h => ?_) <;> first | (cases h; done) | skip))
      | (show VcD _ _ _ _ _ (.take _ _) _ _ _; first
      | refine VcD.load1 tabOk rfl rfl rfl rfl rfl rfl (by intro w_ hw_; exact Holds.cell hw_ rfl) (by exact rfl) ?_
      | refine VcD.skipT rfl rfl rfl ?_)
      | (show VcD _ _ _ _ _ (.only _ _) _ _ _; refine VcD.skip rfl rfl rfl (by exact H) ?_))
            | (show Vc _ _ _ _ _ _; first
      | refine Vc.seq ?_
      | refine Vc.region ?_
      | refine Vc.condF rfl ?_
      | refine Vc.skip ?_
      | refine Vc.exit ?_
      | refine Vc.drawnH (id := 5) H (.pure 0 (.pure 1 (.pure 2 (.take 3 (.pure 4 (.pure 5 (.pure 6 (.pure 7 (.pure 8 (.pure 9 (.pure 11 (.pure 12 (.pure 13 (.take 10 (.take 14 (.pure 15 (.take 16 (.only 17 (.pure 18 (.pure 19 .done)))))))))))))))))))) mixed (by kernel_rfl) (fun w H => ?_))
            | (show KSeq _ _ _ _ _ _ _; first
      | refine KSeq.normal ?_
      | refine KSeq.exit ?_)
            | (show KBlock _ _ _ _ _ _; refine KBlock.here ?_)
            | refine KLoop.exit ?_
            | (show KEnd _ _ _ _ _ _ _; refine KEnd.fin (Or.inl rfl) ⟨_, ResL.nil, ?_⟩))
          refine end_close (ob := ob.drop k) (es := zs) (ib := ib) (ms := ms) ⟨.slice A7 (ob.length - k) c7, .slice A8 zs.length c8, .slice A3 ib.length c3, .slice A4 ms.length c4, nv, .slice A5 cd.length c5, cd⟩ ⟨hak, hm.news, hm.codes, hm.each⟩ ⟨(by show (E.out.drop k).map (·.1) = ob.drop k; rw [← hl.out]; exact List.map_drop), hzs, hl.inn, hl.marks⟩ ?_
          show Holds I w (blk e _ _ :: own _ _ 1 (ob.drop k).length _ :: own _ _ 1 zs.length _ :: _)
          rw [List.length_drop]
          exact Holds.drop2 H
      · obtain ⟨y, hy⟩ : ∃ y, atD zs 0 = y := ⟨_, rfl⟩
        have hq0 : zs[0]? = some y := by rw [← hy]; exact atD_get (by omega)
        obtain ⟨hyM, hyf⟩ := hx3 _ (List.mem_of_getElem? hq0)
        obtain ⟨b4, o4, _, e4, hc4⟩ := Holds.own_some (by omega) (Holds.f3 H)
        injection e4 with e5 e6 e7
        subst e5
        have hd0 : decide ((0 : Int) < (zs.length : Nat)) = true := decide_eq_true (by omega)
        have hd1 : decide ((2147483648 : Int) ≤ (fromS nn y : Nat)) = false := decide_eq_false (by omega)
        by_cases h34 : kind = 3 ∨ kind = 4
        · have hd2 := h2 h34
          rw [if_pos h34]
          obtain ⟨x1, hx1'⟩ : ∃ x, atD data (data.length - 2) = x := ⟨_, rfl⟩
          obtain ⟨x2, hx2'⟩ : ∃ x, atD data (data.length - 1) = x := ⟨_, rfl⟩
          have hnum : num2 data (data.length - 2) = x1.toNat * 256 + x2.toNat := by unfold num2; rw [hx1', show data.length - 2 + 1 = data.length - 1 by omega, hx2']
          obtain ⟨b6, o6, rfl, hr6⟩ := hdv.at (by omega)
          have hy1 := (byL_flat data ▸ hr6).elem byC_len (atD_get (show data.length - 2 < data.length by omega))
          have hy2 := (byL_flat data ▸ hr6).elem byC_len (atD_get (show data.length - 1 < data.length by omega))
          rw [hx1'] at hy1
          rw [hx2'] at hy2
          have hy1 := RdI.toW (L := own (.slice (some ⟨b4, o4, none⟩) zs.length c8) 3 1 zs.length (zs.flatMap ntC) :: own (.slice A3 ib.length c3) 5 1 ib.length (byL ib) :: own (.slice A4 ms.length c4) 3 1 ms.length (ms.flatMap ntC) :: own (.slice A5 cd.length c5) 22 1 cd.length (cd.flatMap bkC) :: L) hy1
          have hy2 := RdI.toW (L := own (.slice (some ⟨b4, o4, none⟩) zs.length c8) 3 1 zs.length (zs.flatMap ntC) :: own (.slice A3 ib.length c3) 5 1 ib.length (byL ib) :: own (.slice A4 ms.length c4) 3 1 ms.length (ms.flatMap ntC) :: own (.slice A5 cd.length c5) 22 1 cd.length (cd.flatMap bkC) :: L) hy2
          have hlt1 := x1.toNat_lt
          have hlt2 := x2.toNat_lt
          have e1 : IntKind.i64.wrap ((data.length : Int) - 2) = ((data.length - 2 : Nat) : Int) := by rw [wrap_i64 (by omega) (by omega)]; omega
          have e2 : IntKind.i64.wrap ((data.length : Int) - 1) = ((data.length - 1 : Nat) : Int) := by rw [wrap_i64 (by omega) (by omega)]; omega
          have e3 : IntKind.i64.wrap (x1.toNat : Int) = (x1.toNat : Int) := wi64 (by omega)
          have e4 : IntKind.i64.wrap (x2.toNat : Int) = (x2.toNat : Int) := wi64 (by omega)
          have e5 : IntKind.i64.wrap ((x1.toNat : Int) * 2 ^ min 8 IntKind.i64.bits) = ((x1.toNat * 256 : Nat) : Int) := by
            rw [show (2 : Int) ^ min 8 IntKind.i64.bits = 256 from rfl, wrap_i64 (by omega) (by omega)]; omega
          have e6 : IntKind.i64.wrap (((x1.toNat * 256 : Nat) : Int) + (x2.toNat : Int)) = ((num2 data (data.length - 2) : Nat) : Int) := by rw [hnum, wrap_i64 (by omega) (by omega)]; omega
          rcases h34 with rfl | rfl
          all_goals (
            repeat' (first
              | rw [hd0]
              | rw [hd1]
              | rw [e1]
              | rw [e2]
              | rw [e3]
              | rw [e4]
              | rw [e5]
              | rw [e6]
              | (show VcL _ _ _ _ _ _ _ _; first
      | refine VcL.pures tabOk rfl ?_
      | refine VcL.nil ?_
      | (show VcL _ _ _ _ (⟨_, .load _ _, _, _, _, _⟩ :: _) _ _ _; refine VcL.load1 tabOk rfl rfl rfl rfl rfl (by exact Holds.cell (Holds.f2 H) rfl) ?_)
      | (refine VcL.guard rfl rfl rfl rfl (fun h => ?_) (fun h => ?_) <;> first | (cases h; done) | (with_reducible have hp := of_decide_eq_true h) | (with_reducible have hp := of_decide_eq_false h)))
              | (show VcD _ _ _ _ _ _ _ _ _; first
      | refine VcD.pures tabOk rfl ?_
      | refine VcD.done ?_
      | (show VcD _ _ _ _ _ (.pure _ _) _ _ _; first
      | refine VcD.indexAddr tabOk rfl rfl rfl rfl rfl rfl rfl (by omega) (by omega) ?_
      | (refine VcD.guardP rfl rfl rfl rfl rfl (fun h => ?_) (fun h => ?_) <;> first | (cases h; done) | skip))
      | (show VcD _ _ _ _ _ (.take _ _) _ _ _; refine VcD.load1 tabOk rfl rfl rfl rfl rfl rfl (by intro w_ hw_; first | exact Holds.cell hw_ rfl | exact Holds.cell (Holds.f2 hw_) rfl | exact RdW.get0 (by assumption) rfl (Holds.drop (Holds.drop (Holds.drop hw_))) | exact Holds.ownCell0 (Holds.f3 hw_) (fun _ => rfl) (by assumption) rfl) (by exact rfl) ?_)
      | (show VcD _ _ _ _ _ (.only _ _) _ _ _; first
      | (refine VcD.callF (f := F_stream_from) rfl ok_stream_from rfl rfl rfl rfl (Rets.mono (from_any (a := nn) (b := y) H hnM hyM) ?_); rintro _ w ⟨rfl, H⟩; refine ⟨(by exact H), ?_⟩)
      | (refine VcD.eff rfl rfl rfl rfl (OpE.store tabOk (by exact H) rfl rfl rfl (by exact rfl) (by exact rfl) (by exact rfl) (by exact rfl)) ?_; rintro _ w ⟨_, H⟩; refine ⟨(by trivial), ?_⟩)))
              | (show Vc _ _ _ _ _ _; first
      | refine Vc.seq ?_
      | refine Vc.region ?_
      | refine Vc.condT rfl ?_
      | refine Vc.condF rfl ?_
      | refine Vc.exit ?_
      | refine Vc.drawnH (id := 5) H (.pure 0 (.pure 1 (.pure 2 (.take 3 (.pure 4 (.pure 5 (.pure 6 (.pure 7 (.pure 8 (.pure 9 (.pure 11 (.pure 12 (.pure 13 (.take 10 (.take 14 (.pure 15 (.take 16 (.only 17 (.pure 18 (.pure 19 .done)))))))))))))))))))) mixed (by kernel_rfl) (fun w H => ?_)
      | (refine Vc.drawn (id := 9) (.pure 0 (.pure 1 (.pure 3 (.pure 4 (.pure 9 (.pure 11 (.pure 12 (.take 2 (.pure 5 (.take 6 (.pure 7 (.pure 8 (.take 10 (.pure 13 (.take 14 (.pure 15 (.pure 16 (.pure 17 (.pure 18 (.only 19 .done)))))))))))))))))))) (.till (fun w => Holds I w _) 19 (.one (fun _ => True))) mixed (by kernel_rfl) (by exact (Holds.drew H _)) ?_; have H := H.drew (w.drawn + 1)))
              | (show KSeq _ _ _ _ _ _ _; first
      | refine KSeq.normal ?_
      | refine KSeq.exit ?_)
              | (show KBlock _ _ _ _ _ _; refine KBlock.here ?_)
              | refine KLoop.exit ?_
              | (show KEnd _ _ _ _ _ _ _; refine KEnd.fin (Or.inl rfl) ⟨_, ResL.nil, ?_⟩))
            refine end_close (ob := ob.drop k) (es := zs) (ib := ib) (ms := ms) ⟨.slice A7 (ob.length - k) c7, .slice (some ⟨b4, o4, none⟩) zs.length c8, .slice A3 ib.length c3, .slice A4 ms.length c4, nv, .slice A5 cd.length c5, cd⟩ ⟨{ hak with room := by show num2 data (data.length - 2) ≤ 65535; rw [hnum]; omega }, hm.news, hm.codes, hm.each⟩ ⟨(by show (E.out.drop k).map (·.1) = ob.drop k; rw [← hl.out]; exact List.map_drop), hzs, hl.inn, hl.marks⟩ ?_
            show Holds I w (blk e _ _ :: own _ _ 1 (ob.drop k).length _ :: own _ _ 1 zs.length _ :: _)
            rw [List.length_drop]
            exact Holds.drop2 H)
        · rw [if_neg h34]
          have dk3 : decide (kind = 3) = false := decide_eq_false fun h => h34 (.inl h)
          have dk4 : decide (kind = 4) = false := decide_eq_false fun h => h34 (.inr h)
          repeat' (first
            | rw [hd0]
            | rw [hd1]
            | rw [dk3]
            | rw [dk4]
            | (show VcL _ _ _ _ _ _ _ _; first
      | refine VcL.pures tabOk rfl ?_
      | refine VcL.nil ?_
      | (show VcL _ _ _ _ (⟨_, .load _ _, _, _, _, _⟩ :: _) _ _ _; refine VcL.load1 tabOk rfl rfl rfl rfl rfl (by exact Holds.cell (Holds.f2 H) rfl) ?_)
      | (refine VcL.guard rfl rfl rfl rfl (fun h => ?_) (fun h => ?_) <;> first | (cases h; done) | skip))
            | (show VcD _ _ _ _ _ _ _ _ _; first
      | refine VcD.pures tabOk rfl ?_
      | refine VcD.done ?_
      | (show VcD _ _ _ _ _ (.pure _ _) _ _ _; first
      | refine VcD.indexAddr tabOk rfl rfl rfl rfl rfl rfl rfl (by omega) (by omega) ?_
      | (refine VcD.guardP rfl rfl rfl rfl rfl (fun h => ?_) (fun h => ?_) <;> first | (cases h; done) | skip))
      | (show VcD _ _ _ _ _ (.take _ _) _ _ _; refine VcD.load1 tabOk rfl rfl rfl rfl rfl rfl (by intro w_ hw_; first | exact Holds.cell hw_ rfl | exact Holds.ownCell0 (Holds.f3 hw_) (fun _ => rfl) (by assumption) rfl) (by exact rfl) ?_)
      | (show VcD _ _ _ _ _ (.only _ _) _ _ _; (refine VcD.callF (f := F_stream_from) rfl ok_stream_from rfl rfl rfl rfl (Rets.mono (from_any (a := nn) (b := y) H hnM hyM) ?_); rintro _ w ⟨rfl, H⟩; refine ⟨(by exact H), ?_⟩)))
            | (show Vc _ _ _ _ _ _; first
      | refine Vc.seq ?_
      | refine Vc.region ?_
      | refine Vc.condF rfl ?_
      | refine Vc.skip ?_
      | refine Vc.exit ?_
      | refine Vc.drawnH (id := 5) H (.pure 0 (.pure 1 (.pure 2 (.take 3 (.pure 4 (.pure 5 (.pure 6 (.pure 7 (.pure 8 (.pure 9 (.pure 11 (.pure 12 (.pure 13 (.take 10 (.take 14 (.pure 15 (.take 16 (.only 17 (.pure 18 (.pure 19 .done)))))))))))))))))))) mixed (by kernel_rfl) (fun w H => ?_))
            | (show KSeq _ _ _ _ _ _ _; first
      | refine KSeq.normal ?_
      | refine KSeq.exit ?_)
            | (show KBlock _ _ _ _ _ _; refine KBlock.here ?_)
            | refine KLoop.exit ?_
            | (show KEnd _ _ _ _ _ _ _; refine KEnd.fin (Or.inl rfl) ⟨_, ResL.nil, ?_⟩))
          refine end_close (ob := ob.drop k) (es := zs) (ib := ib) (ms := ms) ⟨.slice A7 (ob.length - k) c7, .slice (some ⟨b4, o4, none⟩) zs.length c8, .slice A3 ib.length c3, .slice A4 ms.length c4, nv, .slice A5 cd.length c5, cd⟩ ⟨hak, hm.news, hm.codes, hm.each⟩ ⟨(by show (E.out.drop k).map (·.1) = ob.drop k; rw [← hl.out]; exact List.map_drop), hzs, hl.inn, hl.marks⟩ ?_
          show Holds I w (blk e _ _ :: own _ _ 1 (ob.drop k).length _ :: own _ _ 1 zs.length _ :: _)
          rw [List.length_drop]
          exact Holds.drop2 H
  · have hack : ackS E nn = E := by unfold ackS; rw [hk, if_neg hle]
    rw [hack]
    by_cases h34 : kind = 3 ∨ kind = 4
    · have hd2 := h2 h34
      rw [if_pos h34]
      obtain ⟨x1, hx1'⟩ : ∃ x, atD data (data.length - 2) = x := ⟨_, rfl⟩
      obtain ⟨x2, hx2'⟩ : ∃ x, atD data (data.length - 1) = x := ⟨_, rfl⟩
      have hnum : num2 data (data.length - 2) = x1.toNat * 256 + x2.toNat := by unfold num2; rw [hx1', show data.length - 2 + 1 = data.length - 1 by omega, hx2']
      obtain ⟨b6, o6, rfl, hr6⟩ := hdv.at (by omega)
      have hy1 := (byL_flat data ▸ hr6).elem byC_len (atD_get (show data.length - 2 < data.length by omega))
      have hy2 := (byL_flat data ▸ hr6).elem byC_len (atD_get (show data.length - 1 < data.length by omega))
      rw [hx1'] at hy1
      rw [hx2'] at hy2
      have hy1 := RdI.toW (L := own (.slice A2 es.length c2) 3 1 es.length (es.flatMap ntC) :: own (.slice A3 ib.length c3) 5 1 ib.length (byL ib) :: own (.slice A4 ms.length c4) 3 1 ms.length (ms.flatMap ntC) :: own (.slice A5 cd.length c5) 22 1 cd.length (cd.flatMap bkC) :: L) hy1
      have hy2 := RdI.toW (L := own (.slice A2 es.length c2) 3 1 es.length (es.flatMap ntC) :: own (.slice A3 ib.length c3) 5 1 ib.length (byL ib) :: own (.slice A4 ms.length c4) 3 1 ms.length (ms.flatMap ntC) :: own (.slice A5 cd.length c5) 22 1 cd.length (cd.flatMap bkC) :: L) hy2
      have hlt1 := x1.toNat_lt
      have hlt2 := x2.toNat_lt
      have e1 : IntKind.i64.wrap ((data.length : Int) - 2) = ((data.length - 2 : Nat) : Int) := by rw [wrap_i64 (by omega) (by omega)]; omega
      have e2 : IntKind.i64.wrap ((data.length : Int) - 1) = ((data.length - 1 : Nat) : Int) := by rw [wrap_i64 (by omega) (by omega)]; omega
      have e3 : IntKind.i64.wrap (x1.toNat : Int) = (x1.toNat : Int) := wi64 (by omega)
      have e4 : IntKind.i64.wrap (x2.toNat : Int) = (x2.toNat : Int) := wi64 (by omega)
      have e5 : IntKind.i64.wrap ((x1.toNat : Int) * 2 ^ min 8 IntKind.i64.bits) = ((x1.toNat * 256 : Nat) : Int) := by
        rw [show (2 : Int) ^ min 8 IntKind.i64.bits = 256 from rfl, wrap_i64 (by omega) (by omega)]; omega
      have e6 : IntKind.i64.wrap (((x1.toNat * 256 : Nat) : Int) + (x2.toNat : Int)) = ((num2 data (data.length - 2) : Nat) : Int) := by rw [hnum, wrap_i64 (by omega) (by omega)]; omega
      rcases h34 with rfl | rfl
      all_goals (
        refine ok_stream_End_heard.rets rfl ?_
        repeat' (first
          | rw [e1]
          | rw [e2]
          | rw [e3]
          | rw [e4]
          | rw [e5]
          | rw [e6]
          | (show VcL _ _ _ _ _ _ _ _; first
      | refine VcL.pures tabOk rfl ?_
      | refine VcL.nil ?_
      | (show VcL _ _ _ _ (⟨_, .load _ _, _, _, _, _⟩ :: _) _ _ _; refine VcL.load1 tabOk rfl rfl rfl rfl rfl (by first | exact Holds.cell H rfl | exact Holds.cell (Holds.f1 H) rfl) ?_)
      | refine VcL.box H rfl rfl rfl rfl rfl (fun b w H => ?_)
      | (refine VcL.guard rfl rfl rfl rfl (fun h => ?_) (fun h => ?_) <;> first | (cases h; done) | (with_reducible have hp := of_decide_eq_true h) | (with_reducible have hp := of_decide_eq_false h)))
          | (show VcD _ _ _ _ _ _ _ _ _; first
      | refine VcD.pures tabOk rfl ?_
      | refine VcD.done ?_
      | (show VcD _ _ _ _ _ (.pure _ _) _ _ _; refine VcD.indexAddr tabOk rfl rfl rfl rfl rfl rfl rfl (by omega) (by omega) ?_)
      | (show VcD _ _ _ _ _ (.take _ _) _ _ _; refine VcD.load1 tabOk rfl rfl rfl rfl rfl rfl (by intro w_ hw_; first | exact Holds.cell hw_ rfl | exact Holds.cell (Holds.f1 hw_) rfl | exact RdW.get0 (by assumption) rfl (Holds.drop (Holds.drop (Holds.drop hw_)))) (by exact rfl) ?_)
      | (show VcD _ _ _ _ _ (.only _ _) _ _ _; first
      | (refine VcD.callF (f := F_stream_from) rfl ok_stream_from rfl rfl rfl rfl (Rets.mono (hfrom _ _ H) ?_); rintro _ w ⟨rfl, H⟩; refine ⟨(by exact H), ?_⟩)
      | (refine VcD.eff rfl rfl rfl rfl (OpE.store tabOk (by exact (Holds.f1 H)) rfl rfl rfl (by exact rfl) (by exact rfl) (by exact rfl) (by exact rfl)) ?_; rintro _ w ⟨_, H⟩; refine ⟨(by trivial), ?_⟩)))
          | (show Vc _ _ _ _ _ _; first
      | refine Vc.seq ?_
      | refine Vc.region ?_
      | refine Vc.condT rfl ?_
      | refine Vc.skip ?_
      | (refine Vc.drawn (id := 1) (.pure 0 (.pure 1 (.pure 2 (.pure 4 (.take 3 (.take 5 (.only 6 (.pure 7 .done)))))))) (.one (fun w => Holds I w _)) mixed (by kernel_rfl) (by exact (Holds.drew H _)) ?_; have H := H.drew (w.drawn + 1))
      | (refine Vc.drawn (id := 9) (.pure 0 (.pure 1 (.pure 3 (.pure 4 (.pure 9 (.pure 11 (.pure 12 (.take 2 (.pure 5 (.take 6 (.pure 7 (.pure 8 (.take 10 (.pure 13 (.take 14 (.pure 15 (.pure 16 (.pure 17 (.pure 18 (.only 19 .done)))))))))))))))))))) (.till (fun w => Holds I w _) 19 (.one (fun _ => True))) mixed (by kernel_rfl) (by exact (Holds.drew H _)) ?_; have H := H.drew (w.drawn + 1))
      | (refine Vc.cond rfl (fun h => ?_) (fun h => ?_) <;> first | (exfalso; simp only [decide_eq_true_eq, decide_eq_false_iff_not, Bool.not_eq_true', Bool.not_eq_false'] at h; omega) | (with_reducible have hp := of_decide_eq_false h)))
          | (show KSeq _ _ _ _ _ _ _; refine KSeq.normal ?_)
          | (show KEnd _ _ _ _ _ _ _; refine KEnd.fin (Or.inl rfl) ⟨_, ResL.nil, ?_⟩))
        exact end_close ⟨.slice A1 ob.length c1, .slice A2 es.length c2, .slice A3 ib.length c3, .slice A4 ms.length c4, nv, .slice A5 cd.length c5, cd⟩ ⟨{ ok with room := by show num2 data (data.length - 2) ≤ 65535; rw [hnum]; omega }, hm.news, hm.codes, hm.each⟩ ⟨hl.out, hl.ends, hl.inn, hl.marks⟩ (Holds.drop1 H))
    · rw [if_neg h34]
      have dk3 : decide (kind = 3) = false := decide_eq_false fun h => h34 (.inl h)
      have dk4 : decide (kind = 4) = false := decide_eq_false fun h => h34 (.inr h)
      refine ok_stream_End_heard.rets rfl ?_
      repeat' (first
        | rw [dk3]
        | rw [dk4]
        | (show VcL _ _ _ _ _ _ _ _; first
      | refine VcL.pures tabOk rfl ?_
      | refine VcL.nil ?_
      | (show VcL _ _ _ _ (⟨_, .load _ _, _, _, _, _⟩ :: _) _ _ _; refine VcL.load1 tabOk rfl rfl rfl rfl rfl (by first | exact Holds.cell H rfl | exact Holds.cell (Holds.f1 H) rfl) ?_)
      | refine VcL.box H rfl rfl rfl rfl rfl (fun b w H => ?_)
      | (refine VcL.guard rfl rfl rfl rfl (fun h => ?_) (fun h => ?_) <;> first | (cases h; done) | skip))
        | (show VcD _ _ _ _ _ _ _ _ _; first
      | refine VcD.pures tabOk rfl ?_
      | refine VcD.done ?_
      | (show VcD _ _ _ _ _ (.take _ _) _ _ _; refine VcD.load1 tabOk rfl rfl rfl rfl rfl rfl (by intro w_ hw_; first | exact Holds.cell hw_ rfl | exact Holds.cell (Holds.f1 hw_) rfl) (by exact rfl) ?_)
      | (show VcD _ _ _ _ _ (.only _ _) _ _ _; (refine VcD.callF (f := F_stream_from) rfl ok_stream_from rfl rfl rfl rfl (Rets.mono (hfrom _ _ H) ?_); rintro _ w ⟨rfl, H⟩; refine ⟨(by exact H), ?_⟩)))
        | (show Vc _ _ _ _ _ _; first
      | refine Vc.seq ?_
      | refine Vc.region ?_
      | refine Vc.condF rfl ?_
      | refine Vc.skip ?_
      | (refine Vc.drawn (id := 1) (.pure 0 (.pure 1 (.pure 2 (.pure 4 (.take 3 (.take 5 (.only 6 (.pure 7 .done)))))))) (.one (fun w => Holds I w _)) mixed (by kernel_rfl) (by exact (Holds.drew H _)) ?_; have H := H.drew (w.drawn + 1))
      | (refine Vc.cond rfl (fun h => ?_) (fun h => ?_) <;> first | (exfalso; simp only [decide_eq_true_eq, decide_eq_false_iff_not, Bool.not_eq_true', Bool.not_eq_false'] at h; omega) | (with_reducible have hp := of_decide_eq_false h)))
        | (show KSeq _ _ _ _ _ _ _; refine KSeq.normal ?_)
        | (show KEnd _ _ _ _ _ _ _; refine KEnd.fin (Or.inl rfl) ⟨_, ResL.nil, ?_⟩))
      exact end_close ⟨.slice A1 ob.length c1, .slice A2 es.length c2, .slice A3 ib.length c3, .slice A4 ms.length c4, nv, .slice A5 cd.length c5, cd⟩ ⟨ok, hm.news, hm.codes, hm.each⟩ ⟨hl.out, hl.ends, hl.inn, hl.marks⟩ (Holds.drop H)
end Go.Proofs.Ytpfgcchammlpgaa.V
