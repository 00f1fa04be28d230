/- The program's end: data are taken. -/
import Derived.Test.YtpfgcchammlpgaaVG
namespace Go.Proofs.Ytpfgcchammlpgaa.V
open Go Go.Proofs.YtpfgcchammlpgaaV
set_option linter.unusedVariables false
set_option linter.unusedSimpArgs false
set_option maxHeartbeats 8000000
set_option maxRecDepth 4000
attribute [local irreducible] IntKind.wrap
variable {I : Imm} {w : World} {L : List Asn}
theorem take_any {e : Nat} {E : En} (H : Holds I w (endA I e E :: L)) {f : Fr} {dv : Value} (hdv : SlI I dv 1 f.data.length (byL f.data)) (h4 : 4 ≤ f.data.length) (h63 : f.data.length ≤ 63) (hsq : 0 ≤ f.seq ∧ f.seq < 4294967296) :
    Rets Try.prog F_stream_End_take #[ptr e, frV f dv] w fun u w' => Holds I w' (endA I e (dataS E f) :: L) := by
  obtain ⟨A1, c1, A2, c2, A3, c3, A4, c4, A5, c5, nv, cd, ob, es, ib, ms, hl, hm, HB⟩ := end_open H
  clear H
  have H := HB
  clear HB
  have ok := hm.ok
  have hil := hl.innL
  have hin := ok.inn
  have hwt := ok.want
  obtain ⟨kind, id, seq, n, data⟩ := f
  dsimp only at hdv h4 h63 hsq
  obtain ⟨A, cap, rfl, hcap⟩ := hdv.form
  obtain ⟨b6, o6, rfl, hr6⟩ := hdv.at (by omega)
  have hr0 := (byL_flat data ▸ hr6).elem byC_len (atD_get (show 0 < data.length by omega))
  obtain ⟨sq, rfl⟩ := Int.eq_ofNat_of_zero_le hsq.1
  show Rets Try.prog F_stream_End_take #[ptr e, .agg #[.int .i64 kind, .int .i64 id, .int .i64 (sq : Nat), .int .i64 n, .slice (some ⟨b6, o6, none⟩) data.length cap]] w _
  obtain ⟨old, hold⟩ : ∃ old, fromS sq E.want = old := ⟨_, rfl⟩
  have hfrom := fun (w : World) (L : List Asn) (H : Holds I w L) => from_any (a := sq) (b := E.want) H (by unfold M; omega) hwt
  rw [hold] at hfrom
  obtain ⟨x0, hx0⟩ : ∃ x, atD data 0 = x := ⟨_, rfl⟩
  rw [hx0] at hr0
  have hbl : ((data.take (data.length - 2)).drop 1).length = data.length - 3 := by rw [List.length_drop, List.length_take]; omega
  have e1 : IntKind.i64.wrap ((data.length : Int) - 2) = ((data.length - 2 : Nat) : Int) := by rw [wrap_i64 (by omega) (by omega)]; omega
  by_cases hold2 : data.length - 3 ≤ old
  · have hd : dataS E ⟨kind, id, (sq : Nat), n, data⟩ = E := by
      unfold dataS
      show (if ((data.take (data.length - 2)).drop 1).length ≤ fromS sq E.want then E else _) = E
      rw [hbl, hold, if_pos hold2]
    rw [hd]
    refine ok_stream_End_take.rets rfl ?_
    repeat' (first
      | rw [e1]
      | (refine VcL.sliceN (l := 1) (h := data.length - 2) tabOk rfl rfl rfl rfl rfl rfl rfl (by omega) (by omega) (fun q1 hq1 => ?_))
      | (show VcL _ _ _ _ _ _ _ _; first
      | refine VcL.pures tabOk rfl ?_
      | refine VcL.nil ?_
      | (show VcL _ _ _ _ (⟨_, .load _ _, _, _, _, _⟩ :: _) _ _ _; refine VcL.load1 tabOk rfl rfl rfl rfl rfl (by exact Holds.cell H rfl) ?_)
      | refine VcL.box H rfl rfl rfl rfl rfl (fun b w H => ?_))
      | (show VcD _ _ _ _ _ _ _ _ _; first
      | refine VcD.pures tabOk rfl ?_
      | refine VcD.done ?_
      | (show VcD _ _ _ _ _ (.take _ _) _ _ _; refine VcD.load1 tabOk rfl rfl rfl rfl rfl rfl (by intro w_ hw_; first | exact Holds.cell hw_ rfl | exact Holds.cell (Holds.f1 hw_) rfl) (by exact rfl) ?_)
      | (show VcD _ _ _ _ _ (.only _ _) _ _ _; (refine VcD.callF (f := F_stream_from) rfl ok_stream_from rfl rfl rfl rfl (Rets.mono (hfrom _ _ H) ?_); rintro _ w ⟨rfl, H⟩; refine ⟨(by exact H), ?_⟩)))
      | (show Vc _ _ _ _ _ _; first
      | refine Vc.seq ?_
      | refine Vc.region ?_
      | refine Vc.ret ?_
      | refine Vc.drawnH (id := 2) H (.pure 0 (.pure 2 (.pure 3 (.pure 4 (.take 1 (.take 5 (.only 6 (.pure 7 .done)))))))) mixed (by kernel_rfl) (fun w H => ?_)
      | (refine Vc.cond rfl (fun h => ?_) (fun h => ?_) <;> first | (exfalso; simp only [decide_eq_true_eq, decide_eq_false_iff_not, Bool.not_eq_true', Bool.not_eq_false'] at h; omega) | (with_reducible have hp := of_decide_eq_true h)))
      | (show KSeq _ _ _ _ _ _ _; first
      | refine KSeq.normal ?_
      | refine KSeq.ret ?_)
      | (show KEnd _ _ _ _ _ _ _; refine KEnd.fin (Or.inr rfl) ⟨_, ResL.nil, ?_⟩))
    exact end_close _ hm hl (Holds.drop H)
  · obtain ⟨wn, hwn⟩ : ∃ wn, winS E = wn := ⟨_, rfl⟩
    have hwn2 : wn = 200 - ib.length := by rw [← hwn, hil]; rfl
    obtain ⟨c, hc⟩ : ∃ c, ((data.take (data.length - 2)).drop 1).drop old = c := ⟨_, rfl⟩
    have hcl : c.length = data.length - 3 - old := by rw [← hc, List.length_drop, hbl]
    obtain ⟨n3, hn3⟩ : ∃ n3, min c.length wn = n3 := ⟨_, rfl⟩
    obtain ⟨d, hd⟩ : ∃ d, c.take wn = d := ⟨_, rfl⟩
    have hdl : d.length = n3 := by rw [← hd, List.length_take]; omega
    have hd3 : c.take n3 = d := by
      rw [← hd]
      rcases Nat.le_total c.length wn with h | h
      · rw [show n3 = c.length by omega, List.take_length, List.take_of_length_le h]
      · rw [show n3 = wn by omega]
    have hmin : min ((data.length - 2 - 1 - old : Nat) : Int) (wn : Int) = (n3 : Int) := by omega
    have hE : dataS E ⟨kind, id, (sq : Nat), n, data⟩ = { E with inn := E.inn ++ markS d (decide (c.length ≤ wn) && decide (x0.toNat = 1)), want := plusS E.want n3 } := by
      unfold dataS
      show (if ((data.take (data.length - 2)).drop 1).length ≤ fromS sq E.want then E else _) = _
      rw [hbl, hold, if_neg hold2]
      show ({ E with inn := E.inn ++ markS ((((data.take (data.length - 2)).drop 1).drop (fromS sq E.want)).take (winS E)) (decide ((((data.take (data.length - 2)).drop 1).drop (fromS sq E.want)).length ≤ winS E) && decide ((atD data 0).toNat = 1)), want := plusS E.want ((((data.take (data.length - 2)).drop 1).drop (fromS sq E.want)).take (winS E)).length } : En) = _
      rw [hold, hc, hwn, hd, hdl, hx0]
    rw [hE]
    have hplus := fun (w : World) (L : List Asn) (H : Holds I w L) => plus_any (a := E.want) (b := n3) H (by unfold M at hwt; omega) (by omega)
    have hmsl := marksL_len E.inn 0
    rw [hl.marks] at hmsl
    have hok : ∀ fl, EnOk { E with inn := E.inn ++ markS d fl, want := plusS E.want n3 } := fun fl => { ok with inn := by show (E.inn ++ markS d fl).length ≤ 200; rw [List.length_append, markS_len]; omega, want := plusS_lt _ _ }
    have hinn : ∀ fl, (E.inn ++ markS d fl).map (·.1) = ib ++ d := fun fl => by rw [List.map_append, markS_fst, hl.inn]
    have hmk : ∀ fl, marksL 0 (E.inn ++ markS d fl) = ms ++ (if fl = true ∧ d ≠ [] then [ib.length + n3] else []) := fun fl => by rw [marksL_append, hl.marks, marksL_mark, Nat.zero_add, hil, hdl]
    have hdne : d ≠ [] ∨ n3 = 0 := by
      cases d with
      | nil => exact .inr hdl.symm
      | cons a r => exact .inl (by simp)
    by_cases hw : c.length ≤ wn
    · have dw : decide (((data.length - 2 - 1 - old : Nat) : Int) ≤ (wn : Int)) = true := decide_eq_true (by omega)
      have hr0' := RdI.toW (L := own (.slice A1 ob.length c1) 5 1 ob.length (byL ob) :: own (.slice A2 es.length c2) 3 1 es.length (es.flatMap ntC) :: own (.slice A4 ms.length c4) 3 1 ms.length (ms.flatMap ntC) :: own (.slice A5 cd.length c5) 22 1 cd.length (cd.flatMap bkC) :: L) hr0
      by_cases hx1 : x0.toNat = 1
      · have dx : decide ((x0.toNat : Int) = 1) = true := decide_eq_true (by omega)
        refine ok_stream_End_take.rets rfl ?_
        repeat' (first
          | rw [e1]
          | rw [dw]
          | rw [dx]
          | rw [hmin]
          | (refine VcL.sliceN (l := 1) (h := data.length - 2) tabOk rfl rfl rfl rfl rfl rfl rfl (by omega) (by omega) (fun q1 hq1 => ?_))
          | (refine VcL.sliceFrom (l := old) tabOk rfl rfl rfl rfl rfl rfl (by omega) (by omega) (fun q2 hq2 => ?_))
          | (refine VcL.sliceTo (h := n3) tabOk rfl rfl rfl rfl rfl rfl (by omega) ?_)
          | (refine VcL.append (m := n3) (ds := byL d) tabOk rfl rfl rfl rfl (Holds.f4 H) (SlR.src (v := .slice (some ⟨b6, q2, none⟩) n3 (cap - 1 - old)) (by rw [← hd3, ← hc, ← byL_take, ← byL_drop, ← byL_drop, ← byL_take]; exact SlR.take (SlR.drop (SlR.drop (SlR.take hdv.toR (by omega)) (by omega) hq1) (by omega) hq2) (by omega)) (Holds.drop (Holds.f4 H))) (byL_one d) (by show (_ + _) * 1 ≤ _; omega) rfl rfl rfl (fun v_ w H => ?_); obtain ⟨_, A7, c7, rfl⟩ := Holds.own_len H)
          | (refine VcD.append tabOk rfl rfl rfl rfl rfl (Holds.f6 H) (Src.slice rfl (Holds.pt_rd H)) (ntC_one [ib.length + n3]) (by show (ms.length + 1) * 8 ≤ _; omega) rfl rfl rfl (fun v_ w H => ⟨Holds.rdWhole (Holds.f2 H), ?_⟩); obtain ⟨_, A8, c8, rfl⟩ := Holds.own_len H)
          | (show VcL _ _ _ _ _ _ _ _; first
      | refine VcL.pures tabOk rfl ?_
      | refine VcL.nil ?_
      | (show VcL _ _ _ _ (⟨_, .load _ _, _, _, _, _⟩ :: _) _ _ _; refine VcL.load1 tabOk rfl rfl rfl rfl rfl (by first | exact Holds.cell H rfl | exact Holds.cell (Holds.f1 H) rfl | exact Holds.cell (Holds.f2 H) rfl | exact RdW.get (by assumption) rfl (Holds.drop (Holds.drop (Holds.drop H)))) ?_)
      | (show VcL _ _ _ _ (⟨_, .indexAddr _ _ _, _, _, _, _⟩ :: _) _ _ _; refine VcL.indexAddr tabOk rfl rfl rfl rfl rfl rfl (by omega) (by omega) ?_)
      | refine VcL.box H rfl rfl rfl rfl rfl (fun b w H => ?_)
      | (show VcL _ _ _ _ (⟨_, .store _ _ _, _, _, _, _⟩ :: _) _ _ _; refine VcL.store tabOk rfl (by first | exact H | exact (Holds.f2 H)) rfl rfl (by exact rfl) (by exact rfl) (by exact rfl) (by exact rfl) (fun w H => ?_))
      | (show VcL _ _ _ _ (⟨_, .call ⟨.value (.func F_stream_plus), _, _⟩, _, _, _, _⟩ :: _) _ _ _; (refine VcL.callF ok_stream_plus rfl rfl rfl rfl (Rets.mono (hplus _ _ H) ?_); rintro _ w ⟨rfl, H⟩))
      | (show VcL _ _ _ _ (⟨_, .call ⟨.value (.func F_stream_End_window), _, _⟩, _, _, _, _⟩ :: _) _ _ _; (refine VcL.callF ok_stream_End_window rfl rfl rfl rfl (Rets.mono (window_any (E := E) (m := ⟨.slice A1 ob.length c1, .slice A2 es.length c2, .slice A3 ib.length c3, .slice A4 ms.length c4, nv, .slice A5 cd.length c5, cd⟩) H (RdW.mem (by repeat (first | exact .head _ | apply List.Mem.tail))) rfl hil hin) ?_); rintro _ w ⟨rfl, H⟩; rw [hwn]))
      | (refine VcL.guard rfl rfl rfl rfl (fun h => ?_) (fun h => ?_) <;> first | (cases h; done) | skip))
          | (show VcD _ _ _ _ _ _ _ _ _; first
      | refine VcD.pures tabOk rfl ?_
      | refine VcD.done ?_
      | (show VcD _ _ _ _ _ (.take _ _) _ _ _; refine VcD.load1 tabOk rfl rfl rfl rfl rfl rfl (by intro w_ hw_; first | exact Holds.cell hw_ rfl | exact Holds.cell (Holds.f1 hw_) rfl | exact hw_ _ _ rfl) (by exact rfl) ?_)
      | (show VcD _ _ _ _ _ (.only _ _) _ _ _; first
      | (refine VcD.callF (f := F_stream_from) rfl ok_stream_from rfl rfl rfl rfl (Rets.mono (hfrom _ _ H) ?_); rintro _ w ⟨rfl, H⟩; refine ⟨(by exact H), ?_⟩)
      | (refine VcD.eff rfl rfl rfl rfl (OpE.buildSliceP tabOk H rfl rfl rfl rfl) ?_; rintro _ w ⟨b_, rfl, H⟩; refine ⟨(by exact Holds.rdWhole (Holds.f1 H)), ?_⟩)
      | (refine VcD.eff rfl rfl rfl rfl (OpE.store tabOk (by exact (Holds.f2 H)) rfl rfl rfl (by exact rfl) (by exact rfl) (by exact rfl) (by exact rfl)) ?_; rintro _ w ⟨_, H⟩; refine ⟨(by trivial), ?_⟩)))
          | (show Vc _ _ _ _ _ _; first
      | refine Vc.seq ?_
      | refine Vc.region ?_
      | refine Vc.condT rfl ?_
      | refine Vc.skip ?_
      | refine Vc.drawnH (id := 2) H (.pure 0 (.pure 2 (.pure 3 (.pure 4 (.take 1 (.take 5 (.only 6 (.pure 7 .done)))))))) mixed (by kernel_rfl) (fun w H => ?_)
      | (refine Vc.drawn (id := 10) (.pure 0 (.pure 1 (.pure 2 (.pure 3 (.pure 5 (.pure 6 (.pure 7 (.take 4 (.take 8 (.pure 9 (.only 10 (.only 11 (.pure 12 (.pure 13 (.only 14 .done))))))))))))))) (.till (fun w => Rd w e 0 (endV { E with want := plusS E.want n3 } ⟨.slice A1 ob.length c1, .slice A2 es.length c2, .slice A7 (ib.length + n3) c7, .slice A4 ms.length c4, nv, .slice A5 cd.length c5, cd⟩)) 14 (.one (fun _ => True))) mixed (by kernel_rfl) (by exact Holds.rdWhole (Holds.drew H _)) ?_; have H := H.drew (w.drawn + 1))
      | (refine Vc.cond rfl (fun h => ?_) (fun h => ?_) <;> first | (exfalso; simp only [decide_eq_true_eq, decide_eq_false_iff_not, Bool.not_eq_true', Bool.not_eq_false'] at h; omega) | (with_reducible have hp := of_decide_eq_false h)))
          | (show KSeq _ _ _ _ _ _ _; refine KSeq.normal ?_)
          | (show KEnd _ _ _ _ _ _ _; refine KEnd.fin (Or.inl rfl) ⟨_, ResL.nil, ?_⟩))
        have hne : d ≠ [] := by rcases hdne with h | h; exact h; omega
        refine end_close (ob := ob) (es := es) (ib := ib ++ d) (ms := ms ++ [ib.length + n3]) ⟨.slice A1 ob.length c1, .slice A2 es.length c2, .slice A7 (ib.length + n3) c7, .slice A8 (ms.length + 1) c8, nv, .slice A5 cd.length c5, cd⟩ ⟨hok _, hm.news, hm.codes, hm.each⟩ ⟨hl.out, hl.ends, hinn _, ?_⟩ ?_
        · rw [decide_eq_true hw, decide_eq_true hx1]
          show marksL 0 (E.inn ++ markS d true) = _
          rw [hmk, if_pos ⟨rfl, hne⟩]
        · show Holds I w (blk e _ _ :: own _ _ 1 ob.length _ :: own _ _ 1 es.length _ :: own _ _ 1 (ib ++ d).length (byL (ib ++ d)) :: own _ _ 1 (ms ++ [ib.length + n3]).length ((ms ++ [ib.length + n3]).flatMap ntC) :: _)
          rw [List.length_append, hdl, show byL (ib ++ d) = byL ib ++ byL d from List.map_append, List.length_append, flat_snoc]
          exact Holds.re [0, 2, 2, 1, 0, 0] (Holds.drop3 (Holds.drop2 H)) rfl
      · have dx : decide ((x0.toNat : Int) = 1) = false := decide_eq_false (by omega)
        refine ok_stream_End_take.rets rfl ?_
        repeat' (first
          | rw [e1]
          | rw [dw]
          | rw [dx]
          | rw [hmin]
          | (refine VcL.sliceN (l := 1) (h := data.length - 2) tabOk rfl rfl rfl rfl rfl rfl rfl (by omega) (by omega) (fun q1 hq1 => ?_))
          | (refine VcL.sliceFrom (l := old) tabOk rfl rfl rfl rfl rfl rfl (by omega) (by omega) (fun q2 hq2 => ?_))
          | (refine VcL.sliceTo (h := n3) tabOk rfl rfl rfl rfl rfl rfl (by omega) ?_)
          | (refine VcL.append (m := n3) (ds := byL d) tabOk rfl rfl rfl rfl (Holds.f4 H) (SlR.src (v := .slice (some ⟨b6, q2, none⟩) n3 (cap - 1 - old)) (by rw [← hd3, ← hc, ← byL_take, ← byL_drop, ← byL_drop, ← byL_take]; exact SlR.take (SlR.drop (SlR.drop (SlR.take hdv.toR (by omega)) (by omega) hq1) (by omega) hq2) (by omega)) (Holds.drop (Holds.f4 H))) (byL_one d) (by show (_ + _) * 1 ≤ _; omega) rfl rfl rfl (fun v_ w H => ?_); obtain ⟨_, A7, c7, rfl⟩ := Holds.own_len H)
          | (show VcL _ _ _ _ _ _ _ _; first
      | refine VcL.pures tabOk rfl ?_
      | refine VcL.nil ?_
      | (show VcL _ _ _ _ (⟨_, .load _ _, _, _, _, _⟩ :: _) _ _ _; refine VcL.load1 tabOk rfl rfl rfl rfl rfl (by first | exact Holds.cell H rfl | exact Holds.cell (Holds.f1 H) rfl | exact Holds.cell (Holds.f2 H) rfl | exact RdW.get (by assumption) rfl (Holds.drop (Holds.drop (Holds.drop H)))) ?_)
      | (show VcL _ _ _ _ (⟨_, .indexAddr _ _ _, _, _, _, _⟩ :: _) _ _ _; refine VcL.indexAddr tabOk rfl rfl rfl rfl rfl rfl (by omega) (by omega) ?_)
      | refine VcL.box H rfl rfl rfl rfl rfl (fun b w H => ?_)
      | (show VcL _ _ _ _ (⟨_, .store _ _ _, _, _, _, _⟩ :: _) _ _ _; refine VcL.store tabOk rfl (by first | exact H | exact (Holds.f2 H)) rfl rfl (by exact rfl) (by exact rfl) (by exact rfl) (by exact rfl) (fun w H => ?_))
      | (show VcL _ _ _ _ (⟨_, .call ⟨.value (.func F_stream_plus), _, _⟩, _, _, _, _⟩ :: _) _ _ _; (refine VcL.callF ok_stream_plus rfl rfl rfl rfl (Rets.mono (hplus _ _ H) ?_); rintro _ w ⟨rfl, H⟩))
      | (show VcL _ _ _ _ (⟨_, .call ⟨.value (.func F_stream_End_window), _, _⟩, _, _, _, _⟩ :: _) _ _ _; (refine VcL.callF ok_stream_End_window rfl rfl rfl rfl (Rets.mono (window_any (E := E) (m := ⟨.slice A1 ob.length c1, .slice A2 es.length c2, .slice A3 ib.length c3, .slice A4 ms.length c4, nv, .slice A5 cd.length c5, cd⟩) H (RdW.mem (by repeat (first | exact .head _ | apply List.Mem.tail))) rfl hil hin) ?_); rintro _ w ⟨rfl, H⟩; rw [hwn]))
      | (refine VcL.guard rfl rfl rfl rfl (fun h => ?_) (fun h => ?_) <;> first | (cases h; done) | skip))
          | (show VcD _ _ _ _ _ _ _ _ _; first
      | refine VcD.pures tabOk rfl ?_
      | refine VcD.done ?_
      | (show VcD _ _ _ _ _ (.take _ _) _ _ _; refine VcD.load1 tabOk rfl rfl rfl rfl rfl rfl (by intro w_ hw_; first | exact Holds.cell hw_ rfl | exact Holds.cell (Holds.f1 hw_) rfl) (by exact rfl) ?_)
      | (show VcD _ _ _ _ _ (.only _ _) _ _ _; (refine VcD.callF (f := F_stream_from) rfl ok_stream_from rfl rfl rfl rfl (Rets.mono (hfrom _ _ H) ?_); rintro _ w ⟨rfl, H⟩; refine ⟨(by exact H), ?_⟩)))
          | (show Vc _ _ _ _ _ _; first
      | refine Vc.seq ?_
      | refine Vc.region ?_
      | refine Vc.condF rfl ?_
      | refine Vc.skip ?_
      | refine Vc.drawnH (id := 2) H (.pure 0 (.pure 2 (.pure 3 (.pure 4 (.take 1 (.take 5 (.only 6 (.pure 7 .done)))))))) mixed (by kernel_rfl) (fun w H => ?_)
      | (refine Vc.cond rfl (fun h => ?_) (fun h => ?_) <;> first | (exfalso; simp only [decide_eq_true_eq, decide_eq_false_iff_not, Bool.not_eq_true', Bool.not_eq_false'] at h; omega) | (with_reducible have hp := of_decide_eq_false h)))
          | (show KSeq _ _ _ _ _ _ _; refine KSeq.normal ?_)
          | (show KEnd _ _ _ _ _ _ _; refine KEnd.fin (Or.inl rfl) ⟨_, ResL.nil, ?_⟩))
        refine end_close (ob := ob) (es := es) (ib := ib ++ d) (ms := ms) ⟨.slice A1 ob.length c1, .slice A2 es.length c2, .slice A7 (ib.length + n3) c7, .slice A4 ms.length c4, nv, .slice A5 cd.length c5, cd⟩ ⟨hok _, hm.news, hm.codes, hm.each⟩ ⟨hl.out, hl.ends, hinn _, ?_⟩ ?_
        · rw [decide_eq_true hw, decide_eq_false hx1]
          show marksL 0 (E.inn ++ markS d false) = _
          rw [hmk, if_neg (fun h => by cases h.1), List.append_nil]
        · show Holds I w (blk e _ _ :: own _ _ 1 ob.length _ :: own _ _ 1 es.length _ :: own _ _ 1 (ib ++ d).length (byL (ib ++ d)) :: _)
          rw [List.length_append, hdl, show byL (ib ++ d) = byL ib ++ byL d from List.map_append]
          exact Holds.re [0, 1, 1, 0] (Holds.drop2 H) rfl
    · have dw : decide (((data.length - 2 - 1 - old : Nat) : Int) ≤ (wn : Int)) = false := decide_eq_false (by omega)
      refine ok_stream_End_take.rets rfl ?_
      repeat' (first
        | rw [e1]
        | rw [dw]
        | rw [hmin]
        | (refine VcL.sliceN (l := 1) (h := data.length - 2) tabOk rfl rfl rfl rfl rfl rfl rfl (by omega) (by omega) (fun q1 hq1 => ?_))
        | (refine VcL.sliceFrom (l := old) tabOk rfl rfl rfl rfl rfl rfl (by omega) (by omega) (fun q2 hq2 => ?_))
        | (refine VcL.sliceTo (h := n3) tabOk rfl rfl rfl rfl rfl rfl (by omega) ?_)
        | (refine VcL.append (m := n3) (ds := byL d) tabOk rfl rfl rfl rfl (Holds.f4 H) (SlR.src (v := .slice (some ⟨b6, q2, none⟩) n3 (cap - 1 - old)) (by rw [← hd3, ← hc, ← byL_take, ← byL_drop, ← byL_drop, ← byL_take]; exact SlR.take (SlR.drop (SlR.drop (SlR.take hdv.toR (by omega)) (by omega) hq1) (by omega) hq2) (by omega)) (Holds.drop (Holds.f4 H))) (byL_one d) (by show (_ + _) * 1 ≤ _; omega) rfl rfl rfl (fun v_ w H => ?_); obtain ⟨_, A7, c7, rfl⟩ := Holds.own_len H)
        | (show VcL _ _ _ _ _ _ _ _; first
      | refine VcL.pures tabOk rfl ?_
      | refine VcL.nil ?_
      | (show VcL _ _ _ _ (⟨_, .load _ _, _, _, _, _⟩ :: _) _ _ _; refine VcL.load1 tabOk rfl rfl rfl rfl rfl (by first | exact Holds.cell H rfl | exact Holds.cell (Holds.f1 H) rfl) ?_)
      | refine VcL.box H rfl rfl rfl rfl rfl (fun b w H => ?_)
      | (show VcL _ _ _ _ (⟨_, .store _ _ _, _, _, _, _⟩ :: _) _ _ _; refine VcL.store tabOk rfl (by first | exact H | exact (Holds.f2 H)) rfl rfl (by exact rfl) (by exact rfl) (by exact rfl) (by exact rfl) (fun w H => ?_))
      | (show VcL _ _ _ _ (⟨_, .call ⟨.value (.func F_stream_plus), _, _⟩, _, _, _, _⟩ :: _) _ _ _; (refine VcL.callF ok_stream_plus rfl rfl rfl rfl (Rets.mono (hplus _ _ H) ?_); rintro _ w ⟨rfl, H⟩))
      | (show VcL _ _ _ _ (⟨_, .call ⟨.value (.func F_stream_End_window), _, _⟩, _, _, _, _⟩ :: _) _ _ _; (refine VcL.callF ok_stream_End_window rfl rfl rfl rfl (Rets.mono (window_any (E := E) (m := ⟨.slice A1 ob.length c1, .slice A2 es.length c2, .slice A3 ib.length c3, .slice A4 ms.length c4, nv, .slice A5 cd.length c5, cd⟩) H (RdW.mem (by repeat (first | exact .head _ | apply List.Mem.tail))) rfl hil hin) ?_); rintro _ w ⟨rfl, H⟩; rw [hwn]))
      | (refine VcL.guard rfl rfl rfl rfl (fun h => ?_) (fun h => ?_) <;> first | (cases h; done) | skip))
        | (show VcD _ _ _ _ _ _ _ _ _; first
      | refine VcD.pures tabOk rfl ?_
      | refine VcD.done ?_
      | (show VcD _ _ _ _ _ (.take _ _) _ _ _; refine VcD.load1 tabOk rfl rfl rfl rfl rfl rfl (by intro w_ hw_; first | exact Holds.cell hw_ rfl | exact Holds.cell (Holds.f1 hw_) rfl) (by exact rfl) ?_)
      | (show VcD _ _ _ _ _ (.only _ _) _ _ _; (refine VcD.callF (f := F_stream_from) rfl ok_stream_from rfl rfl rfl rfl (Rets.mono (hfrom _ _ H) ?_); rintro _ w ⟨rfl, H⟩; refine ⟨(by exact H), ?_⟩)))
        | (show Vc _ _ _ _ _ _; first
      | refine Vc.seq ?_
      | refine Vc.region ?_
      | refine Vc.condF rfl ?_
      | refine Vc.skip ?_
      | refine Vc.drawnH (id := 2) H (.pure 0 (.pure 2 (.pure 3 (.pure 4 (.take 1 (.take 5 (.only 6 (.pure 7 .done)))))))) mixed (by kernel_rfl) (fun w H => ?_)
      | (refine Vc.cond rfl (fun h => ?_) (fun h => ?_) <;> first | (exfalso; simp only [decide_eq_true_eq, decide_eq_false_iff_not, Bool.not_eq_true', Bool.not_eq_false'] at h; omega) | (with_reducible have hp := of_decide_eq_false h)))
        | (show KSeq _ _ _ _ _ _ _; refine KSeq.normal ?_)
        | (show KEnd _ _ _ _ _ _ _; refine KEnd.fin (Or.inl rfl) ⟨_, ResL.nil, ?_⟩))
      refine end_close (ob := ob) (es := es) (ib := ib ++ d) (ms := ms) ⟨.slice A1 ob.length c1, .slice A2 es.length c2, .slice A7 (ib.length + n3) c7, .slice A4 ms.length c4, nv, .slice A5 cd.length c5, cd⟩ ⟨hok _, hm.news, hm.codes, hm.each⟩ ⟨hl.out, hl.ends, hinn _, ?_⟩ ?_
      · rw [decide_eq_false hw, Bool.false_and]
        show marksL 0 (E.inn ++ markS d false) = _
        rw [hmk, if_neg (fun h => by cases h.1), List.append_nil]
      · show Holds I w (blk e _ _ :: own _ _ 1 ob.length _ :: own _ _ 1 es.length _ :: own _ _ 1 (ib ++ d).length (byL (ib ++ d)) :: _)
        rw [List.length_append, hdl, show byL (ib ++ d) = byL ib ++ byL d from List.map_append]
        exact Holds.re [0, 1, 1, 0] (Holds.drop2 H) rfl
end Go.Proofs.Ytpfgcchammlpgaa.V
