/- The document's end: bytes that come. -/
import Derived.Test.YtpfgcchammlpgaaVU
namespace Go.Proofs.Ytpfgcchammlpgaa.V
open Go Go.Proofs.YtpfgcchammlpgaaV
set_option linter.unusedVariables false
set_option linter.unusedSimpArgs false
set_option maxHeartbeats 1000000
set_option maxRecDepth 4000
attribute [local irreducible] IntKind.wrap refA
variable {I : Imm} {w : World} {L : List Asn}
theorem markS_cut : ∀ (c : By) (en : Bool) (k : Nat), (markS c en).take k = markS (c.take k) (decide (c.length ≤ k) && en)
  | [], en, k => by simp [markS]
  | [x], en, 0 => by simp [markS]
  | [x], en, k + 1 => by simp [markS]
  | x :: y :: r, en, 0 => by simp [markS]
  | x :: y :: r, en, 1 => by simp [markS]
  | x :: y :: r, en, k + 2 => by
    have ih := markS_cut (y :: r) en (k + 1)
    rw [show markS (x :: y :: r) en = (x, false) :: markS (y :: r) en from rfl, List.take_succ_cons, ih, List.take_succ_cons, List.take_succ_cons, List.take_succ_cons]
    simp [markS]
def dataL (E : En) (seq : Nat) (b : By) (en : Bool) : En :=
  if b.length ≤ fromS seq E.want then E else
  { E with inn := E.inn ++ markS ((b.drop (fromS seq E.want)).take (winS E)) (decide ((b.drop (fromS seq E.want)).length ≤ winS E) && en), want := plusS E.want ((b.drop (fromS seq E.want)).take (winS E)).length }
theorem dataL_eq (E : En) (f : Fr) : dataL E f.seq.toNat ((f.data.take (f.data.length - 2)).drop 1) (decide ((atD f.data 0).toNat = 1)) = dataS E f := rfl
theorem dataR_any {e : Nat} {E : En} (H : Holds I w (refA I e E :: L)) {seq : Nat} (hs : seq < M) {v : Value} {l : By} (hv : SlI I v 1 l.length (byL l)) (hl2 : l.length ≤ 100) {en : Bool} :
    Rets Try.prog F_tithingref12_End_data #[ptr e, .int .i64 (seq : Nat), v, .bool en] w fun u w' => Holds I w' (refA I e (dataL E seq l en) :: L) := by
  obtain ⟨A, cap, rfl, hcap⟩ := hv.form
  obtain ⟨A1, c1, A2, c2, av, A3, c3, cd, hm, HB⟩ := ref_open H
  clear H
  have H := HB
  clear HB
  have ok := hm.ok
  have hi := ok.inn
  obtain ⟨old, hold⟩ : ∃ k, fromS seq E.want = k := ⟨_, rfl⟩
  have hah := fun w H => aheadR_any (w := w) (I := I) (L := refQ e E ⟨.slice A1 E.out.length c1, .slice A2 E.inn.length c2, av, .slice A3 cd.length c3, cd⟩ L) H hs ok.want
  rw [hold] at hah
  unfold dataL
  rw [hold]
  refine ok_tithingref12_End_data.rets rfl ?_
  repeat' (first
    | (show VcL _ _ _ _ _ _ _ _; first
      | refine VcL.pures tabOk rfl ?_
      | refine VcL.nil ?_
      | (show VcL _ _ _ _ (⟨_, .load _ _, _, _, _, _⟩ :: _) _ _ _; refine VcL.load1 tabOk rfl rfl rfl rfl rfl (by exact Holds.cell H rfl) ?_)
      | (show VcL _ _ _ _ (⟨_, .call ⟨.value (.func F_tithingref12_ahead), _, _⟩, _, _, _, _⟩ :: _) _ _ _; (refine VcL.callF ok_tithingref12_ahead rfl rfl rfl rfl (Rets.mono (hah _ H) ?_); rintro _ w ⟨rfl, H⟩))
      | (refine VcL.guard rfl rfl rfl rfl (fun h => ?_) (fun h => ?_) <;> first | (with_reducible have hp := of_decide_eq_true h) | (with_reducible have hp := of_decide_eq_false h)))
    | (show Vc _ _ _ _ _ _; first
      | refine Vc.seq ?_
      | refine Vc.region ?_
      | refine Vc.condT rfl ?_
      | refine Vc.ret ?_
      | refine Vc.skip ?_
      | refine Vc.block ?_
      | (refine Vc.cond rfl (fun h => ?_) (fun h => ?_) <;> first | (with_reducible have hp := of_decide_eq_true h) | (with_reducible have hp := of_decide_eq_false h)))
    | (show KSeq _ _ _ _ _ _ _; first
      | refine KSeq.normal ?_
      | refine KSeq.ret ?_)
    | (show KEnd _ _ _ _ _ _ _; refine KEnd.fin (Or.inr rfl) ⟨_, ResL.nil, ?_⟩))
  · rw [if_pos (by omega)]
    exact ref_close _ hm H
  · rw [if_pos (by omega)]
    exact ref_close _ hm H
  · have hle : old ≤ l.length := by omega
    obtain ⟨c, hc⟩ : ∃ c, l.drop old = c := ⟨_, rfl⟩
    have hcl : c.length = l.length - old := by rw [← hc, List.length_drop]
    refine Vc.loopS [(0, _), (2, _), (3, _)] (fun s : Nat × Option Addr × Nat => [(9, .int .i64 ((old + s.1 : Nat) : Int))]) (fun s w => s.1 ≤ c.length ∧ E.inn.length + s.1 ≤ 200 ∧ Holds I w (blk e 88 (refV { E with want := plusS E.want s.1 } ⟨.slice A1 E.out.length c1, .slice s.2.1 (E.inn.length + s.1) s.2.2, av, .slice A3 cd.length c3, cd⟩) :: own (.slice A1 E.out.length c1) 105 2 E.out.length (E.out.flatMap bfC) :: own (.slice s.2.1 (E.inn.length + s.1) s.2.2) 105 2 (E.inn.length + s.1) ((E.inn ++ (markS c en).take s.1).flatMap bfC) :: own (.slice A3 cd.length c3) 22 1 cd.length (cd.flatMap bkC) :: L)) (fun s _ => c.length - s.1) (0, A2, c2) ⟨rfl, trivial⟩ ⟨rfl, rfl, rfl, trivial⟩ ⟨Nat.zero_le _, hi, (by have hw : plusS E.want 0 = E.want := Nat.mod_eq_of_lt ok.want; rw [hw]; simpa using H)⟩ ?_
    clear H
    rintro ⟨j, A2, c2⟩ w ⟨hj, hj2, H⟩
    dsimp only at hj hj2 H ⊢
    have hln : (E.inn ++ (markS c en).take j).length = E.inn.length + j := by rw [List.length_append, List.length_take, markS_len]; omega
    have hroom := fun w H => roomR_any (w := w) (I := I) (E := { E with inn := E.inn ++ (markS c en).take j, want := plusS E.want j }) (m := ⟨.slice A1 E.out.length c1, .slice A2 (E.inn.length + j) c2, av, .slice A3 cd.length c3, cd⟩) (e := e) (L := blk e 88 (refV { E with want := plusS E.want j } ⟨.slice A1 E.out.length c1, .slice A2 (E.inn.length + j) c2, av, .slice A3 cd.length c3, cd⟩) :: own (.slice A1 E.out.length c1) 105 2 E.out.length (E.out.flatMap bfC) :: own (.slice A2 (E.inn.length + j) c2) 105 2 (E.inn.length + j) ((E.inn ++ (markS c en).take j).flatMap bfC) :: own (.slice A3 cd.length c3) 22 1 cd.length (cd.flatMap bkC) :: L) H Holds.toW rfl hln.symm (by show (E.inn ++ (markS c en).take j).length ≤ 200; omega)
    rw [show winS { E with inn := E.inn ++ (markS c en).take j, want := plusS E.want j } = 200 - (E.inn.length + j) by unfold winS; show 200 - (E.inn ++ (markS c en).take j).length = _; rw [hln]] at hroom
    by_cases hgo : j < c.length ∧ E.inn.length + j < 200
    · obtain ⟨hj3, hj4⟩ := hgo
      obtain ⟨b2, o, rfl, hr⟩ := hv.at (by omega)
      have hx := (byL_flat l ▸ hr).elem byC_len (atD_get (show old + j < l.length by omega))
      have hat : atD c j = atD l (old + j) := by rw [← hc]; simp [atD]
      have e9 : IntKind.i64.wrap ((l.length : Int) - 1) = ((l.length - 1 : Nat) : Int) := by rw [wrap_i64 (by omega) (by omega)]; omega
      have e10 : decide (((old + j : Nat) : Int) = ((l.length - 1 : Nat) : Int)) = decide (j + 1 = c.length) := decide_eq_decide.2 (by omega)
      have hpl := plusS_lt E.want j
      unfold M at hpl
      have e11 : IntKind.i64.wrap (((plusS E.want j : Nat) : Int) + 1) = ((plusS E.want j + 1 : Nat) : Int) := by rw [wrap_i64 (by omega) (by omega)]; omega
      have e12 : ((plusS E.want j + 1 : Nat) : Int).tmod (Int.ofNat (4294967295 + 1)) = ((plusS E.want (j + 1) : Nat) : Int) := by rw [show (Int.ofNat (4294967295 + 1)) = 4294967296 from rfl, Int.tmod_eq_emod_of_nonneg (by omega)]; unfold plusS M; omega
      have e13 : decide ((0 : Int) < ((200 - (E.inn.length + j) : Nat) : Int)) = true := decide_eq_true (by omega)
      have hres : ∀ (x : Bool) (A7 : Option Addr) (c7 : Nat) (w : World), x = (en && decide (j + 1 = c.length)) → ∀ q q2, Holds I w (blk e 88 (refV { E with want := plusS E.want (j + 1) } ⟨.slice A1 E.out.length c1, .slice A7 (E.inn.length + j + 1) c7, av, .slice A3 cd.length c3, cd⟩) :: q2 :: own (.slice A7 (E.inn.length + j + 1) c7) 105 2 (E.inn.length + j + 1) ((E.inn ++ (markS c en).take j).flatMap bfC ++ bfC (atD l (old + j), x)) :: q) → Holds I w (blk e 88 (refV { E with want := plusS E.want (j + 1) } ⟨.slice A1 E.out.length c1, .slice A7 (E.inn.length + (j + 1)) c7, av, .slice A3 cd.length c3, cd⟩) :: q2 :: own (.slice A7 (E.inn.length + (j + 1)) c7) 105 2 (E.inn.length + (j + 1)) ((E.inn ++ (markS c en).take (j + 1)).flatMap bfC) :: q) := fun x A7 c7 w hx q q2 H => by
        rw [markS_take hj3, ← List.append_assoc, flat_snoc, ← hx, hat]
        exact H
      cases en
      ·
        repeat' (first
          | rw [e11]
          | rw [e12]
          | rw [e13]
          | (refine VcD.append tabOk rfl rfl rfl rfl rfl (Holds.f3 H) (Src.slice rfl (Holds.pt_rd H)) (bfC_slice (atD l (old + j), false)) (by show (_ + 1) * 2 ≤ _; omega) rfl rfl rfl (fun v_ w H => ⟨⟨Holds.rdWhole (Holds.f2 H), hx.rd H⟩, ?_⟩); obtain ⟨_, A7, c7, rfl⟩ := Holds.own_len H)
          | (show VcL _ _ _ _ _ _ _ _; first
      | refine VcL.pures tabOk rfl ?_
      | refine VcL.nil ?_
      | (show VcL _ _ _ _ (⟨_, .load _ _, _, _, _, _⟩ :: _) _ _ _; refine VcL.load1 tabOk rfl rfl rfl rfl rfl (by exact Holds.cell H rfl) ?_)
      | (show VcL _ _ _ _ (⟨_, .store _ _ _, _, _, _, _⟩ :: _) _ _ _; refine VcL.store tabOk rfl (by exact H) rfl rfl (by exact rfl) (by exact rfl) (by exact rfl) (by exact rfl) (fun w H => ?_))
      | (show VcL _ _ _ _ (⟨_, .call ⟨.value (.func F_tithingref12_End_room), _, _⟩, _, _, _, _⟩ :: _) _ _ _; (refine VcL.callF ok_tithingref12_End_room rfl rfl rfl rfl (Rets.mono (hroom _ H) ?_); rintro _ w ⟨rfl, H⟩))
      | (refine VcL.guard rfl rfl rfl rfl (fun h => ?_) (fun h => ?_) <;> first | (exfalso; simp only [decide_eq_true_eq, decide_eq_false_iff_not, Bool.not_eq_true', Bool.not_eq_false'] at h; omega) | (with_reducible have hp := of_decide_eq_true h)))
          | (show VcD _ _ _ _ _ _ _ _ _; first
      | refine VcD.pures tabOk rfl ?_
      | refine VcD.done ?_
      | (show VcD _ _ _ _ _ (.pure _ _) _ _ _; first
      | refine VcD.indexAddr tabOk rfl rfl rfl rfl rfl rfl rfl (by omega) (by omega) ?_
      | (refine VcD.guardP rfl rfl rfl rfl rfl (fun h => ?_) (fun h => ?_) <;> first | (cases h; done) | skip))
      | (show VcD _ _ _ _ _ (.take _ _) _ _ _; refine VcD.load1 tabOk rfl rfl rfl rfl rfl rfl (by intro w_ hw_; first | exact hw_.1 _ _ rfl | exact hw_.2 0 _ rfl) (by exact rfl) ?_)
      | (show VcD _ _ _ _ _ (.only _ _) _ _ _; first
      | (refine VcD.eff rfl rfl rfl rfl (OpE.buildSliceP tabOk H rfl rfl rfl rfl) ?_; rintro _ w ⟨b_, rfl, H⟩; refine ⟨(by (refine ⟨?_, ?_⟩ <;> first | exact Holds.rdWhole (Holds.f1 H) | exact RdI.rd (by assumption) H)), ?_⟩)
      | (refine VcD.eff rfl rfl rfl rfl (OpE.store tabOk (by exact (Holds.f2 H)) rfl rfl rfl (by exact rfl) (by exact rfl) (by exact rfl) (by exact rfl)) ?_; rintro _ w ⟨_, H⟩; refine ⟨(by trivial), ?_⟩)))
          | (show Vc _ _ _ _ _ _; first
      | refine Vc.seq ?_
      | refine Vc.region ?_
      | refine Vc.condT rfl ?_
      | refine Vc.skip ?_
      | refine Vc.block ?_
      | (refine Vc.drawn (id := 5) (.pure 0 (.pure 1 (.pure 2 (.pure 3 (.pure 5 (.pure 6 (.pure 9 (.pure 10 (.pure 11 (.pure 12 (.pure 13 (.pure 14 (.pure 15 (.pure 16 (.take 4 (.pure 7 (.take 8 (.pure 17 (.only 18 (.only 19 (.pure 20 (.pure 21 (.only 22 .done))))))))))))))))))))))) (.till (fun w => Rd w e 0 (refV { E with want := plusS E.want j } ⟨.slice A1 E.out.length c1, .slice A2 (E.inn.length + j) c2, av, .slice A3 cd.length c3, cd⟩) ∧ Rd w b2 (o + (old + j) * 1) [byteV (atD l (old + j))]) 22 (.one (fun _ => True))) mixed (by kernel_rfl) (by (refine ⟨?_, ?_⟩ <;> first | exact Holds.rdWhole (Holds.drew H _) | exact RdI.rd (by assumption) (Holds.drew H _))) ?_; have H := H.drew (w.drawn + 1)))
          | (show KSeq _ _ _ _ _ _ _; refine KSeq.normal ?_)
          | (show KBlock _ _ _ _ _ _; refine KBlock.normal ?_))
        exact KLoop.again (j + 1, A7, c7) ⟨got_succ (k := old + j) rfl (by omega), trivial⟩ ⟨rfl, rfl, rfl, trivial⟩ ⟨hj3, hj4, hres false A7 c7 w rfl _ _ (Holds.re [0, 1, 0] (Holds.drop2 H) rfl)⟩ (by dsimp only; omega)
      · obtain ⟨x, hx2⟩ : ∃ x, decide (j + 1 = c.length) = x := ⟨_, rfl⟩
        rw [hx2] at e10
        repeat' (first
          | rw [e10]
          | rw [e9]
          | rw [e11]
          | rw [e12]
          | rw [e13]
          | (refine VcD.append tabOk rfl rfl rfl rfl rfl (Holds.f3 H) (Src.slice rfl (Holds.pt_rd H)) (bfC_slice (atD l (old + j), x)) (by show (_ + 1) * 2 ≤ _; omega) rfl rfl rfl (fun v_ w H => ⟨⟨Holds.rdWhole (Holds.f2 H), hx.rd H⟩, ?_⟩); obtain ⟨_, A7, c7, rfl⟩ := Holds.own_len H)
          | (show VcL _ _ _ _ _ _ _ _; first
      | refine VcL.pures tabOk rfl ?_
      | refine VcL.nil ?_
      | (show VcL _ _ _ _ (⟨_, .load _ _, _, _, _, _⟩ :: _) _ _ _; refine VcL.load1 tabOk rfl rfl rfl rfl rfl (by exact Holds.cell H rfl) ?_)
      | (show VcL _ _ _ _ (⟨_, .store _ _ _, _, _, _, _⟩ :: _) _ _ _; refine VcL.store tabOk rfl (by exact H) rfl rfl (by exact rfl) (by exact rfl) (by exact rfl) (by exact rfl) (fun w H => ?_))
      | (show VcL _ _ _ _ (⟨_, .call ⟨.value (.func F_tithingref12_End_room), _, _⟩, _, _, _, _⟩ :: _) _ _ _; (refine VcL.callF ok_tithingref12_End_room rfl rfl rfl rfl (Rets.mono (hroom _ H) ?_); rintro _ w ⟨rfl, H⟩))
      | (refine VcL.guard rfl rfl rfl rfl (fun h => ?_) (fun h => ?_) <;> first | (exfalso; simp only [decide_eq_true_eq, decide_eq_false_iff_not, Bool.not_eq_true', Bool.not_eq_false'] at h; omega) | (with_reducible have hp := of_decide_eq_true h)))
          | (show VcD _ _ _ _ _ _ _ _ _; first
      | refine VcD.pures tabOk rfl ?_
      | refine VcD.done ?_
      | (show VcD _ _ _ _ _ (.pure _ _) _ _ _; first
      | refine VcD.indexAddr tabOk rfl rfl rfl rfl rfl rfl rfl (by omega) (by omega) ?_
      | (refine VcD.guardP rfl rfl rfl rfl rfl (fun h => ?_) (fun h => ?_) <;> first | (cases h; done) | skip))
      | (show VcD _ _ _ _ _ (.take _ _) _ _ _; refine VcD.load1 tabOk rfl rfl rfl rfl rfl rfl (by intro w_ hw_; first | exact hw_.1 _ _ rfl | exact hw_.2 0 _ rfl) (by exact rfl) ?_)
      | (show VcD _ _ _ _ _ (.only _ _) _ _ _; first
      | (refine VcD.eff rfl rfl rfl rfl (OpE.buildSliceP tabOk H rfl rfl rfl rfl) ?_; rintro _ w ⟨b_, rfl, H⟩; refine ⟨(by (refine ⟨?_, ?_⟩ <;> first | exact Holds.rdWhole (Holds.f1 H) | exact RdI.rd (by assumption) H)), ?_⟩)
      | (refine VcD.eff rfl rfl rfl rfl (OpE.store tabOk (by exact (Holds.f2 H)) rfl rfl rfl (by exact rfl) (by exact rfl) (by exact rfl) (by exact rfl)) ?_; rintro _ w ⟨_, H⟩; refine ⟨(by trivial), ?_⟩)))
          | (show Vc _ _ _ _ _ _; first
      | refine Vc.seq ?_
      | refine Vc.region ?_
      | refine Vc.condT rfl ?_
      | refine Vc.skip ?_
      | refine Vc.block ?_
      | (refine Vc.drawn (id := 5) (.pure 0 (.pure 1 (.pure 2 (.pure 3 (.pure 5 (.pure 6 (.pure 9 (.pure 10 (.pure 11 (.pure 12 (.pure 13 (.pure 14 (.pure 15 (.pure 16 (.take 4 (.pure 7 (.take 8 (.pure 17 (.only 18 (.only 19 (.pure 20 (.pure 21 (.only 22 .done))))))))))))))))))))))) (.till (fun w => Rd w e 0 (refV { E with want := plusS E.want j } ⟨.slice A1 E.out.length c1, .slice A2 (E.inn.length + j) c2, av, .slice A3 cd.length c3, cd⟩) ∧ Rd w b2 (o + (old + j) * 1) [byteV (atD l (old + j))]) 22 (.one (fun _ => True))) mixed (by kernel_rfl) (by (refine ⟨?_, ?_⟩ <;> first | exact Holds.rdWhole (Holds.drew H _) | exact RdI.rd (by assumption) (Holds.drew H _))) ?_; have H := H.drew (w.drawn + 1)))
          | (show KSeq _ _ _ _ _ _ _; refine KSeq.normal ?_)
          | (show KBlock _ _ _ _ _ _; refine KBlock.normal ?_))
        exact KLoop.again (j + 1, A7, c7) ⟨got_succ (k := old + j) rfl (by omega), trivial⟩ ⟨rfl, rfl, rfl, trivial⟩ ⟨hj3, hj4, hres x A7 c7 w (by rw [hx2]; rfl) _ _ (Holds.re [0, 1, 0] (Holds.drop2 H) rfl)⟩ (by dsimp only; omega)
    · have hfin : j = (c.take (winS E)).length := by rw [List.length_take]; unfold winS; omega
      have hclose : (E.inn ++ markS (c.take (winS E)) (decide (c.length ≤ winS E) && en)) = E.inn ++ (markS c en).take j := by rw [hfin, ← markS_cut, List.length_take]; congr 1; rcases Nat.le_total (winS E) c.length with h | h; rw [Nat.min_eq_left h]; rw [Nat.min_eq_right h, List.take_of_length_le (by rw [markS_len]; omega), List.take_of_length_le (by rw [markS_len]; omega)]
      have hfin2 : ∀ w, Holds I w (blk e 88 (refV { E with want := plusS E.want j } ⟨.slice A1 E.out.length c1, .slice A2 (E.inn.length + j) c2, av, .slice A3 cd.length c3, cd⟩) :: own (.slice A1 E.out.length c1) 105 2 E.out.length (E.out.flatMap bfC) :: own (.slice A2 (E.inn.length + j) c2) 105 2 (E.inn.length + j) ((E.inn ++ (markS c en).take j).flatMap bfC) :: own (.slice A3 cd.length c3) 22 1 cd.length (cd.flatMap bkC) :: L) → Holds I w (refA I e { E with inn := E.inn ++ (markS c en).take j, want := plusS E.want j } :: L) := fun w H => by
        refine ref_close (E := { E with inn := E.inn ++ (markS c en).take j, want := plusS E.want j }) ⟨.slice A1 E.out.length c1, .slice A2 (E.inn.length + j) c2, av, .slice A3 cd.length c3, cd⟩ ⟨{ ok with inn := (by show (E.inn ++ (markS c en).take j).length ≤ 200; omega), want := plusS_lt _ _ }, hm.still, hm.news, hm.codes, hm.each⟩ ?_
        show Holds I w (blk e _ _ :: own _ _ 2 _ _ :: own _ _ 2 (E.inn ++ (markS c en).take j).length _ :: _)
        rw [hln]
        exact H
      have hres : (if l.length ≤ old then E else { E with inn := E.inn ++ markS (c.take (winS E)) (decide (c.length ≤ winS E) && en), want := plusS E.want (c.take (winS E)).length }) = { E with inn := E.inn ++ (markS c en).take j, want := plusS E.want j } := by
        by_cases hz : l.length ≤ old
        · obtain rfl : j = 0 := by omega
          have hw : plusS E.want 0 = E.want := Nat.mod_eq_of_lt ok.want
          rw [if_pos hz, hw, List.take_zero, List.append_nil]
        · rw [if_neg hz, hclose, ← hfin]
      rw [hc, hres]
      repeat' (first
        | (show VcL _ _ _ _ _ _ _ _; first
      | refine VcL.pures tabOk rfl ?_
      | refine VcL.nil ?_
      | (show VcL _ _ _ _ (⟨_, .call ⟨.value (.func F_tithingref12_End_room), _, _⟩, _, _, _, _⟩ :: _) _ _ _; (refine VcL.callF ok_tithingref12_End_room rfl rfl rfl rfl (Rets.mono (hroom _ H) ?_); rintro _ w ⟨rfl, H⟩))
      | (refine VcL.guard rfl rfl rfl rfl (fun h => ?_) (fun h => ?_) <;> first | (with_reducible have hp := of_decide_eq_true h) | (with_reducible have hp := of_decide_eq_false h)))
        | (show Vc _ _ _ _ _ _; first
      | refine Vc.seq ?_
      | refine Vc.region ?_
      | refine Vc.condF rfl ?_
      | refine Vc.exit ?_
      | (refine Vc.cond rfl (fun h => ?_) (fun h => ?_) <;> first | (exfalso; simp only [decide_eq_true_eq, decide_eq_false_iff_not, Bool.not_eq_true', Bool.not_eq_false'] at h; omega) | (with_reducible have hp := of_decide_eq_false h)))
        | (show KSeq _ _ _ _ _ _ _; first
      | refine KSeq.normal ?_
      | refine KSeq.exit ?_)
        | (show KBlock _ _ _ _ _ _; refine KBlock.here ?_)
        | refine KLoop.exit ?_
        | (show KEnd _ _ _ _ _ _ _; refine KEnd.fin (Or.inl rfl) ⟨_, ResL.nil, ?_⟩))
      all_goals exact hfin2 _ H
end Go.Proofs.Ytpfgcchammlpgaa.V
