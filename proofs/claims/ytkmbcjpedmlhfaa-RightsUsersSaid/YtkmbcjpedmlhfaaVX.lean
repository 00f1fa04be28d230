/- Blank rights. -/
import Derived.Test.YtkmbcjpedmlhfaaVW
namespace Go.Proofs.Ytkmbcjpedmlhfaa.V
open Go Go.Proofs.YtkmbcjpedmlhfaaV
set_option linter.unusedVariables false
set_option linter.unusedSimpArgs false
set_option maxHeartbeats 1000000
attribute [local irreducible] IntKind.wrap
variable {I : Imm} {w : World} {L : List Asn}
theorem asked_same {l : List Us} {a b : List Rt} {user : Int} (h : askedE l (wayOk a) user = 0) (hb : wayOk b = true) : askedE l (wayOk b) user = 0 := by
  obtain ⟨h1, h2, h3⟩ := asked_way h
  unfold askedE
  rw [h1, hb, h3]
  rfl
theorem few_len {l : List Us} {n : Nat} (h : fewS l n = true) : l.length ≤ 60 ∧ n ≤ 100 := by
  unfold fewS at h
  simp only [Bool.and_eq_true, decide_eq_true_eq] at h
  exact ⟨h.1.2, h.2⟩
theorem own_wayR {v : Value} {l : List Rt} {x : Rt} (H : Holds I w (own v 24 6 (0 + l.length + 1) (l.flatMap rtC ++ rtC x) :: L)) : Holds I w (own v 24 6 (l ++ [x]).length ((l ++ [x]).flatMap rtC) :: L) := by
  rw [List.length_append, List.flatMap_append]
  simpa using H
theorem at_bits {l : List Us} {user : Int} {way : List Rt} (h : wayOk way = true) : bit3 (atS l user way) = true := by
  rw [at_eq]
  split
  · rfl
  · exact has_bits (eff_ok h)
theorem RightsBlank_any (H : Holds I w L) {v vw : Value} {l : List Us} {way : List Rt} (hv : SlI I v 4 l.length (l.flatMap usC)) (hl : l.length ≤ 140737488355328) (hu : ∀ u ∈ l, UsI I u) (user : Int) (hw : SlI I vw 6 way.length (way.flatMap rtC)) (hwl : way.length ≤ 140737488355328) :
    Rets Try.prog F_tithinglaw21_RightsBlank #[v, .int .i64 user, vw] w fun u w' => u = .bool true ∧ Holds I w' L := by
  obtain ⟨A, cap, rfl, hcap⟩ := hv.form
  obtain ⟨A2, cap2, rfl, hcap2⟩ := hw.form
  by_cases he : askedE l (wayOk way) user = 0
  · have e1 : atV l user way = .tuple #[.int .i64 (atS l user way), .int .i64 0] := by unfold atV; rw [if_pos he]
    obtain ⟨hus, hway, hgrp⟩ := asked_way he
    have hlen := way_len hway
    refine ok_tithinglaw21_RightsBlank.rets rfl ?_
    repeat' (first
      | (show VcL _ _ _ _ _ _ _ _; first
      | refine VcL.pures tabOk rfl ?_
      | refine VcL.nil ?_
      | (show VcL _ _ _ _ (⟨_, .call ⟨.value (.func F_tithinglaw21_few), _, _⟩, _, _, _, _⟩ :: _) _ _ _; (refine VcL.callF ok_tithinglaw21_few rfl rfl rfl rfl (Rets.mono (few_any H hv.toR hl) ?_); rintro _ w ⟨rfl, H⟩))
      | (show VcL _ _ _ _ (⟨_, .call ⟨.value (.func F_tithinglaw21_First), _, _⟩, _, _, _, _⟩ :: _) _ _ _; (refine VcL.callF ok_tithinglaw21_First rfl rfl rfl rfl (Rets.mono (First_any H) ?_); rintro _ w ⟨rfl, H⟩))
      | (show VcL _ _ _ _ (⟨_, .call ⟨.value (.func F_rights_At), _, _⟩, _, _, _, _⟩ :: _) _ _ _; (refine VcL.callF ok_rights_At rfl rfl rfl rfl (Rets.mono (At_any H hv.toR hl hu user hw.toR hwl) ?_); rintro _ w ⟨hr, H⟩; rw [e1] at hr; subst hr))
      | (refine VcL.guard rfl rfl rfl rfl (fun h => ?_) (fun h => ?_) <;> first | (cases h; done) | (exfalso; simp only [decide_eq_true_eq, decide_eq_false_iff_not] at h; omega) | (with_reducible have hp := of_decide_eq_false h) | skip))
      | (show Vc _ _ _ _ _ _; first
      | refine Vc.seq ?_
      | refine Vc.region ?_
      | refine Vc.condT rfl ?_
      | refine Vc.condF rfl ?_
      | refine Vc.ret ?_
      | refine Vc.skip ?_
      | refine Vc.block ?_
      | (refine Vc.cond rfl (fun h => ?_) (fun h => ?_) <;> first | (with_reducible have hp := of_decide_eq_true h) | (with_reducible have hp := of_decide_eq_false h)))
      | (show KSeq _ _ _ _ _ _ _; first
      | refine KSeq.normal ?_
      | refine KSeq.ret ?_)
      | (show KEnd _ _ _ _ _ _ _; refine KEnd.fin (Or.inr rfl) ⟨_, (ResL.tmp rfl ResL.nil), ?_⟩))
    · exact ⟨rfl, H⟩
    · exact ⟨rfl, H⟩
    refine Vc.loopS [(0, _), (1, _), (2, _), (7, _)] (fun q : Nat × Value => [(9, q.2), (10, .int .i64 q.1)]) (fun q w => q.1 ≤ way.length ∧ Holds I w (own q.2 24 6 q.1 (((way.take q.1).map toB).flatMap rtC) :: L)) (fun q _ => way.length - q.1) (0, .slice none 0 0) ⟨rfl, rfl, trivial⟩ ⟨rfl, rfl, rfl, rfl, trivial⟩ ⟨Nat.zero_le _, H.own_nil⟩ ?_
    rintro ⟨k, ov⟩ w ⟨hk, H⟩
    dsimp only at hk H
    by_cases hlt : k < way.length
    · obtain ⟨b1, o1, rfl, hr1⟩ := hw.at (by omega)
      have hr1 := (hr1.elem rtC_len (atD_get hlt))
      have htk := take_atD hlt
      obtain ⟨x, hx⟩ : ∃ x, atD way k = x := ⟨_, rfl⟩
      rw [hx] at hr1 htk
      obtain ⟨x1, x2, x3, x4, x5, x6⟩ := x
      have hr1 : RdW I (own ov 24 6 k (((way.take k).map toB).flatMap rtC) :: L) b1 (o1 + k * 6) [.int .i64 x1, .int .i64 x2, .int .i64 x3, .int .i64 x4, .int .i64 x5, .bool x6] := hr1.toW
      have hone := rtC_one ⟨x1, x2, x3, x4, x5, true⟩
      obtain ⟨_, A3, c3, rfl⟩ := Holds.own_len H
      repeat' (first
        | (refine VcL.append tabOk rfl rfl rfl rfl (Holds.f2 H) (Holds.own_src H) hone (by show (_ + 1) * 48 ≤ _; omega) rfl rfl rfl (fun v_ w H => ?_))
        | (show VcL _ _ _ _ _ _ _ _; first
      | refine VcL.pures tabOk rfl ?_
      | refine VcL.nil ?_
      | (show VcL _ _ _ _ (⟨_, .load _ _, _, _, _, _⟩ :: _) _ _ _; first
      | refine VcL.loadR tabOk rfl rfl rfl rfl rfl rfl (by exact RdW.rd (by assumption) H) rfl ?_
      | refine VcL.loadN tabOk rfl rfl rfl rfl rfl rfl (by exact H) (by exact rfl) ?_)
      | (show VcL _ _ _ _ (⟨_, .indexAddr _ _ _, _, _, _, _⟩ :: _) _ _ _; refine VcL.indexAddr tabOk rfl rfl rfl rfl rfl rfl (by omega) (by omega) ?_)
      | refine VcL.alloc tabOk H rfl rfl rfl rfl (fun b w H => ?_)
      | refine VcL.buildSlice tabOk H rfl rfl rfl rfl rfl rfl (fun sv w H => ?_)
      | (show VcL _ _ _ _ (⟨_, .store _ _ _, _, _, _, _⟩ :: _) _ _ _; refine VcL.store tabOk rfl (by exact H) rfl rfl (by exact rfl) (by exact rfl) (by exact rfl) (by exact rfl) (fun w H => ?_)))
        | (show Vc _ _ _ _ _ _; first
      | refine Vc.seq ?_
      | refine Vc.region ?_
      | refine Vc.skip ?_
      | refine Vc.block ?_
      | (refine Vc.cond rfl (fun h => ?_) (fun h => ?_) <;> first | (exfalso; simp only [decide_eq_true_eq, decide_eq_false_iff_not] at h; omega) | (with_reducible have hp := of_decide_eq_true h)))
        | (show KSeq _ _ _ _ _ _ _; refine KSeq.normal ?_)
        | (show KBlock _ _ _ _ _ _; refine KBlock.normal ?_))
      refine KLoop.again (k + 1, v_) ⟨rfl, got_succ rfl (by omega), trivial⟩ ⟨rfl, rfl, rfl, rfl, trivial⟩ ⟨hlt, ?_⟩ (by dsimp only; omega)
      dsimp only
      rw [htk, List.map_append, List.flatMap_append]
      exact Holds.drop1 (Holds.drop1 H)
    · obtain rfl : k = way.length := by omega
      rw [List.take_length] at H
      obtain ⟨_, A3, c3, rfl⟩ := Holds.own_len H
      obtain ⟨J, hJ, H2, hs⟩ := Holds.freezeOwn H
      clear H
      have H := H2
      clear H2
      have hs2 : SlI J (.slice A3 way.length c3) 6 (way.map toB).length ((way.map toB).flatMap rtC) := by rw [List.length_map]; exact hs
      have he2 : askedE l (wayOk (way.map toB)) user = 0 := by rw [way_blank]; exact he
      have e2 : atV l user (way.map toB) = .tuple #[.int .i64 7, .int .i64 0] := by unfold atV; rw [if_pos he2, at_blank]
      obtain ⟨b1, o1, rfl, hr1⟩ := hs.at (by omega)
      obtain ⟨y, hy⟩ : ∃ y, atD (way.map toB) 0 = y := ⟨_, rfl⟩
      have hr1 := (hr1.elem rtC_len (atD_get (l := way.map toB) (k := 0) (by rw [List.length_map]; omega)))
      have hyb : y.blank = true ∧ rightsOk y = true := by
        have hm := atD_mem (l := way.map toB) (k := 0) (by rw [List.length_map]; omega)
        rw [hy] at hm
        obtain ⟨z, hz, rfl⟩ := List.mem_map.1 hm
        refine ⟨rfl, ?_⟩
        have h2 := hway
        unfold wayOk at h2
        simp only [Bool.and_eq_true, Bool.not_eq_true', List.any_eq_false] at h2
        have h4 := h2.2 _ hz
        rw [toB_ok]
        simpa using h4
      rw [hy] at hr1
      have e3 : atV l user (way ++ [y]) = .tuple #[.int .i64 (if Int.tdiv (atS l user way) 4 = 0 then 0 else atS l user way), .int .i64 0] := by
        unfold atV
        rw [if_pos (asked_same he (way_more hway (by omega) hyb.2)), at_more hway hyb.1]
      have hbits := at_bits (l := l) (user := user) hway
      obtain ⟨n0, hn0⟩ : ∃ n0, atS l user way = n0 := ⟨_, rfl⟩
      rw [hn0] at e3 hbits
      have hwq : IntKind.i64.wrap ((atS l user way).tdiv (Int.ofNat (3 + 1))) = n0.tdiv 4 := by
        rw [hn0]
        unfold bit3 at hbits
        simp only [Bool.and_eq_true, decide_eq_true_eq] at hbits
        obtain ⟨m, rfl⟩ := Int.eq_ofNat_of_zero_le hbits.1
        have e9 : ((m : Int)).tdiv 4 = ((m / 4 : Nat) : Int) := rfl
        show IntKind.i64.wrap ((m : Int).tdiv 4) = _
        rw [e9]
        exact wrap_i64 (by omega) (by omega)
      by_cases hq : Int.tdiv n0 4 = 0
      · rw [if_pos hq] at e3
        obtain ⟨x1, x2, x3, x4, x5, x6⟩ := y
        have hr1 : RdI J b1 o1 [.int .i64 x1, .int .i64 x2, .int .i64 x3, .int .i64 x4, .int .i64 x5, .bool x6] := by rw [Nat.zero_mul, Nat.add_zero] at hr1; exact hr1
        have hone := rtC_one ⟨x1, x2, x3, x4, x5, x6⟩
        have honeW : ∀ u ∈ way.flatMap rtC, oneC u = true := fun u hu => by obtain ⟨x, _, hx⟩ := List.mem_flatMap.1 hu; exact rtC_one x u hx
        repeat' (first
          | (refine VcD.eff rfl rfl rfl rfl (OpE.append tabOk rfl rfl rfl rfl (by first | exact Holds.pt_own rfl H | exact Holds.pt_own rfl (Holds.f1 H)) (SlI.src (hw.mono hJ) H) honeW (by show (0 + _) * 48 ≤ _; omega)) ?_; rintro v_ w H; refine ⟨RdI.rd hr1 H, ?_⟩)
          | (refine EfO.eff rfl rfl rfl rfl (OpE.append tabOk rfl rfl rfl rfl (by exact Holds.pt_own rfl H) (SlI.src (hw.mono hJ) H) honeW (by show (0 + _) * 48 ≤ _; omega)) ?_; rintro v_ w H; refine ⟨RdI.rd hr1 H, ?_⟩)
          | (refine VcD.eff rfl rfl rfl rfl (OpE.append tabOk rfl rfl rfl rfl (by first | exact H | exact Holds.f1 H) (Src.slice rfl (Holds.pt_rd (by first | exact H | exact Holds.f1 H))) hone (by show (_ + 1) * 48 ≤ _; omega)) ?_; rintro v_ w H; refine ⟨RdI.rd hr1 H, ?_⟩; have H := own_wayR (x := ⟨x1, x2, x3, x4, x5, x6⟩) H; obtain ⟨_, A5, c5, rfl⟩ := Holds.own_len H)
          | (show VcL _ _ _ _ _ _ _ _; first
      | refine VcL.pures tabOk rfl ?_
      | refine VcL.nil ?_
      | (show VcL _ _ _ _ (⟨_, .call ⟨.value (.func F_tithinglaw21_First), _, _⟩, _, _, _, _⟩ :: _) _ _ _; (refine VcL.callF ok_tithinglaw21_First rfl rfl rfl rfl (Rets.mono (First_any H) ?_); rintro _ w ⟨rfl, H⟩))
      | (show VcL _ _ _ _ (⟨_, .call ⟨.value (.func F_rights_At), _, _⟩, _, _, _, _⟩ :: _) _ _ _; (refine VcL.callF ok_rights_At rfl rfl rfl rfl (Rets.mono (At_any (way := way.map toB) H (hv.mono hJ).toR hl (fun u hx => (hu u hx).mono hJ) user hs2.toR (by rw [List.length_map]; omega)) ?_); rintro _ w ⟨hr, H⟩; rw [e2] at hr; subst hr))
      | (refine VcL.guard rfl rfl rfl rfl (fun h => ?_) (fun h => ?_) <;> first | (cases h; done) | (with_reducible have hp := of_decide_eq_true h) | (with_reducible have hp := ndec_f h)))
          | (show VcD _ _ _ _ _ _ _ _ _; first
      | refine VcD.pures tabOk rfl ?_
      | refine VcD.done ?_
      | (show VcD _ _ _ _ _ (.pure _ _) _ _ _; refine VcD.indexAddr tabOk rfl rfl rfl rfl rfl rfl rfl (by omega) (by omega) ?_)
      | (show VcD _ _ _ _ _ (.take _ _) _ _ _; refine VcD.loadR tabOk rfl rfl rfl rfl rfl rfl rfl (by intro w_ hw_; assumption) rfl ?_)
      | (show VcD _ _ _ _ _ (.only _ _) _ _ _; first
      | (refine VcD.callF (f := F_rights_At) rfl ok_rights_At rfl rfl rfl rfl (Rets.mono (At_any (way := way ++ [⟨x1, x2, x3, x4, x5, x6⟩]) H (hv.mono hJ).toR hl (fun u hx => (hu u hx).mono hJ) user (Holds.own_toR H) (by rw [List.length_append, List.length_singleton]; omega)) ?_); rintro _ w ⟨hr, H⟩; rw [e3] at hr; subst hr; refine ⟨(by exact RdI.rd (by assumption) H), ?_⟩)
      | (refine VcD.eff rfl rfl rfl rfl (OpE.buildSliceP tabOk H rfl rfl rfl rfl) ?_; rintro _ w ⟨b_, rfl, H⟩; refine ⟨(by exact RdI.rd (by assumption) H), ?_⟩))
      | (show VcD _ _ _ _ _ (.two _ _ _ _) _ _ _; refine VcD.two ?_ ?_))
          | (show EfO _ _ _ _ _ _ _ _ _; (refine EfO.eff rfl rfl rfl rfl (OpE.buildSliceP tabOk H rfl rfl rfl rfl) ?_; rintro _ w ⟨b_, rfl, H⟩; refine ⟨(by exact RdI.rd (by assumption) H), ?_⟩))
          | (show Vc _ _ _ _ _ _; first
      | refine Vc.seq ?_
      | refine Vc.region ?_
      | refine Vc.condF rfl ?_
      | refine Vc.ret ?_
      | refine Vc.skip ?_
      | refine Vc.exit ?_
      | (refine Vc.drawn (id := 16) (.pure 0 (.pure 1 (.pure 3 (.pure 5 (.pure 6 (.take 7 (.two 2 8 (.two 4 8 (.only 8 (.only 9 (.only 10 (.pure 11 (.pure 12 (.pure 13 (.pure 14 (.pure 15 .done)))))))) (.only 4 (.only 9 (.only 10 (.pure 11 (.pure 12 (.pure 13 (.pure 14 (.pure 15 .done))))))))) (.only 2 (.only 4 (.only 9 (.only 10 (.pure 11 (.pure 12 (.pure 13 (.pure 14 (.pure 15 .done)))))))))))))))) (.one (fun w => Rd w b1 o1 [.int .i64 x1, .int .i64 x2, .int .i64 x3, .int .i64 x4, .int .i64 x5, .bool x6])) mixed (by kernel_rfl) (by exact RdI.rd (by assumption) (Holds.drew H _)) ?_; have H := H.drew (w.drawn + 1))
      | (refine Vc.cond rfl (fun h => ?_) (fun h => ?_) <;> first | (exfalso; simp only [decide_eq_true_eq, decide_eq_false_iff_not] at h; omega) | (with_reducible have hp := of_decide_eq_true h) | (with_reducible have hp := of_decide_eq_false h)))
          | (show KSeq _ _ _ _ _ _ _; first
      | refine KSeq.normal ?_
      | refine KSeq.exit ?_)
          | (show KBlock _ _ _ _ _ _; refine KBlock.here ?_)
          | refine KLoop.exit ?_
          | (show KEnd _ _ _ _ _ _ _; refine KEnd.fin (Or.inr rfl) ⟨_, (ResL.tmp rfl ResL.nil), ?_⟩))
        all_goals first
          | exact ⟨rfl, H.drop.drop.less hJ⟩
          | (exfalso; simp only [decide_eq_true_eq, decide_eq_false_iff_not] at h; omega)
      · rw [if_neg hq] at e3
        obtain ⟨x1, x2, x3, x4, x5, x6⟩ := y
        have hr1 : RdI J b1 o1 [.int .i64 x1, .int .i64 x2, .int .i64 x3, .int .i64 x4, .int .i64 x5, .bool x6] := by rw [Nat.zero_mul, Nat.add_zero] at hr1; exact hr1
        have hone := rtC_one ⟨x1, x2, x3, x4, x5, x6⟩
        have honeW : ∀ u ∈ way.flatMap rtC, oneC u = true := fun u hu => by obtain ⟨x, _, hx⟩ := List.mem_flatMap.1 hu; exact rtC_one x u hx
        repeat' (first
          | (refine VcD.eff rfl rfl rfl rfl (OpE.append tabOk rfl rfl rfl rfl (by first | exact Holds.pt_own rfl H | exact Holds.pt_own rfl (Holds.f1 H)) (SlI.src (hw.mono hJ) H) honeW (by show (0 + _) * 48 ≤ _; omega)) ?_; rintro v_ w H; refine ⟨RdI.rd hr1 H, ?_⟩)
          | (refine EfO.eff rfl rfl rfl rfl (OpE.append tabOk rfl rfl rfl rfl (by exact Holds.pt_own rfl H) (SlI.src (hw.mono hJ) H) honeW (by show (0 + _) * 48 ≤ _; omega)) ?_; rintro v_ w H; refine ⟨RdI.rd hr1 H, ?_⟩)
          | (refine VcD.eff rfl rfl rfl rfl (OpE.append tabOk rfl rfl rfl rfl (by first | exact H | exact Holds.f1 H) (Src.slice rfl (Holds.pt_rd (by first | exact H | exact Holds.f1 H))) hone (by show (_ + 1) * 48 ≤ _; omega)) ?_; rintro v_ w H; refine ⟨RdI.rd hr1 H, ?_⟩; have H := own_wayR (x := ⟨x1, x2, x3, x4, x5, x6⟩) H; obtain ⟨_, A5, c5, rfl⟩ := Holds.own_len H)
          | (show VcL _ _ _ _ _ _ _ _; first
      | refine VcL.pures tabOk rfl ?_
      | refine VcL.nil ?_
      | (show VcL _ _ _ _ (⟨_, .call ⟨.value (.func F_tithinglaw21_First), _, _⟩, _, _, _, _⟩ :: _) _ _ _; (refine VcL.callF ok_tithinglaw21_First rfl rfl rfl rfl (Rets.mono (First_any H) ?_); rintro _ w ⟨rfl, H⟩))
      | (show VcL _ _ _ _ (⟨_, .call ⟨.value (.func F_rights_At), _, _⟩, _, _, _, _⟩ :: _) _ _ _; (refine VcL.callF ok_rights_At rfl rfl rfl rfl (Rets.mono (At_any (way := way.map toB) H (hv.mono hJ).toR hl (fun u hx => (hu u hx).mono hJ) user hs2.toR (by rw [List.length_map]; omega)) ?_); rintro _ w ⟨hr, H⟩; rw [e2] at hr; subst hr))
      | (refine VcL.guard rfl rfl rfl rfl (fun h => ?_) (fun h => ?_) <;> first | (cases h; done) | (exfalso; simp only [decide_eq_true_eq, decide_eq_false_iff_not] at h; omega) | (with_reducible have hp := of_decide_eq_true h) | (with_reducible have hp := ndec_f h)))
          | (show VcD _ _ _ _ _ _ _ _ _; first
      | refine VcD.pures tabOk rfl ?_
      | refine VcD.done ?_
      | (show VcD _ _ _ _ _ (.pure _ _) _ _ _; refine VcD.indexAddr tabOk rfl rfl rfl rfl rfl rfl rfl (by omega) (by omega) ?_)
      | (show VcD _ _ _ _ _ (.take _ _) _ _ _; refine VcD.loadR tabOk rfl rfl rfl rfl rfl rfl rfl (by intro w_ hw_; assumption) rfl ?_)
      | (show VcD _ _ _ _ _ (.only _ _) _ _ _; first
      | (refine VcD.callF (f := F_rights_At) rfl ok_rights_At rfl rfl rfl rfl (Rets.mono (At_any (way := way ++ [⟨x1, x2, x3, x4, x5, x6⟩]) H (hv.mono hJ).toR hl (fun u hx => (hu u hx).mono hJ) user (Holds.own_toR H) (by rw [List.length_append, List.length_singleton]; omega)) ?_); rintro _ w ⟨hr, H⟩; rw [e3] at hr; subst hr; refine ⟨(by exact RdI.rd (by assumption) H), ?_⟩)
      | (refine VcD.eff rfl rfl rfl rfl (OpE.buildSliceP tabOk H rfl rfl rfl rfl) ?_; rintro _ w ⟨b_, rfl, H⟩; refine ⟨(by exact RdI.rd (by assumption) H), ?_⟩))
      | (show VcD _ _ _ _ _ (.two _ _ _ _) _ _ _; refine VcD.two ?_ ?_))
          | (show EfO _ _ _ _ _ _ _ _ _; (refine EfO.eff rfl rfl rfl rfl (OpE.buildSliceP tabOk H rfl rfl rfl rfl) ?_; rintro _ w ⟨b_, rfl, H⟩; refine ⟨(by exact RdI.rd (by assumption) H), ?_⟩))
          | (show Vc _ _ _ _ _ _; first
      | refine Vc.seq ?_
      | refine Vc.region ?_
      | refine Vc.condF rfl ?_
      | refine Vc.ret ?_
      | refine Vc.skip ?_
      | refine Vc.exit ?_
      | (refine Vc.drawn (id := 16) (.pure 0 (.pure 1 (.pure 3 (.pure 5 (.pure 6 (.take 7 (.two 2 8 (.two 4 8 (.only 8 (.only 9 (.only 10 (.pure 11 (.pure 12 (.pure 13 (.pure 14 (.pure 15 .done)))))))) (.only 4 (.only 9 (.only 10 (.pure 11 (.pure 12 (.pure 13 (.pure 14 (.pure 15 .done))))))))) (.only 2 (.only 4 (.only 9 (.only 10 (.pure 11 (.pure 12 (.pure 13 (.pure 14 (.pure 15 .done)))))))))))))))) (.one (fun w => Rd w b1 o1 [.int .i64 x1, .int .i64 x2, .int .i64 x3, .int .i64 x4, .int .i64 x5, .bool x6])) mixed (by kernel_rfl) (by exact RdI.rd (by assumption) (Holds.drew H _)) ?_; have H := H.drew (w.drawn + 1))
      | (refine Vc.cond rfl (fun h => ?_) (fun h => ?_) <;> first | (exfalso; simp only [decide_eq_true_eq, decide_eq_false_iff_not] at h; omega) | (with_reducible have hp := of_decide_eq_false h)))
          | (show KSeq _ _ _ _ _ _ _; first
      | refine KSeq.normal ?_
      | refine KSeq.exit ?_)
          | (show KBlock _ _ _ _ _ _; refine KBlock.here ?_)
          | refine KLoop.exit ?_
          | (show KEnd _ _ _ _ _ _ _; refine KEnd.fin (Or.inr rfl) ⟨_, (ResL.tmp rfl ResL.nil), ?_⟩))
        all_goals first
          | exact ⟨rfl, H.drop.drop.less hJ⟩
          | (exfalso; simp only [decide_eq_true_eq, decide_eq_false_iff_not] at h; omega)
  · have e1 : atV l user way = .tuple #[.int .i64 0, .int .i64 (askedE l (wayOk way) user)] := by unfold atV; rw [if_neg he]
    refine ok_tithinglaw21_RightsBlank.rets rfl ?_
    repeat' (first
      | (show VcL _ _ _ _ _ _ _ _; first
      | refine VcL.pures tabOk rfl ?_
      | refine VcL.nil ?_
      | (show VcL _ _ _ _ (⟨_, .call ⟨.value (.func F_tithinglaw21_few), _, _⟩, _, _, _, _⟩ :: _) _ _ _; (refine VcL.callF ok_tithinglaw21_few rfl rfl rfl rfl (Rets.mono (few_any H hv.toR hl) ?_); rintro _ w ⟨rfl, H⟩))
      | (show VcL _ _ _ _ (⟨_, .call ⟨.value (.func F_tithinglaw21_First), _, _⟩, _, _, _, _⟩ :: _) _ _ _; (refine VcL.callF ok_tithinglaw21_First rfl rfl rfl rfl (Rets.mono (First_any H) ?_); rintro _ w ⟨rfl, H⟩))
      | (show VcL _ _ _ _ (⟨_, .call ⟨.value (.func F_rights_At), _, _⟩, _, _, _, _⟩ :: _) _ _ _; (refine VcL.callF ok_rights_At rfl rfl rfl rfl (Rets.mono (At_any H hv.toR hl hu user hw.toR hwl) ?_); rintro _ w ⟨hr, H⟩; rw [e1] at hr; subst hr))
      | (refine VcL.guard rfl rfl rfl rfl (fun h => ?_) (fun h => ?_) <;> first | (cases h; done) | (with_reducible have hp := of_decide_eq_true h) | (with_reducible have hp := of_decide_eq_false h) | skip))
      | (show Vc _ _ _ _ _ _; first
      | refine Vc.seq ?_
      | refine Vc.region ?_
      | refine Vc.condT rfl ?_
      | refine Vc.ret ?_
      | refine Vc.skip ?_
      | refine Vc.block ?_
      | (refine Vc.cond rfl (fun h => ?_) (fun h => ?_) <;> first | (with_reducible have hp := of_decide_eq_true h) | (with_reducible have hp := of_decide_eq_false h) | (with_reducible have hp := ndec_t h) | (with_reducible have hp := ndec_f h)))
      | (show KSeq _ _ _ _ _ _ _; first
      | refine KSeq.normal ?_
      | refine KSeq.ret ?_)
      | (show KEnd _ _ _ _ _ _ _; refine KEnd.fin (Or.inr rfl) ⟨_, (ResL.tmp rfl ResL.nil), ?_⟩))
    all_goals first | exact ⟨rfl, H⟩ | (exfalso; simp_all; done)
end Go.Proofs.Ytkmbcjpedmlhfaa.V
