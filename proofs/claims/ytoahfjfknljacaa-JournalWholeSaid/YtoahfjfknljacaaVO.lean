/- Heads: the document's way. -/
import Derived.Test.YtoahfjfknljacaaVN
namespace Go.Proofs.Ytoahfjfknljacaa.V
open Go Go.Proofs.YtoahfjfknljacaaV
set_option linter.unusedVariables false
set_option linter.unusedSimpArgs false
set_option maxHeartbeats 1000000
set_option maxRecDepth 4000
attribute [local irreducible] IntKind.wrap
variable {I : Imm} {w : World} {L : List Asn}
theorem mem_tgts {b : By} {m : Nat} {x : Int} (h : x ∈ tgts b m) : ∃ i, i < m ∧ x = tgtAt b i := by
  unfold tgts at h
  obtain ⟨i, hi, rfl⟩ := List.mem_map.1 h
  exact ⟨i, List.mem_range.1 hi, rfl⟩
theorem Places_any (H : Holds I w L) {v : Value} {l : By} (hv : SlR I L v 1 l.length (byL l)) (hl : l.length ≤ 140737488355328) (home : Int) :
    Rets Try.prog F_tithingref16_Places #[v, .int .i64 home] w fun u w' => TgtR I w' L l home u := by
  obtain ⟨A, cap, rfl, hcap⟩ := hv.form
  by_cases h256 : l.length = 256
  · obtain ⟨b1, o1, rfl, hr1⟩ := hv.at (by omega)
    have hm := hv.take (k := 4) (by omega)
    rw [Nat.mul_one, ← List.map_take] at hm
    have hnl := num_lt l 4
    have e1 : IntKind.i64.wrap (2 * ((num l 4 : Nat) : Int)) = ((2 * num l 4 : Nat) : Int) := by rw [wrap_i64 (by omega) (by omega)]; omega
    have e2 : IntKind.i64.wrap (8 + ((2 * num l 4 : Nat) : Int)) = ((8 + 2 * num l 4 : Nat) : Int) := by rw [wrap_i64 (by omega) (by omega)]; omega
    have e3 : IntKind.i64.wrap (6 + ((2 * num l 4 : Nat) : Int)) = ((6 + 2 * num l 4 : Nat) : Int) := by rw [wrap_i64 (by omega) (by omega)]; omega
    have hz : num l 4 ≤ 40 → ∀ p, (8 + 2 * num l 4 < cap → p = o1 + (8 + 2 * num l 4) * 1) → SlR I L (.slice (some ⟨b1, p, none⟩) (l.length - (8 + 2 * num l 4)) (cap - (8 + 2 * num l 4))) 1 (l.drop (8 + 2 * num l 4)).length (byL (l.drop (8 + 2 * num l 4))) := fun hle p hp => by
      have := hv.drop (k := 8 + 2 * num l 4) (by omega) hp
      rw [Nat.mul_one, ← List.map_drop] at this
      rw [List.length_drop]
      exact this
    obtain ⟨s, hs⟩ : ∃ s : ByteArray, (⟨(l.take 4).toArray⟩ : ByteArray) = s := ⟨_, rfl⟩
    have hse := mark_eq (l.take 4)
    rw [hs] at hse
    refine ok_tithingref16_Places.rets rfl ?_
    repeat' (first
      | (refine VcL.sliceTo (h := 4) tabOk rfl rfl rfl rfl rfl rfl (by omega) ?_)
      | (refine VcL.ofBytes (bs := l.take 4) tabOk rfl rfl rfl rfl rfl rfl rfl (SlR.src hm H) ⟨_, _, rfl⟩ rfl rfl rfl ?_)
      | rw [hs]
      | rw [hse]
      | rw [e1]
      | rw [e2]
      | (show VcL _ _ _ _ _ _ _ _; first
      | refine VcL.pures tabOk rfl ?_
      | refine VcL.nil ?_
      | (show VcL _ _ _ _ (⟨_, .slice _ _ _ _ none, _, _, _, _⟩ :: _) _ _ _; refine VcL.sliceFrom tabOk rfl rfl rfl rfl rfl rfl (by omega) (by omega) (fun p_ hp_ => ?_))
      | (show VcL _ _ _ _ (⟨_, .call ⟨.value (.func F_tithingref16_number), _, _⟩, _, _, _, _⟩ :: _) _ _ _; (refine VcL.callF ok_tithingref16_number rfl rfl rfl rfl (Rets.mono (number_any (at_ := 4) H hv (by omega) hl) ?_); rintro _ w ⟨rfl, H⟩))
      | (show VcL _ _ _ _ (⟨_, .call ⟨.value (.func F_tithingref16_zeros), _, _⟩, _, _, _, _⟩ :: _) _ _ _; (refine VcL.callF ok_tithingref16_zeros rfl rfl rfl rfl (Rets.mono (zerosR_any (l := l.drop (8 + 2 * num l 4)) H (hz (by omega) _ hp_) (by rw [List.length_drop]; omega)) ?_); rintro _ w ⟨rfl, H⟩))
      | (refine VcL.guard rfl rfl rfl rfl (fun h => ?_) (fun h => ?_) <;> first | (cases h; done) | (exfalso; simp only [decide_eq_true_eq, decide_eq_false_iff_not, Bool.not_eq_true', Bool.not_eq_false'] at h; omega) | (with_reducible have hp := of_decide_eq_true h) | (with_reducible have hp := of_decide_eq_false h) | (with_reducible have hp := ndec_f h) | skip))
      | (show Vc _ _ _ _ _ _; first
      | refine Vc.seq ?_
      | refine Vc.region ?_
      | refine Vc.condT rfl ?_
      | refine Vc.ret ?_
      | refine Vc.skip ?_
      | refine Vc.block ?_
      | (refine Vc.cond rfl (fun h => ?_) (fun h => ?_) <;> first | (with_reducible have hp := ndec_t h) | (with_reducible have hp := ndec_f h) | skip))
      | (show KSeq _ _ _ _ _ _ _; first
      | refine KSeq.normal ?_
      | refine KSeq.ret ?_)
      | (show KEnd _ _ _ _ _ _ _; refine KEnd.fin (Or.inr rfl) ⟨_, (ResL.tmp rfl (ResL.tmp rfl (ResL.tmp rfl ResL.nil))), ?_⟩))
    · exact ⟨.inl ⟨fun hh => hp hh.2.1, rfl, H⟩⟩
    · exact ⟨.inl ⟨fun hh => by have := hh.2.2.1; omega, rfl, H⟩⟩
    · exact ⟨.inl ⟨fun hh => by have := hh.2.2.2.1; omega, rfl, H⟩⟩
    · exact ⟨.inl ⟨fun hh => (by rw [hh.2.2.2.2.2.2] at h; cases h), rfl, H⟩⟩
    have hmk : l.take 4 = markB := by assumption
    have hn0 : 1 ≤ num l 4 := by omega
    have hn1 : num l 4 ≤ 40 := by omega
    have hzz : (l.drop (8 + 2 * num l 4)).all isZ = true := by simpa using h
    refine Vc.loopS [(0, _), (1, _), (7, _)] (fun s : Nat × Value => [(8, s.2), (9, .int .i64 s.1)]) (fun s w => s.1 ≤ num l 4 ∧ (∀ x ∈ tgts l s.1, x < home) ∧ (tgts l s.1).Nodup ∧ Holds I w (own s.2 3 1 s.1 ((tgts l s.1).flatMap inC) :: L)) (fun s _ => num l 4 - s.1) (0, .slice none 0 0) ⟨rfl, rfl, trivial⟩ ⟨rfl, rfl, rfl, trivial⟩ ⟨Nat.zero_le _, (fun x hx => by cases hx), List.nodup_nil, H.own_nil⟩ ?_
    rintro ⟨k, ov⟩ w ⟨hk, hall, hnd, H⟩
    dsimp only at hk hall hnd H ⊢
    by_cases hlt : k < num l 4
    · have e4 : IntKind.i64.wrap (2 * (k : Int)) = ((2 * k : Nat) : Int) := by rw [wrap_i64 (by omega) (by omega)]; omega
      have e5 : IntKind.i64.wrap (6 + ((2 * k : Nat) : Int)) = ((6 + 2 * k : Nat) : Int) := by rw [wrap_i64 (by omega) (by omega)]; omega
      repeat' (first
        | rw [e4]
        | rw [e5]
        | (show VcL _ _ _ _ _ _ _ _; first
      | refine VcL.pures tabOk rfl ?_
      | refine VcL.nil ?_
      | (show VcL _ _ _ _ (⟨_, .call ⟨.value (.func F_tithingref16_number), _, _⟩, _, _, _, _⟩ :: _) _ _ _; (refine VcL.callF ok_tithingref16_number rfl rfl rfl rfl (Rets.mono (number_any (at_ := 6 + 2 * k) H hv.up (by omega) hl) ?_); rintro _ w ⟨rfl, H⟩)))
        | (show Vc _ _ _ _ _ _; first
      | refine Vc.seq ?_
      | refine Vc.region ?_
      | refine Vc.ret ?_
      | refine Vc.skip ?_
      | refine Vc.block ?_
      | (refine Vc.cond rfl (fun h => ?_) (fun h => ?_) <;> first | (exfalso; simp only [decide_eq_true_eq, decide_eq_false_iff_not, Bool.not_eq_true', Bool.not_eq_false'] at h; omega) | (with_reducible have hp := of_decide_eq_true h) | (with_reducible have hp := of_decide_eq_false h)))
        | (show KSeq _ _ _ _ _ _ _; first
      | refine KSeq.normal ?_
      | refine KSeq.ret ?_)
        | (show KBlock _ _ _ _ _ _; refine KBlock.ret ?_)
        | refine KLoop.ret ?_
        | (show KEnd _ _ _ _ _ _ _; refine KEnd.fin (Or.inr rfl) ⟨_, (ResL.tmp rfl (ResL.tmp rfl (ResL.tmp rfl ResL.nil))), ?_⟩))
      · exact ⟨.inl ⟨bad_lt hlt (by unfold tgtAt; omega), rfl, H.drop⟩⟩
      have hhome : tgtAt l k < home := by unfold tgtAt; omega
      obtain ⟨_, A4, c4, rfl⟩ := Holds.own_len H
      refine Vc.loopS [(0, _), (1, _), (7, _), (8, _), (9, _), (10, _)] (fun j : Nat => [(11, .int .i64 j)]) (fun j w => j ≤ k ∧ (∀ i, i < j → tgtAt l i ≠ tgtAt l k) ∧ Holds I w (own (.slice A4 k c4) 3 1 k ((tgts l k).flatMap inC) :: L)) (fun j _ => k - j) 0 ⟨rfl, trivial⟩ ⟨rfl, rfl, rfl, rfl, rfl, rfl, trivial⟩ ⟨Nat.zero_le _, (fun i hi => absurd hi (by omega)), H⟩ ?_
      rintro j w ⟨hj, hne, H⟩
      by_cases hlt2 : j < k
      · obtain ⟨b7, o7, rfl⟩ := own_at (v := .bool true) (by omega) H
        have hgk := tgts_at (b := l) hlt2
        obtain ⟨y, hy⟩ : ∃ y, tgtAt l j = y := ⟨_, rfl⟩
        rw [hy] at hgk
        repeat' (first
          | (show VcL _ _ _ _ _ _ _ _; first
      | refine VcL.pures tabOk rfl ?_
      | refine VcL.nil ?_
      | (show VcL _ _ _ _ (⟨_, .load _ _, _, _, _, _⟩ :: _) _ _ _; refine VcL.load1 tabOk rfl rfl rfl rfl rfl (by exact Holds.ownCell0 H (fun _ => rfl) (by assumption) rfl) ?_)
      | (show VcL _ _ _ _ (⟨_, .indexAddr _ _ _, _, _, _, _⟩ :: _) _ _ _; refine VcL.indexAddr tabOk rfl rfl rfl rfl rfl rfl (by omega) (by omega) ?_))
          | (show Vc _ _ _ _ _ _; first
      | refine Vc.seq ?_
      | refine Vc.region ?_
      | refine Vc.ret ?_
      | refine Vc.skip ?_
      | refine Vc.block ?_
      | (refine Vc.cond rfl (fun h => ?_) (fun h => ?_) <;> first | (exfalso; simp only [decide_eq_true_eq, decide_eq_false_iff_not, Bool.not_eq_true', Bool.not_eq_false'] at h; omega) | (with_reducible have hp := of_decide_eq_true h) | (with_reducible have hp := of_decide_eq_false h)))
          | (show KSeq _ _ _ _ _ _ _; first
      | refine KSeq.normal ?_
      | refine KSeq.ret ?_)
          | (show KBlock _ _ _ _ _ _; first
      | refine KBlock.normal ?_
      | refine KBlock.ret ?_)
          | refine KLoop.ret ?_
          | (show KEnd _ _ _ _ _ _ _; refine KEnd.fin (Or.inr rfl) ⟨_, (ResL.tmp rfl (ResL.tmp rfl (ResL.tmp rfl ResL.nil))), ?_⟩))
        · refine ⟨.inl ⟨bad_dup hlt ?_, rfl, H.drop⟩⟩
          have : tgtAt l k = y := by unfold tgtAt; omega
          rw [this]
          exact List.mem_of_getElem? hgk
        · refine KLoop.again (j + 1) ⟨got_succ rfl (by omega), trivial⟩ ⟨rfl, rfl, rfl, rfl, rfl, rfl, trivial⟩ ⟨hlt2, fun i hi => ?_, H⟩ (by omega)
          rcases Nat.lt_or_ge i j with h1 | h1
          · exact hne i h1
          · obtain rfl : j = i := by omega
            rw [hy]
            intro e
            apply hp
            rw [e]
            rfl
      · obtain rfl : k = j := by omega
        repeat' (first
          | (refine VcL.append (m := 1) (ds := inC (tgtAt l k)) tabOk rfl rfl rfl rfl (Holds.swap H) (Holds.own_src H) (inC1 _) (by show (_ + 1) * 8 ≤ _; omega) rfl rfl rfl (fun ov2 w H => ?_))
          | (show VcL _ _ _ _ _ _ _ _; first
      | refine VcL.pures tabOk rfl ?_
      | refine VcL.nil ?_
      | refine VcL.buildSlice tabOk H rfl rfl rfl rfl rfl rfl (fun sv w H => ?_))
          | (show Vc _ _ _ _ _ _; first
      | refine Vc.seq ?_
      | refine Vc.region ?_
      | refine Vc.exit ?_
      | (refine Vc.cond rfl (fun h => ?_) (fun h => ?_) <;> first | (exfalso; simp only [decide_eq_true_eq, decide_eq_false_iff_not, Bool.not_eq_true', Bool.not_eq_false'] at h; omega) | (with_reducible have hp := of_decide_eq_false h)))
          | (show KSeq _ _ _ _ _ _ _; first
      | refine KSeq.normal ?_
      | refine KSeq.exit ?_)
          | (show KBlock _ _ _ _ _ _; first
      | refine KBlock.normal ?_
      | refine KBlock.here ?_)
          | refine KLoop.exit ?_)
        refine KLoop.again (k + 1, ov2) ⟨rfl, got_succ rfl (by omega), trivial⟩ ⟨rfl, rfl, rfl, trivial⟩ ⟨hlt, ?_, ?_, ?_⟩ (by show _ < _; omega)
        · rw [tgts_succ]
          intro x hx
          rcases List.mem_append.1 hx with hx | hx
          · exact hall x hx
          · simp only [List.mem_singleton] at hx
            subst hx
            exact hhome
        · rw [tgts_succ, List.nodup_append]
          refine ⟨hnd, List.nodup_cons.2 ⟨List.not_mem_nil, List.nodup_nil⟩, fun a ha b hb e => ?_⟩
          simp only [List.mem_singleton] at hb
          obtain ⟨i, hi, rfl⟩ := mem_tgts ha
          exact hne i hi (e.trans hb)
        · rw [tgts_succ, in_snoc]
          exact H.drop1
    · obtain rfl : k = num l 4 := by omega
      repeat' (first
        | rw [e1]
        | rw [e3]
        | (show VcL _ _ _ _ _ _ _ _; first
      | refine VcL.pures tabOk rfl ?_
      | refine VcL.nil ?_)
        | (show Vc _ _ _ _ _ _; first
      | refine Vc.seq ?_
      | refine Vc.region ?_
      | refine Vc.ret ?_
      | refine Vc.exit ?_
      | (refine Vc.cond rfl (fun h => ?_) (fun h => ?_) <;> first | (exfalso; simp only [decide_eq_true_eq, decide_eq_false_iff_not, Bool.not_eq_true', Bool.not_eq_false'] at h; omega) | (with_reducible have hp := of_decide_eq_false h)))
        | (show KSeq _ _ _ _ _ _ _; first
      | refine KSeq.normal ?_
      | refine KSeq.exit ?_)
        | (show KBlock _ _ _ _ _ _; refine KBlock.here ?_)
        | refine KLoop.exit ?_
        | (show KEnd _ _ _ _ _ _ _; refine KEnd.fin (Or.inr rfl) ⟨_, (ResL.tmp rfl (ResL.tmp rfl (ResL.tmp rfl ResL.nil))), ?_⟩))
      exact ⟨.inr ⟨ov, ⟨h256, hmk, hn0, hn1, hall, hnd, hzz⟩, rfl, H⟩⟩
  ·
    refine ok_tithingref16_Places.rets rfl ?_
    repeat' (first
      | (show VcL _ _ _ _ _ _ _ _; first
      | refine VcL.pures tabOk rfl ?_
      | refine VcL.nil ?_
      | (refine VcL.guard rfl rfl rfl rfl (fun h => ?_) (fun h => ?_) <;> first | (exfalso; simp only [decide_eq_true_eq, decide_eq_false_iff_not, Bool.not_eq_true', Bool.not_eq_false'] at h; omega) | (with_reducible have hp := ndec_t h)))
      | (show Vc _ _ _ _ _ _; first
      | refine Vc.seq ?_
      | refine Vc.region ?_
      | refine Vc.condT rfl ?_
      | refine Vc.ret ?_)
      | (show KSeq _ _ _ _ _ _ _; first
      | refine KSeq.normal ?_
      | refine KSeq.ret ?_)
      | (show KEnd _ _ _ _ _ _ _; refine KEnd.fin (Or.inr rfl) ⟨_, (ResL.tmp rfl (ResL.tmp rfl (ResL.tmp rfl ResL.nil))), ?_⟩))
    exact ⟨.inl ⟨fun hh => h256 hh.1, rfl, H⟩⟩
end Go.Proofs.Ytoahfjfknljacaa.V
