/- Lists of pages. -/
import Derived.Test.YtoahfjfknljacaaVII
namespace Go.Proofs.Ytoahfjfknljacaa.V
open Go Go.Proofs.YtoahfjfknljacaaV
set_option linter.unusedVariables false
set_option linter.unusedSimpArgs false
set_option maxHeartbeats 1000000
set_option maxRecDepth 4000
attribute [local irreducible] IntKind.wrap
variable {I : Imm} {w : World} {L : List Asn}
def pgC (b : By) : List Value := [.string ⟨b.toArray⟩]
theorem pgC_len (b : By) : (pgC b).length = 1 := rfl
theorem map_eq_of0 {xs ys : List By} (hl : xs.length = ys.length) (h : ∀ j, j < xs.length → atD xs j = atD ys j) : xs = ys := by
  apply List.ext_getElem?
  intro i
  rcases Nat.lt_or_ge i xs.length with hi | hi
  · rw [atD_get hi, atD_get (by omega), h i hi]
  · rw [List.getElem?_eq_none hi, List.getElem?_eq_none (by omega)]
theorem samePages_any (H : Holds I w L) {v u : Value} {xs ys : List By} (hv : SlR I L v 1 xs.length (xs.flatMap pgC)) (hu : SlR I L u 1 ys.length (ys.flatMap pgC)) (hl : xs.length = ys.length) (hb : xs.length ≤ 1000000) :
    Rets Try.prog F_tithinglaw16_samePages #[v, u] w fun r w' => r = .bool (decide (xs = ys)) ∧ Holds I w' L := by
  obtain ⟨A, cap, rfl, hcap⟩ := hv.form
  obtain ⟨B, cap2, rfl, hcap2⟩ := hu.form
  refine ok_tithinglaw16_samePages.rets rfl ?_
  repeat' (first
    | (show VcL _ _ _ _ _ _ _ _; first
      | refine VcL.pures tabOk rfl ?_
      | refine VcL.nil ?_)
    | (show Vc _ _ _ _ _ _; first
      | refine Vc.seq ?_
      | refine Vc.region ?_
      | refine Vc.block ?_)
    | (show KSeq _ _ _ _ _ _ _; refine KSeq.normal ?_))
  refine Vc.loopS [(0, _), (1, _)] (fun k : Nat => [(5, .int .i64 k)]) (fun k w => Holds I w L ∧ k ≤ xs.length ∧ ∀ j, j < k → atD xs j = atD ys j) (fun k _ => xs.length - k) 0 ⟨rfl, trivial⟩ ⟨rfl, rfl, trivial⟩ ⟨H, Nat.zero_le _, fun j hj => absurd hj (by omega)⟩ ?_
  rintro k w ⟨H, hk, hall⟩
  by_cases hlt : k < xs.length
  · obtain ⟨b1, o1, rfl, hr1⟩ := hv.at (by omega)
    obtain ⟨b2, o2, rfl, hr2⟩ := hu.at (by omega)
    have hr1 := hr1.elem pgC_len (atD_get hlt)
    have hr2 := hr2.elem pgC_len (atD_get (show k < ys.length by omega))
    obtain ⟨x, hx⟩ : ∃ x, atD xs k = x := ⟨_, rfl⟩
    obtain ⟨y, hy⟩ : ∃ y, atD ys k = y := ⟨_, rfl⟩
    rw [hx] at hr1
    rw [hy] at hr2
    have hr1 : RdW I L b1 (o1 + k * 1) [.string ⟨x.toArray⟩] := hr1
    have hr2 : RdW I L b2 (o2 + k * 1) [.string ⟨y.toArray⟩] := hr2
    repeat' (first
      | rw [str_eq]
      | (show VcL _ _ _ _ _ _ _ _; first
      | refine VcL.pures tabOk rfl ?_
      | refine VcL.nil ?_)
      | (show VcD _ _ _ _ _ _ _ _ _; first
      | refine VcD.pures tabOk rfl ?_
      | refine VcD.done ?_
      | (show VcD _ _ _ _ _ (.pure _ _) _ _ _; refine VcD.indexAddr tabOk rfl rfl rfl rfl rfl rfl rfl (by omega) (by omega) ?_)
      | (show VcD _ _ _ _ _ (.take _ _) _ _ _; refine VcD.load1 tabOk rfl rfl rfl rfl rfl rfl (by intro w_ hw_; exact RdW.get0 (by assumption) rfl hw_) (by exact rfl) ?_))
      | (show Vc _ _ _ _ _ _; first
      | refine Vc.seq ?_
      | refine Vc.region ?_
      | refine Vc.ret ?_
      | refine Vc.skip ?_
      | refine Vc.block ?_
      | refine Vc.drawnH (id := 4) H (.pure 0 (.pure 1 (.pure 4 (.pure 5 (.pure 2 (.take 3 (.pure 6 (.take 7 (.pure 8 .done))))))))) mixed (by kernel_rfl) (fun w H => ?_)
      | (refine Vc.cond rfl (fun h => ?_) (fun h => ?_) <;> first | (exfalso; simp only [decide_eq_true_eq, decide_eq_false_iff_not, Bool.not_eq_true', Bool.not_eq_false'] at h; omega) | (with_reducible have hp := of_decide_eq_true h) | (with_reducible have hp := ndec_t h) | (with_reducible have hp := ndec_f h)))
      | (show KSeq _ _ _ _ _ _ _; first
      | refine KSeq.normal ?_
      | refine KSeq.ret ?_)
      | (show KBlock _ _ _ _ _ _; first
      | refine KBlock.normal ?_
      | refine KBlock.ret ?_)
      | refine KLoop.ret ?_
      | (show KEnd _ _ _ _ _ _ _; refine KEnd.fin (Or.inr rfl) ⟨_, (ResL.tmp rfl ResL.nil), ?_⟩))
    · exact ⟨by rw [decide_eq_false (fun e => hp (by rw [← hx, ← hy, e]))]; rfl, H⟩
    · refine KLoop.again (k + 1) ⟨got_succ rfl (by omega), trivial⟩ ⟨rfl, rfl, trivial⟩ ⟨H, hlt, fun j hj => ?_⟩ (by omega)
      rcases Nat.lt_or_ge j k with h1 | h1
      · exact hall j h1
      · obtain rfl : j = k := by omega
        rw [hx, hy]; assumption
  · obtain rfl : k = xs.length := by omega
    repeat' (first
      | (show VcL _ _ _ _ _ _ _ _; first
      | refine VcL.pures tabOk rfl ?_
      | refine VcL.nil ?_)
      | (show Vc _ _ _ _ _ _; first
      | refine Vc.seq ?_
      | refine Vc.region ?_
      | refine Vc.ret ?_
      | refine Vc.exit ?_
      | (refine Vc.cond rfl (fun h => ?_) (fun h => ?_) <;> first | (exfalso; simp only [decide_eq_true_eq, decide_eq_false_iff_not, Bool.not_eq_true', Bool.not_eq_false'] at h; omega) | (with_reducible have hp := of_decide_eq_false h)))
      | (show KSeq _ _ _ _ _ _ _; first
      | refine KSeq.normal ?_
      | refine KSeq.exit ?_)
      | (show KBlock _ _ _ _ _ _; refine KBlock.here ?_)
      | refine KLoop.exit ?_
      | (show KEnd _ _ _ _ _ _ _; refine KEnd.fin (Or.inr rfl) ⟨_, (ResL.tmp rfl ResL.nil), ?_⟩))
    have e := map_eq_of0 hl hall
    exact ⟨by rw [decide_eq_true e]; rfl, H⟩
def homeS (D : Dk) (ho : Nat) : List By := (List.range ho).map (rdB D)
theorem homeS_len (D : Dk) (ho : Nat) : (homeS D ho).length = ho := by unfold homeS; simp
theorem homeS_at {D : Dk} {ho i : Nat} (h : i < ho) : atD (homeS D ho) i = rdB D i := atD_of (by unfold homeS; rw [List.getElem?_map, List.getElem?_range h]; rfl)
def isS (D : Dk) (ho : Nat) (dead : Bool) (l : List By) : Int := if dead then 2 else if homeS D ho = l then 1 else 0
theorem is_any {s d ho : Nat} {dead : Bool} {D : Dk} (H : Holds I w (dskA d D :: blk s 82 (stV d (ho : Nat) dead) :: L)) (hw : D.writes + 10 < 2 ^ 40) (hh : ho ≤ D.blocks.length) (h0 : 0 < ho) {v : Value} {xs : List By} (hv : SlI I v 1 xs.length (xs.flatMap pgC)) (hl : xs.length = ho) :
    Rets Try.prog F_tithinglaw16_is #[ptr s, v] w fun u w' => u = .int .i64 (isS D ho dead xs) ∧ Holds I w' (dskA d D :: blk s 82 (stV d (ho : Nat) dead) :: L) := by
  have hok := dsk_ok H
  have hfew := hok.few
  obtain ⟨A, cap, rfl, hcap⟩ := hv.form
  refine ok_tithinglaw16_is.rets rfl ?_
  repeat' (first
    | (show VcL _ _ _ _ _ _ _ _; first
      | refine VcL.pures tabOk rfl ?_
      | refine VcL.nil ?_)
    | (show Vc _ _ _ _ _ _; first
      | refine Vc.seq ?_
      | refine Vc.region ?_
      | refine Vc.block ?_)
    | (show KSeq _ _ _ _ _ _ _; refine KSeq.normal ?_))
  refine Vc.loopS [(0, _), (1, _)] (fun k : Nat => [(5, .int .i64 k)]) (fun k w => k ≤ ho ∧ (0 < k → dead = false) ∧ (∀ j, j < k → rdB D j = atD xs j) ∧ Holds I w (dskA d D :: blk s 82 (stV d (ho : Nat) dead) :: L)) (fun k _ => ho - k) 0 ⟨rfl, trivial⟩ ⟨rfl, rfl, trivial⟩ ⟨Nat.zero_le _, fun h => absurd h (by omega), fun j hj => absurd hj (by omega), H⟩ ?_
  clear H
  rintro k w ⟨hk, hd, hall, H⟩
  by_cases hlt : k < ho
  · obtain ⟨b1, o1, rfl, hrI⟩ := hv.at (by omega)
    have hrI := hrI.elem pgC_len (atD_get (show k < xs.length by omega))
    obtain ⟨x, hx⟩ : ∃ x, atD xs k = x := ⟨_, rfl⟩
    rw [hx] at hrI
    have hrI : RdI I b1 (o1 + k * 1) [.string ⟨x.toArray⟩] := hrI
    have hr1 : RdW I L b1 (o1 + k * 1) [.string ⟨x.toArray⟩] := hrI.toW
    obtain ⟨rd, hrd⟩ : ∃ rd, srdS D ho dead (k : Nat) = rd := ⟨_, rfl⟩
    have hcase : (dead = true ∧ rd = ([], 160)) ∨ (dead = false ∧ rd = (rdB D k, 0)) := by
      rw [← hrd]
      unfold srdS
      cases dead with
      | true => exact .inl ⟨rfl, rfl⟩
      | false => exact .inr ⟨rfl, by rw [if_neg (by decide), if_pos ⟨by omega, by omega⟩]; rfl⟩
    repeat' (first
      | (refine VcD.eff rfl rfl rfl rfl (OpE.ofBytes (m := rd.1.length) (bs := rd.1) tabOk rfl rfl rfl rfl rfl rfl rfl rfl (Holds.own_src H) ⟨_, _, rfl⟩) ?_; rintro _ w ⟨rfl, he⟩; subst he; refine ⟨H, ?_⟩)
      | rw [str_eq]
      | (show VcL _ _ _ _ _ _ _ _; first
      | refine VcL.pures tabOk rfl ?_
      | refine VcL.nil ?_
      | (show VcL _ _ _ _ (⟨_, .call ⟨.value (.func F_journal_Store_Read), _, _⟩, _, _, _, _⟩ :: _) _ _ _; (refine VcL.callF ok_journal_Store_Read rfl rfl rfl rfl (Rets.mono (SRead_any (D := D) (ho := ho) (dead := dead) H Holds.toW (by omega) hh (k : Nat)) ?_); rintro _ w ⟨uv, rfl, H⟩; rw [hrd] at H ⊢; obtain ⟨_, A7, c7, rfl⟩ := Holds.own_len H)))
      | (show VcD _ _ _ _ _ _ _ _ _; first
      | refine VcD.pures tabOk rfl ?_
      | refine VcD.done ?_
      | (show VcD _ _ _ _ _ (.pure _ _) _ _ _; first
      | refine VcD.indexAddr tabOk rfl rfl rfl rfl rfl rfl rfl (by omega) (by omega) ?_
      | (refine VcD.guardP rfl rfl rfl rfl rfl (fun h => ?_) (fun h => ?_) <;> first | (with_reducible have hp := ndec_t h) | (with_reducible have hp := ndec_f h)))
      | (show VcD _ _ _ _ _ (.take _ _) _ _ _; refine VcD.load1 tabOk rfl rfl rfl rfl rfl rfl (by intro w_ hw_; exact RdW.get0 (by assumption) rfl (Holds.drop (Holds.drop (Holds.drop hw_)))) (by exact rfl) ?_))
      | (show Vc _ _ _ _ _ _; first
      | refine Vc.seq ?_
      | refine Vc.region ?_
      | refine Vc.condT rfl ?_
      | refine Vc.ret ?_
      | refine Vc.skip ?_
      | refine Vc.block ?_
      | refine Vc.drawnH (id := 7) H (.pure 0 (.pure 2 (.pure 3 (.pure 4 (.take 5 (.only 1 (.pure 6 (.pure 7 (.pure 8 (.pure 9 (.pure 10 .done))))))))))) mixed (by kernel_rfl) (fun w H => ?_)
      | (refine Vc.cond rfl (fun h => ?_) (fun h => ?_) <;> first | (exfalso; simp only [decide_eq_true_eq, decide_eq_false_iff_not, Bool.not_eq_true', Bool.not_eq_false'] at h; omega) | (with_reducible have hp := of_decide_eq_true h) | (with_reducible have hp := of_decide_eq_false h) | (with_reducible have hp := ndec_t h) | (with_reducible have hp := ndec_f h)))
      | (show KSeq _ _ _ _ _ _ _; first
      | refine KSeq.normal ?_
      | refine KSeq.ret ?_)
      | (show KBlock _ _ _ _ _ _; first
      | refine KBlock.normal ?_
      | refine KBlock.ret ?_)
      | refine KLoop.ret ?_
      | (show KEnd _ _ _ _ _ _ _; refine KEnd.fin (Or.inr rfl) ⟨_, (ResL.tmp rfl ResL.nil), ?_⟩))
    · refine ⟨?_, Holds.drop H⟩
      rcases hcase with ⟨rfl, _⟩ | ⟨_, h2⟩
      · rfl
      · rw [h2] at hp; exact absurd (show (0 : Int) = 160 from hp) (by decide)
    · refine ⟨?_, Holds.drop H⟩
      rcases hcase with ⟨rfl, h2⟩ | ⟨rfl, h2⟩
      · exact absurd (show rd.2 = 160 by rw [h2]) (by assumption)
      · rw [h2] at hp
        unfold isS
        rw [if_neg (by decide), if_neg (fun e => hp (by rw [← hx, ← e, homeS_at hlt]))]
        rfl
    · rcases hcase with ⟨rfl, h2⟩ | ⟨rfl, h2⟩
      · exact absurd (show rd.2 = 160 by rw [h2]) (by assumption)
      · rw [h2] at hp; exact absurd rfl hp
    · rcases hcase with ⟨rfl, h2⟩ | ⟨rfl, h2⟩
      · exact absurd (show rd.2 = 160 by rw [h2]) (by assumption)
      · refine KLoop.again (k + 1) ⟨got_succ rfl (by omega), trivial⟩ ⟨rfl, rfl, trivial⟩ ⟨hlt, fun _ => rfl, fun j hj => ?_, Holds.drop H⟩ (by omega)
        rcases Nat.lt_or_ge j k with h1 | h1
        · exact hall j h1
        · obtain rfl : j = k := by omega
          rw [hx]
          have e : rd.1 = x := by assumption
          rw [h2] at e
          exact e
  · obtain rfl : k = ho := by omega
    repeat' (first
      | (show VcL _ _ _ _ _ _ _ _; first
      | refine VcL.pures tabOk rfl ?_
      | refine VcL.nil ?_)
      | (show Vc _ _ _ _ _ _; first
      | refine Vc.seq ?_
      | refine Vc.region ?_
      | refine Vc.ret ?_
      | refine Vc.exit ?_
      | (refine Vc.cond rfl (fun h => ?_) (fun h => ?_) <;> first | (exfalso; simp only [decide_eq_true_eq, decide_eq_false_iff_not, Bool.not_eq_true', Bool.not_eq_false'] at h; omega) | (with_reducible have hp := of_decide_eq_false h)))
      | (show KSeq _ _ _ _ _ _ _; first
      | refine KSeq.normal ?_
      | refine KSeq.exit ?_)
      | (show KBlock _ _ _ _ _ _; refine KBlock.here ?_)
      | refine KLoop.exit ?_
      | (show KEnd _ _ _ _ _ _ _; refine KEnd.fin (Or.inr rfl) ⟨_, (ResL.tmp rfl ResL.nil), ?_⟩))
    obtain rfl := hd h0
    refine ⟨?_, H⟩
    have e : homeS D k = xs := map_eq_of0 (by rw [homeS_len]; exact hl.symm) (fun j hj => by rw [homeS_len] at hj; rw [homeS_at hj]; exact hall j hj)
    unfold isS
    rw [if_neg (by decide), if_pos e]
    rfl
end Go.Proofs.Ytoahfjfknljacaa.V
