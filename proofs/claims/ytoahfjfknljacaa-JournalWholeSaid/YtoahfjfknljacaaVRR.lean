/- What writes make of pages. -/
import Derived.Test.YtoahfjfknljacaaVQQ
namespace Go.Proofs.Ytoahfjfknljacaa.V
open Go Go.Proofs.YtoahfjfknljacaaV
set_option linter.unusedVariables false
set_option linter.unusedSimpArgs false
set_option maxHeartbeats 1000000
set_option maxRecDepth 4000
attribute [local irreducible] IntKind.wrap
variable {I : Imm} {w : World} {L : List Asn}
def afterL (now : List By) : List By → Ws → List By
  | out, [] => out
  | out, x :: r => if x.1 < 0 ∨ now.length ≤ x.1 then now else afterL now (out.set x.1.toNat x.2) r
def afterS (now : List By) (ws : Ws) : List By := afterL now now ws
theorem drop_atD {α : Type} [Inhabited α] {l : List α} {k : Nat} (h : k < l.length) : l.drop k = atD l k :: l.drop (k + 1) := by
  rw [List.drop_eq_getElem_cons h]
  congr 1
  have := atD_get h
  rw [List.getElem?_eq_getElem h] at this
  exact Option.some.inj this
theorem pgC_one (l : List By) : ∀ u ∈ l.flatMap pgC, oneC u = true := fun u hu => by
  obtain ⟨x, hx, hu⟩ := List.mem_flatMap.1 hu
  simp only [pgC, List.mem_singleton] at hu
  rw [hu]
  rfl
theorem repL0 (x : List Value) : repL 0 x = [] := List.eq_nil_of_length_eq_zero (by rw [repL_length, Nat.zero_mul])
theorem after_any (H : Holds I w L) {v u : Value} {xs : List By} {wl : Wl} (hv : SlI I v 1 xs.length (xs.flatMap pgC)) (hxl : xs.length ≤ 1000000) (hu : SlR I L u 2 wl.length (wl.flatMap wrC)) (hda : ∀ x ∈ wl, SlR I L x.2.1 1 x.2.2.length (byL x.2.2)) (hlen : wl.length ≤ 1000000) :
    Rets Try.prog F_tithinglaw16_after #[v, u] w fun r w' => ∃ J, Imm.Le I J ∧ SlI J r 1 xs.length ((afterS xs (wsOf wl)).flatMap pgC) ∧ Holds J w' L := by
  obtain ⟨A, cap, rfl, hcap⟩ := hv.form
  obtain ⟨B, cap2, rfl, hcap2⟩ := hu.form
  have hone := pgC_one xs
  refine ok_tithinglaw16_after.rets rfl ?_
  repeat' (first
    | (refine VcL.append (m := xs.length) (ds := xs.flatMap pgC) tabOk rfl rfl rfl rfl H (SlR.src hv.toR (Holds.drop H)) hone (by show (_ + _) * 16 ≤ _; omega) rfl rfl rfl (fun v_ w H => ?_))
    | (show VcL _ _ _ _ _ _ _ _; first
      | refine VcL.pures tabOk rfl ?_
      | refine VcL.nil ?_
      | refine VcL.buildSlice tabOk H rfl rfl rfl rfl rfl rfl (fun sv w H => ?_))
    | (show Vc _ _ _ _ _ _; first
      | refine Vc.seq ?_
      | refine Vc.region ?_
      | refine Vc.block ?_)
    | (show KSeq _ _ _ _ _ _ _; refine KSeq.normal ?_))
  rw [Nat.zero_add, repL0, List.nil_append] at H
  obtain ⟨_, A3, cap3, rfl⟩ := Holds.own_len H
  obtain ⟨ws, hws⟩ : ∃ ws, wsOf wl = ws := ⟨_, rfl⟩
  have hwl : ws.length = wl.length := by rw [← hws, wsOf_len]
  rw [hws]
  refine Vc.loopS [(0, _), (1, _), (5, _)] (fun k : Nat => [(6, .int .i64 k)]) (fun k w => k ≤ wl.length ∧ ∃ out : List By, out.length = xs.length ∧ afterL xs out (ws.drop k) = afterS xs ws ∧ Holds I w (own (.slice A3 xs.length cap3) 9 1 xs.length (out.flatMap pgC) :: L)) (fun k _ => wl.length - k) 0 ⟨rfl, trivial⟩ ⟨rfl, rfl, rfl, trivial⟩ ⟨Nat.zero_le _, xs, rfl, rfl, H⟩ ?_
  clear H
  rintro k w ⟨hk, out, hol, hout, H⟩
  by_cases hlt : k < wl.length
  · obtain ⟨b1, o1, rfl, hr1⟩ := hu.at (by omega)
    have hr1 := hr1.elem wrC_len (atD_get hlt)
    have hd1 := hda _ (atD_mem hlt)
    have hat : atD ws k = ((atD wl k).1, (atD wl k).2.2) := by rw [← hws]; exact wsOf_at hlt
    rw [drop_atD (by omega), hat] at hout
    obtain ⟨x, hx⟩ : ∃ x, atD wl k = x := ⟨_, rfl⟩
    rw [hx] at hr1 hd1 hout
    obtain ⟨n, xv, xd⟩ := x
    dsimp only at hd1 hout
    obtain ⟨A5, c5, rfl, hc5⟩ := hd1.form
    have hr1 : RdW I L b1 (o1 + k * 2) [.int .i64 n, .slice A5 xd.length c5] := hr1
    unfold afterL at hout
    dsimp only at hout
    by_cases hin : n < 0 ∨ (xs.length : Int) ≤ n
    · rw [if_pos hin] at hout
      repeat' (first
        | (show VcL _ _ _ _ _ _ _ _; first
      | refine VcL.pures tabOk rfl ?_
      | refine VcL.nil ?_
      | (show VcL _ _ _ _ (⟨_, .load _ _, _, _, _, _⟩ :: _) _ _ _; refine VcL.load1 tabOk rfl rfl rfl rfl rfl (by exact RdW.get0 (by assumption) rfl (Holds.drop H)) ?_)
      | (show VcL _ _ _ _ (⟨_, .indexAddr _ _ _, _, _, _, _⟩ :: _) _ _ _; refine VcL.indexAddr tabOk rfl rfl rfl rfl rfl rfl (by omega) (by omega) ?_)
      | (refine VcL.guard rfl rfl rfl rfl (fun h => ?_) (fun h => ?_) <;> first | (with_reducible have hp := of_decide_eq_true h) | (with_reducible have hp := of_decide_eq_false h)))
        | (show Vc _ _ _ _ _ _; first
      | refine Vc.seq ?_
      | refine Vc.region ?_
      | refine Vc.condT rfl ?_
      | refine Vc.ret ?_
      | refine Vc.skip ?_
      | refine Vc.block ?_
      | (refine Vc.cond rfl (fun h => ?_) (fun h => ?_) <;> first | (exfalso; simp only [decide_eq_true_eq, decide_eq_false_iff_not, Bool.not_eq_true', Bool.not_eq_false'] at h; omega) | (with_reducible have hp := of_decide_eq_true h)))
        | (show KSeq _ _ _ _ _ _ _; first
      | refine KSeq.normal ?_
      | refine KSeq.ret ?_)
        | (show KBlock _ _ _ _ _ _; refine KBlock.ret ?_)
        | refine KLoop.ret ?_
        | (show KEnd _ _ _ _ _ _ _; refine KEnd.fin (Or.inr rfl) ⟨_, (ResL.tmp rfl ResL.nil), ?_⟩))
      all_goals exact ⟨I, Imm.Le.rfl' I, by rw [← hout]; exact hv, H.drop⟩
    · rw [if_neg hin] at hout
      obtain ⟨m, rfl⟩ := Int.eq_ofNat_of_zero_le (show 0 ≤ n by omega)
      obtain ⟨b4, o4, c4, e4, _⟩ := Holds.own_some (by omega) H
      injection e4 with e5 e6 e7
      subst e5
      have hq : out[m]? = some (atD out m) := atD_get (by omega)
      repeat' (first
        | (refine VcD.eff rfl rfl rfl rfl (OpE.ofBytes (m := xd.length) (bs := xd) tabOk rfl rfl rfl rfl rfl rfl rfl rfl (SlR.src hd1 (Holds.drop H)) ⟨_, _, rfl⟩) ?_; rintro _ w ⟨rfl, he⟩; subst he; refine ⟨RdW.rd hr1 (Holds.drop H), ?_⟩)
        | (refine VcD.eff rfl rfl rfl rfl (OpE.storeOwn (f := 0) xd tabOk pgC_len H hq rfl rfl rfl (by exact rfl) (by exact rfl) (by exact rfl) (by exact rfl) (by exact rfl)) ?_; rintro _ w ⟨_, H⟩; refine ⟨RdW.rd hr1 (Holds.drop H), ?_⟩)
        | (show VcL _ _ _ _ _ _ _ _; first
      | refine VcL.pures tabOk rfl ?_
      | refine VcL.nil ?_
      | (show VcL _ _ _ _ (⟨_, .load _ _, _, _, _, _⟩ :: _) _ _ _; refine VcL.load1 tabOk rfl rfl rfl rfl rfl (by exact RdW.get0 (by assumption) rfl (Holds.drop H)) ?_)
      | (show VcL _ _ _ _ (⟨_, .indexAddr _ _ _, _, _, _, _⟩ :: _) _ _ _; refine VcL.indexAddr tabOk rfl rfl rfl rfl rfl rfl (by omega) (by omega) ?_)
      | (refine VcL.guard rfl rfl rfl rfl (fun h => ?_) (fun h => ?_) <;> first | (cases h; done) | (with_reducible have hp := of_decide_eq_false h)))
        | (show VcD _ _ _ _ _ _ _ _ _; first
      | refine VcD.pures tabOk rfl ?_
      | refine VcD.done ?_
      | (show VcD _ _ _ _ _ (.pure _ _) _ _ _; refine VcD.indexAddr tabOk rfl rfl rfl rfl rfl rfl rfl (by omega) (by omega) ?_)
      | (show VcD _ _ _ _ _ (.take _ _) _ _ _; refine VcD.load1 tabOk rfl rfl rfl rfl rfl rfl (by intro w_ hw_; first | exact hw_ _ _ rfl | exact hw_ 0 _ rfl) (by exact rfl) ?_))
        | (show Vc _ _ _ _ _ _; first
      | refine Vc.seq ?_
      | refine Vc.region ?_
      | refine Vc.skip ?_
      | refine Vc.block ?_
      | (refine Vc.drawn (id := 7) (.pure 0 (.pure 1 (.pure 2 (.pure 6 (.pure 7 (.pure 3 (.pure 4 (.take 5 (.pure 8 (.pure 9 (.take 10 (.only 11 (.pure 12 (.only 13 .done)))))))))))))) (.one (fun w => Rd w b1 (o1 + k * 2) [.int .i64 (m : Nat), .slice A5 xd.length c5])) mixed (by kernel_rfl) (by exact RdW.rd (by assumption) (Holds.drop (Holds.drew H _))) ?_; have H := H.drew (w.drawn + 1))
      | (refine Vc.cond rfl (fun h => ?_) (fun h => ?_) <;> first | (exfalso; simp only [decide_eq_true_eq, decide_eq_false_iff_not, Bool.not_eq_true', Bool.not_eq_false'] at h; omega) | (with_reducible have hp := of_decide_eq_true h) | (with_reducible have hp := of_decide_eq_false h)))
        | (show KSeq _ _ _ _ _ _ _; refine KSeq.normal ?_)
        | (show KBlock _ _ _ _ _ _; refine KBlock.normal ?_))
      exact KLoop.again (k + 1) ⟨got_succ rfl (by omega), trivial⟩ ⟨rfl, rfl, rfl, trivial⟩ ⟨hlt, out.set m xd, by rw [List.length_set]; exact hol, hout, H⟩ (by omega)
  · obtain rfl : k = wl.length := by omega
    rw [List.drop_of_length_le (by omega)] at hout
    have hout : out = afterS xs ws := hout
    repeat' (first
      | (show VcL _ _ _ _ _ _ _ _; first
      | refine VcL.pures tabOk rfl ?_
      | refine VcL.nil ?_)
      | (show Vc _ _ _ _ _ _; first
      | refine Vc.seq ?_
      | refine Vc.region ?_
      | refine Vc.ret ?_
      | refine Vc.exit ?_
      | (refine Vc.cond rfl (fun h => ?_) (fun h => ?_) <;> first | (exfalso; simp only [decide_eq_true_eq, decide_eq_false_iff_not, Bool.not_eq_true', Bool.not_eq_false'] at h; omega) | (with_reducible have hp := of_decide_eq_false h)))
      | (show KSeq _ _ _ _ _ _ _; first
      | refine KSeq.normal ?_
      | refine KSeq.exit ?_)
      | (show KBlock _ _ _ _ _ _; refine KBlock.here ?_)
      | refine KLoop.exit ?_
      | (show KEnd _ _ _ _ _ _ _; refine KEnd.fin (Or.inr rfl) ⟨_, (ResL.tmp rfl ResL.nil), ?_⟩))
    obtain ⟨J, hJ, HJ, hs⟩ := Holds.freezeOwn H
    exact ⟨J, hJ, by rw [← hout]; exact hs, HJ⟩
end Go.Proofs.Ytoahfjfknljacaa.V
