/- The document's store: read, commit. -/
import Derived.Test.YtoahfjfknljacaaVZ
namespace Go.Proofs.Ytoahfjfknljacaa.V
open Go Go.Proofs.YtoahfjfknljacaaV
set_option linter.unusedVariables false
set_option linter.unusedSimpArgs false
set_option maxHeartbeats 1000000
set_option maxRecDepth 4000
attribute [local irreducible] IntKind.wrap
variable {I : Imm} {w : World} {L : List Asn}
theorem SReadR_any {s d ho : Nat} {dead : Bool} {D : Dk} (H : Holds I w (rdkA I d D :: L)) (hs : RdW I L s 0 (stV d (ho : Nat) dead)) (hw : D.writes < 2 ^ 40) (hh : ho ≤ D.blocks.length) (k : Int) :
    Rets Try.prog F_tithingref16_Store_Read #[ptr s, .int .i64 k] w fun u w' => ∃ uv, u = .tuple #[uv, .int .i64 (srdS D ho dead k).2] ∧ Holds I w' (own uv 5 1 (srdS D ho dead k).1.length (byL (srdS D ho dead k).1) :: rdkA I d D :: L) := by
  have hs1 := hs.up (A := rdkA I d D)
  have hok := rdk_ok H
  cases dead with
  | true =>
    refine ok_tithingref16_Store_Read.rets rfl ?_
    repeat' (first
      | (show VcL _ _ _ _ _ _ _ _; first
      | refine VcL.pures tabOk rfl ?_
      | refine VcL.nil ?_
      | (show VcL _ _ _ _ (⟨_, .load _ _, _, _, _, _⟩ :: _) _ _ _; refine VcL.load1 tabOk rfl rfl rfl rfl rfl (by exact RdW.get (by assumption) rfl H) ?_))
      | (show Vc _ _ _ _ _ _; first
      | refine Vc.seq ?_
      | refine Vc.region ?_
      | refine Vc.condT rfl ?_
      | refine Vc.ret ?_
      | refine Vc.block ?_)
      | (show KSeq _ _ _ _ _ _ _; first
      | refine KSeq.normal ?_
      | refine KSeq.ret ?_)
      | (show KBlock _ _ _ _ _ _; refine KBlock.ret ?_)
      | (show KEnd _ _ _ _ _ _ _; refine KEnd.fin (Or.inr rfl) ⟨_, (ResL.tmp rfl (ResL.tmp rfl ResL.nil)), ?_⟩))
    exact ⟨_, rfl, H.own_nil⟩
  | false =>
    by_cases hk : 0 ≤ k ∧ k < ho
    · have e : srdS D ho false k = (rdB D k.toNat, 0) := by unfold srdS; rw [if_neg (by decide), if_pos hk]
      rw [e]
      obtain ⟨n, rfl⟩ := Int.eq_ofNat_of_zero_le hk.1
      have hrl := rdB_len hok (show n < D.blocks.length by omega)
      refine ok_tithingref16_Store_Read.rets rfl ?_
      repeat' (first
        | (show VcL _ _ _ _ _ _ _ _; first
      | refine VcL.pures tabOk rfl ?_
      | refine VcL.nil ?_
      | (show VcL _ _ _ _ (⟨_, .load _ _, _, _, _, _⟩ :: _) _ _ _; refine VcL.load1 tabOk rfl rfl rfl rfl rfl (by first | exact RdW.get (by assumption) rfl H | exact RdW.get0 (by assumption) rfl H) ?_)
      | (show VcL _ _ _ _ (⟨_, .call ⟨.value (.func F_tithingref16_Disk_Read), _, _⟩, _, _, _, _⟩ :: _) _ _ _; (refine VcL.callF ok_tithingref16_Disk_Read rfl rfl rfl rfl (Rets.mono (ReadR_good (k := n) H hw (by omega)) ?_); rintro _ w ⟨uv, rfl, H⟩))
      | (refine VcL.guard rfl rfl rfl rfl (fun h => ?_) (fun h => ?_) <;> first | (cases h; done) | (with_reducible have hp := of_decide_eq_false h)))
        | (show Vc _ _ _ _ _ _; first
      | refine Vc.seq ?_
      | refine Vc.region ?_
      | refine Vc.condF rfl ?_
      | refine Vc.ret ?_
      | refine Vc.skip ?_
      | refine Vc.block ?_
      | (refine Vc.cond rfl (fun h => ?_) (fun h => ?_) <;> first | (exfalso; simp only [decide_eq_true_eq, decide_eq_false_iff_not, Bool.not_eq_true', Bool.not_eq_false'] at h; omega) | (with_reducible have hp := of_decide_eq_false h)))
        | (show KSeq _ _ _ _ _ _ _; refine KSeq.normal ?_)
        | (show KBlock _ _ _ _ _ _; refine KBlock.normal ?_)
        | (show KEnd _ _ _ _ _ _ _; refine KEnd.fin (Or.inr rfl) ⟨_, (ResL.tmp rfl (ResL.tmp rfl ResL.nil)), ?_⟩))
      refine ⟨uv, rfl, ?_⟩
      rw [← hrl] at H
      exact H
    · have e : srdS D ho false k = ([], 2) := by unfold srdS; rw [if_neg (by decide), if_neg hk]
      rw [e]
      refine ok_tithingref16_Store_Read.rets rfl ?_
      repeat' (first
        | (show VcL _ _ _ _ _ _ _ _; first
      | refine VcL.pures tabOk rfl ?_
      | refine VcL.nil ?_
      | (show VcL _ _ _ _ (⟨_, .load _ _, _, _, _, _⟩ :: _) _ _ _; refine VcL.load1 tabOk rfl rfl rfl rfl rfl (by exact RdW.get (by assumption) rfl H) ?_)
      | (refine VcL.guard rfl rfl rfl rfl (fun h => ?_) (fun h => ?_) <;> first | (with_reducible have hp := of_decide_eq_true h) | (with_reducible have hp := of_decide_eq_false h)))
        | (show Vc _ _ _ _ _ _; first
      | refine Vc.seq ?_
      | refine Vc.region ?_
      | refine Vc.condT rfl ?_
      | refine Vc.condF rfl ?_
      | refine Vc.ret ?_
      | refine Vc.block ?_
      | (refine Vc.cond rfl (fun h => ?_) (fun h => ?_) <;> first | (exfalso; simp only [decide_eq_true_eq, decide_eq_false_iff_not, Bool.not_eq_true', Bool.not_eq_false'] at h; omega) | (with_reducible have hp := of_decide_eq_true h)))
        | (show KSeq _ _ _ _ _ _ _; first
      | refine KSeq.normal ?_
      | refine KSeq.ret ?_)
        | (show KBlock _ _ _ _ _ _; refine KBlock.ret ?_)
        | (show KEnd _ _ _ _ _ _ _; refine KEnd.fin (Or.inr rfl) ⟨_, (ResL.tmp rfl (ResL.tmp rfl ResL.nil)), ?_⟩))
      all_goals exact ⟨_, rfl, H.own_nil⟩
theorem mem_seen {ws : Ws} {k : Nat} {q : Int} (h : q ∈ seen ws k) (hk : k ≤ ws.length) : ∃ j, j < k ∧ (atD ws j).1 = q := by
  unfold seen at h
  obtain ⟨x, hx, rfl⟩ := List.mem_map.1 h
  obtain ⟨j, hj, e⟩ := mem_atD hx
  rw [List.length_take] at hj
  refine ⟨j, by omega, ?_⟩
  rw [← e]
  congr 1
  exact atD_of (by rw [← atD_get (show j < (ws.take k).length by rw [List.length_take]; omega), List.getElem?_take, if_pos (by omega)])
theorem seen_mem {ws : Ws} {k j : Nat} (hj : j < k) (hk : k ≤ ws.length) : (atD ws j).1 ∈ seen ws k := by
  unfold seen
  refine List.mem_map_of_mem (List.mem_of_getElem? (i := j) ?_)
  rw [List.getElem?_take, if_pos hj, atD_get (by omega)]
theorem asked_any {s d ho : Nat} {dead : Bool} (H : Holds I w L) (hs : RdW I L s 0 (stV d (ho : Nat) dead)) {v : Value} {wl : Wl} (hv : SlR I L v 2 wl.length (wl.flatMap wrC)) (hda : ∀ x ∈ wl, SlR I L x.2.1 1 x.2.2.length (byL x.2.2)) (hlen : wl.length ≤ 140737488355328) :
    Rets Try.prog F_tithingref16_Store_asked #[ptr s, v] w fun u w' => u = .int .i64 (asked ho (wsOf wl)) ∧ Holds I w' L := by
  obtain ⟨A, cap, rfl, hcap⟩ := hv.form
  obtain ⟨ws, hws⟩ : ∃ ws, wsOf wl = ws := ⟨_, rfl⟩
  have hwl : ws.length = wl.length := by rw [← hws, wsOf_len]
  have hwa : ∀ k, k < wl.length → atD ws k = ((atD wl k).1, (atD wl k).2.2) := fun k hk => by rw [← hws]; exact wsOf_at hk
  rw [hws]
  refine ok_tithingref16_Store_asked.rets rfl ?_
  repeat' (first
    | (show VcL _ _ _ _ _ _ _ _; first
      | refine VcL.pures tabOk rfl ?_
      | refine VcL.nil ?_)
    | (show Vc _ _ _ _ _ _; first
      | refine Vc.seq ?_
      | refine Vc.region ?_
      | refine Vc.block ?_)
    | (show KSeq _ _ _ _ _ _ _; refine KSeq.normal ?_))
  refine Vc.loopS [(0, _), (1, _)] (fun k : Nat => [(5, .int .i64 k)]) (fun k w => k ≤ wl.length ∧ (∀ j, j < k → 0 ≤ (atD ws j).1 ∧ (atD ws j).1 < ho ∧ (atD ws j).2.length = 256) ∧ (seen ws k).Nodup ∧ Holds I w L) (fun k _ => wl.length - k) 0 ⟨rfl, trivial⟩ ⟨rfl, rfl, trivial⟩ ⟨Nat.zero_le _, (fun j hj => absurd hj (by omega)), List.nodup_nil, H⟩ ?_
  rintro k w ⟨hk, hall, hnd, H⟩
  by_cases hlt : k < wl.length
  · obtain ⟨x, hx⟩ : ∃ x, atD wl k = x := ⟨_, rfl⟩
    have hxm : x ∈ wl := hx ▸ atD_mem hlt
    obtain ⟨bw, ow, rfl, hrw⟩ := hv.at (by omega)
    have hrx := hrw.elem wrC_len (atD_get hlt)
    obtain ⟨A9, c9, hxf, _⟩ := (hda x hxm).form
    rw [hx] at hrx
    have hwx := hwa k hlt
    rw [hx] at hwx
    obtain ⟨xi, xv, dat⟩ := x
    dsimp only at hxf hwx
    subst hxf
    have hrx : RdW I L bw (ow + k * 2) [.int .i64 xi, .slice A9 dat.length c9] := hrx
    repeat' (first
      | (show VcL _ _ _ _ _ _ _ _; first
      | refine VcL.pures tabOk rfl ?_
      | refine VcL.nil ?_)
      | (show VcD _ _ _ _ _ _ _ _ _; first
      | refine VcD.pures tabOk rfl ?_
      | refine VcD.done ?_
      | (show VcD _ _ _ _ _ (.pure _ _) _ _ _; first
      | refine VcD.indexAddr tabOk rfl rfl rfl rfl rfl rfl rfl (by omega) (by omega) ?_
      | (refine VcD.guardP rfl rfl rfl rfl rfl (fun h => ?_) (fun h => ?_) <;> first | (cases h; done) | (with_reducible have hp := of_decide_eq_true h) | (with_reducible have hp := of_decide_eq_false h) | skip))
      | (show VcD _ _ _ _ _ (.take _ _) _ _ _; first
      | refine VcD.load1 tabOk rfl rfl rfl rfl rfl rfl (by intro w_ hw_; first | exact RdW.get (by assumption) rfl hw_ | exact RdW.get0 (by assumption) rfl hw_) (by exact rfl) ?_
      | refine VcD.skipT rfl rfl rfl ?_))
      | (show Vc _ _ _ _ _ _; first
      | refine Vc.seq ?_
      | refine Vc.region ?_
      | refine Vc.condT rfl ?_
      | refine Vc.ret ?_
      | refine Vc.skip ?_
      | refine Vc.block ?_
      | refine Vc.drawnH (id := 4) H (.pure 0 (.pure 1 (.pure 2 (.pure 3 (.take 4 (.pure 5 (.pure 6 (.pure 7 (.pure 8 (.pure 12 (.pure 13 (.pure 14 (.pure 9 (.pure 10 (.take 11 (.take 15 (.pure 16 (.pure 17 (.pure 18 (.pure 19 (.pure 20 (.pure 21 (.pure 22 (.take 23 (.pure 24 (.pure 25 (.pure 26 .done))))))))))))))))))))))))))) mixed (by kernel_rfl) (fun w H => ?_)
      | (refine Vc.cond rfl (fun h => ?_) (fun h => ?_) <;> first | (exfalso; simp only [decide_eq_true_eq, decide_eq_false_iff_not, Bool.not_eq_true', Bool.not_eq_false'] at h; omega) | (with_reducible have hp := of_decide_eq_true h) | (with_reducible have hp := ndec_t h) | (with_reducible have hp := ndec_f h)))
      | (show KSeq _ _ _ _ _ _ _; first
      | refine KSeq.normal ?_
      | refine KSeq.ret ?_)
      | (show KBlock _ _ _ _ _ _; refine KBlock.ret ?_)
      | refine KLoop.ret ?_
      | (show KEnd _ _ _ _ _ _ _; refine KEnd.fin (Or.inr rfl) ⟨_, (ResL.tmp rfl ResL.nil), ?_⟩))
    · rw [asked_bad (bad_in (k := k) (by omega) (by rw [hwx]; dsimp only; omega))]
      exact ⟨rfl, H⟩
    · rw [asked_bad (bad_in (k := k) (by omega) (by rw [hwx]; dsimp only; omega))]
      exact ⟨rfl, H⟩
    · rw [asked_bad (bad_in (k := k) (by omega) (by rw [hwx]; dsimp only; omega))]
      exact ⟨rfl, H⟩
    have hin : 0 ≤ xi ∧ xi < ho ∧ dat.length = 256 := by omega
    refine Vc.loopS [(0, _), (1, _), (5, _)] (fun j : Nat => [(6, .int .i64 j)]) (fun j w => j ≤ k ∧ (∀ i, i < j → (atD ws i).1 ≠ xi) ∧ Holds I w L) (fun j _ => k - j) 0 ⟨rfl, trivial⟩ ⟨rfl, rfl, rfl, trivial⟩ ⟨Nat.zero_le _, (fun i hi => absurd hi (by omega)), H⟩ ?_
    rintro j w ⟨hj, hne, H⟩
    by_cases hlt2 : j < k
    · have hry := hrw.elem wrC_len (atD_get (show j < wl.length by omega))
      have hwy := hwa j (by omega)
      obtain ⟨y, hy⟩ : ∃ y, atD wl j = y := ⟨_, rfl⟩
      rw [hy] at hry hwy
      obtain ⟨yi, yv, yd⟩ := y
      have hry : RdW I L bw (ow + j * 2) [.int .i64 yi, yv] := hry
      repeat' (first
        | (show VcL _ _ _ _ _ _ _ _; first
      | refine VcL.pures tabOk rfl ?_
      | refine VcL.nil ?_)
        | (show VcD _ _ _ _ _ _ _ _ _; first
      | refine VcD.pures tabOk rfl ?_
      | refine VcD.done ?_
      | (show VcD _ _ _ _ _ (.pure _ _) _ _ _; refine VcD.indexAddr tabOk rfl rfl rfl rfl rfl rfl rfl (by omega) (by omega) ?_)
      | (show VcD _ _ _ _ _ (.take _ _) _ _ _; refine VcD.load1 tabOk rfl rfl rfl rfl rfl rfl (by intro w_ hw_; exact RdW.get0 (by assumption) rfl hw_) (by exact rfl) ?_))
        | (show Vc _ _ _ _ _ _; first
      | refine Vc.seq ?_
      | refine Vc.region ?_
      | refine Vc.ret ?_
      | refine Vc.skip ?_
      | refine Vc.block ?_
      | refine Vc.drawnH (id := 9) H (.pure 0 (.pure 1 (.pure 5 (.pure 6 (.pure 2 (.pure 3 (.take 4 (.pure 7 (.pure 8 (.take 9 (.pure 10 .done))))))))))) mixed (by kernel_rfl) (fun w H => ?_)
      | (refine Vc.cond rfl (fun h => ?_) (fun h => ?_) <;> first | (exfalso; simp only [decide_eq_true_eq, decide_eq_false_iff_not, Bool.not_eq_true', Bool.not_eq_false'] at h; omega) | (with_reducible have hp := of_decide_eq_true h) | (with_reducible have hp := of_decide_eq_false h)))
        | (show KSeq _ _ _ _ _ _ _; first
      | refine KSeq.normal ?_
      | refine KSeq.ret ?_)
        | (show KBlock _ _ _ _ _ _; first
      | refine KBlock.normal ?_
      | refine KBlock.ret ?_)
        | refine KLoop.ret ?_
        | (show KEnd _ _ _ _ _ _ _; refine KEnd.fin (Or.inr rfl) ⟨_, (ResL.tmp rfl ResL.nil), ?_⟩))
      · have : yi = xi := hp
        rw [asked_bad (bad_twice (k := k) (by omega) (by
          rw [hwx]
          dsimp only
          rw [← this]
          have h9 := seen_mem (ws := ws) hlt2 (by omega)
          rw [hwy] at h9
          exact h9))]
        exact ⟨rfl, H⟩
      · refine KLoop.again (j + 1) ⟨got_succ rfl (by omega), trivial⟩ ⟨rfl, rfl, rfl, trivial⟩ ⟨hlt2, fun i hi => ?_, H⟩ (by omega)
        rcases Nat.lt_or_ge i j with h1 | h1
        · exact hne i h1
        · obtain rfl : j = i := by omega
          rw [hwy]
          exact hp
    · obtain rfl : k = j := by omega
      repeat' (first
        | (show VcL _ _ _ _ _ _ _ _; first
      | refine VcL.pures tabOk rfl ?_
      | refine VcL.nil ?_)
        | (show Vc _ _ _ _ _ _; first
      | refine Vc.seq ?_
      | refine Vc.region ?_
      | refine Vc.exit ?_
      | (refine Vc.cond rfl (fun h => ?_) (fun h => ?_) <;> first | (exfalso; simp only [decide_eq_true_eq, decide_eq_false_iff_not, Bool.not_eq_true', Bool.not_eq_false'] at h; omega) | (with_reducible have hp := of_decide_eq_false h)))
        | (show KSeq _ _ _ _ _ _ _; first
      | refine KSeq.normal ?_
      | refine KSeq.exit ?_)
        | (show KBlock _ _ _ _ _ _; first
      | refine KBlock.normal ?_
      | refine KBlock.here ?_)
        | refine KLoop.exit ?_)
      refine KLoop.again (k + 1) ⟨got_succ rfl (by omega), trivial⟩ ⟨rfl, rfl, trivial⟩ ⟨hlt, fun i hi => ?_, ?_, H⟩ (by omega)
      · rcases Nat.lt_or_ge i k with h1 | h1
        · exact hall i h1
        · obtain rfl : k = i := by omega
          rw [hwx]
          exact hin
      · rw [seen_succ (by omega), hwx, List.nodup_append]
        refine ⟨hnd, List.nodup_cons.2 ⟨List.not_mem_nil, List.nodup_nil⟩, fun a ha b hb e => ?_⟩
        simp only [List.mem_singleton] at hb
        obtain ⟨i, hi, hie⟩ := mem_seen ha (by omega)
        exact hne i hi (hie.trans (e.trans hb))
  · obtain rfl : k = wl.length := by omega
    have hgood : goodW ho ws := ⟨fun x hx => by
      obtain ⟨j, hj, rfl⟩ := mem_atD hx
      exact hall j (by omega), by rw [← seen_all, hwl]; exact hnd⟩
    rw [asked_good hgood, hwl]
    repeat' (first
      | (show VcL _ _ _ _ _ _ _ _; first
      | refine VcL.pures tabOk rfl ?_
      | refine VcL.nil ?_)
      | (show Vc _ _ _ _ _ _; first
      | refine Vc.seq ?_
      | refine Vc.region ?_
      | refine Vc.ret ?_
      | refine Vc.skip ?_
      | refine Vc.exit ?_
      | (refine Vc.cond rfl (fun h => ?_) (fun h => ?_) <;> first | (exfalso; simp only [decide_eq_true_eq, decide_eq_false_iff_not, Bool.not_eq_true', Bool.not_eq_false'] at h; omega) | (with_reducible have hp := of_decide_eq_true h) | (with_reducible have hp := of_decide_eq_false h)))
      | (show KSeq _ _ _ _ _ _ _; first
      | refine KSeq.normal ?_
      | refine KSeq.ret ?_
      | refine KSeq.exit ?_)
      | (show KBlock _ _ _ _ _ _; refine KBlock.here ?_)
      | refine KLoop.exit ?_
      | (show KEnd _ _ _ _ _ _ _; refine KEnd.fin (Or.inr rfl) ⟨_, (ResL.tmp rfl ResL.nil), ?_⟩))
    · rw [if_pos (by omega)]
      exact ⟨rfl, H⟩
    · rw [if_neg (by omega)]
      exact ⟨rfl, H⟩
end Go.Proofs.Ytoahfjfknljacaa.V
