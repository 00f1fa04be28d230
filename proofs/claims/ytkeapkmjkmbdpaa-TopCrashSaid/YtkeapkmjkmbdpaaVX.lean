/- The program's store: Commit. -/
import Derived.Test.YtkeapkmjkmbdpaaVW
namespace Go.Proofs.Ytkeapkmjkmbdpaa.V
open Go Go.Proofs.YtkeapkmjkmbdpaaV
set_option linter.unusedVariables false
set_option linter.unusedSimpArgs false
set_option maxHeartbeats 1000000
set_option maxRecDepth 4000
attribute [local irreducible] IntKind.wrap
variable {I : Imm} {w : World} {L : List Asn}
/-- Numbers that were seen. -/
def sml (l : List Int) : List (Int × Value) := l.map fun q => (q, .bool true)
theorem mget_sml (l : List Int) (q : Int) : mget (sml l) q = if q ∈ l then some (.bool true) else none := by
  unfold mget sml
  induction l with
  | nil => rfl
  | cons x r ih =>
    rw [List.map_cons, List.find?_cons]
    by_cases h : x = q
    · simp [h]
    · have h2 : decide (x = q) = false := decide_eq_false h
      simp only [h2]
      rw [ih]
      simp [Ne.symm h]
theorem mset_sml {l : List Int} {q : Int} (h : q ∉ l) : mset (sml l) q (.bool true) = sml (l ++ [q]) := by
  unfold mset
  have : (sml l).findIdx? (fun p => decide (p.1 = q)) = none := by
    rw [List.findIdx?_eq_none_iff]
    intro x hx
    unfold sml at hx
    obtain ⟨y, hy, rfl⟩ := List.mem_map.1 hx
    exact decide_eq_false (fun e => h (e ▸ hy))
  rw [this]
  unfold sml
  rw [List.map_append]
  rfl
def seen (ws : Ws) (k : Nat) : List Int := (ws.take k).map (·.1)
theorem seen_succ {ws : Ws} {k : Nat} (h : k < ws.length) : seen ws (k + 1) = seen ws k ++ [(atD ws k).1] := by unfold seen; rw [take_atD h, List.map_append]; rfl
theorem seen_all (ws : Ws) : seen ws ws.length = ws.map (·.1) := by unfold seen; rw [List.take_length]
def goodW (ho : Nat) (ws : Ws) : Prop := (∀ x ∈ ws, 0 ≤ x.1 ∧ x.1 < ho ∧ x.2.length = 256) ∧ (ws.map (·.1)).Nodup
theorem asked_bad {ho : Nat} {ws : Ws} (h : ¬ goodW ho ws) : asked ho ws = 2 := if_neg h
theorem asked_good {ho : Nat} {ws : Ws} (h : goodW ho ws) : asked ho ws = if 40 < ws.length then 4 else 0 := if_pos h
theorem bad_in {ho : Nat} {ws : Ws} {k : Nat} (hk : k < ws.length) (h : ¬ (0 ≤ (atD ws k).1 ∧ (atD ws k).1 < ho ∧ (atD ws k).2.length = 256)) : ¬ goodW ho ws := fun hg => h (hg.1 _ (atD_mem hk))
theorem bad_twice {ho : Nat} {ws : Ws} {k : Nat} (hk : k < ws.length) (h : (atD ws k).1 ∈ seen ws k) : ¬ goodW ho ws := fun hg => by
  have h1 := hg.2
  have e : ws.map (·.1) = seen ws (k + 1) ++ (ws.drop (k + 1)).map (·.1) := by unfold seen; rw [← List.map_append, List.take_append_drop]
  rw [e, List.nodup_append, seen_succ hk, List.nodup_append] at h1
  exact h1.1.2.2 _ h _ (List.mem_singleton.2 rfl) rfl
abbrev zeroBool : Value := .bool false
theorem Commit_any {s d ho : Nat} {dead : Bool} {D : Dk} (H : Holds I w (dskA d D :: blk s 55 (stV d (ho : Nat) dead) :: L)) (hw : D.writes + 200 < 2 ^ 40) (hh : ho + 41 ≤ D.blocks.length)
    {v : Value} {wl : Wl} (hv : SlR I L v 2 wl.length (wl.flatMap wrC)) (hda : ∀ x ∈ wl, SlR I L x.2.1 1 x.2.2.length (byL x.2.2)) (hlen : wl.length ≤ 140737488355328) :
    Rets Try.prog F_journal_Store_Commit #[ptr s, v] w fun u w' => u = .int .i64 (commitS D ho dead (wsOf wl)).2.2 ∧ Holds I w' (dskA d (commitS D ho dead (wsOf wl)).1 :: blk s 55 (stV d (ho : Nat) (commitS D ho dead (wsOf wl)).2.1) :: L) := by
  obtain ⟨A, cap, rfl, hcap⟩ := hv.form
  obtain ⟨ws, hws⟩ : ∃ ws, wsOf wl = ws := ⟨_, rfl⟩
  have hwl : ws.length = wl.length := by rw [← hws, wsOf_len]
  have hwa : ∀ k, k < wl.length → atD ws k = ((atD wl k).1, (atD wl k).2.2) := fun k hk => by rw [← hws]; exact wsOf_at hk
  rw [hws]
  cases dead with
  | true =>
    refine ok_journal_Store_Commit.rets rfl ?_
    repeat' (first
      | (show VcL _ _ _ _ _ _ _ _; first
      | refine VcL.pures tabOk rfl ?_
      | refine VcL.nil ?_
      | (show VcL _ _ _ _ (⟨_, .load _ _, _, _, _, _⟩ :: _) _ _ _; refine VcL.load1 tabOk rfl rfl rfl rfl rfl (by exact Holds.cell (Holds.f1 H) rfl) ?_)
      | (show VcL _ _ _ _ (⟨_, .call ⟨.value (.func F_journal_Store_none), _, _⟩, _, _, _, _⟩ :: _) _ _ _; (refine VcL.callF ok_journal_Store_none rfl rfl rfl rfl (Rets.mono (noneS_any H Holds.toW.up) ?_); rintro _ w ⟨rfl, H⟩)))
      | (show Vc _ _ _ _ _ _; first
      | refine Vc.seq ?_
      | refine Vc.region ?_
      | refine Vc.condT rfl ?_
      | refine Vc.condF rfl ?_
      | refine Vc.ret ?_
      | refine Vc.block ?_)
      | (show KSeq _ _ _ _ _ _ _; first
      | refine KSeq.normal ?_
      | refine KSeq.ret ?_)
      | (show KBlock _ _ _ _ _ _; refine KBlock.ret ?_)
      | (show KEnd _ _ _ _ _ _ _; refine KEnd.fin (Or.inr rfl) ⟨_, (ResL.tmp rfl ResL.nil), ?_⟩))
    exact ⟨rfl, H⟩
  | false =>
    have bad : ¬ goodW ho ws → commitS D ho false ws = (D, false, 2) := fun hg => by
      unfold commitS
      rw [if_neg (by decide), if_pos (by rw [asked_bad hg]; decide), asked_bad hg]
    refine ok_journal_Store_Commit.rets rfl ?_
    repeat' (first
      | (refine VcL.makeMap Int H rfl rfl rfl (fun m w H => ?_))
      | (show VcL _ _ _ _ _ _ _ _; first
      | refine VcL.pures tabOk rfl ?_
      | refine VcL.nil ?_
      | (show VcL _ _ _ _ (⟨_, .load _ _, _, _, _, _⟩ :: _) _ _ _; refine VcL.load1 tabOk rfl rfl rfl rfl rfl (by exact Holds.cell (Holds.f1 H) rfl) ?_)
      | (show VcL _ _ _ _ (⟨_, .call ⟨.value (.func F_journal_Store_none), _, _⟩, _, _, _, _⟩ :: _) _ _ _; (refine VcL.callF ok_journal_Store_none rfl rfl rfl rfl (Rets.mono (noneS_any H Holds.toW.up) ?_); rintro _ w ⟨rfl, H⟩)))
      | (show Vc _ _ _ _ _ _; first
      | refine Vc.seq ?_
      | refine Vc.region ?_
      | refine Vc.condF rfl ?_
      | refine Vc.skip ?_
      | refine Vc.block ?_)
      | (show KSeq _ _ _ _ _ _ _; refine KSeq.normal ?_)
      | (show KBlock _ _ _ _ _ _; refine KBlock.normal ?_))
    refine Vc.loopS [(0, _), (1, _), (5, _), (18, _), (19, _)] (fun k : Nat => [(20, .int .i64 k)]) (fun k w => k ≤ wl.length ∧ (∀ j, j < k → 0 ≤ (atD ws j).1 ∧ (atD ws j).1 < ho ∧ (atD ws j).2.length = 256) ∧ (seen ws k).Nodup ∧ Holds I w (mp m (sml (seen ws k)) :: dskA d D :: blk s 55 (stV d (ho : Nat) false) :: L)) (fun k _ => wl.length - k) 0 ⟨rfl, trivial⟩ ⟨rfl, rfl, rfl, rfl, rfl, trivial⟩ ⟨Nat.zero_le _, (fun j hj => absurd hj (by omega)), List.nodup_nil, H⟩ ?_
    rintro k w ⟨hk, hall, hnd, H⟩
    by_cases hlt : k < wl.length
    · obtain ⟨x, hx⟩ : ∃ x, atD wl k = x := ⟨_, rfl⟩
      have hxm : x ∈ wl := hx ▸ atD_mem hlt
      obtain ⟨bw, ow, rfl, hrw⟩ := hv.at (by omega)
      have hrx := hrw.elem wrC_len (atD_get hlt)
      obtain ⟨A9, c9, hxf, _⟩ := (hda x hxm).form
      rw [hx] at hrx
      have hwx := hwa k hlt
      rw [hx] at hwx
      obtain ⟨xi, xv, dat⟩ := x
      dsimp only at hxf hwx
      subst hxf
      have hrx : RdW I L bw (ow + k * 2) [.int .i64 xi, .slice A9 dat.length c9] := hrx
      have hrx3 := hrx.up (A := blk s 55 (stV d (ho : Nat) false)) |>.up (A := dskA d D) |>.up (A := mp m (sml (seen ws k)))
      have hlk : foundV false (.bool false) (mget (sml (seen ws k)) xi) = .bool (decide (xi ∈ seen ws k)) := by
        rw [mget_sml]
        by_cases hq : xi ∈ seen ws k
        · rw [if_pos hq, decide_eq_true hq]; rfl
        · rw [if_neg hq, decide_eq_false hq]; rfl
      repeat' (first
        | (refine VcD.eff rfl rfl rfl rfl (OpE.lookup (κ := Int) tabOk rfl rfl (Holds.f1 H) rfl rfl) ?_; rintro _ w ⟨rfl, H⟩; have H := Holds.f1 H; refine ⟨⟨Holds.rdWhole H, Holds.rdWhole (Holds.f3 H)⟩, ?_⟩; rw [hlk])
        | (refine VcL.mapUpdate (κ := Int) tabOk rfl rfl rfl (Holds.f1 H) rfl rfl rfl (fun w H => ?_))
        | (show VcL _ _ _ _ _ _ _ _; first
      | refine VcL.pures tabOk rfl ?_
      | refine VcL.nil ?_
      | (show VcL _ _ _ _ (⟨_, .load _ _, _, _, _, _⟩ :: _) _ _ _; first
      | refine VcL.load1 tabOk rfl rfl rfl rfl rfl (by first | exact Holds.cell H rfl | exact RdW.get0 (by assumption) rfl H) ?_
      | refine VcL.loadR tabOk rfl rfl rfl rfl rfl rfl (by exact RdW.rd (by assumption) H) rfl ?_)
      | (show VcL _ _ _ _ (⟨_, .indexAddr _ _ _, _, _, _, _⟩ :: _) _ _ _; refine VcL.indexAddr tabOk rfl rfl rfl rfl rfl rfl (by omega) (by omega) ?_)
      | refine VcL.alloc tabOk H rfl rfl rfl rfl (fun b w H => ?_)
      | (show VcL _ _ _ _ (⟨_, .store _ _ _, _, _, _, _⟩ :: _) _ _ _; refine VcL.store tabOk rfl (by exact H) rfl rfl (by exact rfl) (by exact rfl) (by exact rfl) (by exact rfl) (fun w H => ?_)))
        | (show VcD _ _ _ _ _ _ _ _ _; first
      | refine VcD.pures tabOk rfl ?_
      | refine VcD.done ?_
      | (show VcD _ _ _ _ _ (.pure _ _) _ _ _; (refine VcD.guardP rfl rfl rfl rfl rfl (fun h => ?_) (fun h => ?_) <;> first | (cases h; done) | (with_reducible have hp := of_decide_eq_true h) | (with_reducible have hp := of_decide_eq_false h) | (with_reducible have hp := ndec_t h) | (with_reducible have hp := ndec_f h) | skip))
      | (show VcD _ _ _ _ _ (.take _ _) _ _ _; first
      | refine VcD.load1 tabOk rfl rfl rfl rfl rfl rfl (by intro w_ hw_; first | exact hw_.1 _ _ rfl | exact hw_.1 0 _ rfl | exact hw_.2 _ _ rfl) (by exact rfl) ?_
      | refine VcD.skipT rfl rfl rfl ?_)
      | (show VcD _ _ _ _ _ (.only _ _) _ _ _; refine VcD.skip rfl rfl rfl (by (refine ⟨?_, ?_⟩ <;> first | exact Holds.rdWhole H | exact Holds.rdWhole (Holds.f3 H))) ?_))
        | (show Vc _ _ _ _ _ _; first
      | refine Vc.seq ?_
      | refine Vc.region ?_
      | refine Vc.condT rfl ?_
      | refine Vc.ret ?_
      | refine Vc.skip ?_
      | refine Vc.block ?_
      | (refine Vc.drawn (id := 9) (.pure 0 (.take 1 (.pure 2 (.pure 3 (.pure 4 (.pure 6 (.pure 7 (.pure 8 (.take 5 (.take 9 (.pure 10 (.pure 11 (.pure 12 (.pure 13 (.take 14 (.pure 15 (.pure 16 (.pure 17 (.pure 18 (.pure 19 (.pure 20 (.take 21 (.only 22 (.pure 23 .done)))))))))))))))))))))))) (.one (fun w => Rd w b 0 [.int .i64 xi, .slice A9 dat.length c9] ∧ Rd w s 0 (stV d (ho : Nat) false))) mixed (by kernel_rfl) (by (refine ⟨?_, ?_⟩ <;> first | exact Holds.rdWhole (Holds.drew H _) | exact Holds.rdWhole (Holds.f3 (Holds.drew H _)))) ?_; have H := H.drew (w.drawn + 1))
      | (refine Vc.cond rfl (fun h => ?_) (fun h => ?_) <;> first | (exfalso; simp only [decide_eq_true_eq, decide_eq_false_iff_not, Bool.not_eq_true', Bool.not_eq_false'] at h; omega) | (with_reducible have hp := of_decide_eq_true h) | (with_reducible have hp := of_decide_eq_false h)))
        | (show KSeq _ _ _ _ _ _ _; first
      | refine KSeq.normal ?_
      | refine KSeq.ret ?_)
        | (show KBlock _ _ _ _ _ _; first
      | refine KBlock.normal ?_
      | refine KBlock.ret ?_)
        | refine KLoop.ret ?_
        | (show KEnd _ _ _ _ _ _ _; refine KEnd.fin (Or.inr rfl) ⟨_, (ResL.tmp rfl ResL.nil), ?_⟩))
      · rw [bad (bad_in (k := k) (by omega) (by rw [hwx]; dsimp only; omega))]
        exact ⟨rfl, H.drop.drop⟩
      · rw [bad (bad_in (k := k) (by omega) (by rw [hwx]; dsimp only; omega))]
        exact ⟨rfl, H.drop.drop⟩
      · rw [bad (bad_in (k := k) (by omega) (by rw [hwx]; dsimp only; omega))]
        exact ⟨rfl, H.drop.drop⟩
      · rw [bad (bad_twice (k := k) (by omega) (by rw [hwx]; exact hp))]
        exact ⟨rfl, H.drop.drop⟩
      · rename_i h1 h2 h3
        rw [mset_sml hp] at H
        refine KLoop.again (k + 1) ⟨got_succ rfl (by omega), trivial⟩ ⟨rfl, rfl, rfl, rfl, rfl, trivial⟩ ⟨hlt, fun j hj => ?_, ?_, ?_⟩ (by omega)
        · rcases Nat.lt_or_ge j k with h1 | h1
          · exact hall j h1
          · obtain rfl : k = j := by omega
            rw [hwx]
            dsimp only
            omega
        · rw [seen_succ (by omega), hwx, List.nodup_append]
          refine ⟨hnd, List.nodup_cons.2 ⟨List.not_mem_nil, List.nodup_nil⟩, fun a ha b hb e => ?_⟩
          simp only [List.mem_singleton] at hb
          exact hp (hb ▸ e ▸ ha)
        · rw [seen_succ (by omega), hwx]
          exact H.drop1
    · obtain rfl : k = wl.length := by omega
      have hgood : goodW ho ws := ⟨fun x hx => by
        obtain ⟨j, hj, rfl⟩ := mem_atD hx
        exact hall j (by omega), by rw [← seen_all, hwl]; exact hnd⟩
      by_cases h40 : 40 < wl.length
      · have eC : commitS D ho false ws = (D, false, 4) := by
          unfold commitS
          rw [if_neg (by decide), if_pos (by rw [asked_good hgood, hwl, if_pos h40]; decide), asked_good hgood, hwl, if_pos h40]
        rw [eC]
        repeat' (first
          | (show VcL _ _ _ _ _ _ _ _; first
      | refine VcL.pures tabOk rfl ?_
      | refine VcL.nil ?_)
          | (show Vc _ _ _ _ _ _; first
      | refine Vc.seq ?_
      | refine Vc.region ?_
      | refine Vc.ret ?_
      | refine Vc.exit ?_
      | (refine Vc.cond rfl (fun h => ?_) (fun h => ?_) <;> first | (exfalso; simp only [decide_eq_true_eq, decide_eq_false_iff_not, Bool.not_eq_true', Bool.not_eq_false'] at h; omega) | (with_reducible have hp := of_decide_eq_true h) | (with_reducible have hp := of_decide_eq_false h)))
          | (show KSeq _ _ _ _ _ _ _; first
      | refine KSeq.normal ?_
      | refine KSeq.ret ?_
      | refine KSeq.exit ?_)
          | (show KBlock _ _ _ _ _ _; refine KBlock.here ?_)
          | refine KLoop.exit ?_
          | (show KEnd _ _ _ _ _ _ _; refine KEnd.fin (Or.inr rfl) ⟨_, (ResL.tmp rfl ResL.nil), ?_⟩))
        exact ⟨rfl, H.drop⟩
      · have easked : asked ho ws = 0 := by rw [asked_good hgood, hwl, if_neg h40]
        by_cases hz : wl.length = 0
        · have eC : commitS D ho false ws = (D, false, 0) := by
            unfold commitS
            rw [if_neg (by decide), if_neg (by rw [easked]; decide), if_pos (List.eq_nil_of_length_eq_zero (hwl.trans hz))]
          rw [eC]
          repeat' (first
            | (show VcL _ _ _ _ _ _ _ _; first
      | refine VcL.pures tabOk rfl ?_
      | refine VcL.nil ?_)
            | (show Vc _ _ _ _ _ _; first
      | refine Vc.seq ?_
      | refine Vc.region ?_
      | refine Vc.ret ?_
      | refine Vc.skip ?_
      | refine Vc.exit ?_
      | (refine Vc.cond rfl (fun h => ?_) (fun h => ?_) <;> first | (exfalso; simp only [decide_eq_true_eq, decide_eq_false_iff_not, Bool.not_eq_true', Bool.not_eq_false'] at h; omega) | (with_reducible have hp := of_decide_eq_true h) | (with_reducible have hp := of_decide_eq_false h)))
            | (show KSeq _ _ _ _ _ _ _; first
      | refine KSeq.normal ?_
      | refine KSeq.ret ?_
      | refine KSeq.exit ?_)
            | (show KBlock _ _ _ _ _ _; refine KBlock.here ?_)
            | refine KLoop.exit ?_
            | (show KEnd _ _ _ _ _ _ _; refine KEnd.fin (Or.inr rfl) ⟨_, (ResL.tmp rfl ResL.nil), ?_⟩))
          exact ⟨rfl, H.drop⟩
        · have eC : commitS D ho false ws = ((comS D ho ws).1, !(comS D ho ws).2, if (comS D ho ws).2 then 0 else 160) := by
            unfold commitS
            rw [if_neg (by decide), if_neg (by rw [easked]; decide), if_neg (fun e => hz (by rw [← hwl, e]; rfl))]
          rw [eC]
          have hin : ∀ x ∈ wl, 0 ≤ x.1 ∧ x.1 < ho ∧ x.2.2.length = 256 := fun x hx => by
            have := hgood.1 (x.1, x.2.2) (by rw [← hws]; exact List.mem_map_of_mem hx)
            exact this
          by_cases hr : (comS D ho ws).2 = true
          · have hif : (if (comS D ho ws).2 = true then (0 : Int) else 160) = 0 := if_pos hr
            repeat' (first
              | (show VcL _ _ _ _ _ _ _ _; first
      | refine VcL.pures tabOk rfl ?_
      | refine VcL.nil ?_
      | (show VcL _ _ _ _ (⟨_, .store _ _ _, _, _, _, _⟩ :: _) _ _ _; refine VcL.store tabOk rfl (by exact (Holds.f2 H)) rfl rfl (by exact rfl) (by exact rfl) (by exact rfl) (by exact rfl) (fun w H => ?_))
      | (show VcL _ _ _ _ (⟨_, .call ⟨.value (.func F_journal_Store_commit), _, _⟩, _, _, _, _⟩ :: _) _ _ _; (refine VcL.callF ok_journal_Store_commit rfl rfl rfl rfl (Rets.mono (commit_any (ho := ho) (dead := false) (Holds.swap H) Holds.toW.up hw hh hv.up.up (fun x hx => (hda x hx).up.up) hin (by omega) (by omega)) ?_); rintro _ w ⟨rfl, H⟩; rw [hws] at H ⊢; rw [hif])))
              | (show Vc _ _ _ _ _ _; first
      | refine Vc.seq ?_
      | refine Vc.region ?_
      | refine Vc.ret ?_
      | refine Vc.skip ?_
      | refine Vc.exit ?_
      | (refine Vc.cond rfl (fun h => ?_) (fun h => ?_) <;> first | (exfalso; simp only [decide_eq_true_eq, decide_eq_false_iff_not, Bool.not_eq_true', Bool.not_eq_false'] at h; omega) | (with_reducible have hp := of_decide_eq_false h)))
              | (show KSeq _ _ _ _ _ _ _; first
      | refine KSeq.normal ?_
      | refine KSeq.exit ?_)
              | (show KBlock _ _ _ _ _ _; refine KBlock.here ?_)
              | refine KLoop.exit ?_
              | (show KEnd _ _ _ _ _ _ _; refine KEnd.fin (Or.inr rfl) ⟨_, (ResL.tmp rfl ResL.nil), ?_⟩))
            refine ⟨rfl, ?_⟩
            rw [hr]
            exact H.swap.drop2
          · have hif : (if (comS D ho ws).2 = true then (0 : Int) else 160) = 160 := if_neg hr
            have hrf : (comS D ho ws).2 = false := by simpa using hr
            repeat' (first
              | (show VcL _ _ _ _ _ _ _ _; first
      | refine VcL.pures tabOk rfl ?_
      | refine VcL.nil ?_
      | (show VcL _ _ _ _ (⟨_, .store _ _ _, _, _, _, _⟩ :: _) _ _ _; refine VcL.store tabOk rfl (by exact (Holds.f2 H)) rfl rfl (by exact rfl) (by exact rfl) (by exact rfl) (by exact rfl) (fun w H => ?_))
      | (show VcL _ _ _ _ (⟨_, .call ⟨.value (.func F_journal_Store_commit), _, _⟩, _, _, _, _⟩ :: _) _ _ _; (refine VcL.callF ok_journal_Store_commit rfl rfl rfl rfl (Rets.mono (commit_any (ho := ho) (dead := false) (Holds.swap H) Holds.toW.up hw hh hv.up.up (fun x hx => (hda x hx).up.up) hin (by omega) (by omega)) ?_); rintro _ w ⟨rfl, H⟩; rw [hws] at H ⊢; rw [hif])))
              | (show Vc _ _ _ _ _ _; first
      | refine Vc.seq ?_
      | refine Vc.region ?_
      | refine Vc.ret ?_
      | refine Vc.skip ?_
      | refine Vc.exit ?_
      | (refine Vc.cond rfl (fun h => ?_) (fun h => ?_) <;> first | (exfalso; simp only [decide_eq_true_eq, decide_eq_false_iff_not, Bool.not_eq_true', Bool.not_eq_false'] at h; omega) | (with_reducible have hp := of_decide_eq_false h)))
              | (show KSeq _ _ _ _ _ _ _; first
      | refine KSeq.normal ?_
      | refine KSeq.exit ?_)
              | (show KBlock _ _ _ _ _ _; refine KBlock.here ?_)
              | refine KLoop.exit ?_
              | (show KEnd _ _ _ _ _ _ _; refine KEnd.fin (Or.inr rfl) ⟨_, (ResL.tmp rfl ResL.nil), ?_⟩))
            refine ⟨rfl, ?_⟩
            rw [hrf]
            exact H.swap.drop2
end Go.Proofs.Ytkeapkmjkmbdpaa.V
