/- The pair: reading. -/
import Derived.Test.YtpfgcchammlpgaaVAE
namespace Go.Proofs.Ytpfgcchammlpgaa.V
open Go Go.Proofs.YtpfgcchammlpgaaV
set_option linter.unusedVariables false
set_option linter.unusedSimpArgs false
set_option maxHeartbeats 8000000
set_option maxRecDepth 4000
attribute [local irreducible] IntKind.wrap refA endA
variable {I : Imm} {w : World} {L : List Asn}
theorem take_cut : ∀ (l : List Bf) (n : Nat), l.take (cutN l n) = markS ((l.take (cutN l n)).map (·.1)) (cutE l (cutN l n))
  | [], _ => by simp [markS]
  | x :: r, 0 => by simp [cutN, markS]
  | x :: r, k + 1 => by
    have ih := take_cut r k
    obtain ⟨y, z⟩ := x
    cases z with
    | true =>
      have h1 : cutN ((y, true) :: r) (k + 1) = 1 := by simp [cutN]
      rw [h1]
      simp [markS, cutE]
    | false =>
      have h1 : cutN ((y, false) :: r) (k + 1) = cutN r k + 1 := by simp [cutN]
      rw [h1, cutE_cons, List.take_succ_cons, List.map_cons]
      show (y, false) :: r.take (cutN r k) = markS (y :: (r.take (cutN r k)).map (·.1)) (false || cutE r (cutN r k))
      rw [Bool.false_or]
      rcases hl : r.take (cutN r k) with _ | ⟨x2, r2⟩
      · have h0 : cutE r (cutN r k) = false := by unfold cutE; rw [hl]; rfl
        rw [h0]; rfl
      · rw [hl] at ih
        exact congrArg (List.cons (y, false)) ih
theorem reads_any {p i : Nat} (hi : i < 2) {a b : Sd} {E : En} {rl : List Bf} {n : Nat} (hn : 1 ≤ n) (hnb : n ≤ 9223372036854775807)
    (H : Holds I w (blk p 47 (pcl i a b) :: endA I a.e E :: refA I a.r E :: own a.q 102 2 rl.length (rl.flatMap bfC) :: L)) (hin : E.inn.length ≤ 200) (hrl : rl.length ≤ 1000000000) :
    Rets Try.prog F_tithinglaw12_Pair_reads #[ptr p, .int .i64 (i : Nat), .int .i64 (n : Nat)] w fun u w' => u = .int .i64 (cutN E.inn n : Nat) ∧ ∃ qv, Holds I w' (blk p 47 (pcl i { a with q := qv } b) :: endA I a.e { E with inn := E.inn.drop (cutN E.inn n) } :: refA I a.r { E with inn := E.inn.drop (cutN E.inn n) } :: own qv 102 2 (rl ++ E.inn.take (cutN E.inn n)).length ((rl ++ E.inn.take (cutN E.inn n)).flatMap bfC) :: L) := by
  obtain ⟨_, P1, pc1, hp⟩ := Holds.own_len (Holds.f3 H)
  obtain ⟨e, r, f, pp, q, s⟩ := a
  obtain ⟨e2, r2, f2, pp2, q2, s2⟩ := b
  dsimp only at hp H ⊢
  subst hp
  have hread := fun (w : World) (L : List Asn) (H : Holds I w (endA I e E :: L)) => Read_any H hn hnb
  have hreadR := fun (w : World) (L : List Asn) (H : Holds I w (refA I r E :: L)) => ReadR_any H hn hnb
  have htc := take_cut E.inn n
  have hcl := (cutN_le E.inn n).2
  obtain ⟨c, hc⟩ : ∃ c, cutN E.inn n = c := ⟨_, rfl⟩
  rw [hc] at hread hreadR htc hcl ⊢
  obtain ⟨en, hen⟩ : ∃ en, cutE E.inn c = en := ⟨_, rfl⟩
  obtain ⟨l, hl⟩ : ∃ l, (E.inn.take c).map (·.1) = l := ⟨_, rfl⟩
  have hll : l.length = c := by rw [← hl, List.length_map, List.length_take]; omega
  rw [hen] at hread hreadR htc
  rw [hl] at hread hreadR htc
  rw [htc]
  obtain ⟨E', hE'⟩ : ∃ E', ({ E with inn := E.inn.drop c } : En) = E' := ⟨_, rfl⟩
  rw [hE'] at hread hreadR ⊢
  have g1 : (en == en) = true := by simp
  have g2 : decide (l = l) = true := decide_eq_true rfl
  clear hc hen hl htc hE'
  match i, hi with
  | 0, _ =>
    have H : Holds I w (blk p 47 (pc0 ⟨e, r, f, pp, .slice P1 rl.length pc1, s⟩ ⟨e2, r2, f2, pp2, q2, s2⟩) :: endA I e E :: refA I r E :: own (.slice P1 rl.length pc1) 102 2 rl.length (rl.flatMap bfC) :: L) := H
    refine ok_tithinglaw12_Pair_reads.rets rfl ?_
    repeat' (first
      | rw [ofBytes_eq]
      | rw [g1]
      | rw [g2]
      | (refine VcL.ofBytes (m := c) (bs := l) tabOk rfl rfl rfl rfl rfl rfl rfl (by first | exact Holds.own_src H | exact Holds.own_src (Holds.f2 H)) ⟨_, _, rfl⟩ rfl rfl rfl ?_)
      | (show VcL _ _ _ _ _ _ _ _; first
      | refine VcL.pures tabOk rfl ?_
      | refine VcL.nil ?_
      | (show VcL _ _ _ _ (⟨_, .load _ _, _, _, _, _⟩ :: _) _ _ _; refine VcL.load1 tabOk rfl rfl rfl rfl rfl (by first | exact Holds.cell H rfl | exact Holds.cell (Holds.f2 H) rfl) ?_)
      | (show VcL _ _ _ _ (⟨_, .indexAddr _ _ _, _, _, _, _⟩ :: _) _ _ _; first
      | refine VcL.indexArr0 tabOk rfl rfl rfl rfl rfl rfl (by omega) (by omega) ?_
      | refine VcL.indexArr tabOk rfl rfl rfl rfl rfl rfl (by omega) (by omega) ?_)
      | (show VcL _ _ _ _ (⟨_, .call ⟨.value (.func F_stream_End_Read), _, _⟩, _, _, _, _⟩ :: _) _ _ _; (refine VcL.callF ok_stream_End_Read rfl rfl rfl rfl (Rets.mono (hread _ _ (Holds.f1 H)) ?_); rintro _ w ⟨bv, rfl, H⟩; obtain ⟨_, A1, c1, rfl⟩ := Holds.own_len H))
      | (show VcL _ _ _ _ (⟨_, .call ⟨.value (.func F_tithingref12_End_Read), _, _⟩, _, _, _, _⟩ :: _) _ _ _; (refine VcL.callF ok_tithingref12_End_Read rfl rfl rfl rfl (Rets.mono (hreadR _ _ (Holds.f3 H)) ?_); rintro _ w ⟨cv, rfl, H⟩; obtain ⟨_, A2, c2, rfl⟩ := Holds.own_len H))
      | (show VcL _ _ _ _ (⟨_, .call ⟨.value (.func F_tithinglaw12_Pair_differ), _, _⟩, _, _, _, _⟩ :: _) _ _ _; (refine VcL.callF ok_tithinglaw12_Pair_differ rfl rfl rfl rfl (Rets.mono (differ_any (a := ⟨e, r, f, pp, .slice P1 rl.length pc1, s⟩) (b := ⟨e2, r2, f2, pp2, q2, s2⟩) (Holds.f4 H)) ?_); rintro _ w H))
      | (refine VcL.guard rfl rfl rfl rfl (fun h => ?_) (fun h => ?_) <;> first | (cases h; done) | skip))
      | (show Vc _ _ _ _ _ _; first
      | refine Vc.seq ?_
      | refine Vc.region ?_
      | refine Vc.block ?_)
      | (show KSeq _ _ _ _ _ _ _; refine KSeq.normal ?_))
    obtain ⟨J, hJ, H, hv⟩ := Holds.freezeOwn (Holds.f3 H)
    subst hll
    refine Vc.loopS [(0, _), (1, _), (7, _), (8, _)] (fun s : Nat × Option Addr × Nat => [(13, .int .i64 s.1)]) (fun u w => u.1 ≤ l.length ∧ Holds J w (own (.slice u.2.1 (rl.length + u.1) u.2.2) 102 2 (rl.length + u.1) ((rl ++ (markS l en).take u.1).flatMap bfC) :: blk p 47 (pc0 ⟨e, r, f, pp, .slice u.2.1 (rl.length + u.1) u.2.2, s⟩ ⟨e2, r2, f2, pp2, q2, s2⟩) :: refA I r E' :: endA I e E' :: L)) (fun u _ => l.length - u.1) (0, P1, pc1) ⟨rfl, trivial⟩ ⟨rfl, rfl, rfl, rfl, trivial⟩ ⟨Nat.zero_le _, (by simpa using Holds.re [3] (Holds.drop1 H) rfl)⟩ ?_
    clear H
    rintro ⟨k, P1, pc1⟩ w ⟨hk, H⟩
    dsimp only at hk H ⊢
    by_cases hlt : k < l.length
    · obtain ⟨b2, o, rfl, hr⟩ := hv.at (by omega)
      have hx := (byL_flat l ▸ hr).elem byC_len (atD_get hlt)
      have hx := RdI.toW (L := blk p 47 (pc0 ⟨e, r, f, pp, .slice P1 (rl.length + k) pc1, s⟩ ⟨e2, r2, f2, pp2, q2, s2⟩) :: refA I r E' :: endA I e E' :: L) hx
      have e9 : IntKind.i64.wrap ((l.length : Int) - 1) = ((l.length - 1 : Nat) : Int) := by rw [wrap_i64 (by omega) (by omega)]; omega
      have e10 : decide ((k : Int) = ((l.length - 1 : Nat) : Int)) = decide (k + 1 = l.length) := decide_eq_decide.2 (by omega)
      have hres : ∀ (x : Bool) (A7 : Option Addr) (c7 : Nat) (w : World), x = (en && decide (k + 1 = l.length)) → ∀ L1, Holds J w (own (.slice A7 (rl.length + k + 1) c7) 102 2 (rl.length + k + 1) ((rl ++ (markS l en).take k).flatMap bfC ++ bfC (atD l k, x)) :: L1) → Holds J w (own (.slice A7 (rl.length + (k + 1)) c7) 102 2 (rl.length + (k + 1)) ((rl ++ (markS l en).take (k + 1)).flatMap bfC) :: L1) := fun x A7 c7 w hx L1 H => by
        rw [markS_take hlt, ← List.append_assoc, flat_snoc, ← hx]
        exact H
      cases en
      ·
        repeat' (first
          | (refine VcD.append tabOk rfl rfl rfl rfl rfl (Holds.f1 H) (Src.slice rfl (Holds.pt_rd H)) (bfC_slice (atD l k, false)) (by show (_ + 1) * 2 ≤ _; omega) rfl rfl rfl (fun v_ w H => ⟨Holds.drop (Holds.drop H), ?_⟩); obtain ⟨_, A7, c7, rfl⟩ := Holds.own_len H)
          | (show VcL _ _ _ _ _ _ _ _; first
      | refine VcL.pures tabOk rfl ?_
      | refine VcL.nil ?_)
          | (show VcD _ _ _ _ _ _ _ _ _; first
      | refine VcD.pures tabOk rfl ?_
      | refine VcD.done ?_
      | (show VcD _ _ _ _ _ (.pure _ _) _ _ _; first
      | refine VcD.indexAddr tabOk rfl rfl rfl rfl rfl rfl rfl (by omega) (by omega) ?_
      | refine VcD.indexArr tabOk rfl rfl rfl rfl rfl rfl rfl (by omega) (by omega) ?_
      | (refine VcD.guardP rfl rfl rfl rfl rfl (fun h => ?_) (fun h => ?_) <;> first | (cases h; done) | skip))
      | (show VcD _ _ _ _ _ (.take _ _) _ _ _; refine VcD.load1 tabOk rfl rfl rfl rfl rfl rfl (by intro w_ hw_; first | exact Holds.cell hw_ rfl | exact RdW.get0 (by assumption) rfl hw_) (by exact rfl) ?_)
      | (show VcD _ _ _ _ _ (.only _ _) _ _ _; first
      | (refine VcD.eff rfl rfl rfl rfl (OpE.buildSliceP tabOk H rfl rfl rfl rfl) ?_; rintro _ w ⟨b_, rfl, H⟩; refine ⟨(by exact Holds.drop (Holds.drop H)), ?_⟩)
      | (refine VcD.eff rfl rfl rfl rfl (OpE.store tabOk (by exact (Holds.f2 H)) rfl rfl rfl (by exact rfl) (by exact rfl) (by exact rfl) (by exact rfl)) ?_; rintro _ w ⟨_, H⟩; refine ⟨(by trivial), ?_⟩)))
          | (show Vc _ _ _ _ _ _; first
      | refine Vc.seq ?_
      | refine Vc.region ?_
      | refine Vc.skip ?_
      | refine Vc.block ?_
      | (refine Vc.drawn (id := 7) (.pure 0 (.pure 1 (.pure 2 (.pure 3 (.pure 4 (.pure 5 (.pure 8 (.pure 9 (.pure 12 (.pure 13 (.pure 14 (.pure 15 (.pure 16 (.pure 17 (.pure 18 (.pure 19 (.pure 23 (.pure 24 (.pure 6 (.take 7 (.pure 10 (.take 11 (.pure 20 (.only 21 (.only 22 (.pure 25 (.only 26 .done))))))))))))))))))))))))))) (.till (fun w => Holds J w (blk p 47 (pc0 ⟨e, r, f, pp, .slice P1 (rl.length + k) pc1, s⟩ ⟨e2, r2, f2, pp2, q2, s2⟩) :: refA I r E' :: endA I e E' :: L)) 26 (.one (fun _ => True))) mixed (by kernel_rfl) (by exact Holds.drop (Holds.drew H _)) ?_; have H := H.drew (w.drawn + 1))
      | (refine Vc.cond rfl (fun h => ?_) (fun h => ?_) <;> first | (exfalso; simp only [decide_eq_true_eq, decide_eq_false_iff_not, Bool.not_eq_true', Bool.not_eq_false'] at h; omega) | (with_reducible have hp := of_decide_eq_true h)))
          | (show KSeq _ _ _ _ _ _ _; refine KSeq.normal ?_)
          | (show KBlock _ _ _ _ _ _; refine KBlock.normal ?_))
        exact KLoop.again (k + 1, A7, c7) ⟨got_succ rfl (by omega), trivial⟩ ⟨rfl, rfl, rfl, rfl, trivial⟩ ⟨hlt, hres false A7 c7 w rfl _ (Holds.drop2 (Holds.swap H))⟩ (by dsimp only; omega)
      · obtain ⟨x, hx2⟩ : ∃ x, decide (k + 1 = l.length) = x := ⟨_, rfl⟩
        rw [hx2] at e10
        repeat' (first
          | rw [e9]
          | rw [e10]
          | (refine VcD.append tabOk rfl rfl rfl rfl rfl (Holds.f1 H) (Src.slice rfl (Holds.pt_rd H)) (bfC_slice (atD l k, x)) (by show (_ + 1) * 2 ≤ _; omega) rfl rfl rfl (fun v_ w H => ⟨Holds.drop (Holds.drop H), ?_⟩); obtain ⟨_, A7, c7, rfl⟩ := Holds.own_len H)
          | (show VcL _ _ _ _ _ _ _ _; first
      | refine VcL.pures tabOk rfl ?_
      | refine VcL.nil ?_)
          | (show VcD _ _ _ _ _ _ _ _ _; first
      | refine VcD.pures tabOk rfl ?_
      | refine VcD.done ?_
      | (show VcD _ _ _ _ _ (.pure _ _) _ _ _; first
      | refine VcD.indexAddr tabOk rfl rfl rfl rfl rfl rfl rfl (by omega) (by omega) ?_
      | refine VcD.indexArr tabOk rfl rfl rfl rfl rfl rfl rfl (by omega) (by omega) ?_
      | (refine VcD.guardP rfl rfl rfl rfl rfl (fun h => ?_) (fun h => ?_) <;> first | (cases h; done) | skip))
      | (show VcD _ _ _ _ _ (.take _ _) _ _ _; refine VcD.load1 tabOk rfl rfl rfl rfl rfl rfl (by intro w_ hw_; first | exact Holds.cell hw_ rfl | exact RdW.get0 (by assumption) rfl hw_) (by exact rfl) ?_)
      | (show VcD _ _ _ _ _ (.only _ _) _ _ _; first
      | (refine VcD.eff rfl rfl rfl rfl (OpE.buildSliceP tabOk H rfl rfl rfl rfl) ?_; rintro _ w ⟨b_, rfl, H⟩; refine ⟨(by exact Holds.drop (Holds.drop H)), ?_⟩)
      | (refine VcD.eff rfl rfl rfl rfl (OpE.store tabOk (by exact (Holds.f2 H)) rfl rfl rfl (by exact rfl) (by exact rfl) (by exact rfl) (by exact rfl)) ?_; rintro _ w ⟨_, H⟩; refine ⟨(by trivial), ?_⟩)))
          | (show Vc _ _ _ _ _ _; first
      | refine Vc.seq ?_
      | refine Vc.region ?_
      | refine Vc.skip ?_
      | refine Vc.block ?_
      | (refine Vc.drawn (id := 7) (.pure 0 (.pure 1 (.pure 2 (.pure 3 (.pure 4 (.pure 5 (.pure 8 (.pure 9 (.pure 12 (.pure 13 (.pure 14 (.pure 15 (.pure 16 (.pure 17 (.pure 18 (.pure 19 (.pure 23 (.pure 24 (.pure 6 (.take 7 (.pure 10 (.take 11 (.pure 20 (.only 21 (.only 22 (.pure 25 (.only 26 .done))))))))))))))))))))))))))) (.till (fun w => Holds J w (blk p 47 (pc0 ⟨e, r, f, pp, .slice P1 (rl.length + k) pc1, s⟩ ⟨e2, r2, f2, pp2, q2, s2⟩) :: refA I r E' :: endA I e E' :: L)) 26 (.one (fun _ => True))) mixed (by kernel_rfl) (by exact Holds.drop (Holds.drew H _)) ?_; have H := H.drew (w.drawn + 1))
      | (refine Vc.cond rfl (fun h => ?_) (fun h => ?_) <;> first | (exfalso; simp only [decide_eq_true_eq, decide_eq_false_iff_not, Bool.not_eq_true', Bool.not_eq_false'] at h; omega) | (with_reducible have hp := of_decide_eq_true h)))
          | (show KSeq _ _ _ _ _ _ _; refine KSeq.normal ?_)
          | (show KBlock _ _ _ _ _ _; refine KBlock.normal ?_))
        exact KLoop.again (k + 1, A7, c7) ⟨got_succ rfl (by omega), trivial⟩ ⟨rfl, rfl, rfl, rfl, trivial⟩ ⟨hlt, hres x A7 c7 w (by rw [hx2]; rfl) _ (Holds.drop2 (Holds.swap H))⟩ (by dsimp only; omega)
    · obtain rfl : k = l.length := by omega
      repeat' (first
        | (show VcL _ _ _ _ _ _ _ _; first
      | refine VcL.pures tabOk rfl ?_
      | refine VcL.nil ?_)
        | (show Vc _ _ _ _ _ _; first
      | refine Vc.seq ?_
      | refine Vc.region ?_
      | refine Vc.ret ?_
      | refine Vc.exit ?_
      | (refine Vc.cond rfl (fun h => ?_) (fun h => ?_) <;> first | (exfalso; simp only [decide_eq_true_eq, decide_eq_false_iff_not, Bool.not_eq_true', Bool.not_eq_false'] at h; omega) | (with_reducible have hp := of_decide_eq_false h)))
        | (show KSeq _ _ _ _ _ _ _; first
      | refine KSeq.normal ?_
      | refine KSeq.exit ?_)
        | (show KBlock _ _ _ _ _ _; refine KBlock.here ?_)
        | refine KLoop.exit ?_
        | (show KEnd _ _ _ _ _ _ _; refine KEnd.fin (Or.inr rfl) ⟨_, (ResL.tmp rfl ResL.nil), ?_⟩))
      rw [List.take_of_length_le (by rw [markS_len]; exact Nat.le_refl _)] at H
      refine ⟨rfl, .slice P1 (rl.length + l.length) pc1, ?_⟩
      rw [List.length_append, markS_len]
      exact Holds.re [1, 2, 1, 0] (Holds.less H hJ) rfl
  | 1, _ =>
    have H : Holds I w (blk p 47 (pc0 ⟨e2, r2, f2, pp2, q2, s2⟩ ⟨e, r, f, pp, .slice P1 rl.length pc1, s⟩) :: endA I e E :: refA I r E :: own (.slice P1 rl.length pc1) 102 2 rl.length (rl.flatMap bfC) :: L) := H
    refine ok_tithinglaw12_Pair_reads.rets rfl ?_
    repeat' (first
      | rw [ofBytes_eq]
      | rw [g1]
      | rw [g2]
      | (refine VcL.ofBytes (m := c) (bs := l) tabOk rfl rfl rfl rfl rfl rfl rfl (by first | exact Holds.own_src H | exact Holds.own_src (Holds.f2 H)) ⟨_, _, rfl⟩ rfl rfl rfl ?_)
      | (show VcL _ _ _ _ _ _ _ _; first
      | refine VcL.pures tabOk rfl ?_
      | refine VcL.nil ?_
      | (show VcL _ _ _ _ (⟨_, .load _ _, _, _, _, _⟩ :: _) _ _ _; refine VcL.load1 tabOk rfl rfl rfl rfl rfl (by first | exact Holds.cell H rfl | exact Holds.cell (Holds.f2 H) rfl) ?_)
      | (show VcL _ _ _ _ (⟨_, .indexAddr _ _ _, _, _, _, _⟩ :: _) _ _ _; first
      | refine VcL.indexArr0 tabOk rfl rfl rfl rfl rfl rfl (by omega) (by omega) ?_
      | refine VcL.indexArr tabOk rfl rfl rfl rfl rfl rfl (by omega) (by omega) ?_)
      | (show VcL _ _ _ _ (⟨_, .call ⟨.value (.func F_stream_End_Read), _, _⟩, _, _, _, _⟩ :: _) _ _ _; (refine VcL.callF ok_stream_End_Read rfl rfl rfl rfl (Rets.mono (hread _ _ (Holds.f1 H)) ?_); rintro _ w ⟨bv, rfl, H⟩; obtain ⟨_, A1, c1, rfl⟩ := Holds.own_len H))
      | (show VcL _ _ _ _ (⟨_, .call ⟨.value (.func F_tithingref12_End_Read), _, _⟩, _, _, _, _⟩ :: _) _ _ _; (refine VcL.callF ok_tithingref12_End_Read rfl rfl rfl rfl (Rets.mono (hreadR _ _ (Holds.f3 H)) ?_); rintro _ w ⟨cv, rfl, H⟩; obtain ⟨_, A2, c2, rfl⟩ := Holds.own_len H))
      | (show VcL _ _ _ _ (⟨_, .call ⟨.value (.func F_tithinglaw12_Pair_differ), _, _⟩, _, _, _, _⟩ :: _) _ _ _; (refine VcL.callF ok_tithinglaw12_Pair_differ rfl rfl rfl rfl (Rets.mono (differ_any (a := ⟨e2, r2, f2, pp2, q2, s2⟩) (b := ⟨e, r, f, pp, .slice P1 rl.length pc1, s⟩) (Holds.f4 H)) ?_); rintro _ w H))
      | (refine VcL.guard rfl rfl rfl rfl (fun h => ?_) (fun h => ?_) <;> first | (cases h; done) | skip))
      | (show Vc _ _ _ _ _ _; first
      | refine Vc.seq ?_
      | refine Vc.region ?_
      | refine Vc.block ?_)
      | (show KSeq _ _ _ _ _ _ _; refine KSeq.normal ?_))
    obtain ⟨J, hJ, H, hv⟩ := Holds.freezeOwn (Holds.f3 H)
    subst hll
    refine Vc.loopS [(0, _), (1, _), (7, _), (8, _)] (fun s : Nat × Option Addr × Nat => [(13, .int .i64 s.1)]) (fun u w => u.1 ≤ l.length ∧ Holds J w (own (.slice u.2.1 (rl.length + u.1) u.2.2) 102 2 (rl.length + u.1) ((rl ++ (markS l en).take u.1).flatMap bfC) :: blk p 47 (pc0 ⟨e2, r2, f2, pp2, q2, s2⟩ ⟨e, r, f, pp, .slice u.2.1 (rl.length + u.1) u.2.2, s⟩) :: refA I r E' :: endA I e E' :: L)) (fun u _ => l.length - u.1) (0, P1, pc1) ⟨rfl, trivial⟩ ⟨rfl, rfl, rfl, rfl, trivial⟩ ⟨Nat.zero_le _, (by simpa using Holds.re [3] (Holds.drop1 H) rfl)⟩ ?_
    clear H
    rintro ⟨k, P1, pc1⟩ w ⟨hk, H⟩
    dsimp only at hk H ⊢
    by_cases hlt : k < l.length
    · obtain ⟨b2, o, rfl, hr⟩ := hv.at (by omega)
      have hx := (byL_flat l ▸ hr).elem byC_len (atD_get hlt)
      have hx := RdI.toW (L := blk p 47 (pc0 ⟨e2, r2, f2, pp2, q2, s2⟩ ⟨e, r, f, pp, .slice P1 (rl.length + k) pc1, s⟩) :: refA I r E' :: endA I e E' :: L) hx
      have e9 : IntKind.i64.wrap ((l.length : Int) - 1) = ((l.length - 1 : Nat) : Int) := by rw [wrap_i64 (by omega) (by omega)]; omega
      have e10 : decide ((k : Int) = ((l.length - 1 : Nat) : Int)) = decide (k + 1 = l.length) := decide_eq_decide.2 (by omega)
      have hres : ∀ (x : Bool) (A7 : Option Addr) (c7 : Nat) (w : World), x = (en && decide (k + 1 = l.length)) → ∀ L1, Holds J w (own (.slice A7 (rl.length + k + 1) c7) 102 2 (rl.length + k + 1) ((rl ++ (markS l en).take k).flatMap bfC ++ bfC (atD l k, x)) :: L1) → Holds J w (own (.slice A7 (rl.length + (k + 1)) c7) 102 2 (rl.length + (k + 1)) ((rl ++ (markS l en).take (k + 1)).flatMap bfC) :: L1) := fun x A7 c7 w hx L1 H => by
        rw [markS_take hlt, ← List.append_assoc, flat_snoc, ← hx]
        exact H
      cases en
      ·
        repeat' (first
          | (refine VcD.append tabOk rfl rfl rfl rfl rfl (Holds.f1 H) (Src.slice rfl (Holds.pt_rd H)) (bfC_slice (atD l k, false)) (by show (_ + 1) * 2 ≤ _; omega) rfl rfl rfl (fun v_ w H => ⟨Holds.drop (Holds.drop H), ?_⟩); obtain ⟨_, A7, c7, rfl⟩ := Holds.own_len H)
          | (show VcL _ _ _ _ _ _ _ _; first
      | refine VcL.pures tabOk rfl ?_
      | refine VcL.nil ?_)
          | (show VcD _ _ _ _ _ _ _ _ _; first
      | refine VcD.pures tabOk rfl ?_
      | refine VcD.done ?_
      | (show VcD _ _ _ _ _ (.pure _ _) _ _ _; first
      | refine VcD.indexAddr tabOk rfl rfl rfl rfl rfl rfl rfl (by omega) (by omega) ?_
      | refine VcD.indexArr tabOk rfl rfl rfl rfl rfl rfl rfl (by omega) (by omega) ?_
      | (refine VcD.guardP rfl rfl rfl rfl rfl (fun h => ?_) (fun h => ?_) <;> first | (cases h; done) | skip))
      | (show VcD _ _ _ _ _ (.take _ _) _ _ _; refine VcD.load1 tabOk rfl rfl rfl rfl rfl rfl (by intro w_ hw_; first | exact Holds.cell hw_ rfl | exact RdW.get0 (by assumption) rfl hw_) (by exact rfl) ?_)
      | (show VcD _ _ _ _ _ (.only _ _) _ _ _; first
      | (refine VcD.eff rfl rfl rfl rfl (OpE.buildSliceP tabOk H rfl rfl rfl rfl) ?_; rintro _ w ⟨b_, rfl, H⟩; refine ⟨(by exact Holds.drop (Holds.drop H)), ?_⟩)
      | (refine VcD.eff rfl rfl rfl rfl (OpE.store tabOk (by exact (Holds.f2 H)) rfl rfl rfl (by exact rfl) (by exact rfl) (by exact rfl) (by exact rfl)) ?_; rintro _ w ⟨_, H⟩; refine ⟨(by trivial), ?_⟩)))
          | (show Vc _ _ _ _ _ _; first
      | refine Vc.seq ?_
      | refine Vc.region ?_
      | refine Vc.skip ?_
      | refine Vc.block ?_
      | (refine Vc.drawn (id := 7) (.pure 0 (.pure 1 (.pure 2 (.pure 3 (.pure 4 (.pure 5 (.pure 8 (.pure 9 (.pure 12 (.pure 13 (.pure 14 (.pure 15 (.pure 16 (.pure 17 (.pure 18 (.pure 19 (.pure 23 (.pure 24 (.pure 6 (.take 7 (.pure 10 (.take 11 (.pure 20 (.only 21 (.only 22 (.pure 25 (.only 26 .done))))))))))))))))))))))))))) (.till (fun w => Holds J w (blk p 47 (pc0 ⟨e2, r2, f2, pp2, q2, s2⟩ ⟨e, r, f, pp, .slice P1 (rl.length + k) pc1, s⟩) :: refA I r E' :: endA I e E' :: L)) 26 (.one (fun _ => True))) mixed (by kernel_rfl) (by exact Holds.drop (Holds.drew H _)) ?_; have H := H.drew (w.drawn + 1))
      | (refine Vc.cond rfl (fun h => ?_) (fun h => ?_) <;> first | (exfalso; simp only [decide_eq_true_eq, decide_eq_false_iff_not, Bool.not_eq_true', Bool.not_eq_false'] at h; omega) | (with_reducible have hp := of_decide_eq_true h)))
          | (show KSeq _ _ _ _ _ _ _; refine KSeq.normal ?_)
          | (show KBlock _ _ _ _ _ _; refine KBlock.normal ?_))
        exact KLoop.again (k + 1, A7, c7) ⟨got_succ rfl (by omega), trivial⟩ ⟨rfl, rfl, rfl, rfl, trivial⟩ ⟨hlt, hres false A7 c7 w rfl _ (Holds.drop2 (Holds.swap H))⟩ (by dsimp only; omega)
      · obtain ⟨x, hx2⟩ : ∃ x, decide (k + 1 = l.length) = x := ⟨_, rfl⟩
        rw [hx2] at e10
        repeat' (first
          | rw [e9]
          | rw [e10]
          | (refine VcD.append tabOk rfl rfl rfl rfl rfl (Holds.f1 H) (Src.slice rfl (Holds.pt_rd H)) (bfC_slice (atD l k, x)) (by show (_ + 1) * 2 ≤ _; omega) rfl rfl rfl (fun v_ w H => ⟨Holds.drop (Holds.drop H), ?_⟩); obtain ⟨_, A7, c7, rfl⟩ := Holds.own_len H)
          | (show VcL _ _ _ _ _ _ _ _; first
      | refine VcL.pures tabOk rfl ?_
      | refine VcL.nil ?_)
          | (show VcD _ _ _ _ _ _ _ _ _; first
      | refine VcD.pures tabOk rfl ?_
      | refine VcD.done ?_
      | (show VcD _ _ _ _ _ (.pure _ _) _ _ _; first
      | refine VcD.indexAddr tabOk rfl rfl rfl rfl rfl rfl rfl (by omega) (by omega) ?_
      | refine VcD.indexArr tabOk rfl rfl rfl rfl rfl rfl rfl (by omega) (by omega) ?_
      | (refine VcD.guardP rfl rfl rfl rfl rfl (fun h => ?_) (fun h => ?_) <;> first | (cases h; done) | skip))
      | (show VcD _ _ _ _ _ (.take _ _) _ _ _; refine VcD.load1 tabOk rfl rfl rfl rfl rfl rfl (by intro w_ hw_; first | exact Holds.cell hw_ rfl | exact RdW.get0 (by assumption) rfl hw_) (by exact rfl) ?_)
      | (show VcD _ _ _ _ _ (.only _ _) _ _ _; first
      | (refine VcD.eff rfl rfl rfl rfl (OpE.buildSliceP tabOk H rfl rfl rfl rfl) ?_; rintro _ w ⟨b_, rfl, H⟩; refine ⟨(by exact Holds.drop (Holds.drop H)), ?_⟩)
      | (refine VcD.eff rfl rfl rfl rfl (OpE.store tabOk (by exact (Holds.f2 H)) rfl rfl rfl (by exact rfl) (by exact rfl) (by exact rfl) (by exact rfl)) ?_; rintro _ w ⟨_, H⟩; refine ⟨(by trivial), ?_⟩)))
          | (show Vc _ _ _ _ _ _; first
      | refine Vc.seq ?_
      | refine Vc.region ?_
      | refine Vc.skip ?_
      | refine Vc.block ?_
      | (refine Vc.drawn (id := 7) (.pure 0 (.pure 1 (.pure 2 (.pure 3 (.pure 4 (.pure 5 (.pure 8 (.pure 9 (.pure 12 (.pure 13 (.pure 14 (.pure 15 (.pure 16 (.pure 17 (.pure 18 (.pure 19 (.pure 23 (.pure 24 (.pure 6 (.take 7 (.pure 10 (.take 11 (.pure 20 (.only 21 (.only 22 (.pure 25 (.only 26 .done))))))))))))))))))))))))))) (.till (fun w => Holds J w (blk p 47 (pc0 ⟨e2, r2, f2, pp2, q2, s2⟩ ⟨e, r, f, pp, .slice P1 (rl.length + k) pc1, s⟩) :: refA I r E' :: endA I e E' :: L)) 26 (.one (fun _ => True))) mixed (by kernel_rfl) (by exact Holds.drop (Holds.drew H _)) ?_; have H := H.drew (w.drawn + 1))
      | (refine Vc.cond rfl (fun h => ?_) (fun h => ?_) <;> first | (exfalso; simp only [decide_eq_true_eq, decide_eq_false_iff_not, Bool.not_eq_true', Bool.not_eq_false'] at h; omega) | (with_reducible have hp := of_decide_eq_true h)))
          | (show KSeq _ _ _ _ _ _ _; refine KSeq.normal ?_)
          | (show KBlock _ _ _ _ _ _; refine KBlock.normal ?_))
        exact KLoop.again (k + 1, A7, c7) ⟨got_succ rfl (by omega), trivial⟩ ⟨rfl, rfl, rfl, rfl, trivial⟩ ⟨hlt, hres x A7 c7 w (by rw [hx2]; rfl) _ (Holds.drop2 (Holds.swap H))⟩ (by dsimp only; omega)
    · obtain rfl : k = l.length := by omega
      repeat' (first
        | (show VcL _ _ _ _ _ _ _ _; first
      | refine VcL.pures tabOk rfl ?_
      | refine VcL.nil ?_)
        | (show Vc _ _ _ _ _ _; first
      | refine Vc.seq ?_
      | refine Vc.region ?_
      | refine Vc.ret ?_
      | refine Vc.exit ?_
      | (refine Vc.cond rfl (fun h => ?_) (fun h => ?_) <;> first | (exfalso; simp only [decide_eq_true_eq, decide_eq_false_iff_not, Bool.not_eq_true', Bool.not_eq_false'] at h; omega) | (with_reducible have hp := of_decide_eq_false h)))
        | (show KSeq _ _ _ _ _ _ _; first
      | refine KSeq.normal ?_
      | refine KSeq.exit ?_)
        | (show KBlock _ _ _ _ _ _; refine KBlock.here ?_)
        | refine KLoop.exit ?_
        | (show KEnd _ _ _ _ _ _ _; refine KEnd.fin (Or.inr rfl) ⟨_, (ResL.tmp rfl ResL.nil), ?_⟩))
      rw [List.take_of_length_le (by rw [markS_len]; exact Nat.le_refl _)] at H
      refine ⟨rfl, .slice P1 (rl.length + l.length) pc1, ?_⟩
      rw [List.length_append, markS_len]
      exact Holds.re [1, 2, 1, 0] (Holds.less H hJ) rfl
end Go.Proofs.Ytpfgcchammlpgaa.V
