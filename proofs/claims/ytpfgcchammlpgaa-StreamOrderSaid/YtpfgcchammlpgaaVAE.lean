/- Two ends, and what flies between them, in memory. -/
import Derived.Test.YtpfgcchammlpgaaVAC
namespace Go.Proofs.Ytpfgcchammlpgaa.V
open Go Go.Proofs.YtpfgcchammlpgaaV
set_option linter.unusedVariables false
set_option linter.unusedSimpArgs false
set_option maxHeartbeats 8000000
set_option maxRecDepth 4000
attribute [local irreducible] IntKind.wrap refA endA
variable {I : Imm} {w : World} {L : List Asn}
/-- Where one side's things lie. -/
structure Sd where mk ::
  e : Nat
  r : Nat
  f : Value
  p : Value
  q : Value
  s : Value
abbrev pc0 (a b : Sd) : List Value := [ptr a.e, ptr b.e, ptr a.r, ptr b.r, a.f, b.f, a.p, b.p, a.q, b.q, a.s, b.s, .bool false]
/-- The pair's cells, told from one side. -/
def pcl : Nat → Sd → Sd → List Value
  | 0, a, b => pc0 a b
  | _ + 1, a, b => pc0 b a
theorem rdAt0 {w : World} {b a : Nat} {cs : List Value} {v : Value} (h : Rd w b 0 cs) (hv : cs[a]? = some v) : w.cell? ⟨b, a, none⟩ = some v := by
  have := h a v hv
  rwa [Nat.zero_add] at this
theorem differ_any {p : Nat} {a b : Sd} (H : Holds I w (blk p 47 (pc0 a b) :: L)) : Rets Try.prog F_tithinglaw12_Pair_differ #[ptr p, .bool true] w fun u w' => Holds I w' (blk p 47 (pc0 a b) :: L) := by
  obtain ⟨e, r, f, pp, q, s⟩ := a
  obtain ⟨e2, r2, f2, pp2, q2, s2⟩ := b
  refine ok_tithinglaw12_Pair_differ.rets rfl ?_
  repeat' (first
    | (show VcL _ _ _ _ _ _ _ _; first
      | refine VcL.pures tabOk rfl ?_
      | refine VcL.nil ?_
      | (show VcL _ _ _ _ (⟨_, .load _ _, _, _, _, _⟩ :: _) _ _ _; refine VcL.load1 tabOk rfl rfl rfl rfl rfl (by exact Holds.cell H rfl) ?_)
      | (show VcL _ _ _ _ (⟨_, .store _ _ _, _, _, _, _⟩ :: _) _ _ _; refine VcL.store tabOk rfl (by exact H) rfl rfl (by exact rfl) (by exact rfl) (by exact rfl) (by exact rfl) (fun w H => ?_))
      | (refine VcL.guard rfl rfl rfl rfl (fun h => ?_) (fun h => ?_) <;> first | (cases h; done) | skip))
    | (show Vc _ _ _ _ _ _; refine Vc.region ?_)
    | (show KEnd _ _ _ _ _ _ _; refine KEnd.fin (Or.inl rfl) ⟨_, ResL.nil, ?_⟩))
  exact H
def oddB (n : Int) : Bool := decide (n.tmod 2 ≠ 0)
def putN (E : En) (l : By) (en : Bool) : List Bf := if (putS E l en).2 = 0 then markS l en else []
theorem puts_any {p i : Nat} (hi : i < 2) {a b : Sd} {E : En} {pl : List Bf} {d n : Int} {ab : Bool} {v : Value} {l : By}
    (H : Holds I w (blk p 47 (pcl i a b) :: endA I a.e E :: refA I a.r E :: own a.p 102 2 pl.length (pl.flatMap bfC) :: L))
    (hv : SlI I v 1 l.length (byL l)) (hl : l.length ≤ 300) (hpl : pl.length ≤ 1000000000) :
    Rets Try.prog F_tithinglaw12_Pair_puts #[ptr p, .int .i64 (i : Nat), .agg #[.int .i64 d, .int .i64 n, .bool ab, v]] w fun u w' => ∃ pv, Holds I w' (blk p 47 (pcl i { a with p := pv } b) :: endA I a.e (putS E l (oddB n)).1 :: refA I a.r (putS E l (oddB n)).1 :: own pv 102 2 (pl ++ putN E l (oddB n)).length ((pl ++ putN E l (oddB n)).flatMap bfC) :: L) := by
  obtain ⟨A, cap, rfl, hcap⟩ := hv.form
  obtain ⟨_, P1, pc1, hp⟩ := Holds.own_len (Holds.f3 H)
  obtain ⟨e, r, f, pp, q, s⟩ := a
  obtain ⟨e2, r2, f2, pp2, q2, s2⟩ := b
  dsimp only at hp H ⊢
  subst hp
  have e0 : (!decide (n.tmod (Int.ofNat (1 + 1)) = 0)) = oddB n := by show (!decide (n.tmod 2 = 0)) = _; unfold oddB; rw [← decide_not]
  obtain ⟨en, hen⟩ : ∃ en, oddB n = en := ⟨_, rfl⟩
  rw [hen] at e0 ⊢
  unfold putN
  have hput := fun (w : World) (L : List Asn) (H : Holds I w (endA I e E :: L)) => Put_any (en := en) H hv (by omega)
  have hputR := fun (w : World) (L : List Asn) (H : Holds I w (refA I r E :: L)) => PutR_any (en := en) H hv (by omega)
  obtain ⟨P, hP⟩ : ∃ P, putS E l en = P := ⟨_, rfl⟩
  rw [hP] at hput hputR ⊢
  have e1 : decide (P.2 = P.2) = true := decide_eq_true rfl
  match i, hi with
  | 0, _ =>
    have H : Holds I w (blk p 47 (pc0 ⟨e, r, f, .slice P1 pl.length pc1, q, s⟩ ⟨e2, r2, f2, pp2, q2, s2⟩) :: endA I e E :: refA I r E :: own (.slice P1 pl.length pc1) 102 2 pl.length (pl.flatMap bfC) :: L) := H
    refine ok_tithinglaw12_Pair_puts.rets rfl ?_
    repeat' (first
      | rw [e0]
      | rw [e1]
      | (refine VcD.load1 tabOk rfl rfl rfl rfl rfl rfl (by intro w_ hw_; exact rdAt0 hw_.1 rfl) (by exact rfl) ?_)
      | (show VcL _ _ _ _ _ _ _ _; first
      | refine VcL.pures tabOk rfl ?_
      | refine VcL.nil ?_
      | (show VcL _ _ _ _ (⟨_, .load _ _, _, _, _, _⟩ :: _) _ _ _; refine VcL.load1 tabOk rfl rfl rfl rfl rfl (by exact Holds.cell H rfl) ?_)
      | refine VcL.box H rfl rfl rfl rfl rfl (fun b w H => ?_)
      | (show VcL _ _ _ _ (⟨_, .call ⟨.value (.func F_tithinglaw12_Pair_differ), _, _⟩, _, _, _, _⟩ :: _) _ _ _; (refine VcL.callF ok_tithinglaw12_Pair_differ rfl rfl rfl rfl (Rets.mono (differ_any (a := ⟨e, r, f, .slice P1 pl.length pc1, q, s⟩) (b := ⟨e2, r2, f2, pp2, q2, s2⟩) (Holds.f3 H)) ?_); rintro _ w H)))
      | (show VcD _ _ _ _ _ _ _ _ _; first
      | refine VcD.pures tabOk rfl ?_
      | refine VcD.done ?_
      | (show VcD _ _ _ _ _ (.pure _ _) _ _ _; first
      | refine VcD.indexArr0 tabOk rfl rfl rfl rfl rfl rfl rfl (by omega) (by omega) ?_
      | refine VcD.indexArr tabOk rfl rfl rfl rfl rfl rfl rfl (by omega) (by omega) ?_)
      | (show VcD _ _ _ _ _ (.take _ _) _ _ _; refine VcD.load1 tabOk rfl rfl rfl rfl rfl rfl (by intro w_ hw_; exact hw_.2 _ _ rfl) (by exact rfl) ?_)
      | (show VcD _ _ _ _ _ (.only _ _) _ _ _; first
      | (refine VcD.callF (f := F_stream_End_Put) rfl ok_stream_End_Put rfl rfl rfl rfl (Rets.mono (hput _ _ (Holds.f2 H)) ?_); rintro _ w ⟨rfl, H⟩; refine ⟨(by (refine ⟨?_, ?_⟩ <;> first | exact Holds.rdWhole (Holds.f1 H) | exact Holds.rdWhole (Holds.f2 H))), ?_⟩)
      | (refine VcD.callF (f := F_tithingref12_End_Put) rfl ok_tithingref12_End_Put rfl rfl rfl rfl (Rets.mono (hputR _ _ (Holds.f3 H)) ?_); rintro _ w ⟨rfl, H⟩; refine ⟨(by (refine ⟨?_, ?_⟩ <;> first | exact Holds.rdWhole (Holds.f2 H) | exact Holds.rdWhole (Holds.f3 H))), ?_⟩)))
      | (show Vc _ _ _ _ _ _; first
      | refine Vc.seq ?_
      | refine Vc.region ?_
      | refine Vc.block ?_
      | (refine Vc.drawn (id := 2) (.pure 0 (.pure 1 (.pure 2 (.pure 3 (.pure 6 (.pure 8 (.pure 10 (.pure 11 (.pure 12 (.pure 13 (.pure 16 (.pure 18 (.pure 4 (.take 5 (.take 7 (.pure 14 (.take 15 (.take 17 (.only 9 (.only 19 (.pure 20 (.pure 21 .done)))))))))))))))))))))) (.one (fun w => Rd w p 0 (pc0 ⟨e, r, f, .slice P1 pl.length pc1, q, s⟩ ⟨e2, r2, f2, pp2, q2, s2⟩) ∧ Rd w b 0 [.int .i64 d, .int .i64 n, .bool ab, .slice A l.length cap])) mixed (by kernel_rfl) (by (refine ⟨?_, ?_⟩ <;> first | exact Holds.rdWhole (Holds.drew H _) | exact Holds.rdWhole (Holds.f1 (Holds.drew H _)) | exact Holds.rdWhole (Holds.f3 (Holds.drew H _)))) ?_; have H := H.drew (w.drawn + 1)))
      | (show KSeq _ _ _ _ _ _ _; refine KSeq.normal ?_))
    refine Vc.loopS [(0, _), (1, _), (5, _), (6, _), (7, _)] (fun s : Nat × Option Addr × Nat => [(9, .int .i64 s.1)]) (fun u w => u.1 ≤ l.length ∧ (0 < u.1 → P.2 = 0) ∧ Holds I w (own (.slice u.2.1 (pl.length + u.1) u.2.2) 102 2 (pl.length + u.1) ((pl ++ (markS l en).take u.1).flatMap bfC) :: blk p 47 (pc0 ⟨e, r, f, .slice u.2.1 (pl.length + u.1) u.2.2, q, s⟩ ⟨e2, r2, f2, pp2, q2, s2⟩) :: refA I r P.1 :: endA I e P.1 :: blk b 35 [.int .i64 d, .int .i64 n, .bool ab, .slice A l.length cap] :: L)) (fun u _ => l.length - u.1) (0, P1, pc1) ⟨rfl, trivial⟩ ⟨rfl, rfl, rfl, rfl, rfl, trivial⟩ ⟨Nat.zero_le _, fun h => absurd h (Nat.lt_irrefl _), (by simpa using Holds.re [4] H rfl)⟩ ?_
    clear H
    rintro ⟨k, P1, pc1⟩ w ⟨hk, hz, H⟩
    dsimp only at hk hz H ⊢
    by_cases hgo : P.2 = 0 ∧ k < l.length
    · obtain ⟨hz2, hlt⟩ := hgo
      obtain ⟨b2, o, rfl, hr⟩ := hv.at (by omega)
      have hx := (byL_flat l ▸ hr).elem byC_len (atD_get hlt)
      have hx := RdI.toW (L := blk p 47 (pc0 ⟨e, r, f, .slice P1 (pl.length + k) pc1, q, s⟩ ⟨e2, r2, f2, pp2, q2, s2⟩) :: refA I r P.1 :: endA I e P.1 :: blk b 35 [.int .i64 d, .int .i64 n, .bool ab, .slice (some ⟨b2, o, none⟩) l.length cap] :: L) hx
      have e9 : IntKind.i64.wrap ((l.length : Int) - 1) = ((l.length - 1 : Nat) : Int) := by rw [wrap_i64 (by omega) (by omega)]; omega
      have e10 : decide ((k : Int) = ((l.length - 1 : Nat) : Int)) = decide (k + 1 = l.length) := decide_eq_decide.2 (by omega)
      have e11 : decide (P.2 = 0) = true := decide_eq_true hz2
      have hres : ∀ (x : Bool) (A7 : Option Addr) (c7 : Nat) (w : World), x = (en && decide (k + 1 = l.length)) → ∀ L1, Holds I w (own (.slice A7 (pl.length + k + 1) c7) 102 2 (pl.length + k + 1) ((pl ++ (markS l en).take k).flatMap bfC ++ bfC (atD l k, x)) :: L1) → Holds I w (own (.slice A7 (pl.length + (k + 1)) c7) 102 2 (pl.length + (k + 1)) ((pl ++ (markS l en).take (k + 1)).flatMap bfC) :: L1) := fun x A7 c7 w hx L1 H => by
        rw [markS_take hlt, ← List.append_assoc, flat_snoc, ← hx]
        exact H
      cases en
      ·
        repeat' (first
          | rw [e11]
          | (refine VcD.append tabOk rfl rfl rfl rfl rfl (Holds.f1 H) (Src.slice rfl (Holds.pt_rd H)) (bfC_slice (atD l k, false)) (by show (_ + 1) * 2 ≤ _; omega) rfl rfl rfl (fun v_ w H => ⟨Holds.drop (Holds.drop H), ?_⟩); obtain ⟨_, A7, c7, rfl⟩ := Holds.own_len H)
          | (show VcL _ _ _ _ _ _ _ _; first
      | refine VcL.pures tabOk rfl ?_
      | refine VcL.nil ?_
      | (show VcL _ _ _ _ (⟨_, .load _ _, _, _, _, _⟩ :: _) _ _ _; refine VcL.load1 tabOk rfl rfl rfl rfl rfl (by exact Holds.cell (Holds.f4 H) rfl) ?_)
      | (refine VcL.guard rfl rfl rfl rfl (fun h => ?_) (fun h => ?_) <;> first | (cases h; done) | skip))
          | (show VcD _ _ _ _ _ _ _ _ _; first
      | refine VcD.pures tabOk rfl ?_
      | refine VcD.done ?_
      | (show VcD _ _ _ _ _ (.pure _ _) _ _ _; first
      | refine VcD.indexAddr tabOk rfl rfl rfl rfl rfl rfl rfl (by omega) (by omega) ?_
      | refine VcD.indexArr tabOk rfl rfl rfl rfl rfl rfl rfl (by omega) (by omega) ?_
      | (refine VcD.guardP rfl rfl rfl rfl rfl (fun h => ?_) (fun h => ?_) <;> first | (cases h; done) | skip))
      | (show VcD _ _ _ _ _ (.take _ _) _ _ _; first
      | refine VcD.load1 tabOk rfl rfl rfl rfl rfl rfl (by intro w_ hw_; first | exact Holds.cell hw_ rfl | exact Holds.cell (Holds.f3 hw_) rfl | exact RdW.get0 (by assumption) rfl hw_) (by exact rfl) ?_
      | refine VcD.skipT rfl rfl rfl ?_)
      | (show VcD _ _ _ _ _ (.only _ _) _ _ _; first
      | (refine VcD.eff rfl rfl rfl rfl (OpE.buildSliceP tabOk H rfl rfl rfl rfl) ?_; rintro _ w ⟨b_, rfl, H⟩; refine ⟨(by exact Holds.drop (Holds.drop H)), ?_⟩)
      | (refine VcD.eff rfl rfl rfl rfl (OpE.store tabOk (by exact (Holds.f2 H)) rfl rfl rfl (by exact rfl) (by exact rfl) (by exact rfl) (by exact rfl)) ?_; rintro _ w ⟨_, H⟩; refine ⟨(by trivial), ?_⟩)))
          | (show Vc _ _ _ _ _ _; first
      | refine Vc.seq ?_
      | refine Vc.region ?_
      | refine Vc.skip ?_
      | refine Vc.block ?_
      | (refine Vc.drawn (id := 7) (.pure 0 (.pure 1 (.pure 2 (.pure 3 (.pure 4 (.pure 5 (.pure 8 (.pure 10 (.pure 13 (.pure 14 (.pure 15 (.pure 16 (.pure 25 (.pure 26 (.pure 6 (.take 7 (.take 9 (.pure 11 (.take 12 (.take 17 (.pure 18 (.pure 19 (.pure 20 (.pure 21 (.pure 22 (.only 23 (.only 24 (.pure 27 (.only 28 .done))))))))))))))))))))))))))))) (.till (fun w => Holds I w (blk p 47 (pc0 ⟨e, r, f, .slice P1 (pl.length + k) pc1, q, s⟩ ⟨e2, r2, f2, pp2, q2, s2⟩) :: refA I r P.1 :: endA I e P.1 :: blk b 35 [.int .i64 d, .int .i64 n, .bool ab, .slice (some ⟨b2, o, none⟩) l.length cap] :: L)) 28 (.one (fun _ => True))) mixed (by kernel_rfl) (by exact Holds.drop (Holds.drew H _)) ?_; have H := H.drew (w.drawn + 1))
      | (refine Vc.cond rfl (fun h => ?_) (fun h => ?_) <;> first | (exfalso; simp only [decide_eq_true_eq, decide_eq_false_iff_not, Bool.not_eq_true', Bool.not_eq_false'] at h; omega) | (with_reducible have hp := of_decide_eq_true h)))
          | (show KSeq _ _ _ _ _ _ _; refine KSeq.normal ?_)
          | (show KBlock _ _ _ _ _ _; refine KBlock.normal ?_))
        exact KLoop.again (k + 1, A7, c7) ⟨got_succ rfl (by omega), trivial⟩ ⟨rfl, rfl, rfl, rfl, rfl, trivial⟩ ⟨hlt, fun _ => hz2, hres false A7 c7 w rfl _ (Holds.drop2 (Holds.swap H))⟩ (by dsimp only; omega)
      · obtain ⟨x, hx2⟩ : ∃ x, decide (k + 1 = l.length) = x := ⟨_, rfl⟩
        rw [hx2] at e10
        repeat' (first
          | rw [e9]
          | rw [e10]
          | rw [e11]
          | (refine VcD.append tabOk rfl rfl rfl rfl rfl (Holds.f1 H) (Src.slice rfl (Holds.pt_rd H)) (bfC_slice (atD l k, x)) (by show (_ + 1) * 2 ≤ _; omega) rfl rfl rfl (fun v_ w H => ⟨Holds.drop (Holds.drop H), ?_⟩); obtain ⟨_, A7, c7, rfl⟩ := Holds.own_len H)
          | (show VcL _ _ _ _ _ _ _ _; first
      | refine VcL.pures tabOk rfl ?_
      | refine VcL.nil ?_
      | (show VcL _ _ _ _ (⟨_, .load _ _, _, _, _, _⟩ :: _) _ _ _; refine VcL.load1 tabOk rfl rfl rfl rfl rfl (by exact Holds.cell (Holds.f4 H) rfl) ?_)
      | (refine VcL.guard rfl rfl rfl rfl (fun h => ?_) (fun h => ?_) <;> first | (cases h; done) | skip))
          | (show VcD _ _ _ _ _ _ _ _ _; first
      | refine VcD.pures tabOk rfl ?_
      | refine VcD.done ?_
      | (show VcD _ _ _ _ _ (.pure _ _) _ _ _; first
      | refine VcD.indexAddr tabOk rfl rfl rfl rfl rfl rfl rfl (by omega) (by omega) ?_
      | refine VcD.indexArr tabOk rfl rfl rfl rfl rfl rfl rfl (by omega) (by omega) ?_
      | (refine VcD.guardP rfl rfl rfl rfl rfl (fun h => ?_) (fun h => ?_) <;> first | (cases h; done) | skip))
      | (show VcD _ _ _ _ _ (.take _ _) _ _ _; refine VcD.load1 tabOk rfl rfl rfl rfl rfl rfl (by intro w_ hw_; first | exact Holds.cell hw_ rfl | exact Holds.cell (Holds.f3 hw_) rfl | exact RdW.get0 (by assumption) rfl hw_) (by exact rfl) ?_)
      | (show VcD _ _ _ _ _ (.only _ _) _ _ _; first
      | (refine VcD.eff rfl rfl rfl rfl (OpE.buildSliceP tabOk H rfl rfl rfl rfl) ?_; rintro _ w ⟨b_, rfl, H⟩; refine ⟨(by exact Holds.drop (Holds.drop H)), ?_⟩)
      | (refine VcD.eff rfl rfl rfl rfl (OpE.store tabOk (by exact (Holds.f2 H)) rfl rfl rfl (by exact rfl) (by exact rfl) (by exact rfl) (by exact rfl)) ?_; rintro _ w ⟨_, H⟩; refine ⟨(by trivial), ?_⟩)))
          | (show Vc _ _ _ _ _ _; first
      | refine Vc.seq ?_
      | refine Vc.region ?_
      | refine Vc.skip ?_
      | refine Vc.block ?_
      | (refine Vc.drawn (id := 7) (.pure 0 (.pure 1 (.pure 2 (.pure 3 (.pure 4 (.pure 5 (.pure 8 (.pure 10 (.pure 13 (.pure 14 (.pure 15 (.pure 16 (.pure 25 (.pure 26 (.pure 6 (.take 7 (.take 9 (.pure 11 (.take 12 (.take 17 (.pure 18 (.pure 19 (.pure 20 (.pure 21 (.pure 22 (.only 23 (.only 24 (.pure 27 (.only 28 .done))))))))))))))))))))))))))))) (.till (fun w => Holds I w (blk p 47 (pc0 ⟨e, r, f, .slice P1 (pl.length + k) pc1, q, s⟩ ⟨e2, r2, f2, pp2, q2, s2⟩) :: refA I r P.1 :: endA I e P.1 :: blk b 35 [.int .i64 d, .int .i64 n, .bool ab, .slice (some ⟨b2, o, none⟩) l.length cap] :: L)) 28 (.one (fun _ => True))) mixed (by kernel_rfl) (by exact Holds.drop (Holds.drew H _)) ?_; have H := H.drew (w.drawn + 1))
      | (refine Vc.cond rfl (fun h => ?_) (fun h => ?_) <;> first | (exfalso; simp only [decide_eq_true_eq, decide_eq_false_iff_not, Bool.not_eq_true', Bool.not_eq_false'] at h; omega) | (with_reducible have hp := of_decide_eq_true h)))
          | (show KSeq _ _ _ _ _ _ _; refine KSeq.normal ?_)
          | (show KBlock _ _ _ _ _ _; refine KBlock.normal ?_))
        exact KLoop.again (k + 1, A7, c7) ⟨got_succ rfl (by omega), trivial⟩ ⟨rfl, rfl, rfl, rfl, rfl, trivial⟩ ⟨hlt, fun _ => hz2, hres x A7 c7 w (by rw [hx2]; rfl) _ (Holds.drop2 (Holds.swap H))⟩ (by dsimp only; omega)
    · by_cases hz3 : P.2 = 0
      · obtain rfl : k = l.length := by have : ¬ k < l.length := fun h => hgo ⟨hz3, h⟩; omega
        have e11 : decide (P.2 = 0) = true := decide_eq_true hz3
        rw [if_pos hz3]
        repeat' (first
          | rw [e11]
          | (show VcL _ _ _ _ _ _ _ _; first
      | refine VcL.pures tabOk rfl ?_
      | refine VcL.nil ?_
      | (show VcL _ _ _ _ (⟨_, .load _ _, _, _, _, _⟩ :: _) _ _ _; refine VcL.load1 tabOk rfl rfl rfl rfl rfl (by exact Holds.cell (Holds.f4 H) rfl) ?_)
      | (refine VcL.guard rfl rfl rfl rfl (fun h => ?_) (fun h => ?_) <;> first | (cases h; done) | skip))
          | (show Vc _ _ _ _ _ _; first
      | refine Vc.seq ?_
      | refine Vc.region ?_
      | refine Vc.exit ?_
      | (refine Vc.cond rfl (fun h => ?_) (fun h => ?_) <;> first | (exfalso; simp only [decide_eq_true_eq, decide_eq_false_iff_not, Bool.not_eq_true', Bool.not_eq_false'] at h; omega) | (with_reducible have hp := of_decide_eq_false h)))
          | (show KSeq _ _ _ _ _ _ _; first
      | refine KSeq.normal ?_
      | refine KSeq.exit ?_)
          | (show KBlock _ _ _ _ _ _; refine KBlock.here ?_)
          | refine KLoop.exit ?_
          | (show KEnd _ _ _ _ _ _ _; refine KEnd.fin (Or.inl rfl) ⟨_, ResL.nil, ?_⟩))
        rw [List.take_of_length_le (by rw [markS_len]; exact Nat.le_refl _)] at H
        refine ⟨.slice P1 (pl.length + l.length) pc1, ?_⟩
        rw [List.length_append, markS_len]
        exact Holds.re [1, 2, 1, 0] (Holds.drop (Holds.re [4] H rfl)) rfl
      · obtain rfl : k = 0 := by have : ¬ 0 < k := fun h => hz3 (hz h); omega
        have e11 : decide (P.2 = 0) = false := decide_eq_false hz3
        rw [if_neg hz3, List.append_nil]
        repeat' (first
          | rw [e11]
          | (show VcL _ _ _ _ _ _ _ _; first
      | refine VcL.pures tabOk rfl ?_
      | refine VcL.nil ?_
      | (refine VcL.guard rfl rfl rfl rfl (fun h => ?_) (fun h => ?_) <;> first | (cases h; done) | skip))
          | (show Vc _ _ _ _ _ _; first
      | refine Vc.seq ?_
      | refine Vc.region ?_
      | refine Vc.condF rfl ?_
      | refine Vc.exit ?_)
          | (show KSeq _ _ _ _ _ _ _; first
      | refine KSeq.normal ?_
      | refine KSeq.exit ?_)
          | (show KBlock _ _ _ _ _ _; refine KBlock.here ?_)
          | refine KLoop.exit ?_
          | (show KEnd _ _ _ _ _ _ _; refine KEnd.fin (Or.inl rfl) ⟨_, ResL.nil, ?_⟩))
        rw [List.take_zero, List.append_nil] at H
        exact ⟨.slice P1 pl.length pc1, Holds.re [1, 2, 1, 0] (Holds.drop (Holds.re [4] H rfl)) rfl⟩
  | 1, _ =>
    have H : Holds I w (blk p 47 (pc0 ⟨e2, r2, f2, pp2, q2, s2⟩ ⟨e, r, f, .slice P1 pl.length pc1, q, s⟩) :: endA I e E :: refA I r E :: own (.slice P1 pl.length pc1) 102 2 pl.length (pl.flatMap bfC) :: L) := H
    refine ok_tithinglaw12_Pair_puts.rets rfl ?_
    repeat' (first
      | rw [e0]
      | rw [e1]
      | (refine VcD.load1 tabOk rfl rfl rfl rfl rfl rfl (by intro w_ hw_; exact rdAt0 hw_.1 rfl) (by exact rfl) ?_)
      | (show VcL _ _ _ _ _ _ _ _; first
      | refine VcL.pures tabOk rfl ?_
      | refine VcL.nil ?_
      | (show VcL _ _ _ _ (⟨_, .load _ _, _, _, _, _⟩ :: _) _ _ _; refine VcL.load1 tabOk rfl rfl rfl rfl rfl (by exact Holds.cell H rfl) ?_)
      | refine VcL.box H rfl rfl rfl rfl rfl (fun b w H => ?_)
      | (show VcL _ _ _ _ (⟨_, .call ⟨.value (.func F_tithinglaw12_Pair_differ), _, _⟩, _, _, _, _⟩ :: _) _ _ _; (refine VcL.callF ok_tithinglaw12_Pair_differ rfl rfl rfl rfl (Rets.mono (differ_any (a := ⟨e2, r2, f2, pp2, q2, s2⟩) (b := ⟨e, r, f, .slice P1 pl.length pc1, q, s⟩) (Holds.f3 H)) ?_); rintro _ w H)))
      | (show VcD _ _ _ _ _ _ _ _ _; first
      | refine VcD.pures tabOk rfl ?_
      | refine VcD.done ?_
      | (show VcD _ _ _ _ _ (.pure _ _) _ _ _; first
      | refine VcD.indexArr0 tabOk rfl rfl rfl rfl rfl rfl rfl (by omega) (by omega) ?_
      | refine VcD.indexArr tabOk rfl rfl rfl rfl rfl rfl rfl (by omega) (by omega) ?_)
      | (show VcD _ _ _ _ _ (.take _ _) _ _ _; refine VcD.load1 tabOk rfl rfl rfl rfl rfl rfl (by intro w_ hw_; exact hw_.2 _ _ rfl) (by exact rfl) ?_)
      | (show VcD _ _ _ _ _ (.only _ _) _ _ _; first
      | (refine VcD.callF (f := F_stream_End_Put) rfl ok_stream_End_Put rfl rfl rfl rfl (Rets.mono (hput _ _ (Holds.f2 H)) ?_); rintro _ w ⟨rfl, H⟩; refine ⟨(by (refine ⟨?_, ?_⟩ <;> first | exact Holds.rdWhole (Holds.f1 H) | exact Holds.rdWhole (Holds.f2 H))), ?_⟩)
      | (refine VcD.callF (f := F_tithingref12_End_Put) rfl ok_tithingref12_End_Put rfl rfl rfl rfl (Rets.mono (hputR _ _ (Holds.f3 H)) ?_); rintro _ w ⟨rfl, H⟩; refine ⟨(by (refine ⟨?_, ?_⟩ <;> first | exact Holds.rdWhole (Holds.f2 H) | exact Holds.rdWhole (Holds.f3 H))), ?_⟩)))
      | (show Vc _ _ _ _ _ _; first
      | refine Vc.seq ?_
      | refine Vc.region ?_
      | refine Vc.block ?_
      | (refine Vc.drawn (id := 2) (.pure 0 (.pure 1 (.pure 2 (.pure 3 (.pure 6 (.pure 8 (.pure 10 (.pure 11 (.pure 12 (.pure 13 (.pure 16 (.pure 18 (.pure 4 (.take 5 (.take 7 (.pure 14 (.take 15 (.take 17 (.only 9 (.only 19 (.pure 20 (.pure 21 .done)))))))))))))))))))))) (.one (fun w => Rd w p 0 (pc0 ⟨e2, r2, f2, pp2, q2, s2⟩ ⟨e, r, f, .slice P1 pl.length pc1, q, s⟩) ∧ Rd w b 0 [.int .i64 d, .int .i64 n, .bool ab, .slice A l.length cap])) mixed (by kernel_rfl) (by (refine ⟨?_, ?_⟩ <;> first | exact Holds.rdWhole (Holds.drew H _) | exact Holds.rdWhole (Holds.f1 (Holds.drew H _)) | exact Holds.rdWhole (Holds.f3 (Holds.drew H _)))) ?_; have H := H.drew (w.drawn + 1)))
      | (show KSeq _ _ _ _ _ _ _; refine KSeq.normal ?_))
    refine Vc.loopS [(0, _), (1, _), (5, _), (6, _), (7, _)] (fun s : Nat × Option Addr × Nat => [(9, .int .i64 s.1)]) (fun u w => u.1 ≤ l.length ∧ (0 < u.1 → P.2 = 0) ∧ Holds I w (own (.slice u.2.1 (pl.length + u.1) u.2.2) 102 2 (pl.length + u.1) ((pl ++ (markS l en).take u.1).flatMap bfC) :: blk p 47 (pc0 ⟨e2, r2, f2, pp2, q2, s2⟩ ⟨e, r, f, .slice u.2.1 (pl.length + u.1) u.2.2, q, s⟩) :: refA I r P.1 :: endA I e P.1 :: blk b 35 [.int .i64 d, .int .i64 n, .bool ab, .slice A l.length cap] :: L)) (fun u _ => l.length - u.1) (0, P1, pc1) ⟨rfl, trivial⟩ ⟨rfl, rfl, rfl, rfl, rfl, trivial⟩ ⟨Nat.zero_le _, fun h => absurd h (Nat.lt_irrefl _), (by simpa using Holds.re [4] H rfl)⟩ ?_
    clear H
    rintro ⟨k, P1, pc1⟩ w ⟨hk, hz, H⟩
    dsimp only at hk hz H ⊢
    by_cases hgo : P.2 = 0 ∧ k < l.length
    · obtain ⟨hz2, hlt⟩ := hgo
      obtain ⟨b2, o, rfl, hr⟩ := hv.at (by omega)
      have hx := (byL_flat l ▸ hr).elem byC_len (atD_get hlt)
      have hx := RdI.toW (L := blk p 47 (pc0 ⟨e2, r2, f2, pp2, q2, s2⟩ ⟨e, r, f, .slice P1 (pl.length + k) pc1, q, s⟩) :: refA I r P.1 :: endA I e P.1 :: blk b 35 [.int .i64 d, .int .i64 n, .bool ab, .slice (some ⟨b2, o, none⟩) l.length cap] :: L) hx
      have e9 : IntKind.i64.wrap ((l.length : Int) - 1) = ((l.length - 1 : Nat) : Int) := by rw [wrap_i64 (by omega) (by omega)]; omega
      have e10 : decide ((k : Int) = ((l.length - 1 : Nat) : Int)) = decide (k + 1 = l.length) := decide_eq_decide.2 (by omega)
      have e11 : decide (P.2 = 0) = true := decide_eq_true hz2
      have hres : ∀ (x : Bool) (A7 : Option Addr) (c7 : Nat) (w : World), x = (en && decide (k + 1 = l.length)) → ∀ L1, Holds I w (own (.slice A7 (pl.length + k + 1) c7) 102 2 (pl.length + k + 1) ((pl ++ (markS l en).take k).flatMap bfC ++ bfC (atD l k, x)) :: L1) → Holds I w (own (.slice A7 (pl.length + (k + 1)) c7) 102 2 (pl.length + (k + 1)) ((pl ++ (markS l en).take (k + 1)).flatMap bfC) :: L1) := fun x A7 c7 w hx L1 H => by
        rw [markS_take hlt, ← List.append_assoc, flat_snoc, ← hx]
        exact H
      cases en
      ·
        repeat' (first
          | rw [e11]
          | (refine VcD.append tabOk rfl rfl rfl rfl rfl (Holds.f1 H) (Src.slice rfl (Holds.pt_rd H)) (bfC_slice (atD l k, false)) (by show (_ + 1) * 2 ≤ _; omega) rfl rfl rfl (fun v_ w H => ⟨Holds.drop (Holds.drop H), ?_⟩); obtain ⟨_, A7, c7, rfl⟩ := Holds.own_len H)
          | (show VcL _ _ _ _ _ _ _ _; first
      | refine VcL.pures tabOk rfl ?_
      | refine VcL.nil ?_
      | (show VcL _ _ _ _ (⟨_, .load _ _, _, _, _, _⟩ :: _) _ _ _; refine VcL.load1 tabOk rfl rfl rfl rfl rfl (by exact Holds.cell (Holds.f4 H) rfl) ?_)
      | (refine VcL.guard rfl rfl rfl rfl (fun h => ?_) (fun h => ?_) <;> first | (cases h; done) | skip))
          | (show VcD _ _ _ _ _ _ _ _ _; first
      | refine VcD.pures tabOk rfl ?_
      | refine VcD.done ?_
      | (show VcD _ _ _ _ _ (.pure _ _) _ _ _; first
      | refine VcD.indexAddr tabOk rfl rfl rfl rfl rfl rfl rfl (by omega) (by omega) ?_
      | refine VcD.indexArr tabOk rfl rfl rfl rfl rfl rfl rfl (by omega) (by omega) ?_
      | (refine VcD.guardP rfl rfl rfl rfl rfl (fun h => ?_) (fun h => ?_) <;> first | (cases h; done) | skip))
      | (show VcD _ _ _ _ _ (.take _ _) _ _ _; first
      | refine VcD.load1 tabOk rfl rfl rfl rfl rfl rfl (by intro w_ hw_; first | exact Holds.cell hw_ rfl | exact Holds.cell (Holds.f3 hw_) rfl | exact RdW.get0 (by assumption) rfl hw_) (by exact rfl) ?_
      | refine VcD.skipT rfl rfl rfl ?_)
      | (show VcD _ _ _ _ _ (.only _ _) _ _ _; first
      | (refine VcD.eff rfl rfl rfl rfl (OpE.buildSliceP tabOk H rfl rfl rfl rfl) ?_; rintro _ w ⟨b_, rfl, H⟩; refine ⟨(by exact Holds.drop (Holds.drop H)), ?_⟩)
      | (refine VcD.eff rfl rfl rfl rfl (OpE.store tabOk (by exact (Holds.f2 H)) rfl rfl rfl (by exact rfl) (by exact rfl) (by exact rfl) (by exact rfl)) ?_; rintro _ w ⟨_, H⟩; refine ⟨(by trivial), ?_⟩)))
          | (show Vc _ _ _ _ _ _; first
      | refine Vc.seq ?_
      | refine Vc.region ?_
      | refine Vc.skip ?_
      | refine Vc.block ?_
      | (refine Vc.drawn (id := 7) (.pure 0 (.pure 1 (.pure 2 (.pure 3 (.pure 4 (.pure 5 (.pure 8 (.pure 10 (.pure 13 (.pure 14 (.pure 15 (.pure 16 (.pure 25 (.pure 26 (.pure 6 (.take 7 (.take 9 (.pure 11 (.take 12 (.take 17 (.pure 18 (.pure 19 (.pure 20 (.pure 21 (.pure 22 (.only 23 (.only 24 (.pure 27 (.only 28 .done))))))))))))))))))))))))))))) (.till (fun w => Holds I w (blk p 47 (pc0 ⟨e2, r2, f2, pp2, q2, s2⟩ ⟨e, r, f, .slice P1 (pl.length + k) pc1, q, s⟩) :: refA I r P.1 :: endA I e P.1 :: blk b 35 [.int .i64 d, .int .i64 n, .bool ab, .slice (some ⟨b2, o, none⟩) l.length cap] :: L)) 28 (.one (fun _ => True))) mixed (by kernel_rfl) (by exact Holds.drop (Holds.drew H _)) ?_; have H := H.drew (w.drawn + 1))
      | (refine Vc.cond rfl (fun h => ?_) (fun h => ?_) <;> first | (exfalso; simp only [decide_eq_true_eq, decide_eq_false_iff_not, Bool.not_eq_true', Bool.not_eq_false'] at h; omega) | (with_reducible have hp := of_decide_eq_true h)))
          | (show KSeq _ _ _ _ _ _ _; refine KSeq.normal ?_)
          | (show KBlock _ _ _ _ _ _; refine KBlock.normal ?_))
        exact KLoop.again (k + 1, A7, c7) ⟨got_succ rfl (by omega), trivial⟩ ⟨rfl, rfl, rfl, rfl, rfl, trivial⟩ ⟨hlt, fun _ => hz2, hres false A7 c7 w rfl _ (Holds.drop2 (Holds.swap H))⟩ (by dsimp only; omega)
      · obtain ⟨x, hx2⟩ : ∃ x, decide (k + 1 = l.length) = x := ⟨_, rfl⟩
        rw [hx2] at e10
        repeat' (first
          | rw [e9]
          | rw [e10]
          | rw [e11]
          | (refine VcD.append tabOk rfl rfl rfl rfl rfl (Holds.f1 H) (Src.slice rfl (Holds.pt_rd H)) (bfC_slice (atD l k, x)) (by show (_ + 1) * 2 ≤ _; omega) rfl rfl rfl (fun v_ w H => ⟨Holds.drop (Holds.drop H), ?_⟩); obtain ⟨_, A7, c7, rfl⟩ := Holds.own_len H)
          | (show VcL _ _ _ _ _ _ _ _; first
      | refine VcL.pures tabOk rfl ?_
      | refine VcL.nil ?_
      | (show VcL _ _ _ _ (⟨_, .load _ _, _, _, _, _⟩ :: _) _ _ _; refine VcL.load1 tabOk rfl rfl rfl rfl rfl (by exact Holds.cell (Holds.f4 H) rfl) ?_)
      | (refine VcL.guard rfl rfl rfl rfl (fun h => ?_) (fun h => ?_) <;> first | (cases h; done) | skip))
          | (show VcD _ _ _ _ _ _ _ _ _; first
      | refine VcD.pures tabOk rfl ?_
      | refine VcD.done ?_
      | (show VcD _ _ _ _ _ (.pure _ _) _ _ _; first
      | refine VcD.indexAddr tabOk rfl rfl rfl rfl rfl rfl rfl (by omega) (by omega) ?_
      | refine VcD.indexArr tabOk rfl rfl rfl rfl rfl rfl rfl (by omega) (by omega) ?_
      | (refine VcD.guardP rfl rfl rfl rfl rfl (fun h => ?_) (fun h => ?_) <;> first | (cases h; done) | skip))
      | (show VcD _ _ _ _ _ (.take _ _) _ _ _; refine VcD.load1 tabOk rfl rfl rfl rfl rfl rfl (by intro w_ hw_; first | exact Holds.cell hw_ rfl | exact Holds.cell (Holds.f3 hw_) rfl | exact RdW.get0 (by assumption) rfl hw_) (by exact rfl) ?_)
      | (show VcD _ _ _ _ _ (.only _ _) _ _ _; first
      | (refine VcD.eff rfl rfl rfl rfl (OpE.buildSliceP tabOk H rfl rfl rfl rfl) ?_; rintro _ w ⟨b_, rfl, H⟩; refine ⟨(by exact Holds.drop (Holds.drop H)), ?_⟩)
      | (refine VcD.eff rfl rfl rfl rfl (OpE.store tabOk (by exact (Holds.f2 H)) rfl rfl rfl (by exact rfl) (by exact rfl) (by exact rfl) (by exact rfl)) ?_; rintro _ w ⟨_, H⟩; refine ⟨(by trivial), ?_⟩)))
          | (show Vc _ _ _ _ _ _; first
      | refine Vc.seq ?_
      | refine Vc.region ?_
      | refine Vc.skip ?_
      | refine Vc.block ?_
      | (refine Vc.drawn (id := 7) (.pure 0 (.pure 1 (.pure 2 (.pure 3 (.pure 4 (.pure 5 (.pure 8 (.pure 10 (.pure 13 (.pure 14 (.pure 15 (.pure 16 (.pure 25 (.pure 26 (.pure 6 (.take 7 (.take 9 (.pure 11 (.take 12 (.take 17 (.pure 18 (.pure 19 (.pure 20 (.pure 21 (.pure 22 (.only 23 (.only 24 (.pure 27 (.only 28 .done))))))))))))))))))))))))))))) (.till (fun w => Holds I w (blk p 47 (pc0 ⟨e2, r2, f2, pp2, q2, s2⟩ ⟨e, r, f, .slice P1 (pl.length + k) pc1, q, s⟩) :: refA I r P.1 :: endA I e P.1 :: blk b 35 [.int .i64 d, .int .i64 n, .bool ab, .slice (some ⟨b2, o, none⟩) l.length cap] :: L)) 28 (.one (fun _ => True))) mixed (by kernel_rfl) (by exact Holds.drop (Holds.drew H _)) ?_; have H := H.drew (w.drawn + 1))
      | (refine Vc.cond rfl (fun h => ?_) (fun h => ?_) <;> first | (exfalso; simp only [decide_eq_true_eq, decide_eq_false_iff_not, Bool.not_eq_true', Bool.not_eq_false'] at h; omega) | (with_reducible have hp := of_decide_eq_true h)))
          | (show KSeq _ _ _ _ _ _ _; refine KSeq.normal ?_)
          | (show KBlock _ _ _ _ _ _; refine KBlock.normal ?_))
        exact KLoop.again (k + 1, A7, c7) ⟨got_succ rfl (by omega), trivial⟩ ⟨rfl, rfl, rfl, rfl, rfl, trivial⟩ ⟨hlt, fun _ => hz2, hres x A7 c7 w (by rw [hx2]; rfl) _ (Holds.drop2 (Holds.swap H))⟩ (by dsimp only; omega)
    · by_cases hz3 : P.2 = 0
      · obtain rfl : k = l.length := by have : ¬ k < l.length := fun h => hgo ⟨hz3, h⟩; omega
        have e11 : decide (P.2 = 0) = true := decide_eq_true hz3
        rw [if_pos hz3]
        repeat' (first
          | rw [e11]
          | (show VcL _ _ _ _ _ _ _ _; first
      | refine VcL.pures tabOk rfl ?_
      | refine VcL.nil ?_
      | (show VcL _ _ _ _ (⟨_, .load _ _, _, _, _, _⟩ :: _) _ _ _; refine VcL.load1 tabOk rfl rfl rfl rfl rfl (by exact Holds.cell (Holds.f4 H) rfl) ?_)
      | (refine VcL.guard rfl rfl rfl rfl (fun h => ?_) (fun h => ?_) <;> first | (cases h; done) | skip))
          | (show Vc _ _ _ _ _ _; first
      | refine Vc.seq ?_
      | refine Vc.region ?_
      | refine Vc.exit ?_
      | (refine Vc.cond rfl (fun h => ?_) (fun h => ?_) <;> first | (exfalso; simp only [decide_eq_true_eq, decide_eq_false_iff_not, Bool.not_eq_true', Bool.not_eq_false'] at h; omega) | (with_reducible have hp := of_decide_eq_false h)))
          | (show KSeq _ _ _ _ _ _ _; first
      | refine KSeq.normal ?_
      | refine KSeq.exit ?_)
          | (show KBlock _ _ _ _ _ _; refine KBlock.here ?_)
          | refine KLoop.exit ?_
          | (show KEnd _ _ _ _ _ _ _; refine KEnd.fin (Or.inl rfl) ⟨_, ResL.nil, ?_⟩))
        rw [List.take_of_length_le (by rw [markS_len]; exact Nat.le_refl _)] at H
        refine ⟨.slice P1 (pl.length + l.length) pc1, ?_⟩
        rw [List.length_append, markS_len]
        exact Holds.re [1, 2, 1, 0] (Holds.drop (Holds.re [4] H rfl)) rfl
      · obtain rfl : k = 0 := by have : ¬ 0 < k := fun h => hz3 (hz h); omega
        have e11 : decide (P.2 = 0) = false := decide_eq_false hz3
        rw [if_neg hz3, List.append_nil]
        repeat' (first
          | rw [e11]
          | (show VcL _ _ _ _ _ _ _ _; first
      | refine VcL.pures tabOk rfl ?_
      | refine VcL.nil ?_
      | (refine VcL.guard rfl rfl rfl rfl (fun h => ?_) (fun h => ?_) <;> first | (cases h; done) | skip))
          | (show Vc _ _ _ _ _ _; first
      | refine Vc.seq ?_
      | refine Vc.region ?_
      | refine Vc.condF rfl ?_
      | refine Vc.exit ?_)
          | (show KSeq _ _ _ _ _ _ _; first
      | refine KSeq.normal ?_
      | refine KSeq.exit ?_)
          | (show KBlock _ _ _ _ _ _; refine KBlock.here ?_)
          | refine KLoop.exit ?_
          | (show KEnd _ _ _ _ _ _ _; refine KEnd.fin (Or.inl rfl) ⟨_, ResL.nil, ?_⟩))
        rw [List.take_zero, List.append_nil] at H
        exact ⟨.slice P1 pl.length pc1, Holds.re [1, 2, 1, 0] (Holds.drop (Holds.re [4] H rfl)) rfl⟩
end Go.Proofs.Ytpfgcchammlpgaa.V
