/- The document's end: putting and reading. -/
import Derived.Test.YtpfgcchammlpgaaVR
namespace Go.Proofs.Ytpfgcchammlpgaa.V
open Go Go.Proofs.YtpfgcchammlpgaaV
set_option linter.unusedVariables false
set_option linter.unusedSimpArgs false
set_option maxHeartbeats 1000000
set_option maxRecDepth 4000
attribute [local irreducible] IntKind.wrap refA
variable {I : Imm} {w : World} {L : List Asn}
theorem markS_get : ∀ (l : By) (e : Bool) (k : Nat), k < l.length → (markS l e)[k]? = some (atD l k, e && decide (k + 1 = l.length))
  | [], _, k, h => by simp at h
  | [x], e, k, h => by
    obtain rfl : k = 0 := by simp at h; exact h
    simp [markS, atD]
  | x :: y :: r, e, 0, h => by simp [markS, atD]
  | x :: y :: r, e, k + 1, h => by
    unfold markS
    rw [List.getElem?_cons_succ, markS_get (y :: r) e k (by simpa using h)]
    simp [atD]
theorem markS_take {l : By} {e : Bool} {k : Nat} (h : k < l.length) : (markS l e).take (k + 1) = (markS l e).take k ++ [(atD l k, e && decide (k + 1 = l.length))] := by
  rw [List.take_add_one, markS_get l e k h]; rfl
theorem bfC_slice (x : Bf) : ∀ u ∈ bfC x, oneC u = true := fun u hu => by
  simp only [bfC, List.mem_cons, List.not_mem_nil, or_false] at hu
  rcases hu with rfl | rfl <;> rfl
theorem PutR_any {e : Nat} {E : En} (H : Holds I w (refA I e E :: L)) {v : Value} {l : By} (hv : SlI I v 1 l.length (byL l)) (hl2 : l.length ≤ 1000000) {en : Bool} :
    Rets Try.prog F_tithingref12_End_Put #[ptr e, v, .bool en] w fun u w' => u = .int .i64 (putS E l en).2 ∧ Holds I w' (refA I e (putS E l en).1 :: L) := by
  obtain ⟨A, cap, rfl, hcap⟩ := hv.form
  obtain ⟨A1, c1, A2, c2, av, A3, c3, cd, hm, HB⟩ := ref_open H
  clear H
  have H := HB
  clear HB
  have ok := hm.ok
  have ho := ok.out
  have e1 : IntKind.i64.wrap ((E.out.length : Int) + l.length) = ((E.out.length + l.length : Nat) : Int) := by rw [wrap_i64 (by omega) (by omega)]; omega
  unfold putS
  refine ok_tithingref12_End_Put.rets rfl ?_
  repeat' (first
    | rw [e1]
    | (show VcL _ _ _ _ _ _ _ _; first
      | refine VcL.pures tabOk rfl ?_
      | refine VcL.nil ?_
      | (show VcL _ _ _ _ (⟨_, .load _ _, _, _, _, _⟩ :: _) _ _ _; refine VcL.load1 tabOk rfl rfl rfl rfl rfl (by exact Holds.cell H rfl) ?_))
    | (show Vc _ _ _ _ _ _; first
      | refine Vc.seq ?_
      | refine Vc.region ?_
      | refine Vc.ret ?_
      | refine Vc.skip ?_
      | refine Vc.block ?_
      | (refine Vc.cond rfl (fun h => ?_) (fun h => ?_) <;> first | (with_reducible have hp := of_decide_eq_true h) | (with_reducible have hp := of_decide_eq_false h) | (with_reducible have hp := ndec_t h) | (with_reducible have hp := ndec_f h)))
    | (show KSeq _ _ _ _ _ _ _; first
      | refine KSeq.normal ?_
      | refine KSeq.ret ?_)
    | (show KBlock _ _ _ _ _ _; first
      | refine KBlock.normal ?_
      | refine KBlock.ret ?_)
    | (show KEnd _ _ _ _ _ _ _; refine KEnd.fin (Or.inr rfl) ⟨_, (ResL.tmp rfl ResL.nil), ?_⟩))
  · rw [if_pos (by omega)]
    exact ⟨rfl, ref_close _ hm H⟩
  · rw [if_neg (by omega), if_pos (by omega)]
    exact ⟨rfl, ref_close _ hm H⟩
  · rw [if_neg (by omega), if_neg (by omega), if_pos (by omega)]
    exact ⟨rfl, ref_close _ hm H⟩
  · have hn : ¬ l.length = 0 := by omega
    have hf : ¬ 200 < E.out.length + l.length := by omega
    rw [if_neg (by omega), if_neg hn, if_neg hf]
    obtain ⟨b2, o, rfl, hr⟩ := hv.at (by omega)
    have e9 : IntKind.i64.wrap ((l.length : Int) - 1) = ((l.length - 1 : Nat) : Int) := by rw [wrap_i64 (by omega) (by omega)]; omega
    refine Vc.loopS [(0, _), (1, _), (2, _)] (fun s : Nat × Option Addr × Nat => [(7, .int .i64 s.1)]) (fun s w => s.1 ≤ l.length ∧ Holds I w (blk e 88 (refV E ⟨.slice s.2.1 (E.out.length + s.1) s.2.2, .slice A2 E.inn.length c2, av, .slice A3 cd.length c3, cd⟩) :: own (.slice s.2.1 (E.out.length + s.1) s.2.2) 105 2 (E.out.length + s.1) ((E.out ++ (markS l en).take s.1).flatMap bfC) :: own (.slice A2 E.inn.length c2) 105 2 E.inn.length (E.inn.flatMap bfC) :: own (.slice A3 cd.length c3) 22 1 cd.length (cd.flatMap bkC) :: L)) (fun s _ => l.length - s.1) (0, A1, c1) ⟨rfl, trivial⟩ ⟨rfl, rfl, rfl, trivial⟩ ⟨Nat.zero_le _, (by simpa using H)⟩ ?_
    clear H
    rintro ⟨k, A1, c1⟩ w ⟨hk, H⟩
    dsimp only at hk H ⊢
    by_cases hlt : k < l.length
    · have hx := (byL_flat l ▸ hr).elem byC_len (atD_get hlt)
      have e10 : decide ((k : Int) = ((l.length - 1 : Nat) : Int)) = decide (k + 1 = l.length) := decide_eq_decide.2 (by omega)
      have hres : ∀ (x : Bool) (A7 : Option Addr) (c7 : Nat) (w : World), x = (en && decide (k + 1 = l.length)) → ∀ q, Holds I w (blk e 88 (refV E ⟨.slice A7 (E.out.length + k + 1) c7, .slice A2 E.inn.length c2, av, .slice A3 cd.length c3, cd⟩) :: own (.slice A7 (E.out.length + k + 1) c7) 105 2 (E.out.length + k + 1) ((E.out ++ (markS l en).take k).flatMap bfC ++ bfC (atD l k, x)) :: q) → Holds I w (blk e 88 (refV E ⟨.slice A7 (E.out.length + (k + 1)) c7, .slice A2 E.inn.length c2, av, .slice A3 cd.length c3, cd⟩) :: own (.slice A7 (E.out.length + (k + 1)) c7) 105 2 (E.out.length + (k + 1)) ((E.out ++ (markS l en).take (k + 1)).flatMap bfC) :: q) := fun x A7 c7 w hx q H => by
        rw [markS_take hlt, ← List.append_assoc, flat_snoc, ← hx]
        exact H
      cases en
      ·
        repeat' (first
          | (refine VcD.append tabOk rfl rfl rfl rfl rfl (Holds.f2 H) (Src.slice rfl (Holds.pt_rd H)) (bfC_slice (atD l k, false)) (by show (_ + 1) * 2 ≤ _; omega) rfl rfl rfl (fun v_ w H => ⟨⟨Holds.rdWhole (Holds.f2 H), hx.rd H⟩, ?_⟩); obtain ⟨_, A7, c7, rfl⟩ := Holds.own_len H)
          | (show VcL _ _ _ _ _ _ _ _; first
      | refine VcL.pures tabOk rfl ?_
      | refine VcL.nil ?_)
          | (show VcD _ _ _ _ _ _ _ _ _; first
      | refine VcD.pures tabOk rfl ?_
      | refine VcD.done ?_
      | (show VcD _ _ _ _ _ (.pure _ _) _ _ _; first
      | refine VcD.indexAddr tabOk rfl rfl rfl rfl rfl rfl rfl (by omega) (by omega) ?_
      | (refine VcD.guardP rfl rfl rfl rfl rfl (fun h => ?_) (fun h => ?_) <;> first | (cases h; done) | skip))
      | (show VcD _ _ _ _ _ (.take _ _) _ _ _; refine VcD.load1 tabOk rfl rfl rfl rfl rfl rfl (by intro w_ hw_; first | exact hw_.1 _ _ rfl | exact hw_.2 0 _ rfl) (by exact rfl) ?_)
      | (show VcD _ _ _ _ _ (.only _ _) _ _ _; first
      | (refine VcD.eff rfl rfl rfl rfl (OpE.buildSliceP tabOk H rfl rfl rfl rfl) ?_; rintro _ w ⟨b_, rfl, H⟩; refine ⟨(by (refine ⟨?_, ?_⟩ <;> first | exact Holds.rdWhole (Holds.f1 H) | exact RdI.rd (by assumption) H)), ?_⟩)
      | (refine VcD.eff rfl rfl rfl rfl (OpE.store tabOk (by exact (Holds.f2 H)) rfl rfl rfl (by exact rfl) (by exact rfl) (by exact rfl) (by exact rfl)) ?_; rintro _ w ⟨_, H⟩; refine ⟨(by trivial), ?_⟩)))
          | (show Vc _ _ _ _ _ _; first
      | refine Vc.seq ?_
      | refine Vc.region ?_
      | refine Vc.skip ?_
      | refine Vc.block ?_
      | (refine Vc.drawn (id := 10) (.pure 0 (.pure 1 (.pure 2 (.pure 3 (.pure 5 (.pure 6 (.pure 9 (.pure 10 (.pure 11 (.pure 12 (.pure 13 (.pure 14 (.pure 15 (.pure 16 (.take 4 (.pure 7 (.take 8 (.pure 17 (.only 18 (.only 19 (.pure 20 (.pure 21 (.only 22 .done))))))))))))))))))))))) (.till (fun w => Rd w e 0 (refV E ⟨.slice A1 (E.out.length + k) c1, .slice A2 E.inn.length c2, av, .slice A3 cd.length c3, cd⟩) ∧ Rd w b2 (o + k * 1) [byteV (atD l k)]) 22 (.one (fun _ => True))) mixed (by kernel_rfl) (by (refine ⟨?_, ?_⟩ <;> first | exact Holds.rdWhole (Holds.drew H _) | exact RdI.rd (by assumption) (Holds.drew H _))) ?_; have H := H.drew (w.drawn + 1))
      | (refine Vc.cond rfl (fun h => ?_) (fun h => ?_) <;> first | (exfalso; simp only [decide_eq_true_eq, decide_eq_false_iff_not, Bool.not_eq_true', Bool.not_eq_false'] at h; omega) | (with_reducible have hp := of_decide_eq_true h)))
          | (show KSeq _ _ _ _ _ _ _; refine KSeq.normal ?_)
          | (show KBlock _ _ _ _ _ _; refine KBlock.normal ?_))
        exact KLoop.again (k + 1, A7, c7) ⟨got_succ rfl (by omega), trivial⟩ ⟨rfl, rfl, rfl, trivial⟩ ⟨hlt, hres false A7 c7 w rfl _ (Holds.drop2 H)⟩ (by dsimp only; omega)
      · obtain ⟨x, hx2⟩ : ∃ x, decide (k + 1 = l.length) = x := ⟨_, rfl⟩
        rw [hx2] at e10
        repeat' (first
          | rw [e9]
          | rw [e10]
          | (refine VcD.append tabOk rfl rfl rfl rfl rfl (Holds.f2 H) (Src.slice rfl (Holds.pt_rd H)) (bfC_slice (atD l k, x)) (by show (_ + 1) * 2 ≤ _; omega) rfl rfl rfl (fun v_ w H => ⟨⟨Holds.rdWhole (Holds.f2 H), hx.rd H⟩, ?_⟩); obtain ⟨_, A7, c7, rfl⟩ := Holds.own_len H)
          | (show VcL _ _ _ _ _ _ _ _; first
      | refine VcL.pures tabOk rfl ?_
      | refine VcL.nil ?_)
          | (show VcD _ _ _ _ _ _ _ _ _; first
      | refine VcD.pures tabOk rfl ?_
      | refine VcD.done ?_
      | (show VcD _ _ _ _ _ (.pure _ _) _ _ _; first
      | refine VcD.indexAddr tabOk rfl rfl rfl rfl rfl rfl rfl (by omega) (by omega) ?_
      | (refine VcD.guardP rfl rfl rfl rfl rfl (fun h => ?_) (fun h => ?_) <;> first | (cases h; done) | skip))
      | (show VcD _ _ _ _ _ (.take _ _) _ _ _; refine VcD.load1 tabOk rfl rfl rfl rfl rfl rfl (by intro w_ hw_; first | exact hw_.1 _ _ rfl | exact hw_.2 0 _ rfl) (by exact rfl) ?_)
      | (show VcD _ _ _ _ _ (.only _ _) _ _ _; first
      | (refine VcD.eff rfl rfl rfl rfl (OpE.buildSliceP tabOk H rfl rfl rfl rfl) ?_; rintro _ w ⟨b_, rfl, H⟩; refine ⟨(by (refine ⟨?_, ?_⟩ <;> first | exact Holds.rdWhole (Holds.f1 H) | exact RdI.rd (by assumption) H)), ?_⟩)
      | (refine VcD.eff rfl rfl rfl rfl (OpE.store tabOk (by exact (Holds.f2 H)) rfl rfl rfl (by exact rfl) (by exact rfl) (by exact rfl) (by exact rfl)) ?_; rintro _ w ⟨_, H⟩; refine ⟨(by trivial), ?_⟩)))
          | (show Vc _ _ _ _ _ _; first
      | refine Vc.seq ?_
      | refine Vc.region ?_
      | refine Vc.skip ?_
      | refine Vc.block ?_
      | (refine Vc.drawn (id := 10) (.pure 0 (.pure 1 (.pure 2 (.pure 3 (.pure 5 (.pure 6 (.pure 9 (.pure 10 (.pure 11 (.pure 12 (.pure 13 (.pure 14 (.pure 15 (.pure 16 (.take 4 (.pure 7 (.take 8 (.pure 17 (.only 18 (.only 19 (.pure 20 (.pure 21 (.only 22 .done))))))))))))))))))))))) (.till (fun w => Rd w e 0 (refV E ⟨.slice A1 (E.out.length + k) c1, .slice A2 E.inn.length c2, av, .slice A3 cd.length c3, cd⟩) ∧ Rd w b2 (o + k * 1) [byteV (atD l k)]) 22 (.one (fun _ => True))) mixed (by kernel_rfl) (by (refine ⟨?_, ?_⟩ <;> first | exact Holds.rdWhole (Holds.drew H _) | exact RdI.rd (by assumption) (Holds.drew H _))) ?_; have H := H.drew (w.drawn + 1))
      | (refine Vc.cond rfl (fun h => ?_) (fun h => ?_) <;> first | (exfalso; simp only [decide_eq_true_eq, decide_eq_false_iff_not, Bool.not_eq_true', Bool.not_eq_false'] at h; omega) | (with_reducible have hp := of_decide_eq_true h)))
          | (show KSeq _ _ _ _ _ _ _; refine KSeq.normal ?_)
          | (show KBlock _ _ _ _ _ _; refine KBlock.normal ?_))
        exact KLoop.again (k + 1, A7, c7) ⟨got_succ rfl (by omega), trivial⟩ ⟨rfl, rfl, rfl, trivial⟩ ⟨hlt, hres x A7 c7 w (by rw [hx2]; rfl) _ (Holds.drop2 H)⟩ (by dsimp only; omega)
    · obtain rfl : k = l.length := by omega
      have hlen : (E.out ++ markS l en).length = E.out.length + l.length := by rw [List.length_append, markS_len]
      repeat' (first
        | (show VcL _ _ _ _ _ _ _ _; first
      | refine VcL.pures tabOk rfl ?_
      | refine VcL.nil ?_)
        | (show Vc _ _ _ _ _ _; first
      | refine Vc.seq ?_
      | refine Vc.region ?_
      | refine Vc.ret ?_
      | refine Vc.exit ?_
      | (refine Vc.cond rfl (fun h => ?_) (fun h => ?_) <;> first | (exfalso; simp only [decide_eq_true_eq, decide_eq_false_iff_not, Bool.not_eq_true', Bool.not_eq_false'] at h; omega) | (with_reducible have hp := of_decide_eq_false h)))
        | (show KSeq _ _ _ _ _ _ _; first
      | refine KSeq.normal ?_
      | refine KSeq.exit ?_)
        | (show KBlock _ _ _ _ _ _; refine KBlock.here ?_)
        | refine KLoop.exit ?_
        | (show KEnd _ _ _ _ _ _ _; refine KEnd.fin (Or.inr rfl) ⟨_, (ResL.tmp rfl ResL.nil), ?_⟩))
      rw [List.take_of_length_le (by rw [markS_len]; omega)] at H
      refine ⟨rfl, ref_close (E := { E with out := E.out ++ markS l en }) ⟨.slice A1 (E.out.length + l.length) c1, .slice A2 E.inn.length c2, av, .slice A3 cd.length c3, cd⟩ ⟨{ ok with out := by show (E.out ++ markS l en).length ≤ 200; rw [hlen]; omega }, hm.still, hm.news, hm.codes, hm.each⟩ ?_⟩
      show Holds I w (blk e _ _ :: own _ _ 2 (E.out ++ markS l en).length _ :: _)
      rw [hlen]
      exact H
end Go.Proofs.Ytpfgcchammlpgaa.V
