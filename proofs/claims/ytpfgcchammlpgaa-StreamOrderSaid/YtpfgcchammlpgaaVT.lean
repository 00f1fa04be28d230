/- The document's end: reading. -/
import Derived.Test.YtpfgcchammlpgaaVS
namespace Go.Proofs.Ytpfgcchammlpgaa.V
open Go Go.Proofs.YtpfgcchammlpgaaV
set_option linter.unusedVariables false
set_option linter.unusedSimpArgs false
set_option maxHeartbeats 1000000
set_option maxRecDepth 4000
attribute [local irreducible] IntKind.wrap refA
variable {I : Imm} {w : World} {L : List Asn}
theorem cut_past : ∀ (l : List Bf) (k n : Nat), (∀ x ∈ l.take k, x.2 = false) → k ≤ n → k ≤ l.length → cutN l n = k + cutN (l.drop k) (n - k) ∧ ∀ j, cutE l (k + j) = cutE (l.drop k) j
  | l, 0, n, _, _, _ => ⟨by simp, fun j => by simp⟩
  | [], k + 1, n, _, _, h => by simp at h
  | x :: r, k + 1, 0, _, h, _ => by omega
  | x :: r, k + 1, n + 1, h, hk, hl => by
    have hx : x.2 = false := h x (by simp)
    have ih := cut_past r k n (fun y hy => h y (by rw [List.take_succ_cons]; exact List.mem_cons_of_mem _ hy)) (by omega) (by simpa using hl)
    refine ⟨?_, fun j => ?_⟩
    · rw [show cutN (x :: r) (n + 1) = cutN r n + 1 by rw [cutN]; simp [hx], ih.1, List.drop_succ_cons, Nat.add_sub_add_right]
      omega
    · rw [show k + 1 + j = (k + j) + 1 by omega, cutE_cons, hx, Bool.false_or, ih.2 j, List.drop_succ_cons]
theorem cut_stop {l : List Bf} {k n : Nat} (h : ∀ x ∈ l.take k, x.2 = false) (hk : k ≤ n) (hl : k ≤ l.length) (hs : k = n ∨ k = l.length) : cutN l n = k ∧ cutE l k = false := by
  obtain ⟨h1, h2⟩ := cut_past l k n h hk hl
  refine ⟨?_, ?_⟩
  · rw [h1]
    rcases hs with rfl | rfl
    · rw [Nat.sub_self]; cases l.drop k <;> rfl
    · rw [List.drop_length]; rfl
  · have := h2 0
    rw [Nat.add_zero] at this
    rw [this]; unfold cutE; simp
theorem cut_hit {l : List Bf} {k n : Nat} {x : Bf} (h : ∀ x ∈ l.take k, x.2 = false) (hk : k < n) (hx : l[k]? = some x) (he : x.2 = true) : cutN l n = k + 1 ∧ cutE l (k + 1) = true := by
  have hl : k < l.length := by
    rcases Nat.lt_or_ge k l.length with h | h
    · exact h
    · rw [List.getElem?_eq_none h] at hx; cases hx
  obtain ⟨h1, h2⟩ := cut_past l k n h (by omega) (by omega)
  have hd : l.drop k = x :: l.drop (k + 1) := by
    rw [List.drop_eq_getElem_cons hl]
    rw [List.getElem?_eq_getElem hl] at hx
    cases hx; rfl
  rw [h1, h2 1, hd]
  obtain ⟨m, hm⟩ : ∃ m, n - k = m + 1 := ⟨n - k - 1, by omega⟩
  rw [hm]
  exact ⟨by rw [cutN]; simp [he], by unfold cutE; simp [he]⟩
theorem ReadR_bad {e : Nat} {E : En} (H : Holds I w (refA I e E :: L)) {n : Int} (hn : n < 1) :
    Rets Try.prog F_tithingref12_End_Read #[ptr e, .int .i64 n] w fun u w' => u = .tuple #[.slice none 0 0, .bool false, .int .i64 2] ∧ Holds I w' (refA I e E :: L) := by
  refine ok_tithingref12_End_Read.rets rfl ?_
  repeat' (first
    | (show VcL _ _ _ _ _ _ _ _; first
      | refine VcL.pures tabOk rfl ?_
      | refine VcL.nil ?_)
    | (show Vc _ _ _ _ _ _; first
      | refine Vc.seq ?_
      | refine Vc.region ?_
      | refine Vc.ret ?_
      | (refine Vc.cond rfl (fun h => ?_) (fun h => ?_) <;> first | (exfalso; simp only [decide_eq_true_eq, decide_eq_false_iff_not, Bool.not_eq_true', Bool.not_eq_false'] at h; omega) | (with_reducible have hp := of_decide_eq_true h)))
    | (show KSeq _ _ _ _ _ _ _; first
      | refine KSeq.normal ?_
      | refine KSeq.ret ?_)
    | (show KEnd _ _ _ _ _ _ _; refine KEnd.fin (Or.inr rfl) ⟨_, (ResL.tmp rfl (ResL.tmp rfl (ResL.tmp rfl ResL.nil))), ?_⟩))
  exact ⟨rfl, H⟩
theorem ReadR_any {e : Nat} {E : En} (H : Holds I w (refA I e E :: L)) {n : Nat} (hn : 1 ≤ n) (hnb : n ≤ 9223372036854775807) :
    Rets Try.prog F_tithingref12_End_Read #[ptr e, .int .i64 (n : Nat)] w fun u w' => ∃ bv, u = .tuple #[bv, .bool (cutE E.inn (cutN E.inn n)), .int .i64 0] ∧ Holds I w' (own bv 5 1 (cutN E.inn n) (byL ((E.inn.take (cutN E.inn n)).map (·.1))) :: refA I e { E with inn := E.inn.drop (cutN E.inn n) } :: L) := by
  obtain ⟨A1, c1, A2, c2, av, A3, c3, cd, hm, HB⟩ := ref_open H
  clear H
  have H := HB
  clear HB
  have ok := hm.ok
  have hin := ok.inn
  have hclose : ∀ (k : Nat) (A2 : Option Addr) (c2 : Nat) (w : World) (o : Asn), k ≤ E.inn.length → Holds I w (o :: blk e 88 (refV E ⟨.slice A1 E.out.length c1, .slice A2 (E.inn.length - k) c2, av, .slice A3 cd.length c3, cd⟩) :: own (.slice A1 E.out.length c1) 105 2 E.out.length (E.out.flatMap bfC) :: own (.slice A2 (E.inn.length - k) c2) 105 2 (E.inn.length - k) ((E.inn.drop k).flatMap bfC) :: own (.slice A3 cd.length c3) 22 1 cd.length (cd.flatMap bkC) :: L) → Holds I w (o :: refA I e { E with inn := E.inn.drop k } :: L) := fun k A2 c2 w o hk H => by
    refine Holds.swap (ref_close (E := { E with inn := E.inn.drop k }) ⟨.slice A1 E.out.length c1, .slice A2 (E.inn.length - k) c2, av, .slice A3 cd.length c3, cd⟩ ⟨{ ok with inn := by show (E.inn.drop k).length ≤ 200; rw [List.length_drop]; omega }, hm.still, hm.news, hm.codes, hm.each⟩ ?_)
    show Holds I w (blk e _ _ :: own _ _ 2 _ _ :: own _ _ 2 (E.inn.drop k).length _ :: own _ _ 1 _ _ :: o :: L)
    rw [List.length_drop]
    exact Holds.re [1, 1, 1, 1, 0] H rfl
  refine ok_tithingref12_End_Read.rets rfl ?_
  repeat' (first
    | (show VcL _ _ _ _ _ _ _ _; first
      | refine VcL.pures tabOk rfl ?_
      | refine VcL.nil ?_)
    | (show Vc _ _ _ _ _ _; first
      | refine Vc.seq ?_
      | refine Vc.region ?_
      | refine Vc.skip ?_
      | refine Vc.block ?_
      | (refine Vc.cond rfl (fun h => ?_) (fun h => ?_) <;> first | (exfalso; simp only [decide_eq_true_eq, decide_eq_false_iff_not, Bool.not_eq_true', Bool.not_eq_false'] at h; omega) | (with_reducible have hp := of_decide_eq_false h)))
    | (show KSeq _ _ _ _ _ _ _; refine KSeq.normal ?_))
  refine Vc.loopS [(0, _), (1, _)] (fun s : Nat × Option Addr × Nat × Option Addr × Nat => [(7, .slice s.2.1 s.1 s.2.2.1)]) (fun s w => s.1 ≤ n ∧ s.1 ≤ E.inn.length ∧ (∀ x ∈ E.inn.take s.1, x.2 = false) ∧ Holds I w (own (.slice s.2.1 s.1 s.2.2.1) 5 1 s.1 (byL ((E.inn.take s.1).map (·.1))) :: blk e 88 (refV E ⟨.slice A1 E.out.length c1, .slice s.2.2.2.1 (E.inn.length - s.1) s.2.2.2.2, av, .slice A3 cd.length c3, cd⟩) :: own (.slice A1 E.out.length c1) 105 2 E.out.length (E.out.flatMap bfC) :: own (.slice s.2.2.2.1 (E.inn.length - s.1) s.2.2.2.2) 105 2 (E.inn.length - s.1) ((E.inn.drop s.1).flatMap bfC) :: own (.slice A3 cd.length c3) 22 1 cd.length (cd.flatMap bkC) :: L)) (fun s _ => n - s.1) (0, none, 0, A2, c2) ⟨rfl, trivial⟩ ⟨rfl, rfl, trivial⟩ ⟨Nat.zero_le _, Nat.zero_le _, (by intro x hx; simp at hx), Holds.own_nil H⟩ ?_
  clear H
  rintro ⟨k, A0, c0, A2, c2⟩ w ⟨hk, hk2, hno, H⟩
  dsimp only at hk hk2 hno H ⊢
  by_cases hlt : k < n ∧ k < E.inn.length
  · obtain ⟨hl1, hl2⟩ := hlt
    obtain ⟨x, hx⟩ : ∃ x, E.inn[k]? = some x := ⟨_, List.getElem?_eq_getElem hl2⟩
    have hd : E.inn.drop k = x :: E.inn.drop (k + 1) := by
      rw [List.drop_eq_getElem_cons hl2]
      rw [List.getElem?_eq_getElem hl2] at hx
      cases hx; rfl
    have ht : E.inn.take (k + 1) = E.inn.take k ++ [x] := by rw [List.take_add_one, hx]; rfl
    obtain ⟨b1, o1, c2', h2, hc2⟩ := Holds.own_some (show 0 < E.inn.length - k by omega) (Holds.f3 H)
    injection h2 with h2 _ h3
    subst h2; subst h3
    obtain ⟨b1', o1', h4, hr⟩ := SlR.at (SlR.mem (e := 105) H (by repeat (first | exact .head _ | apply List.Mem.tail))) (show 0 < E.inn.length - k by omega)
    injection h4 with h4
    injection h4 with h5 h6 _
    subst h5; subst h6
    have hx0 := hr.elem bfC_len (k := 0) (x := x) (by rw [hd]; rfl)
    obtain ⟨y, z⟩ := x
    have hstep : ∀ (v A7 : Option Addr) (c7 c9 : Nat) (w : World) (q1 q2 : Asn), Holds I w (own (.slice A7 (k + 1) c7) 5 1 (k + 1) (byL ((E.inn.take k).map (·.1)) ++ [byteV y]) :: q1 :: blk e 88 (refV E ⟨.slice A1 E.out.length c1, .slice v (E.inn.length - k - 1) c9, av, .slice A3 cd.length c3, cd⟩) :: own (.slice v (E.inn.length - k - 1) c9) 105 2 (E.inn.length - k - 1) (List.drop (1 * 2) ((E.inn.drop k).flatMap bfC)) :: q2 :: own (.slice A1 E.out.length c1) 105 2 E.out.length (E.out.flatMap bfC) :: own (.slice A3 cd.length c3) 22 1 cd.length (cd.flatMap bkC) :: L) →
        Holds I w (own (.slice A7 (k + 1) c7) 5 1 (k + 1) (byL ((E.inn.take (k + 1)).map (·.1))) :: blk e 88 (refV E ⟨.slice A1 E.out.length c1, .slice v (E.inn.length - (k + 1)) c9, av, .slice A3 cd.length c3, cd⟩) :: own (.slice A1 E.out.length c1) 105 2 E.out.length (E.out.flatMap bfC) :: own (.slice v (E.inn.length - (k + 1)) c9) 105 2 (E.inn.length - (k + 1)) ((E.inn.drop (k + 1)).flatMap bfC) :: own (.slice A3 cd.length c3) 22 1 cd.length (cd.flatMap bkC) :: L) := fun v A7 c7 c9 w q1 q2 H => by
      rw [hd] at H
      rw [ht, List.map_append, show ∀ a b : By, byL (a ++ b) = byL a ++ byL b from fun a b => List.map_append]
      exact (Holds.re [1, 3, 0, 0, 1, 0, 0] H rfl).drop.drop
    repeat' (first
      | (refine VcL.append (m := 1) (ds := [byteV y]) tabOk rfl rfl rfl rfl (Holds.f4 H) (Holds.own_src H) (byL_one [y]) (by show (_ + _) * 1 ≤ _; omega) rfl rfl rfl (fun v_ w H => ?_); obtain ⟨_, A7, c7, rfl⟩ := Holds.own_len H)
      | (refine VcL.sliceOwn (l := 1) tabOk (Holds.f4 H) rfl rfl rfl rfl rfl rfl (by omega) (fun A9 c9 H => ?_))
      | (show VcL _ _ _ _ _ _ _ _; first
      | refine VcL.pures tabOk rfl ?_
      | refine VcL.nil ?_
      | (show VcL _ _ _ _ (⟨_, .load _ _, _, _, _, _⟩ :: _) _ _ _; first
      | refine VcL.load1 tabOk rfl rfl rfl rfl rfl (by first | exact Holds.cell (Holds.f1 H) rfl | exact Holds.cell (Holds.f2 H) rfl | exact Holds.cell (Holds.f4 H) rfl | exact RdW.get (by assumption) rfl H) ?_
      | refine VcL.loadR tabOk rfl rfl rfl rfl rfl rfl (by exact RdW.rd (by assumption) H) rfl ?_)
      | (show VcL _ _ _ _ (⟨_, .indexAddr _ _ _, _, _, _, _⟩ :: _) _ _ _; refine VcL.indexAddr tabOk rfl rfl rfl rfl rfl rfl (by omega) (by omega) ?_)
      | refine VcL.alloc tabOk H rfl rfl rfl rfl (fun b w H => ?_)
      | refine VcL.buildSlice tabOk H rfl rfl rfl rfl rfl rfl (fun sv w H => ?_)
      | (show VcL _ _ _ _ (⟨_, .store _ _ _, _, _, _, _⟩ :: _) _ _ _; refine VcL.store tabOk rfl (by first | exact H | exact (Holds.f3 H)) rfl rfl (by exact rfl) (by exact rfl) (by exact rfl) (by exact rfl) (fun w H => ?_))
      | (refine VcL.guard rfl rfl rfl rfl (fun h => ?_) (fun h => ?_) <;> first | (exfalso; simp only [decide_eq_true_eq, decide_eq_false_iff_not, Bool.not_eq_true', Bool.not_eq_false'] at h; omega) | (with_reducible have hp := of_decide_eq_true h)))
      | (show Vc _ _ _ _ _ _; first
      | refine Vc.seq ?_
      | refine Vc.region ?_
      | refine Vc.ret ?_
      | refine Vc.skip ?_
      | refine Vc.block ?_
      | (refine Vc.cond rfl (fun h => ?_) (fun h => ?_) <;> first | (exfalso; simp only [decide_eq_true_eq, decide_eq_false_iff_not, Bool.not_eq_true', Bool.not_eq_false'] at h; omega) | (with_reducible have hp := of_decide_eq_true h) | skip))
      | (show KSeq _ _ _ _ _ _ _; first
      | refine KSeq.normal ?_
      | refine KSeq.ret ?_)
      | (show KBlock _ _ _ _ _ _; first
      | refine KBlock.normal ?_
      | refine KBlock.ret ?_)
      | refine KLoop.ret ?_
      | (show KEnd _ _ _ _ _ _ _; refine KEnd.fin (Or.inr rfl) ⟨_, (ResL.tmp rfl (ResL.tmp rfl (ResL.tmp rfl ResL.nil))), ?_⟩))
    · obtain ⟨hc1, hc2⟩ := cut_hit hno hl1 hx (by assumption)
      rw [hc1, hc2]
      exact ⟨_, rfl, hclose (k + 1) A9 c9 w _ hl2 (hstep A9 A7 c7 c9 w _ _ H)⟩
    · refine KLoop.again (k + 1, A7, c7, A9, c9) ⟨rfl, trivial⟩ ⟨rfl, rfl, trivial⟩ ⟨hl1, hl2, fun q hq => ?_, hstep A9 A7 c7 c9 w _ _ H⟩ (by dsimp only; omega)
      rw [ht] at hq
      rcases List.mem_append.1 hq with hq | hq
      · exact hno q hq
      · rw [List.mem_singleton] at hq; subst hq; assumption
  · have hs : k = n ∨ k = E.inn.length := by omega
    obtain ⟨hc1, hc2⟩ := cut_stop hno hk hk2 hs
    rw [hc1, hc2]
    repeat' (first
      | (show VcL _ _ _ _ _ _ _ _; first
      | refine VcL.pures tabOk rfl ?_
      | refine VcL.nil ?_
      | (show VcL _ _ _ _ (⟨_, .load _ _, _, _, _, _⟩ :: _) _ _ _; refine VcL.load1 tabOk rfl rfl rfl rfl rfl (by exact Holds.cell (Holds.f1 H) rfl) ?_)
      | (refine VcL.guard rfl rfl rfl rfl (fun h => ?_) (fun h => ?_) <;> first | (with_reducible have hp := of_decide_eq_true h) | (with_reducible have hp := of_decide_eq_false h)))
      | (show Vc _ _ _ _ _ _; first
      | refine Vc.seq ?_
      | refine Vc.region ?_
      | refine Vc.condF rfl ?_
      | refine Vc.ret ?_
      | refine Vc.exit ?_
      | (refine Vc.cond rfl (fun h => ?_) (fun h => ?_) <;> first | (exfalso; simp only [decide_eq_true_eq, decide_eq_false_iff_not, Bool.not_eq_true', Bool.not_eq_false'] at h; omega) | (with_reducible have hp := of_decide_eq_false h)))
      | (show KSeq _ _ _ _ _ _ _; first
      | refine KSeq.normal ?_
      | refine KSeq.exit ?_)
      | (show KBlock _ _ _ _ _ _; refine KBlock.here ?_)
      | refine KLoop.exit ?_
      | (show KEnd _ _ _ _ _ _ _; refine KEnd.fin (Or.inr rfl) ⟨_, (ResL.tmp rfl (ResL.tmp rfl (ResL.tmp rfl ResL.nil))), ?_⟩))
    all_goals exact ⟨_, rfl, hclose k A2 c2 w _ hk2 H⟩
end Go.Proofs.Ytpfgcchammlpgaa.V
