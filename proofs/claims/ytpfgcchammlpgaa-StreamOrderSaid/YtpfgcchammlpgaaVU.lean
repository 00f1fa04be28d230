/- The document's end: what is seen, learnt, and said. -/
import Derived.Test.YtpfgcchammlpgaaVT
namespace Go.Proofs.Ytpfgcchammlpgaa.V
open Go Go.Proofs.YtpfgcchammlpgaaV
set_option linter.unusedVariables false
set_option linter.unusedSimpArgs false
set_option maxHeartbeats 1000000
set_option maxRecDepth 4000
attribute [local irreducible] IntKind.wrap refA
variable {I : Imm} {w : World} {L : List Asn}
theorem flat_drop : ∀ (l : List Bf) (k : Nat), (l.flatMap bfC).drop (k * 2) = (l.drop k).flatMap bfC
  | l, 0 => by simp
  | [], k + 1 => by simp
  | x :: r, k + 1 => by
    rw [List.drop_succ_cons, ← flat_drop r k, List.flatMap_cons, show (k + 1) * 2 = k * 2 + 1 + 1 by omega]
    rfl
section
variable {P : Program} {T : Tab} {n : Fi} {ops : Array Oper} {K : Kont} {G : Gds} {env : Env} {rest : List Oper} {dst : Nat} {ty : Nat} {pos : String} {after : Array Edge} {gd : Option (Nat × Bool)} {t : Nat} {x y : Operand}
variable {S : Phase} {i : Nat} {p : Plan}
theorem VcD.sliceExact {lo : Operand} {b q len cap e sz l : Nat} {b2 : Bool} (hT : TabOk P T) (hi : nthO ops.toList i = some ⟨some dst, .slice t x (some lo) none none, ty, pos, after, gd⟩) (hx : opv env x = some (.slice (some ⟨b, q, none⟩) len cap)) (hh : cutV env (some lo) 0 = some ((l : Int), b2)) (ht : elemT T t = some (e, sz))
    (hg : gres ops G ⟨some dst, .slice t x (some lo) none none, ty, pos, after, gd⟩ = some true) (hn : inN n (some dst) = true) (ho : outG G (some dst) = true) (h1 : l ≤ len) (h2 : len ≤ cap)
    (k : ∀ q', (q' = if cap = l then q else q + l * sz) → VcD P n ops S K p G ((dst, .slice (some ⟨b, q', none⟩) (len - l) (cap - l)) :: env) w) : VcD P n ops S K (.pure i p) G env w :=
  VcD.valP hi hg hn ho (fun w => OpV.slice hT rfl hx hh (h := len) rfl ht (by omega) (by omega) (by omega)) (fun e => by cases e) (k _ (by simp))
end
theorem seenR_any (H : Holds I w L) {e : Nat} {E : En} {m : RnM} (hd : RdW I L e 0 (refV E m)) {A : Option Addr} {c : Nat} {k : Nat} (h9 : m.iv = .slice A k c) (hk : k = E.inn.length) (hn : E.inn.length ≤ 200) : Rets Try.prog F_tithingref12_End_seen #[ptr e] w fun u w' => ∃ A7 c7, u = .agg #[.int .i64 3, .int .i64 (E.num : Nat), .int .i64 0, .int .i64 (E.want : Nat), .slice A7 2 c7] ∧ Holds I w' (own (.slice A7 2 c7) 5 1 2 (byL (tailS E)) :: L) := by
  refine ok_tithingref12_End_seen.rets rfl ?_
  repeat' (first
    | (show VcL _ _ _ _ _ _ _ _; first
      | refine VcL.pures tabOk rfl ?_
      | refine VcL.nil ?_
      | refine VcL.alloc tabOk H rfl rfl rfl rfl (fun b w H => ?_)
      | (show VcL _ _ _ _ (⟨_, .store _ _ _, _, _, _, _⟩ :: _) _ _ _; refine VcL.store tabOk rfl (by exact (Holds.f1 H)) rfl rfl (by exact rfl) (by exact rfl) (by exact rfl) (by exact rfl) (fun w H => ?_))
      | (show VcL _ _ _ _ (⟨_, .call ⟨.value (.func F_tithingref12_End_window), _, _⟩, _, _, _, _⟩ :: _) _ _ _; (refine VcL.callF ok_tithingref12_End_window rfl rfl rfl rfl (Rets.mono (windowR_any H (hd.ups [_]) h9 hk hn) ?_); rintro _ w H; obtain ⟨_, A7, c7, rfl⟩ := Holds.own_len H))
      | (show VcL _ _ _ _ (⟨_, .call ⟨.value (.func F_tithingref12_End_frame), _, _⟩, _, _, _, _⟩ :: _) _ _ _; (refine VcL.callF ok_tithingref12_End_frame rfl rfl rfl rfl (Rets.mono (frameR_any H (hd.ups [_, _])) ?_); rintro _ w ⟨rfl, H⟩)))
    | (show Vc _ _ _ _ _ _; first
      | refine Vc.seq ?_
      | refine Vc.region ?_
      | refine Vc.ret ?_)
    | (show KSeq _ _ _ _ _ _ _; refine KSeq.normal ?_)
    | (show KEnd _ _ _ _ _ _ _; refine KEnd.fin (Or.inr rfl) ⟨_, (ResL.cell rfl (LoadV.aggH tabOk rfl rfl (by exact H) (by exact rfl)) ResL.nil), ?_⟩))
  exact ⟨_, _, rfl, Holds.drop H⟩
theorem ackR_any {e : Nat} {E : En} (H : Holds I w (refA I e E :: L)) {n : Nat} (hn : n < M) : Rets Try.prog F_tithingref12_End_acknowledged #[ptr e, .int .i64 (n : Nat)] w fun u w' => Holds I w' (refA I e (ackS E n) :: L) := by
  obtain ⟨A1, c1, A2, c2, av, A3, c3, cd, hm, HB⟩ := ref_open H
  clear H
  have H := HB
  clear HB
  have ok := hm.ok
  obtain ⟨k, hkk⟩ : ∃ k, fromS E.base n = k := ⟨_, rfl⟩
  have hah := fun w H => aheadR_any (w := w) (I := I) (L := refQ e E ⟨.slice A1 E.out.length c1, .slice A2 E.inn.length c2, av, .slice A3 cd.length c3, cd⟩ L) H ok.base hn
  rw [hkk] at hah
  unfold ackS
  rw [hkk]
  have hcl : ∀ (v : Value) (w : World), k ≤ E.out.length → Holds I w (blk e 88 (refV { E with base := n } ⟨v, .slice A2 E.inn.length c2, av, .slice A3 cd.length c3, cd⟩) :: own v 105 2 (E.out.length - k) ((E.out.flatMap bfC).drop (k * 2)) :: own (.slice A2 E.inn.length c2) 105 2 E.inn.length (E.inn.flatMap bfC) :: own (.slice A3 cd.length c3) 22 1 cd.length (cd.flatMap bkC) :: L) → Holds I w (refA I e { E with base := n, out := E.out.drop k } :: L) := fun v w hk H => by
    refine ref_close (E := { E with base := n, out := E.out.drop k }) ⟨v, .slice A2 E.inn.length c2, av, .slice A3 cd.length c3, cd⟩ ⟨{ ok with base := hn, out := by show (E.out.drop k).length ≤ 200; have := ok.out; rw [List.length_drop]; omega }, hm.still, hm.news, hm.codes, hm.each⟩ ?_
    show Holds I w (blk e _ _ :: own _ _ 2 (E.out.drop k).length ((E.out.drop k).flatMap bfC) :: _)
    rw [List.length_drop, show (E.out.drop k).flatMap bfC = (E.out.flatMap bfC).drop (k * 2) from (flat_drop _ _).symm]
    exact H
  by_cases hke : k ≤ E.out.length
  · rw [if_pos hke]
    rcases (Holds.f1 H).own_cases with ⟨q1, q2, q3, _⟩ | ⟨b1, o1, cap1, _, _, q1, q2, _, _, _, _⟩
    · injection q1 with q4 _ q5
      subst q4; subst q5
      have q2 : E.out.length = 0 := q2
      have q3 : E.out.flatMap bfC = [] := q3
      obtain rfl : k = 0 := by omega
      rw [q2] at H hah hcl
      rw [q3] at hcl
      refine ok_tithingref12_End_acknowledged.rets rfl ?_
      repeat' (first
        | (show VcL _ _ _ _ _ _ _ _; first
      | refine VcL.pures tabOk rfl ?_
      | refine VcL.nil ?_
      | (show VcL _ _ _ _ (⟨_, .load _ _, _, _, _, _⟩ :: _) _ _ _; refine VcL.load1 tabOk rfl rfl rfl rfl rfl (by exact Holds.cell H rfl) ?_)
      | (show VcL _ _ _ _ (⟨_, .call ⟨.value (.func F_tithingref12_ahead), _, _⟩, _, _, _, _⟩ :: _) _ _ _; (refine VcL.callF ok_tithingref12_ahead rfl rfl rfl rfl (Rets.mono (hah _ H) ?_); rintro _ w ⟨rfl, H⟩)))
        | (show VcD _ _ _ _ _ _ _ _ _; first
      | refine VcD.pures tabOk rfl ?_
      | refine VcD.done ?_
      | (show VcD _ _ _ _ _ (.pure _ _) _ _ _; refine VcD.sliceNil tabOk rfl rfl rfl rfl rfl rfl rfl rfl (by omega) (by omega) ?_)
      | (show VcD _ _ _ _ _ (.take _ _) _ _ _; refine VcD.load1 tabOk rfl rfl rfl rfl rfl rfl (by intro w_ hw_; exact hw_ _ _ rfl) (by exact rfl) ?_)
      | (show VcD _ _ _ _ _ (.only _ _) _ _ _; (refine VcD.eff rfl rfl rfl rfl (OpE.store tabOk (by exact H) rfl rfl rfl (by exact rfl) (by exact rfl) (by exact rfl) (by exact rfl)) ?_; rintro _ w ⟨_, H⟩; refine ⟨(by trivial), ?_⟩)))
        | (show Vc _ _ _ _ _ _; first
      | refine Vc.seq ?_
      | refine Vc.region ?_
      | refine Vc.condT rfl ?_
      | (refine Vc.drawn (id := 2) (.pure 0 (.pure 1 (.pure 2 (.pure 3 (.pure 4 (.pure 5 (.pure 7 (.take 6 (.pure 9 (.pure 10 (.pure 8 (.only 11 (.pure 12 (.pure 13 (.only 14 .done))))))))))))))) (.till (fun w => Rd w e 0 (refV E ⟨.slice none 0 0, .slice A2 E.inn.length c2, av, .slice A3 cd.length c3, cd⟩)) 11 (.one (fun _ => True))) mixed (by kernel_rfl) (by exact Holds.rdWhole (Holds.drew H _)) ?_; have H := H.drew (w.drawn + 1)))
        | (show KSeq _ _ _ _ _ _ _; refine KSeq.normal ?_)
        | (show KEnd _ _ _ _ _ _ _; refine KEnd.fin (Or.inl rfl) ⟨_, ResL.nil, ?_⟩))
      have H : Holds I w (blk e 88 (refV { E with base := n } ⟨.slice none 0 0, .slice A2 E.inn.length c2, av, .slice A3 cd.length c3, cd⟩) :: own (.slice none 0 0) 105 2 E.out.length (E.out.flatMap bfC) :: own (.slice A2 E.inn.length c2) 105 2 E.inn.length (E.inn.flatMap bfC) :: own (.slice A3 cd.length c3) 22 1 cd.length (cd.flatMap bkC) :: L) := H
      rw [q2, q3] at H
      exact hcl (.slice none 0 0) w (Nat.le_refl _) H
    · have hcc : E.out.length ≤ cap1 := q2
      injection q1 with q4 _ q5
      subst q4; subst q5
      refine ok_tithingref12_End_acknowledged.rets rfl ?_
      repeat' (first
        | (refine VcD.sliceExact (b := b1) (q := o1) (len := E.out.length) (cap := c1) (l := k) tabOk rfl rfl rfl rfl rfl rfl rfl hke hcc (fun q9 hq9 => ?_))
        | (show VcL _ _ _ _ _ _ _ _; first
      | refine VcL.pures tabOk rfl ?_
      | refine VcL.nil ?_
      | (show VcL _ _ _ _ (⟨_, .load _ _, _, _, _, _⟩ :: _) _ _ _; refine VcL.load1 tabOk rfl rfl rfl rfl rfl (by exact Holds.cell H rfl) ?_)
      | (show VcL _ _ _ _ (⟨_, .call ⟨.value (.func F_tithingref12_ahead), _, _⟩, _, _, _, _⟩ :: _) _ _ _; (refine VcL.callF ok_tithingref12_ahead rfl rfl rfl rfl (Rets.mono (hah _ H) ?_); rintro _ w ⟨rfl, H⟩)))
        | (show VcD _ _ _ _ _ _ _ _ _; first
      | refine VcD.pures tabOk rfl ?_
      | refine VcD.done ?_
      | (show VcD _ _ _ _ _ (.take _ _) _ _ _; refine VcD.load1 tabOk rfl rfl rfl rfl rfl rfl (by intro w_ hw_; exact hw_ _ _ rfl) (by exact rfl) ?_)
      | (show VcD _ _ _ _ _ (.only _ _) _ _ _; (refine VcD.eff rfl rfl rfl rfl (OpE.store tabOk (by exact H) rfl rfl rfl (by exact rfl) (by exact rfl) (by exact rfl) (by exact rfl)) ?_; rintro _ w ⟨_, H⟩; refine ⟨(by trivial), ?_⟩)))
        | (show Vc _ _ _ _ _ _; first
      | refine Vc.seq ?_
      | refine Vc.region ?_
      | (refine Vc.drawn (id := 2) (.pure 0 (.pure 1 (.pure 2 (.pure 3 (.pure 4 (.pure 5 (.pure 7 (.take 6 (.pure 9 (.pure 10 (.pure 8 (.only 11 (.pure 12 (.pure 13 (.only 14 .done))))))))))))))) (.till (fun w => Rd w e 0 (refV E ⟨.slice (some ⟨b1, o1, none⟩) E.out.length c1, .slice A2 E.inn.length c2, av, .slice A3 cd.length c3, cd⟩)) 11 (.one (fun _ => True))) mixed (by kernel_rfl) (by exact Holds.rdWhole (Holds.drew H _)) ?_; have H := H.drew (w.drawn + 1))
      | (refine Vc.cond rfl (fun h => ?_) (fun h => ?_) <;> first | (exfalso; simp only [decide_eq_true_eq, decide_eq_false_iff_not, Bool.not_eq_true', Bool.not_eq_false'] at h; omega) | (with_reducible have hp := of_decide_eq_true h)))
        | (show KSeq _ _ _ _ _ _ _; refine KSeq.normal ?_)
        | (show KEnd _ _ _ _ _ _ _; refine KEnd.fin (Or.inl rfl) ⟨_, ResL.nil, ?_⟩))
      exact hcl (.slice (some ⟨b1, q9, none⟩) (E.out.length - k) (c1 - k)) w hke (Holds.re [1, 0] (Holds.own_from (q := q9) hke hq9 (Holds.f1 H)) rfl)
  · rw [if_neg hke]
    refine ok_tithingref12_End_acknowledged.rets rfl ?_
    repeat' (first
      | (show VcL _ _ _ _ _ _ _ _; first
      | refine VcL.pures tabOk rfl ?_
      | refine VcL.nil ?_
      | (show VcL _ _ _ _ (⟨_, .load _ _, _, _, _, _⟩ :: _) _ _ _; refine VcL.load1 tabOk rfl rfl rfl rfl rfl (by exact Holds.cell H rfl) ?_)
      | (show VcL _ _ _ _ (⟨_, .call ⟨.value (.func F_tithingref12_ahead), _, _⟩, _, _, _, _⟩ :: _) _ _ _; (refine VcL.callF ok_tithingref12_ahead rfl rfl rfl rfl (Rets.mono (hah _ H) ?_); rintro _ w ⟨rfl, H⟩)))
      | (show Vc _ _ _ _ _ _; first
      | refine Vc.seq ?_
      | refine Vc.region ?_
      | refine Vc.skip ?_
      | (refine Vc.cond rfl (fun h => ?_) (fun h => ?_) <;> first | (exfalso; simp only [decide_eq_true_eq, decide_eq_false_iff_not, Bool.not_eq_true', Bool.not_eq_false'] at h; omega) | (with_reducible have hp := of_decide_eq_false h)))
      | (show KSeq _ _ _ _ _ _ _; refine KSeq.normal ?_)
      | (show KEnd _ _ _ _ _ _ _; refine KEnd.fin (Or.inl rfl) ⟨_, ResL.nil, ?_⟩))
    exact ref_close _ hm H
theorem learnR_any {e : Nat} {E : En} (H : Holds I w (refA I e E :: L)) {kind : Int} {id seq nn : Nat} {A : Option Addr} {m c : Nat} (h1 : id ≤ 65535) (h2 : seq < M) (h3 : nn ≤ 65535) : Rets Try.prog F_tithingref12_End_learn #[ptr e, .agg #[.int .i64 kind, .int .i64 (id : Nat), .int .i64 (seq : Nat), .int .i64 (nn : Nat), .slice A m c]] w fun u w' => Holds I w' (refA I e { E with other := id, want := seq, room := nn } :: L) := by
  obtain ⟨A1, c1, A2, c2, av, A3, c3, cd, hm, HB⟩ := ref_open H
  clear H
  have H := HB
  clear HB
  have ok := hm.ok
  refine ok_tithingref12_End_learn.rets rfl ?_
  repeat' (first
    | (show VcL _ _ _ _ _ _ _ _; first
      | refine VcL.nil ?_
      | refine VcL.box H rfl rfl rfl rfl rfl (fun b w H => ?_))
    | (show VcD _ _ _ _ _ _ _ _ _; first
      | refine VcD.pures tabOk rfl ?_
      | refine VcD.done ?_
      | (show VcD _ _ _ _ _ (.take _ _) _ _ _; refine VcD.load1 tabOk rfl rfl rfl rfl rfl rfl (by intro w_ hw_; exact hw_ _ _ rfl) (by exact rfl) ?_)
      | (show VcD _ _ _ _ _ (.only _ _) _ _ _; (refine VcD.eff rfl rfl rfl rfl (OpE.store tabOk (by first | exact H | exact (Holds.f1 H)) rfl rfl rfl (by exact rfl) (by exact rfl) (by exact rfl) (by exact rfl)) ?_; rintro _ w ⟨_, H⟩; refine ⟨(by first | exact Holds.rdWhole (Holds.f1 H) | trivial), ?_⟩)))
    | (show Vc _ _ _ _ _ _; first
      | refine Vc.seq ?_
      | refine Vc.region ?_
      | (refine Vc.drawn (id := 1) (.pure 0 (.pure 1 (.pure 2 (.pure 3 (.pure 5 (.pure 7 (.take 4 (.pure 9 (.pure 10 (.take 6 (.take 8 (.only 11 (.pure 12 (.pure 13 (.only 14 (.pure 15 (.pure 16 (.only 17 .done)))))))))))))))))) (.till (fun w => Rd w b 0 [.int .i64 kind, .int .i64 (id : Nat), .int .i64 (seq : Nat), .int .i64 (nn : Nat), .slice A m c]) 17 (.one (fun _ => True))) mixed (by kernel_rfl) (by exact Holds.rdWhole (Holds.drew H _)) ?_; have H := H.drew (w.drawn + 1)))
    | (show KSeq _ _ _ _ _ _ _; refine KSeq.normal ?_)
    | (show KEnd _ _ _ _ _ _ _; refine KEnd.fin (Or.inl rfl) ⟨_, ResL.nil, ?_⟩))
  exact ref_close (E := { E with other := id, want := seq, room := nn }) ⟨.slice A1 E.out.length c1, .slice A2 E.inn.length c2, av, .slice A3 cd.length c3, cd⟩ ⟨{ ok with other := h1, want := h2, room := h3 }, hm.still, hm.news, hm.codes, hm.each⟩ (Holds.drop1 H)
end Go.Proofs.Ytpfgcchammlpgaa.V
