/- What the program does to a table of spans. -/
import Derived.Test.YtngnddnbhlbjbaaVD
namespace Go.Proofs.Ytngnddnbhlbjbaa.V
open Go Go.Proofs.YtngnddnbhlbjbaaV
set_option linter.unusedVariables false
set_option linter.unusedSimpArgs false
set_option maxHeartbeats 1000000
attribute [local irreducible] IntKind.wrap
variable {I : Imm} {w : World} {L : List Asn}
theorem Drop1_any (H : Holds I w L) (s : Sp) (by' : Int) {c : Nat} (hc : RdW I L c 0 [.int .i64 by']) : Rets Try.prog F_lock_Drop_1 (#[] ++ [spV s].toArray ++ #[.pointer (some ⟨c, 0, none⟩)]) w fun u w' => u = .bool (decide (s.by' = by')) ∧ Holds I w' L := by
  refine ok_lock_Drop_1.rets rfl ?_
  repeat' (first
    | (show VcL _ _ _ _ _ _ _ _; first
      | refine VcL.pures tabOk rfl ?_
      | refine VcL.nil ?_
      | (show VcL _ _ _ _ (⟨_, .load _ _, _, _, _, _⟩ :: _) _ _ _; first
      | refine VcL.load1 tabOk rfl rfl rfl rfl rfl (by first | exact Holds.cell H rfl | exact Holds.cell (Holds.f1 H) rfl | exact Holds.cell (Holds.f2 H) rfl | exact Holds.cell (Holds.f3 H) rfl | exact Holds.cell (Holds.f4 H) rfl | exact Holds.cell (Holds.f5 H) rfl | exact Holds.cell (Holds.f6 H) rfl | exact RdW.get (by assumption) rfl H | exact RdW.get0 (by assumption) rfl H | exact RdW.get (by assumption) rfl (Holds.drop H) | exact RdW.get0 (by assumption) rfl (Holds.drop H) | exact RdW.get (by assumption) rfl (Holds.drop (Holds.drop H)) | exact RdW.get0 (by assumption) rfl (Holds.drop (Holds.drop H)) | exact RdW.get (by assumption) rfl (Holds.drop (Holds.drop (Holds.drop H))) | exact RdW.get0 (by assumption) rfl (Holds.drop (Holds.drop (Holds.drop H))) | assumption) ?_
      | refine VcL.loadR tabOk rfl rfl rfl rfl rfl rfl (by first | exact RdW.rd (by assumption) H | exact RdW.rd (by assumption) (Holds.drop H) | exact RdW.rd (by assumption) (Holds.drop (Holds.drop H)) | exact RdW.rd (by assumption) (Holds.drop (Holds.drop (Holds.drop H))) | assumption) rfl ?_
      | refine VcL.loadN tabOk rfl rfl rfl rfl rfl rfl (by first | exact H | exact (Holds.f1 H) | exact (Holds.f2 H) | exact (Holds.f3 H) | exact (Holds.f4 H) | exact (Holds.f5 H) | exact (Holds.f6 H)) (by exact rfl) ?_)
      | (show VcL _ _ _ _ (⟨_, .binOp _ _ _ _ _, _, _, _, _⟩ :: _) _ _ _; first
      | refine VcL.eqS tabOk rfl rfl rfl rfl rfl rfl (by kernel_rfl) (by kernel_rfl) rfl rfl (by first | exact .inl rfl | exact .inr rfl) ?_)
      | refine VcL.box H rfl rfl rfl rfl rfl (fun b w H => ?_)
      | (refine VcL.guard rfl rfl rfl rfl (fun h => ?_) (fun h => ?_) <;> first | (cases h; done) | (exfalso; simp only [decide_eq_true_eq, decide_eq_false_iff_not] at h; omega) | (with_reducible have hp := of_decide_eq_true h) | (with_reducible have hp := of_decide_eq_false h) | (with_reducible have hp := ndec_t h) | (with_reducible have hp := ndec_f h) | skip))
    | (show Vc _ _ _ _ _ _; first
      | refine Vc.seq ?_
      | refine Vc.region ?_
      | refine Vc.condT rfl ?_
      | refine Vc.condF rfl ?_
      | refine Vc.ret ?_
      | refine Vc.skip ?_
      | refine Vc.block ?_
      | refine Vc.exit ?_
      | (refine Vc.cond rfl (fun h => ?_) (fun h => ?_) <;> first | (cases h; done) | (exfalso; simp only [decide_eq_true_eq, decide_eq_false_iff_not] at h; omega) | (with_reducible have hp := of_decide_eq_true h) | (with_reducible have hp := of_decide_eq_false h) | (with_reducible have hp := ndec_t h) | (with_reducible have hp := ndec_f h) | skip))
    | (show KSeq _ _ _ _ _ _ _; first
      | refine KSeq.normal ?_
      | refine KSeq.ret ?_
      | refine KSeq.exit ?_)
    | (show KBlock _ _ _ _ _; first
      | refine KBlock.normal ?_
      | refine KBlock.here ?_
      | refine KBlock.on rfl ?_
      | refine KBlock.ret ?_)
    | refine KLoop.exit ?_
    | refine KLoop.ret ?_
    | refine KCut.exit ?_
    | refine KCut.ret ?_
    | (show KEnd _ _ _ _ _ _; first
      | refine KEnd.mk (Or.inr rfl) ⟨_, (ResL.tmp rfl ResL.nil), ?_⟩
      | refine KEnd.mk (Or.inl rfl) ⟨_, (ResL.tmp rfl ResL.nil), ?_⟩))
  exact ⟨rfl, H.drop⟩
def dropE (l : List Sp) (by' : Int) : Int := if validS l && decide (1 ≤ by') then 0 else 2
def dropL (l : List Sp) (by' : Int) : List Sp := if validS l && decide (1 ≤ by') then l.filter (fun x => !decide (x.by' = by')) else []
theorem Drop_any (H : Holds I w L) {v : Value} {l : List Sp} (hv : SlS I L v l) (hl : l.length ≤ 1000000) (by' : Int) :
    Rets Try.prog F_lock_Drop #[v, .int .i64 by'] w fun u w' => ∃ sv, u = .tuple #[sv, .int .i64 (dropE l by')] ∧ Holds I w' (ownS sv (dropL l by') :: L) := by
  refine ok_lock_Drop.rets rfl ?_
  repeat' (first
    | (show VcL _ _ _ _ _ _ _ _; first
      | refine VcL.pures tabOk rfl ?_
      | refine VcL.nil ?_
      | (show VcL _ _ _ _ (⟨_, .load _ _, _, _, _, _⟩ :: _) _ _ _; first
      | refine VcL.load1 tabOk rfl rfl rfl rfl rfl (by first | exact Holds.cell H rfl | exact Holds.cell (Holds.f1 H) rfl | exact Holds.cell (Holds.f2 H) rfl | exact Holds.cell (Holds.f3 H) rfl | exact Holds.cell (Holds.f4 H) rfl | exact Holds.cell (Holds.f5 H) rfl | exact Holds.cell (Holds.f6 H) rfl | exact RdW.get (by assumption) rfl H | exact RdW.get0 (by assumption) rfl H | exact RdW.get (by assumption) rfl (Holds.drop H) | exact RdW.get0 (by assumption) rfl (Holds.drop H) | exact RdW.get (by assumption) rfl (Holds.drop (Holds.drop H)) | exact RdW.get0 (by assumption) rfl (Holds.drop (Holds.drop H)) | exact RdW.get (by assumption) rfl (Holds.drop (Holds.drop (Holds.drop H))) | exact RdW.get0 (by assumption) rfl (Holds.drop (Holds.drop (Holds.drop H))) | assumption) ?_
      | refine VcL.loadR tabOk rfl rfl rfl rfl rfl rfl (by first | exact RdW.rd (by assumption) H | exact RdW.rd (by assumption) (Holds.drop H) | exact RdW.rd (by assumption) (Holds.drop (Holds.drop H)) | exact RdW.rd (by assumption) (Holds.drop (Holds.drop (Holds.drop H))) | assumption) rfl ?_
      | refine VcL.loadN tabOk rfl rfl rfl rfl rfl rfl (by first | exact H | exact (Holds.f1 H) | exact (Holds.f2 H) | exact (Holds.f3 H) | exact (Holds.f4 H) | exact (Holds.f5 H) | exact (Holds.f6 H)) (by exact rfl) ?_)
      | (show VcL _ _ _ _ (⟨_, .binOp _ _ _ _ _, _, _, _, _⟩ :: _) _ _ _; first
      | refine VcL.eqS tabOk rfl rfl rfl rfl rfl rfl (by kernel_rfl) (by kernel_rfl) rfl rfl (by first | exact .inl rfl | exact .inr rfl) ?_)
      | refine VcL.box H rfl rfl rfl rfl rfl (fun b w H => ?_)
      | (show VcL _ _ _ _ (⟨_, .call ⟨.value (.func F_lock_Valid), _, _⟩, _, _, _, _⟩ :: _) _ _ _; first
      | (refine VcL.callF ok_lock_Valid rfl rfl rfl rfl (Rets.mono (Valid_any H hv.up hl) ?_); rintro _ w ⟨rfl, H⟩))
      | (show VcL _ _ _ _ (⟨_, .call ⟨.value (.func F_slices_Clone_api_Span_api_Span), _, _⟩, _, _, _, _⟩ :: _) _ _ _; first
      | (refine VcL.callF ok_slices_Clone_api_Span_api_Span rfl rfl rfl rfl (Rets.mono (Clone_any H hv.up (spC_one l) hl) ?_); rintro _ w H))
      | (show VcL _ _ _ _ (⟨_, .call ⟨.value (.func F_slices_DeleteFunc_api_Span_api_Span), _, _⟩, _, _, _, _⟩ :: _) _ _ _; first
      | (refine VcL.callF ok_slices_DeleteFunc_api_Span_api_Span rfl rfl rfl rfl (Rets.mono (DeleteFunc_any H hl ok_lock_Drop_1 (fun x => decide (x.by' = by')) (fun w s A H => Drop1_any H s by' (Holds.toW.ups A))) ?_); rintro _ w H))
      | (refine VcL.guard rfl rfl rfl rfl (fun h => ?_) (fun h => ?_) <;> first | (cases h; done) | (exfalso; simp only [decide_eq_true_eq, decide_eq_false_iff_not] at h; omega) | (with_reducible have hp := of_decide_eq_true h) | (with_reducible have hp := of_decide_eq_false h) | (with_reducible have hp := ndec_t h) | (with_reducible have hp := ndec_f h) | skip))
    | (show Vc _ _ _ _ _ _; first
      | refine Vc.seq ?_
      | refine Vc.region ?_
      | refine Vc.condT rfl ?_
      | refine Vc.condF rfl ?_
      | refine Vc.ret ?_
      | refine Vc.skip ?_
      | refine Vc.block ?_
      | refine Vc.exit ?_
      | (refine Vc.cond rfl (fun h => ?_) (fun h => ?_) <;> first | (cases h; done) | (exfalso; simp only [decide_eq_true_eq, decide_eq_false_iff_not] at h; omega) | (with_reducible have hp := of_decide_eq_true h) | (with_reducible have hp := of_decide_eq_false h) | (with_reducible have hp := ndec_t h) | (with_reducible have hp := ndec_f h) | skip))
    | (show KSeq _ _ _ _ _ _ _; first
      | refine KSeq.normal ?_
      | refine KSeq.ret ?_
      | refine KSeq.exit ?_)
    | (show KBlock _ _ _ _ _; first
      | refine KBlock.normal ?_
      | refine KBlock.here ?_
      | refine KBlock.on rfl ?_
      | refine KBlock.ret ?_)
    | refine KLoop.exit ?_
    | refine KLoop.ret ?_
    | refine KCut.exit ?_
    | refine KCut.ret ?_
    | (show KEnd _ _ _ _ _ _; first
      | refine KEnd.mk (Or.inr rfl) ⟨_, (ResL.tmp rfl (ResL.tmp rfl ResL.nil)), ?_⟩
      | refine KEnd.mk (Or.inl rfl) ⟨_, (ResL.tmp rfl (ResL.tmp rfl ResL.nil)), ?_⟩))
  · have e1 : dropE l by' = 2 := by unfold dropE; simp_all
    have e2 : dropL l by' = [] := by unfold dropL; simp_all
    rw [e1, e2]
    exact ⟨_, rfl, H.drop.own_nil⟩
  · have e1 : dropE l by' = 2 := by unfold dropE; rw [if_neg (by simp; intro; omega)]
    have e2 : dropL l by' = [] := by unfold dropL; rw [if_neg (by simp; intro; omega)]
    rw [e1, e2]
    exact ⟨_, rfl, H.drop.own_nil⟩
  · have hk : (validS l && decide (1 ≤ by')) = true := by simp_all <;> omega
    unfold dropE dropL
    rw [if_pos hk, if_pos hk]
    exact ⟨_, rfl, H.swap.drop⟩
def unlE (l : List Sp) (s : Sp) : Int := if validS l && isSp s then (if idxS (spEq s) l < 0 then 5 else 0) else 2
def unlL (l : List Sp) (s : Sp) : List Sp := if unlE l s = 0 then l.take (idxS (spEq s) l).toNat ++ l.drop ((idxS (spEq s) l).toNat + 1) else []
theorem idxS_range (p : Sp → Bool) (l : List Sp) : idxS p l = -1 ∨ ∃ k, k < l.length ∧ idxS p l = (k : Int) ∧ p (spAt l k) = true := by
  by_cases h : idxS p l = -1
  · exact .inl h
  · obtain ⟨k, h1, h2, h3, _⟩ := idxS_first h
    exact .inr ⟨k, h1, h2, h3⟩
theorem Unlock_any (H : Holds I w L) {v : Value} {l : List Sp} (hv : SlS I L v l) (hl : l.length ≤ 1000000) (s : Sp) :
    Rets Try.prog F_lock_Unlock #[v, spV s] w fun u w' => ∃ sv, u = .tuple #[sv, .int .i64 (unlE l s)] ∧ Holds I w' (ownS sv (unlL l s) :: L) := by
  have hw := fun k (hk : k < l.length) => show IntKind.i64.wrap ((k : Int) + 1) = ((k + 1 : Nat) : Int) by rw [IntKind.wrap_i64]; omega
  rcases idxS_range (spEq s) l with e | ⟨k, hk, e, hpk⟩
  all_goals
    refine ok_lock_Unlock.rets rfl ?_
    repeat' (first
      | rw [e]
      | rw [hw k hk]
      | (show VcL _ _ _ _ _ _ _ _; first
      | refine VcL.pures tabOk rfl ?_
      | refine VcL.nil ?_
      | (show VcL _ _ _ _ (⟨_, .load _ _, _, _, _, _⟩ :: _) _ _ _; first
      | refine VcL.load1 tabOk rfl rfl rfl rfl rfl (by first | exact Holds.cell H rfl | exact Holds.cell (Holds.f1 H) rfl | exact Holds.cell (Holds.f2 H) rfl | exact Holds.cell (Holds.f3 H) rfl | exact Holds.cell (Holds.f4 H) rfl | exact Holds.cell (Holds.f5 H) rfl | exact Holds.cell (Holds.f6 H) rfl | exact RdW.get (by assumption) rfl H | exact RdW.get0 (by assumption) rfl H | exact RdW.get (by assumption) rfl (Holds.drop H) | exact RdW.get0 (by assumption) rfl (Holds.drop H) | exact RdW.get (by assumption) rfl (Holds.drop (Holds.drop H)) | exact RdW.get0 (by assumption) rfl (Holds.drop (Holds.drop H)) | exact RdW.get (by assumption) rfl (Holds.drop (Holds.drop (Holds.drop H))) | exact RdW.get0 (by assumption) rfl (Holds.drop (Holds.drop (Holds.drop H))) | assumption) ?_
      | refine VcL.loadR tabOk rfl rfl rfl rfl rfl rfl (by first | exact RdW.rd (by assumption) H | exact RdW.rd (by assumption) (Holds.drop H) | exact RdW.rd (by assumption) (Holds.drop (Holds.drop H)) | exact RdW.rd (by assumption) (Holds.drop (Holds.drop (Holds.drop H))) | assumption) rfl ?_
      | refine VcL.loadN tabOk rfl rfl rfl rfl rfl rfl (by first | exact H | exact (Holds.f1 H) | exact (Holds.f2 H) | exact (Holds.f3 H) | exact (Holds.f4 H) | exact (Holds.f5 H) | exact (Holds.f6 H)) (by exact rfl) ?_)
      | (show VcL _ _ _ _ (⟨_, .binOp _ _ _ _ _, _, _, _, _⟩ :: _) _ _ _; first
      | refine VcL.eqS tabOk rfl rfl rfl rfl rfl rfl (by kernel_rfl) (by kernel_rfl) rfl rfl (by first | exact .inl rfl | exact .inr rfl) ?_)
      | refine VcL.box H rfl rfl rfl rfl rfl (fun b w H => ?_)
      | (show VcL _ _ _ _ (⟨_, .call ⟨.value (.func F_lock_Valid), _, _⟩, _, _, _, _⟩ :: _) _ _ _; first
      | (refine VcL.callF ok_lock_Valid rfl rfl rfl rfl (Rets.mono (Valid_any H hv.up hl) ?_); rintro _ w ⟨rfl, H⟩))
      | (show VcL _ _ _ _ (⟨_, .call ⟨.value (.func F_lock_isSpan), _, _⟩, _, _, _, _⟩ :: _) _ _ _; first
      | (refine VcL.callF ok_lock_isSpan rfl rfl rfl rfl (Rets.mono (isSpan_any H s) ?_); rintro _ w ⟨rfl, H⟩))
      | (show VcL _ _ _ _ (⟨_, .call ⟨.value (.func F_slices_Clone_api_Span_api_Span), _, _⟩, _, _, _, _⟩ :: _) _ _ _; first
      | (refine VcL.callF ok_slices_Clone_api_Span_api_Span rfl rfl rfl rfl (Rets.mono (Clone_any H hv.up (spC_one l) hl) ?_); rintro _ w H))
      | (show VcL _ _ _ _ (⟨_, .call ⟨.value (.func F_slices_Index_api_Span_api_Span), _, _⟩, _, _, _, _⟩ :: _) _ _ _; first
      | (refine VcL.callF ok_slices_Index_api_Span_api_Span rfl rfl rfl rfl (Rets.mono (Index_any H hv.up hl s) ?_); rintro _ w ⟨rfl, H⟩))
      | (show VcL _ _ _ _ (⟨_, .call ⟨.value (.func F_slices_Delete_api_Span_api_Span), _, _⟩, _, _, _, _⟩ :: _) _ _ _; first
      | (refine VcL.callF ok_slices_Delete_api_Span_api_Span rfl rfl rfl rfl (Rets.mono (Delete_any H (spC_one l) hk hl) ?_); rintro _ w H))
      | (refine VcL.guard rfl rfl rfl rfl (fun h => ?_) (fun h => ?_) <;> first | (cases h; done) | (exfalso; simp only [decide_eq_true_eq, decide_eq_false_iff_not] at h; omega) | (with_reducible have hp := of_decide_eq_true h) | (with_reducible have hp := of_decide_eq_false h) | (with_reducible have hp := ndec_t h) | (with_reducible have hp := ndec_f h) | skip))
      | (show Vc _ _ _ _ _ _; first
      | refine Vc.seq ?_
      | refine Vc.region ?_
      | refine Vc.condT rfl ?_
      | refine Vc.condF rfl ?_
      | refine Vc.ret ?_
      | refine Vc.skip ?_
      | refine Vc.block ?_
      | refine Vc.exit ?_
      | (refine Vc.cond rfl (fun h => ?_) (fun h => ?_) <;> first | (cases h; done) | (exfalso; simp only [decide_eq_true_eq, decide_eq_false_iff_not] at h; omega) | (with_reducible have hp := of_decide_eq_true h) | (with_reducible have hp := of_decide_eq_false h) | (with_reducible have hp := ndec_t h) | (with_reducible have hp := ndec_f h) | skip))
      | (show KSeq _ _ _ _ _ _ _; first
      | refine KSeq.normal ?_
      | refine KSeq.ret ?_
      | refine KSeq.exit ?_)
      | (show KBlock _ _ _ _ _; first
      | refine KBlock.normal ?_
      | refine KBlock.here ?_
      | refine KBlock.on rfl ?_
      | refine KBlock.ret ?_)
      | refine KLoop.exit ?_
      | refine KLoop.ret ?_
      | refine KCut.exit ?_
      | refine KCut.ret ?_
      | (show KEnd _ _ _ _ _ _; first
      | refine KEnd.mk (Or.inr rfl) ⟨_, (ResL.tmp rfl (ResL.tmp rfl ResL.nil)), ?_⟩
      | refine KEnd.mk (Or.inl rfl) ⟨_, (ResL.tmp rfl (ResL.tmp rfl ResL.nil)), ?_⟩))
  all_goals first
    | (have e1 : unlE l s = 2 := by unfold unlE; rw [if_neg (by simp_all)]
       have e2 : unlL l s = [] := by unfold unlL; rw [e1]; rfl
       rw [e1, e2]
       exact ⟨_, rfl, H.drop.own_nil⟩)
    | (have hk1 : (validS l && isSp s) = true := by simp_all
       have e1 : unlE l s = 5 := by unfold unlE; rw [if_pos hk1, if_pos (by omega)]
       have e2 : unlL l s = [] := by unfold unlL; rw [e1]; rfl
       rw [e1, e2]
       exact ⟨_, rfl, H.drop.own_nil⟩)
    | (have hk1 : (validS l && isSp s) = true := by simp_all
       have e1 : unlE l s = 0 := by unfold unlE; rw [if_pos hk1, if_neg (by omega)]
       have e2 : unlL l s = l.take k ++ l.drop (k + 1) := by unfold unlL; rw [e1, if_pos rfl, e]; rfl
       have e3 : (l.take k ++ l.drop (k + 1)).length = l.length - 1 := by rw [List.length_append, List.length_take, List.length_drop]; omega
       rw [e1, e2]
       refine ⟨_, rfl, ?_⟩
       show Holds I _ (own _ _ 3 (l.take k ++ l.drop (k + 1)).length ((l.take k ++ l.drop (k + 1)).flatMap spC) :: L)
       rw [e3, List.flatMap_append, ← flat_take spC_len, ← flat_drop spC_len]
       exact H.swap.drop)
def lockE (l : List Sp) (s : Sp) : Int := if validS l && isSp s then (if l.any (fun t => meetS s t && !decide (t.by' = s.by')) then 201 else if l.any (meetS s) then 8 else if l.length = 60 then 4 else 0) else 2
def posS (l : List Sp) (s : Sp) : Nat := (l.takeWhile fun t => decide (t.from' < s.from')).length
def lockL (l : List Sp) (s : Sp) : List Sp := if lockE l s = 0 then l.take (posS l s) ++ s :: l.drop (posS l s) else []
theorem posS_at {l : List Sp} {s : Sp} {k : Nat} (hk : k ≤ l.length) (h1 : ∀ j, j < k → (spAt l j).from' < s.from') (h2 : k < l.length → ¬ (spAt l k).from' < s.from') : posS l s = k := by
  unfold posS
  have e : l.takeWhile (fun t => decide (t.from' < s.from')) = l.take k := by
    conv => lhs; rw [← List.take_append_drop k l]
    rw [List.takeWhile_append_of_pos]
    · rcases Nat.lt_or_ge k l.length with h | h
      · rw [drop_at h, List.takeWhile_cons_of_neg (by simpa using h2 h), List.append_nil]
      · rw [List.drop_of_length_le h]; simp
    · intro a ha
      obtain ⟨j, hj, rfl⟩ := List.getElem_of_mem ha
      rw [List.length_take] at hj
      rw [List.getElem_take]
      have := spAt_get (l := l) (k := j) (by omega)
      rw [List.getElem?_eq_getElem (by omega)] at this
      simp only [Option.some.injEq] at this
      rw [this]
      simpa using h1 j (by omega)
  rw [e, List.length_take]; omega
theorem any_take_succ {l : List Sp} {p : Sp → Bool} {k : Nat} (h : k < l.length) : (l.take (k + 1)).any p = ((l.take k).any p || p (spAt l k)) := by
  rw [List.take_add_one, spAt_get h, List.any_append]; simp
theorem Lock_any (H : Holds I w L) {v : Value} {l : List Sp} (hv : SlS I L v l) (hl : l.length ≤ 1000000) (s : Sp) :
    Rets Try.prog F_lock_Lock #[v, spV s] w fun u w' => ∃ sv, u = .tuple #[sv, .int .i64 (lockE l s)] ∧ Holds I w' (ownS sv (lockL l s) :: L) := by
  obtain ⟨A, cap, rfl, hcap⟩ := hv.form
  refine ok_lock_Lock.rets rfl ?_
  repeat' (first
    | (show VcL _ _ _ _ _ _ _ _; first
      | refine VcL.pures tabOk rfl ?_
      | refine VcL.nil ?_
      | (show VcL _ _ _ _ (⟨_, .load _ _, _, _, _, _⟩ :: _) _ _ _; first
      | refine VcL.load1 tabOk rfl rfl rfl rfl rfl (by first | exact Holds.cell H rfl | exact Holds.cell (Holds.f1 H) rfl | exact Holds.cell (Holds.f2 H) rfl | exact Holds.cell (Holds.f3 H) rfl | exact Holds.cell (Holds.f4 H) rfl | exact Holds.cell (Holds.f5 H) rfl | exact Holds.cell (Holds.f6 H) rfl | exact RdW.get (by assumption) rfl H | exact RdW.get0 (by assumption) rfl H | exact RdW.get (by assumption) rfl (Holds.drop H) | exact RdW.get0 (by assumption) rfl (Holds.drop H) | exact RdW.get (by assumption) rfl (Holds.drop (Holds.drop H)) | exact RdW.get0 (by assumption) rfl (Holds.drop (Holds.drop H)) | exact RdW.get (by assumption) rfl (Holds.drop (Holds.drop (Holds.drop H))) | exact RdW.get0 (by assumption) rfl (Holds.drop (Holds.drop (Holds.drop H))) | assumption) ?_
      | refine VcL.loadR tabOk rfl rfl rfl rfl rfl rfl (by first | exact RdW.rd (by assumption) H | exact RdW.rd (by assumption) (Holds.drop H) | exact RdW.rd (by assumption) (Holds.drop (Holds.drop H)) | exact RdW.rd (by assumption) (Holds.drop (Holds.drop (Holds.drop H))) | assumption) rfl ?_
      | refine VcL.loadN tabOk rfl rfl rfl rfl rfl rfl (by first | exact H | exact (Holds.f1 H) | exact (Holds.f2 H) | exact (Holds.f3 H) | exact (Holds.f4 H) | exact (Holds.f5 H) | exact (Holds.f6 H)) (by exact rfl) ?_)
      | (show VcL _ _ _ _ (⟨_, .binOp _ _ _ _ _, _, _, _, _⟩ :: _) _ _ _; first
      | refine VcL.eqS tabOk rfl rfl rfl rfl rfl rfl (by kernel_rfl) (by kernel_rfl) rfl rfl (by first | exact .inl rfl | exact .inr rfl) ?_)
      | (show VcL _ _ _ _ (⟨_, .indexAddr _ _ _, _, _, _, _⟩ :: _) _ _ _; first
      | refine VcL.indexAddr0 tabOk rfl rfl rfl rfl rfl rfl (by omega) (by omega) ?_
      | refine VcL.indexAddr tabOk rfl rfl rfl rfl rfl rfl (by omega) (by omega) ?_
      | refine VcL.indexArr0 tabOk rfl rfl rfl rfl rfl rfl (by omega) (by omega) ?_
      | refine VcL.indexArr tabOk rfl rfl rfl rfl rfl rfl (by omega) (by omega) ?_)
      | refine VcL.box H rfl rfl rfl rfl rfl (fun b w H => ?_)
      | refine VcL.alloc tabOk H rfl rfl rfl rfl (fun b w H => ?_)
      | refine VcL.buildSlice tabOk H rfl rfl rfl rfl rfl rfl (fun sv w H => ?_)
      | (show VcL _ _ _ _ (⟨_, .store _ _ _, _, _, _, _⟩ :: _) _ _ _; first
      | refine VcL.store tabOk rfl (by first | exact H | exact (Holds.f1 H) | exact (Holds.f2 H) | exact (Holds.f3 H) | exact (Holds.f4 H) | exact (Holds.f5 H) | exact (Holds.f6 H)) rfl rfl (by exact rfl) (by exact rfl) (by exact rfl) (by exact rfl) (fun w H => ?_))
      | (show VcL _ _ _ _ (⟨_, .call ⟨.value (.func F_lock_Valid), _, _⟩, _, _, _, _⟩ :: _) _ _ _; first
      | (refine VcL.callF ok_lock_Valid rfl rfl rfl rfl (Rets.mono (Valid_any H hv.up hl) ?_); rintro _ w ⟨rfl, H⟩))
      | (show VcL _ _ _ _ (⟨_, .call ⟨.value (.func F_lock_isSpan), _, _⟩, _, _, _, _⟩ :: _) _ _ _; first
      | (refine VcL.callF ok_lock_isSpan rfl rfl rfl rfl (Rets.mono (isSpan_any H s) ?_); rintro _ w ⟨rfl, H⟩))
      | (show VcL _ _ _ _ (⟨_, .call ⟨.value (.func F_lock_meet), _, _⟩, _, _, _, _⟩ :: _) _ _ _; first
      | (refine VcL.callF ok_lock_meet rfl rfl rfl rfl (Rets.mono (meet_any H _ _) ?_); rintro _ w ⟨rfl, H⟩))
      | (show VcL _ _ _ _ (⟨_, .call ⟨.value (.func F_slices_Clone_api_Span_api_Span), _, _⟩, _, _, _, _⟩ :: _) _ _ _; first
      | (refine VcL.callF ok_slices_Clone_api_Span_api_Span rfl rfl rfl rfl (Rets.mono (Clone_any H hv.up.up (spC_one l) hl) ?_); rintro _ w H))
      | (show VcL _ _ _ _ (⟨_, .call ⟨.value (.func F_slices_Clone_api_Span_api_Span), _, _⟩, _, _, _, _⟩ :: _) _ _ _; first
      | (refine VcL.callF ok_slices_Clone_api_Span_api_Span rfl rfl rfl rfl (Rets.mono (Clone_any H hv.up (spC_one l) hl) ?_); rintro _ w H))
      | (show VcL _ _ _ _ (⟨_, .call ⟨.value (.func F_slices_Insert_api_Span_api_Span), _, _⟩, _, _, _, _⟩ :: _) _ _ _; first
      | (refine VcL.callF ok_slices_Insert_api_Span_api_Span rfl rfl rfl rfl (Rets.mono (Insert_any H (spC_one l) hs1 rfl hk hl) ?_); rintro _ w H))
      | (show VcL _ _ _ _ (⟨_, .call ⟨.value (.func F_slices_Insert_api_Span_api_Span), _, _⟩, _, _, _, _⟩ :: _) _ _ _; first
      | (refine VcL.callF ok_slices_Insert_api_Span_api_Span rfl rfl rfl rfl (Rets.mono (Insert_any H.swap (spC_one l) hs1 rfl hk hl) ?_); rintro _ w H))
      | (refine VcL.guard rfl rfl rfl rfl (fun h => ?_) (fun h => ?_) <;> first | (cases h; done) | (exfalso; simp only [decide_eq_true_eq, decide_eq_false_iff_not] at h; omega) | (with_reducible have hp := of_decide_eq_true h) | (with_reducible have hp := of_decide_eq_false h) | (with_reducible have hp := ndec_t h) | (with_reducible have hp := ndec_f h) | skip))
    | (show VcD _ _ _ _ _ _ _ _ _; first
      | refine VcD.pures tabOk (by first | exact H | exact Holds.drop H | exact Holds.drop (Holds.drop H) | trivial | assumption) rfl ?_
      | refine VcD.done ?_
      | (show VcD _ _ _ _ _ (.take _ _) _ _ _; first
      | refine VcD.load1 tabOk rfl rfl rfl rfl rfl rfl (by first | exact H | exact Holds.drop H | exact Holds.drop (Holds.drop H) | trivial | assumption) (by intro w_ hw_; first | exact Holds.cell hw_ rfl | exact Holds.cell (Holds.f1 hw_) rfl | exact Holds.cell (Holds.f2 hw_) rfl | exact Holds.cell (Holds.f3 hw_) rfl | exact Holds.cell (Holds.f4 hw_) rfl | exact Holds.cell (Holds.f5 hw_) rfl | exact Holds.cell (Holds.f6 hw_) rfl | exact RdW.get (by assumption) rfl hw_ | exact RdW.get0 (by assumption) rfl hw_ | exact RdW.get (by assumption) rfl (Holds.drop hw_) | exact RdW.get0 (by assumption) rfl (Holds.drop hw_) | exact RdW.get (by assumption) rfl (Holds.drop (Holds.drop hw_)) | exact RdW.get0 (by assumption) rfl (Holds.drop (Holds.drop hw_)) | exact RdW.get (by assumption) rfl (Holds.drop (Holds.drop (Holds.drop hw_))) | exact RdW.get0 (by assumption) rfl (Holds.drop (Holds.drop (Holds.drop hw_))) | assumption) (by exact rfl) ?_
      | refine VcD.loadR tabOk rfl rfl rfl rfl rfl rfl rfl (by first | exact H | exact Holds.drop H | exact Holds.drop (Holds.drop H) | trivial | assumption) (by intro w_ hw_; first | exact RdW.rd (by assumption) hw_ | exact RdW.rd (by assumption) (Holds.drop hw_) | exact RdW.rd (by assumption) (Holds.drop (Holds.drop hw_)) | exact RdW.rd (by assumption) (Holds.drop (Holds.drop (Holds.drop hw_))) | assumption) rfl ?_
      | refine VcD.loadN tabOk rfl rfl rfl rfl rfl rfl rfl (by first | exact H | exact Holds.drop H | exact Holds.drop (Holds.drop H) | trivial | assumption) (by intro w_ hw_; first | exact hw_ | exact (Holds.f1 hw_) | exact (Holds.f2 hw_) | exact (Holds.f3 hw_) | exact (Holds.f4 hw_) | exact (Holds.f5 hw_) | exact (Holds.f6 hw_)) (by exact rfl) ?_
      | refine VcD.indexAddr0 tabOk rfl rfl rfl rfl rfl rfl rfl (by first | exact H | exact Holds.drop H | exact Holds.drop (Holds.drop H) | trivial | assumption) (by omega) (by omega) ?_
      | refine VcD.indexAddr tabOk rfl rfl rfl rfl rfl rfl rfl (by first | exact H | exact Holds.drop H | exact Holds.drop (Holds.drop H) | trivial | assumption) (by omega) (by omega) ?_
      | refine VcD.indexArr0 tabOk rfl rfl rfl rfl rfl rfl rfl (by first | exact H | exact Holds.drop H | exact Holds.drop (Holds.drop H) | trivial | assumption) (by omega) (by omega) ?_
      | refine VcD.indexArr tabOk rfl rfl rfl rfl rfl rfl rfl (by first | exact H | exact Holds.drop H | exact Holds.drop (Holds.drop H) | trivial | assumption) (by omega) (by omega) ?_
      | refine VcD.eqS tabOk rfl rfl rfl rfl rfl rfl (by first | exact H | exact Holds.drop H | exact Holds.drop (Holds.drop H) | trivial | assumption) rfl (by kernel_rfl) (by kernel_rfl) rfl rfl (by first | exact .inl rfl | exact .inr rfl) ?_
      | (refine VcD.guardT rfl rfl rfl rfl rfl (fun h => ?_) (fun h => ?_) <;> first | (cases h; done) | (exfalso; simp only [decide_eq_true_eq, decide_eq_false_iff_not] at h; omega) | (with_reducible have hp := of_decide_eq_true h) | (with_reducible have hp := of_decide_eq_false h) | (with_reducible have hp := ndec_t h) | (with_reducible have hp := ndec_f h) | skip))
      | (show VcD _ _ _ _ _ (.only _ _) _ _ _; first
      | (refine VcD.callF (f := F_lock_Valid) rfl ok_lock_Valid rfl rfl rfl rfl (Rets.mono (Valid_any H hv.up hl) ?_); rintro _ w ⟨rfl, H⟩; refine ⟨(by first | exact H | exact Holds.drop H | exact Holds.drop (Holds.drop H) | trivial | assumption), ?_⟩)
      | (refine VcD.callF (f := F_lock_isSpan) rfl ok_lock_isSpan rfl rfl rfl rfl (Rets.mono (isSpan_any H s) ?_); rintro _ w ⟨rfl, H⟩; refine ⟨(by first | exact H | exact Holds.drop H | exact Holds.drop (Holds.drop H) | trivial | assumption), ?_⟩)
      | (refine VcD.callF (f := F_lock_meet) rfl ok_lock_meet rfl rfl rfl rfl (Rets.mono (meet_any H _ _) ?_); rintro _ w ⟨rfl, H⟩; refine ⟨(by first | exact H | exact Holds.drop H | exact Holds.drop (Holds.drop H) | trivial | assumption), ?_⟩)
      | (refine VcD.callF (f := F_slices_Clone_api_Span_api_Span) rfl ok_slices_Clone_api_Span_api_Span rfl rfl rfl rfl (Rets.mono (Clone_any H hv.up.up (spC_one l) hl) ?_); rintro _ w H; refine ⟨(by first | exact H | exact Holds.drop H | exact Holds.drop (Holds.drop H) | trivial | assumption), ?_⟩)
      | (refine VcD.callF (f := F_slices_Clone_api_Span_api_Span) rfl ok_slices_Clone_api_Span_api_Span rfl rfl rfl rfl (Rets.mono (Clone_any H hv.up (spC_one l) hl) ?_); rintro _ w H; refine ⟨(by first | exact H | exact Holds.drop H | exact Holds.drop (Holds.drop H) | trivial | assumption), ?_⟩)
      | (refine VcD.callF (f := F_slices_Insert_api_Span_api_Span) rfl ok_slices_Insert_api_Span_api_Span rfl rfl rfl rfl (Rets.mono (Insert_any H (spC_one l) hs1 rfl hk hl) ?_); rintro _ w H; refine ⟨(by first | exact H | exact Holds.drop H | exact Holds.drop (Holds.drop H) | trivial | assumption), ?_⟩)
      | (refine VcD.callF (f := F_slices_Insert_api_Span_api_Span) rfl ok_slices_Insert_api_Span_api_Span rfl rfl rfl rfl (Rets.mono (Insert_any H.swap (spC_one l) hs1 rfl hk hl) ?_); rintro _ w H; refine ⟨(by first | exact H | exact Holds.drop H | exact Holds.drop (Holds.drop H) | trivial | assumption), ?_⟩)
      | (refine VcD.eff rfl rfl rfl rfl (OpE.buildSliceP tabOk H rfl rfl rfl rfl) ?_; rintro _ w ⟨b_, rfl, H⟩; refine ⟨(by first | exact H | exact Holds.drop H | exact Holds.drop (Holds.drop H) | trivial | assumption), ?_⟩)
      | refine VcD.skip rfl rfl rfl (by first | exact H | exact Holds.drop H | exact Holds.drop (Holds.drop H) | trivial | assumption) ?_
      | (refine VcD.guardO rfl rfl rfl rfl rfl (fun h => ?_) (fun h => ?_) <;> first | (cases h; done) | (exfalso; simp only [decide_eq_true_eq, decide_eq_false_iff_not] at h; omega) | (with_reducible have hp := of_decide_eq_true h) | (with_reducible have hp := of_decide_eq_false h) | (with_reducible have hp := ndec_t h) | (with_reducible have hp := ndec_f h) | skip))
      | (show VcD _ _ _ _ _ (.two _ _ _ _) _ _ _; refine VcD.two ?_ ?_))
    | (show EfO _ _ _ _ _ _ _ _ _; first
      | (refine EfO.call (f := F_lock_Valid) rfl rfl rfl rfl (OpC.call ok_lock_Valid rfl) (Rets.mono (Valid_any H hv.up hl) ?_); rintro _ w ⟨rfl, H⟩; refine ⟨(by first | exact H | exact Holds.drop H | exact Holds.drop (Holds.drop H) | trivial | assumption), ?_⟩)
      | (refine EfO.call (f := F_lock_isSpan) rfl rfl rfl rfl (OpC.call ok_lock_isSpan rfl) (Rets.mono (isSpan_any H s) ?_); rintro _ w ⟨rfl, H⟩; refine ⟨(by first | exact H | exact Holds.drop H | exact Holds.drop (Holds.drop H) | trivial | assumption), ?_⟩)
      | (refine EfO.call (f := F_lock_meet) rfl rfl rfl rfl (OpC.call ok_lock_meet rfl) (Rets.mono (meet_any H _ _) ?_); rintro _ w ⟨rfl, H⟩; refine ⟨(by first | exact H | exact Holds.drop H | exact Holds.drop (Holds.drop H) | trivial | assumption), ?_⟩)
      | (refine EfO.call (f := F_slices_Clone_api_Span_api_Span) rfl rfl rfl rfl (OpC.call ok_slices_Clone_api_Span_api_Span rfl) (Rets.mono (Clone_any H hv.up.up (spC_one l) hl) ?_); rintro _ w H; refine ⟨(by first | exact H | exact Holds.drop H | exact Holds.drop (Holds.drop H) | trivial | assumption), ?_⟩)
      | (refine EfO.call (f := F_slices_Clone_api_Span_api_Span) rfl rfl rfl rfl (OpC.call ok_slices_Clone_api_Span_api_Span rfl) (Rets.mono (Clone_any H hv.up (spC_one l) hl) ?_); rintro _ w H; refine ⟨(by first | exact H | exact Holds.drop H | exact Holds.drop (Holds.drop H) | trivial | assumption), ?_⟩)
      | (refine EfO.call (f := F_slices_Insert_api_Span_api_Span) rfl rfl rfl rfl (OpC.call ok_slices_Insert_api_Span_api_Span rfl) (Rets.mono (Insert_any H (spC_one l) hs1 rfl hk hl) ?_); rintro _ w H; refine ⟨(by first | exact H | exact Holds.drop H | exact Holds.drop (Holds.drop H) | trivial | assumption), ?_⟩)
      | (refine EfO.call (f := F_slices_Insert_api_Span_api_Span) rfl rfl rfl rfl (OpC.call ok_slices_Insert_api_Span_api_Span rfl) (Rets.mono (Insert_any H.swap (spC_one l) hs1 rfl hk hl) ?_); rintro _ w H; refine ⟨(by first | exact H | exact Holds.drop H | exact Holds.drop (Holds.drop H) | trivial | assumption), ?_⟩)
      | (refine EfO.eff rfl rfl rfl rfl (OpE.buildSliceP tabOk H rfl rfl rfl rfl) ?_; rintro _ w ⟨b_, rfl, H⟩; refine ⟨(by first | exact H | exact Holds.drop H | exact Holds.drop (Holds.drop H) | trivial | assumption), ?_⟩))
    | (show Vc _ _ _ _ _ _; first
      | refine Vc.seq ?_
      | refine Vc.region ?_
      | refine Vc.condT rfl ?_
      | refine Vc.condF rfl ?_
      | refine Vc.ret ?_
      | refine Vc.skip ?_
      | refine Vc.block ?_
      | refine Vc.exit ?_
      | refine Vc.drawnH (id := 17) H (.take 0 (.take 1 (.take 2 (.take 3 (.take 4 (.take 5 (.take 6 (.take 10 (.take 7 (.take 8 (.take 9 (.take 11 (.take 12 (.take 13 .done)))))))))))))) mixed (by kernel_rfl) (fun w H => ?_)
      | (refine Vc.drawn (id := 19) (.take 0 (.take 2 (.take 3 (.two 1 4 (.only 4 (.only 5 (.take 6 (.take 7 .done)))) (.only 1 (.only 5 (.take 6 (.take 7 .done)))))))) (fun w => Holds I w (blk b 28 (spC s) :: L)) mixed (by kernel_rfl) ?_; have H := H.drew (w.drawn + 1))
      | (refine Vc.cond rfl (fun h => ?_) (fun h => ?_) <;> first | (cases h; done) | (exfalso; simp only [decide_eq_true_eq, decide_eq_false_iff_not] at h; omega) | (with_reducible have hp := of_decide_eq_true h) | (with_reducible have hp := of_decide_eq_false h) | (with_reducible have hp := ndec_t h) | (with_reducible have hp := ndec_f h) | skip))
    | (show KSeq _ _ _ _ _ _ _; first
      | refine KSeq.normal ?_
      | refine KSeq.ret ?_
      | refine KSeq.exit ?_)
    | (show KBlock _ _ _ _ _; first
      | refine KBlock.normal ?_
      | refine KBlock.here ?_
      | refine KBlock.on rfl ?_
      | refine KBlock.ret ?_)
    | refine KLoop.exit ?_
    | refine KLoop.ret ?_
    | refine KCut.exit ?_
    | refine KCut.ret ?_
    | (show KEnd _ _ _ _ _ _; first
      | refine KEnd.mk (Or.inr rfl) ⟨_, (ResL.tmp rfl (ResL.tmp rfl ResL.nil)), ?_⟩
      | refine KEnd.mk (Or.inl rfl) ⟨_, (ResL.tmp rfl (ResL.tmp rfl ResL.nil)), ?_⟩))
  · have e1 : lockE l s = 2 := by unfold lockE; rw [if_neg (by simp_all)]
    have e2 : lockL l s = [] := by unfold lockL; rw [e1]; rfl
    rw [e1, e2]
    exact ⟨_, rfl, H.drop.own_nil⟩
  · have e1 : lockE l s = 2 := by unfold lockE; rw [if_neg (by simp_all)]
    have e2 : lockL l s = [] := by unfold lockL; rw [e1]; rfl
    rw [e1, e2]
    exact ⟨_, rfl, H.drop.own_nil⟩
  have hval : validS l = true := by simp_all
  have hsp : isSp s = true := by simp_all
  refine Vc.loopS [(0, _), (3, _), (18, _), (19, _)] (fun k : Nat => [(6, .bool ((l.take k).any (meetS s))), (20, .int .i64 k)]) (fun k w => Holds I w (blk b 28 (spC s) :: L) ∧ k ≤ l.length ∧ (l.take k).any (fun t => meetS s t && !decide (t.by' = s.by')) = false) (fun k _ => l.length - k) 0 ⟨rfl, rfl, trivial⟩ ⟨rfl, rfl, rfl, rfl, trivial⟩ ⟨H, Nat.zero_le _, rfl⟩ ?_
  rintro k w ⟨H, hk, hall⟩
  by_cases hlt : k < l.length
  · obtain ⟨b2, o, rfl, hr⟩ := hv.at (by omega)
    have hx := hr.elem spC_len (spAt_get hlt)
    have ht1 := any_take_succ (p := meetS s) hlt
    have ht2 := any_take_succ (p := fun t => meetS s t && !decide (t.by' = s.by')) hlt
    repeat' (first
      | (show VcL _ _ _ _ _ _ _ _; first
      | refine VcL.pures tabOk rfl ?_
      | refine VcL.nil ?_
      | (show VcL _ _ _ _ (⟨_, .load _ _, _, _, _, _⟩ :: _) _ _ _; first
      | refine VcL.load1 tabOk rfl rfl rfl rfl rfl (by first | exact Holds.cell H rfl | exact Holds.cell (Holds.f1 H) rfl | exact Holds.cell (Holds.f2 H) rfl | exact Holds.cell (Holds.f3 H) rfl | exact Holds.cell (Holds.f4 H) rfl | exact Holds.cell (Holds.f5 H) rfl | exact Holds.cell (Holds.f6 H) rfl | exact RdW.get (by assumption) rfl H | exact RdW.get0 (by assumption) rfl H | exact RdW.get (by assumption) rfl (Holds.drop H) | exact RdW.get0 (by assumption) rfl (Holds.drop H) | exact RdW.get (by assumption) rfl (Holds.drop (Holds.drop H)) | exact RdW.get0 (by assumption) rfl (Holds.drop (Holds.drop H)) | exact RdW.get (by assumption) rfl (Holds.drop (Holds.drop (Holds.drop H))) | exact RdW.get0 (by assumption) rfl (Holds.drop (Holds.drop (Holds.drop H))) | assumption) ?_
      | refine VcL.loadR tabOk rfl rfl rfl rfl rfl rfl (by first | exact RdW.rd (by assumption) H | exact RdW.rd (by assumption) (Holds.drop H) | exact RdW.rd (by assumption) (Holds.drop (Holds.drop H)) | exact RdW.rd (by assumption) (Holds.drop (Holds.drop (Holds.drop H))) | assumption) rfl ?_
      | refine VcL.loadN tabOk rfl rfl rfl rfl rfl rfl (by first | exact H | exact (Holds.f1 H) | exact (Holds.f2 H) | exact (Holds.f3 H) | exact (Holds.f4 H) | exact (Holds.f5 H) | exact (Holds.f6 H)) (by exact rfl) ?_)
      | (show VcL _ _ _ _ (⟨_, .binOp _ _ _ _ _, _, _, _, _⟩ :: _) _ _ _; first
      | refine VcL.eqS tabOk rfl rfl rfl rfl rfl rfl (by kernel_rfl) (by kernel_rfl) rfl rfl (by first | exact .inl rfl | exact .inr rfl) ?_)
      | (show VcL _ _ _ _ (⟨_, .indexAddr _ _ _, _, _, _, _⟩ :: _) _ _ _; first
      | refine VcL.indexAddr0 tabOk rfl rfl rfl rfl rfl rfl (by omega) (by omega) ?_
      | refine VcL.indexAddr tabOk rfl rfl rfl rfl rfl rfl (by omega) (by omega) ?_
      | refine VcL.indexArr0 tabOk rfl rfl rfl rfl rfl rfl (by omega) (by omega) ?_
      | refine VcL.indexArr tabOk rfl rfl rfl rfl rfl rfl (by omega) (by omega) ?_)
      | refine VcL.box H rfl rfl rfl rfl rfl (fun b w H => ?_)
      | refine VcL.alloc tabOk H rfl rfl rfl rfl (fun b w H => ?_)
      | refine VcL.buildSlice tabOk H rfl rfl rfl rfl rfl rfl (fun sv w H => ?_)
      | (show VcL _ _ _ _ (⟨_, .store _ _ _, _, _, _, _⟩ :: _) _ _ _; first
      | refine VcL.store tabOk rfl (by first | exact H | exact (Holds.f1 H) | exact (Holds.f2 H) | exact (Holds.f3 H) | exact (Holds.f4 H) | exact (Holds.f5 H) | exact (Holds.f6 H)) rfl rfl (by exact rfl) (by exact rfl) (by exact rfl) (by exact rfl) (fun w H => ?_))
      | (show VcL _ _ _ _ (⟨_, .call ⟨.value (.func F_lock_Valid), _, _⟩, _, _, _, _⟩ :: _) _ _ _; first
      | (refine VcL.callF ok_lock_Valid rfl rfl rfl rfl (Rets.mono (Valid_any H hv.up hl) ?_); rintro _ w ⟨rfl, H⟩))
      | (show VcL _ _ _ _ (⟨_, .call ⟨.value (.func F_lock_isSpan), _, _⟩, _, _, _, _⟩ :: _) _ _ _; first
      | (refine VcL.callF ok_lock_isSpan rfl rfl rfl rfl (Rets.mono (isSpan_any H s) ?_); rintro _ w ⟨rfl, H⟩))
      | (show VcL _ _ _ _ (⟨_, .call ⟨.value (.func F_lock_meet), _, _⟩, _, _, _, _⟩ :: _) _ _ _; first
      | (refine VcL.callF ok_lock_meet rfl rfl rfl rfl (Rets.mono (meet_any H _ _) ?_); rintro _ w ⟨rfl, H⟩))
      | (show VcL _ _ _ _ (⟨_, .call ⟨.value (.func F_slices_Clone_api_Span_api_Span), _, _⟩, _, _, _, _⟩ :: _) _ _ _; first
      | (refine VcL.callF ok_slices_Clone_api_Span_api_Span rfl rfl rfl rfl (Rets.mono (Clone_any H hv.up.up (spC_one l) hl) ?_); rintro _ w H))
      | (show VcL _ _ _ _ (⟨_, .call ⟨.value (.func F_slices_Clone_api_Span_api_Span), _, _⟩, _, _, _, _⟩ :: _) _ _ _; first
      | (refine VcL.callF ok_slices_Clone_api_Span_api_Span rfl rfl rfl rfl (Rets.mono (Clone_any H hv.up (spC_one l) hl) ?_); rintro _ w H))
      | (show VcL _ _ _ _ (⟨_, .call ⟨.value (.func F_slices_Insert_api_Span_api_Span), _, _⟩, _, _, _, _⟩ :: _) _ _ _; first
      | (refine VcL.callF ok_slices_Insert_api_Span_api_Span rfl rfl rfl rfl (Rets.mono (Insert_any H (spC_one l) hs1 rfl hk hl) ?_); rintro _ w H))
      | (show VcL _ _ _ _ (⟨_, .call ⟨.value (.func F_slices_Insert_api_Span_api_Span), _, _⟩, _, _, _, _⟩ :: _) _ _ _; first
      | (refine VcL.callF ok_slices_Insert_api_Span_api_Span rfl rfl rfl rfl (Rets.mono (Insert_any H.swap (spC_one l) hs1 rfl hk hl) ?_); rintro _ w H))
      | (refine VcL.guard rfl rfl rfl rfl (fun h => ?_) (fun h => ?_) <;> first | (cases h; done) | (exfalso; simp only [decide_eq_true_eq, decide_eq_false_iff_not] at h; omega) | (with_reducible have hp := of_decide_eq_true h) | (with_reducible have hp := of_decide_eq_false h) | (with_reducible have hp := ndec_t h) | (with_reducible have hp := ndec_f h) | skip))
      | (show VcD _ _ _ _ _ _ _ _ _; first
      | refine VcD.pures tabOk (by first | exact H | exact Holds.drop H | exact Holds.drop (Holds.drop H) | trivial | assumption) rfl ?_
      | refine VcD.done ?_
      | (show VcD _ _ _ _ _ (.take _ _) _ _ _; first
      | refine VcD.load1 tabOk rfl rfl rfl rfl rfl rfl (by first | exact H | exact Holds.drop H | exact Holds.drop (Holds.drop H) | trivial | assumption) (by intro w_ hw_; first | exact Holds.cell hw_ rfl | exact Holds.cell (Holds.f1 hw_) rfl | exact Holds.cell (Holds.f2 hw_) rfl | exact Holds.cell (Holds.f3 hw_) rfl | exact Holds.cell (Holds.f4 hw_) rfl | exact Holds.cell (Holds.f5 hw_) rfl | exact Holds.cell (Holds.f6 hw_) rfl | exact RdW.get (by assumption) rfl hw_ | exact RdW.get0 (by assumption) rfl hw_ | exact RdW.get (by assumption) rfl (Holds.drop hw_) | exact RdW.get0 (by assumption) rfl (Holds.drop hw_) | exact RdW.get (by assumption) rfl (Holds.drop (Holds.drop hw_)) | exact RdW.get0 (by assumption) rfl (Holds.drop (Holds.drop hw_)) | exact RdW.get (by assumption) rfl (Holds.drop (Holds.drop (Holds.drop hw_))) | exact RdW.get0 (by assumption) rfl (Holds.drop (Holds.drop (Holds.drop hw_))) | assumption) (by exact rfl) ?_
      | refine VcD.loadR tabOk rfl rfl rfl rfl rfl rfl rfl (by first | exact H | exact Holds.drop H | exact Holds.drop (Holds.drop H) | trivial | assumption) (by intro w_ hw_; first | exact RdW.rd (by assumption) hw_ | exact RdW.rd (by assumption) (Holds.drop hw_) | exact RdW.rd (by assumption) (Holds.drop (Holds.drop hw_)) | exact RdW.rd (by assumption) (Holds.drop (Holds.drop (Holds.drop hw_))) | assumption) rfl ?_
      | refine VcD.loadN tabOk rfl rfl rfl rfl rfl rfl rfl (by first | exact H | exact Holds.drop H | exact Holds.drop (Holds.drop H) | trivial | assumption) (by intro w_ hw_; first | exact hw_ | exact (Holds.f1 hw_) | exact (Holds.f2 hw_) | exact (Holds.f3 hw_) | exact (Holds.f4 hw_) | exact (Holds.f5 hw_) | exact (Holds.f6 hw_)) (by exact rfl) ?_
      | refine VcD.indexAddr0 tabOk rfl rfl rfl rfl rfl rfl rfl (by first | exact H | exact Holds.drop H | exact Holds.drop (Holds.drop H) | trivial | assumption) (by omega) (by omega) ?_
      | refine VcD.indexAddr tabOk rfl rfl rfl rfl rfl rfl rfl (by first | exact H | exact Holds.drop H | exact Holds.drop (Holds.drop H) | trivial | assumption) (by omega) (by omega) ?_
      | refine VcD.indexArr0 tabOk rfl rfl rfl rfl rfl rfl rfl (by first | exact H | exact Holds.drop H | exact Holds.drop (Holds.drop H) | trivial | assumption) (by omega) (by omega) ?_
      | refine VcD.indexArr tabOk rfl rfl rfl rfl rfl rfl rfl (by first | exact H | exact Holds.drop H | exact Holds.drop (Holds.drop H) | trivial | assumption) (by omega) (by omega) ?_
      | refine VcD.eqS tabOk rfl rfl rfl rfl rfl rfl (by first | exact H | exact Holds.drop H | exact Holds.drop (Holds.drop H) | trivial | assumption) rfl (by kernel_rfl) (by kernel_rfl) rfl rfl (by first | exact .inl rfl | exact .inr rfl) ?_
      | (refine VcD.guardT rfl rfl rfl rfl rfl (fun h => ?_) (fun h => ?_) <;> first | (cases h; done) | (exfalso; simp only [decide_eq_true_eq, decide_eq_false_iff_not] at h; omega) | (with_reducible have hp := of_decide_eq_true h) | (with_reducible have hp := of_decide_eq_false h) | (with_reducible have hp := ndec_t h) | (with_reducible have hp := ndec_f h) | skip))
      | (show VcD _ _ _ _ _ (.only _ _) _ _ _; first
      | (refine VcD.callF (f := F_lock_Valid) rfl ok_lock_Valid rfl rfl rfl rfl (Rets.mono (Valid_any H hv.up hl) ?_); rintro _ w ⟨rfl, H⟩; refine ⟨(by first | exact H | exact Holds.drop H | exact Holds.drop (Holds.drop H) | trivial | assumption), ?_⟩)
      | (refine VcD.callF (f := F_lock_isSpan) rfl ok_lock_isSpan rfl rfl rfl rfl (Rets.mono (isSpan_any H s) ?_); rintro _ w ⟨rfl, H⟩; refine ⟨(by first | exact H | exact Holds.drop H | exact Holds.drop (Holds.drop H) | trivial | assumption), ?_⟩)
      | (refine VcD.callF (f := F_lock_meet) rfl ok_lock_meet rfl rfl rfl rfl (Rets.mono (meet_any H _ _) ?_); rintro _ w ⟨rfl, H⟩; refine ⟨(by first | exact H | exact Holds.drop H | exact Holds.drop (Holds.drop H) | trivial | assumption), ?_⟩)
      | (refine VcD.callF (f := F_slices_Clone_api_Span_api_Span) rfl ok_slices_Clone_api_Span_api_Span rfl rfl rfl rfl (Rets.mono (Clone_any H hv.up.up (spC_one l) hl) ?_); rintro _ w H; refine ⟨(by first | exact H | exact Holds.drop H | exact Holds.drop (Holds.drop H) | trivial | assumption), ?_⟩)
      | (refine VcD.callF (f := F_slices_Clone_api_Span_api_Span) rfl ok_slices_Clone_api_Span_api_Span rfl rfl rfl rfl (Rets.mono (Clone_any H hv.up (spC_one l) hl) ?_); rintro _ w H; refine ⟨(by first | exact H | exact Holds.drop H | exact Holds.drop (Holds.drop H) | trivial | assumption), ?_⟩)
      | (refine VcD.callF (f := F_slices_Insert_api_Span_api_Span) rfl ok_slices_Insert_api_Span_api_Span rfl rfl rfl rfl (Rets.mono (Insert_any H (spC_one l) hs1 rfl hk hl) ?_); rintro _ w H; refine ⟨(by first | exact H | exact Holds.drop H | exact Holds.drop (Holds.drop H) | trivial | assumption), ?_⟩)
      | (refine VcD.callF (f := F_slices_Insert_api_Span_api_Span) rfl ok_slices_Insert_api_Span_api_Span rfl rfl rfl rfl (Rets.mono (Insert_any H.swap (spC_one l) hs1 rfl hk hl) ?_); rintro _ w H; refine ⟨(by first | exact H | exact Holds.drop H | exact Holds.drop (Holds.drop H) | trivial | assumption), ?_⟩)
      | (refine VcD.eff rfl rfl rfl rfl (OpE.buildSliceP tabOk H rfl rfl rfl rfl) ?_; rintro _ w ⟨b_, rfl, H⟩; refine ⟨(by first | exact H | exact Holds.drop H | exact Holds.drop (Holds.drop H) | trivial | assumption), ?_⟩)
      | refine VcD.skip rfl rfl rfl (by first | exact H | exact Holds.drop H | exact Holds.drop (Holds.drop H) | trivial | assumption) ?_
      | (refine VcD.guardO rfl rfl rfl rfl rfl (fun h => ?_) (fun h => ?_) <;> first | (cases h; done) | (exfalso; simp only [decide_eq_true_eq, decide_eq_false_iff_not] at h; omega) | (with_reducible have hp := of_decide_eq_true h) | (with_reducible have hp := of_decide_eq_false h) | (with_reducible have hp := ndec_t h) | (with_reducible have hp := ndec_f h) | skip))
      | (show VcD _ _ _ _ _ (.two _ _ _ _) _ _ _; refine VcD.two ?_ ?_))
      | (show EfO _ _ _ _ _ _ _ _ _; first
      | (refine EfO.call (f := F_lock_Valid) rfl rfl rfl rfl (OpC.call ok_lock_Valid rfl) (Rets.mono (Valid_any H hv.up hl) ?_); rintro _ w ⟨rfl, H⟩; refine ⟨(by first | exact H | exact Holds.drop H | exact Holds.drop (Holds.drop H) | trivial | assumption), ?_⟩)
      | (refine EfO.call (f := F_lock_isSpan) rfl rfl rfl rfl (OpC.call ok_lock_isSpan rfl) (Rets.mono (isSpan_any H s) ?_); rintro _ w ⟨rfl, H⟩; refine ⟨(by first | exact H | exact Holds.drop H | exact Holds.drop (Holds.drop H) | trivial | assumption), ?_⟩)
      | (refine EfO.call (f := F_lock_meet) rfl rfl rfl rfl (OpC.call ok_lock_meet rfl) (Rets.mono (meet_any H _ _) ?_); rintro _ w ⟨rfl, H⟩; refine ⟨(by first | exact H | exact Holds.drop H | exact Holds.drop (Holds.drop H) | trivial | assumption), ?_⟩)
      | (refine EfO.call (f := F_slices_Clone_api_Span_api_Span) rfl rfl rfl rfl (OpC.call ok_slices_Clone_api_Span_api_Span rfl) (Rets.mono (Clone_any H hv.up.up (spC_one l) hl) ?_); rintro _ w H; refine ⟨(by first | exact H | exact Holds.drop H | exact Holds.drop (Holds.drop H) | trivial | assumption), ?_⟩)
      | (refine EfO.call (f := F_slices_Clone_api_Span_api_Span) rfl rfl rfl rfl (OpC.call ok_slices_Clone_api_Span_api_Span rfl) (Rets.mono (Clone_any H hv.up (spC_one l) hl) ?_); rintro _ w H; refine ⟨(by first | exact H | exact Holds.drop H | exact Holds.drop (Holds.drop H) | trivial | assumption), ?_⟩)
      | (refine EfO.call (f := F_slices_Insert_api_Span_api_Span) rfl rfl rfl rfl (OpC.call ok_slices_Insert_api_Span_api_Span rfl) (Rets.mono (Insert_any H (spC_one l) hs1 rfl hk hl) ?_); rintro _ w H; refine ⟨(by first | exact H | exact Holds.drop H | exact Holds.drop (Holds.drop H) | trivial | assumption), ?_⟩)
      | (refine EfO.call (f := F_slices_Insert_api_Span_api_Span) rfl rfl rfl rfl (OpC.call ok_slices_Insert_api_Span_api_Span rfl) (Rets.mono (Insert_any H.swap (spC_one l) hs1 rfl hk hl) ?_); rintro _ w H; refine ⟨(by first | exact H | exact Holds.drop H | exact Holds.drop (Holds.drop H) | trivial | assumption), ?_⟩)
      | (refine EfO.eff rfl rfl rfl rfl (OpE.buildSliceP tabOk H rfl rfl rfl rfl) ?_; rintro _ w ⟨b_, rfl, H⟩; refine ⟨(by first | exact H | exact Holds.drop H | exact Holds.drop (Holds.drop H) | trivial | assumption), ?_⟩))
      | (show Vc _ _ _ _ _ _; first
      | refine Vc.seq ?_
      | refine Vc.region ?_
      | refine Vc.condT rfl ?_
      | refine Vc.condF rfl ?_
      | refine Vc.ret ?_
      | refine Vc.skip ?_
      | refine Vc.block ?_
      | refine Vc.exit ?_
      | refine Vc.drawnH (id := 17) H (.take 0 (.take 1 (.take 2 (.take 3 (.take 4 (.take 5 (.take 6 (.take 10 (.take 7 (.take 8 (.take 9 (.take 11 (.take 12 (.take 13 .done)))))))))))))) mixed (by kernel_rfl) (fun w H => ?_)
      | (refine Vc.drawn (id := 19) (.take 0 (.take 2 (.take 3 (.two 1 4 (.only 4 (.only 5 (.take 6 (.take 7 .done)))) (.only 1 (.only 5 (.take 6 (.take 7 .done)))))))) (fun w => Holds I w (blk b 28 (spC s) :: L)) mixed (by kernel_rfl) ?_; have H := H.drew (w.drawn + 1))
      | (refine Vc.cond rfl (fun h => ?_) (fun h => ?_) <;> first | (cases h; done) | (exfalso; simp only [decide_eq_true_eq, decide_eq_false_iff_not] at h; omega) | (with_reducible have hp := of_decide_eq_true h) | (with_reducible have hp := of_decide_eq_false h) | (with_reducible have hp := ndec_t h) | (with_reducible have hp := ndec_f h) | skip))
      | (show KSeq _ _ _ _ _ _ _; first
      | refine KSeq.normal ?_
      | refine KSeq.ret ?_
      | refine KSeq.exit ?_)
      | (show KBlock _ _ _ _ _; first
      | refine KBlock.normal ?_
      | refine KBlock.here ?_
      | refine KBlock.on rfl ?_
      | refine KBlock.ret ?_)
      | refine KLoop.exit ?_
      | refine KLoop.ret ?_
      | refine KCut.exit ?_
      | refine KCut.ret ?_
      | (show KEnd _ _ _ _ _ _; first
      | refine KEnd.mk (Or.inr rfl) ⟨_, (ResL.tmp rfl (ResL.tmp rfl ResL.nil)), ?_⟩
      | refine KEnd.mk (Or.inl rfl) ⟨_, (ResL.tmp rfl (ResL.tmp rfl ResL.nil)), ?_⟩))
    · have hm : meetS s (spAt l k) = false := by simpa using h
      refine KLoop.again (k + 1) ⟨by show _ = some (Value.bool ((l.take (k + 1)).any (meetS s))); rw [ht1, hm, Bool.or_false]; rfl, got_succ rfl (by omega), trivial⟩ ⟨rfl, rfl, rfl, rfl, trivial⟩ ⟨H.drop, hlt, by rw [ht2, hall, hm]; rfl⟩ (by omega)
    · have hm : (l.take (k + 1)).any (fun t => meetS s t && !decide (t.by' = s.by')) = true := by rw [ht2]; simp_all
      have hm2 : l.any (fun t => meetS s t && !decide (t.by' = s.by')) = true := by
        rw [List.any_eq_true] at hm ⊢
        obtain ⟨x, hx1, hx2⟩ := hm
        exact ⟨x, List.mem_of_mem_take hx1, hx2⟩
      have e1 : lockE l s = 201 := by unfold lockE; rw [if_pos (by simp_all), if_pos hm2]
      have e2 : lockL l s = [] := by unfold lockL; rw [e1]; rfl
      rw [e1, e2]
      exact ⟨_, rfl, H.drop.drop.own_nil⟩
    · have hm : meetS s (spAt l k) = true := by simp_all
      refine KLoop.again (k + 1) ⟨by show _ = some (Value.bool ((l.take (k + 1)).any (meetS s))); rw [ht1, hm, Bool.or_true]; rfl, got_succ rfl (by omega), trivial⟩ ⟨rfl, rfl, rfl, rfl, trivial⟩ ⟨H.drop, hlt, by rw [ht2, hall]; simp_all⟩ (by omega)
  · obtain rfl : k = l.length := by omega
    rw [List.take_length] at hall
    rw [List.take_length]
    repeat' (first
      | (show VcL _ _ _ _ _ _ _ _; first
      | refine VcL.pures tabOk rfl ?_
      | refine VcL.nil ?_
      | (show VcL _ _ _ _ (⟨_, .load _ _, _, _, _, _⟩ :: _) _ _ _; first
      | refine VcL.load1 tabOk rfl rfl rfl rfl rfl (by first | exact Holds.cell H rfl | exact Holds.cell (Holds.f1 H) rfl | exact Holds.cell (Holds.f2 H) rfl | exact Holds.cell (Holds.f3 H) rfl | exact Holds.cell (Holds.f4 H) rfl | exact Holds.cell (Holds.f5 H) rfl | exact Holds.cell (Holds.f6 H) rfl | exact RdW.get (by assumption) rfl H | exact RdW.get0 (by assumption) rfl H | exact RdW.get (by assumption) rfl (Holds.drop H) | exact RdW.get0 (by assumption) rfl (Holds.drop H) | exact RdW.get (by assumption) rfl (Holds.drop (Holds.drop H)) | exact RdW.get0 (by assumption) rfl (Holds.drop (Holds.drop H)) | exact RdW.get (by assumption) rfl (Holds.drop (Holds.drop (Holds.drop H))) | exact RdW.get0 (by assumption) rfl (Holds.drop (Holds.drop (Holds.drop H))) | assumption) ?_
      | refine VcL.loadR tabOk rfl rfl rfl rfl rfl rfl (by first | exact RdW.rd (by assumption) H | exact RdW.rd (by assumption) (Holds.drop H) | exact RdW.rd (by assumption) (Holds.drop (Holds.drop H)) | exact RdW.rd (by assumption) (Holds.drop (Holds.drop (Holds.drop H))) | assumption) rfl ?_
      | refine VcL.loadN tabOk rfl rfl rfl rfl rfl rfl (by first | exact H | exact (Holds.f1 H) | exact (Holds.f2 H) | exact (Holds.f3 H) | exact (Holds.f4 H) | exact (Holds.f5 H) | exact (Holds.f6 H)) (by exact rfl) ?_)
      | (show VcL _ _ _ _ (⟨_, .binOp _ _ _ _ _, _, _, _, _⟩ :: _) _ _ _; first
      | refine VcL.eqS tabOk rfl rfl rfl rfl rfl rfl (by kernel_rfl) (by kernel_rfl) rfl rfl (by first | exact .inl rfl | exact .inr rfl) ?_)
      | (show VcL _ _ _ _ (⟨_, .indexAddr _ _ _, _, _, _, _⟩ :: _) _ _ _; first
      | refine VcL.indexAddr0 tabOk rfl rfl rfl rfl rfl rfl (by omega) (by omega) ?_
      | refine VcL.indexAddr tabOk rfl rfl rfl rfl rfl rfl (by omega) (by omega) ?_
      | refine VcL.indexArr0 tabOk rfl rfl rfl rfl rfl rfl (by omega) (by omega) ?_
      | refine VcL.indexArr tabOk rfl rfl rfl rfl rfl rfl (by omega) (by omega) ?_)
      | refine VcL.box H rfl rfl rfl rfl rfl (fun b w H => ?_)
      | refine VcL.alloc tabOk H rfl rfl rfl rfl (fun b w H => ?_)
      | refine VcL.buildSlice tabOk H rfl rfl rfl rfl rfl rfl (fun sv w H => ?_)
      | (show VcL _ _ _ _ (⟨_, .store _ _ _, _, _, _, _⟩ :: _) _ _ _; first
      | refine VcL.store tabOk rfl (by first | exact H | exact (Holds.f1 H) | exact (Holds.f2 H) | exact (Holds.f3 H) | exact (Holds.f4 H) | exact (Holds.f5 H) | exact (Holds.f6 H)) rfl rfl (by exact rfl) (by exact rfl) (by exact rfl) (by exact rfl) (fun w H => ?_))
      | (show VcL _ _ _ _ (⟨_, .call ⟨.value (.func F_lock_Valid), _, _⟩, _, _, _, _⟩ :: _) _ _ _; first
      | (refine VcL.callF ok_lock_Valid rfl rfl rfl rfl (Rets.mono (Valid_any H hv.up hl) ?_); rintro _ w ⟨rfl, H⟩))
      | (show VcL _ _ _ _ (⟨_, .call ⟨.value (.func F_lock_isSpan), _, _⟩, _, _, _, _⟩ :: _) _ _ _; first
      | (refine VcL.callF ok_lock_isSpan rfl rfl rfl rfl (Rets.mono (isSpan_any H s) ?_); rintro _ w ⟨rfl, H⟩))
      | (show VcL _ _ _ _ (⟨_, .call ⟨.value (.func F_lock_meet), _, _⟩, _, _, _, _⟩ :: _) _ _ _; first
      | (refine VcL.callF ok_lock_meet rfl rfl rfl rfl (Rets.mono (meet_any H _ _) ?_); rintro _ w ⟨rfl, H⟩))
      | (show VcL _ _ _ _ (⟨_, .call ⟨.value (.func F_slices_Clone_api_Span_api_Span), _, _⟩, _, _, _, _⟩ :: _) _ _ _; first
      | (refine VcL.callF ok_slices_Clone_api_Span_api_Span rfl rfl rfl rfl (Rets.mono (Clone_any H hv.up.up (spC_one l) hl) ?_); rintro _ w H))
      | (show VcL _ _ _ _ (⟨_, .call ⟨.value (.func F_slices_Clone_api_Span_api_Span), _, _⟩, _, _, _, _⟩ :: _) _ _ _; first
      | (refine VcL.callF ok_slices_Clone_api_Span_api_Span rfl rfl rfl rfl (Rets.mono (Clone_any H hv.up (spC_one l) hl) ?_); rintro _ w H))
      | (show VcL _ _ _ _ (⟨_, .call ⟨.value (.func F_slices_Insert_api_Span_api_Span), _, _⟩, _, _, _, _⟩ :: _) _ _ _; first
      | (refine VcL.callF ok_slices_Insert_api_Span_api_Span rfl rfl rfl rfl (Rets.mono (Insert_any H (spC_one l) hs1 rfl hk hl) ?_); rintro _ w H))
      | (show VcL _ _ _ _ (⟨_, .call ⟨.value (.func F_slices_Insert_api_Span_api_Span), _, _⟩, _, _, _, _⟩ :: _) _ _ _; first
      | (refine VcL.callF ok_slices_Insert_api_Span_api_Span rfl rfl rfl rfl (Rets.mono (Insert_any H.swap (spC_one l) hs1 rfl hk hl) ?_); rintro _ w H))
      | (refine VcL.guard rfl rfl rfl rfl (fun h => ?_) (fun h => ?_) <;> first | (cases h; done) | (exfalso; simp only [decide_eq_true_eq, decide_eq_false_iff_not] at h; omega) | (with_reducible have hp := of_decide_eq_true h) | (with_reducible have hp := of_decide_eq_false h) | (with_reducible have hp := ndec_t h) | (with_reducible have hp := ndec_f h) | skip))
      | (show VcD _ _ _ _ _ _ _ _ _; first
      | refine VcD.pures tabOk (by first | exact H | exact Holds.drop H | exact Holds.drop (Holds.drop H) | trivial | assumption) rfl ?_
      | refine VcD.done ?_
      | (show VcD _ _ _ _ _ (.take _ _) _ _ _; first
      | refine VcD.load1 tabOk rfl rfl rfl rfl rfl rfl (by first | exact H | exact Holds.drop H | exact Holds.drop (Holds.drop H) | trivial | assumption) (by intro w_ hw_; first | exact Holds.cell hw_ rfl | exact Holds.cell (Holds.f1 hw_) rfl | exact Holds.cell (Holds.f2 hw_) rfl | exact Holds.cell (Holds.f3 hw_) rfl | exact Holds.cell (Holds.f4 hw_) rfl | exact Holds.cell (Holds.f5 hw_) rfl | exact Holds.cell (Holds.f6 hw_) rfl | exact RdW.get (by assumption) rfl hw_ | exact RdW.get0 (by assumption) rfl hw_ | exact RdW.get (by assumption) rfl (Holds.drop hw_) | exact RdW.get0 (by assumption) rfl (Holds.drop hw_) | exact RdW.get (by assumption) rfl (Holds.drop (Holds.drop hw_)) | exact RdW.get0 (by assumption) rfl (Holds.drop (Holds.drop hw_)) | exact RdW.get (by assumption) rfl (Holds.drop (Holds.drop (Holds.drop hw_))) | exact RdW.get0 (by assumption) rfl (Holds.drop (Holds.drop (Holds.drop hw_))) | assumption) (by exact rfl) ?_
      | refine VcD.loadR tabOk rfl rfl rfl rfl rfl rfl rfl (by first | exact H | exact Holds.drop H | exact Holds.drop (Holds.drop H) | trivial | assumption) (by intro w_ hw_; first | exact RdW.rd (by assumption) hw_ | exact RdW.rd (by assumption) (Holds.drop hw_) | exact RdW.rd (by assumption) (Holds.drop (Holds.drop hw_)) | exact RdW.rd (by assumption) (Holds.drop (Holds.drop (Holds.drop hw_))) | assumption) rfl ?_
      | refine VcD.loadN tabOk rfl rfl rfl rfl rfl rfl rfl (by first | exact H | exact Holds.drop H | exact Holds.drop (Holds.drop H) | trivial | assumption) (by intro w_ hw_; first | exact hw_ | exact (Holds.f1 hw_) | exact (Holds.f2 hw_) | exact (Holds.f3 hw_) | exact (Holds.f4 hw_) | exact (Holds.f5 hw_) | exact (Holds.f6 hw_)) (by exact rfl) ?_
      | refine VcD.indexAddr0 tabOk rfl rfl rfl rfl rfl rfl rfl (by first | exact H | exact Holds.drop H | exact Holds.drop (Holds.drop H) | trivial | assumption) (by omega) (by omega) ?_
      | refine VcD.indexAddr tabOk rfl rfl rfl rfl rfl rfl rfl (by first | exact H | exact Holds.drop H | exact Holds.drop (Holds.drop H) | trivial | assumption) (by omega) (by omega) ?_
      | refine VcD.indexArr0 tabOk rfl rfl rfl rfl rfl rfl rfl (by first | exact H | exact Holds.drop H | exact Holds.drop (Holds.drop H) | trivial | assumption) (by omega) (by omega) ?_
      | refine VcD.indexArr tabOk rfl rfl rfl rfl rfl rfl rfl (by first | exact H | exact Holds.drop H | exact Holds.drop (Holds.drop H) | trivial | assumption) (by omega) (by omega) ?_
      | refine VcD.eqS tabOk rfl rfl rfl rfl rfl rfl (by first | exact H | exact Holds.drop H | exact Holds.drop (Holds.drop H) | trivial | assumption) rfl (by kernel_rfl) (by kernel_rfl) rfl rfl (by first | exact .inl rfl | exact .inr rfl) ?_
      | (refine VcD.guardT rfl rfl rfl rfl rfl (fun h => ?_) (fun h => ?_) <;> first | (cases h; done) | (exfalso; simp only [decide_eq_true_eq, decide_eq_false_iff_not] at h; omega) | (with_reducible have hp := of_decide_eq_true h) | (with_reducible have hp := of_decide_eq_false h) | (with_reducible have hp := ndec_t h) | (with_reducible have hp := ndec_f h) | skip))
      | (show VcD _ _ _ _ _ (.only _ _) _ _ _; first
      | (refine VcD.callF (f := F_lock_Valid) rfl ok_lock_Valid rfl rfl rfl rfl (Rets.mono (Valid_any H hv.up hl) ?_); rintro _ w ⟨rfl, H⟩; refine ⟨(by first | exact H | exact Holds.drop H | exact Holds.drop (Holds.drop H) | trivial | assumption), ?_⟩)
      | (refine VcD.callF (f := F_lock_isSpan) rfl ok_lock_isSpan rfl rfl rfl rfl (Rets.mono (isSpan_any H s) ?_); rintro _ w ⟨rfl, H⟩; refine ⟨(by first | exact H | exact Holds.drop H | exact Holds.drop (Holds.drop H) | trivial | assumption), ?_⟩)
      | (refine VcD.callF (f := F_lock_meet) rfl ok_lock_meet rfl rfl rfl rfl (Rets.mono (meet_any H _ _) ?_); rintro _ w ⟨rfl, H⟩; refine ⟨(by first | exact H | exact Holds.drop H | exact Holds.drop (Holds.drop H) | trivial | assumption), ?_⟩)
      | (refine VcD.callF (f := F_slices_Clone_api_Span_api_Span) rfl ok_slices_Clone_api_Span_api_Span rfl rfl rfl rfl (Rets.mono (Clone_any H hv.up.up (spC_one l) hl) ?_); rintro _ w H; refine ⟨(by first | exact H | exact Holds.drop H | exact Holds.drop (Holds.drop H) | trivial | assumption), ?_⟩)
      | (refine VcD.callF (f := F_slices_Clone_api_Span_api_Span) rfl ok_slices_Clone_api_Span_api_Span rfl rfl rfl rfl (Rets.mono (Clone_any H hv.up (spC_one l) hl) ?_); rintro _ w H; refine ⟨(by first | exact H | exact Holds.drop H | exact Holds.drop (Holds.drop H) | trivial | assumption), ?_⟩)
      | (refine VcD.callF (f := F_slices_Insert_api_Span_api_Span) rfl ok_slices_Insert_api_Span_api_Span rfl rfl rfl rfl (Rets.mono (Insert_any H (spC_one l) hs1 rfl hk hl) ?_); rintro _ w H; refine ⟨(by first | exact H | exact Holds.drop H | exact Holds.drop (Holds.drop H) | trivial | assumption), ?_⟩)
      | (refine VcD.callF (f := F_slices_Insert_api_Span_api_Span) rfl ok_slices_Insert_api_Span_api_Span rfl rfl rfl rfl (Rets.mono (Insert_any H.swap (spC_one l) hs1 rfl hk hl) ?_); rintro _ w H; refine ⟨(by first | exact H | exact Holds.drop H | exact Holds.drop (Holds.drop H) | trivial | assumption), ?_⟩)
      | (refine VcD.eff rfl rfl rfl rfl (OpE.buildSliceP tabOk H rfl rfl rfl rfl) ?_; rintro _ w ⟨b_, rfl, H⟩; refine ⟨(by first | exact H | exact Holds.drop H | exact Holds.drop (Holds.drop H) | trivial | assumption), ?_⟩)
      | refine VcD.skip rfl rfl rfl (by first | exact H | exact Holds.drop H | exact Holds.drop (Holds.drop H) | trivial | assumption) ?_
      | (refine VcD.guardO rfl rfl rfl rfl rfl (fun h => ?_) (fun h => ?_) <;> first | (cases h; done) | (exfalso; simp only [decide_eq_true_eq, decide_eq_false_iff_not] at h; omega) | (with_reducible have hp := of_decide_eq_true h) | (with_reducible have hp := of_decide_eq_false h) | (with_reducible have hp := ndec_t h) | (with_reducible have hp := ndec_f h) | skip))
      | (show VcD _ _ _ _ _ (.two _ _ _ _) _ _ _; refine VcD.two ?_ ?_))
      | (show EfO _ _ _ _ _ _ _ _ _; first
      | (refine EfO.call (f := F_lock_Valid) rfl rfl rfl rfl (OpC.call ok_lock_Valid rfl) (Rets.mono (Valid_any H hv.up hl) ?_); rintro _ w ⟨rfl, H⟩; refine ⟨(by first | exact H | exact Holds.drop H | exact Holds.drop (Holds.drop H) | trivial | assumption), ?_⟩)
      | (refine EfO.call (f := F_lock_isSpan) rfl rfl rfl rfl (OpC.call ok_lock_isSpan rfl) (Rets.mono (isSpan_any H s) ?_); rintro _ w ⟨rfl, H⟩; refine ⟨(by first | exact H | exact Holds.drop H | exact Holds.drop (Holds.drop H) | trivial | assumption), ?_⟩)
      | (refine EfO.call (f := F_lock_meet) rfl rfl rfl rfl (OpC.call ok_lock_meet rfl) (Rets.mono (meet_any H _ _) ?_); rintro _ w ⟨rfl, H⟩; refine ⟨(by first | exact H | exact Holds.drop H | exact Holds.drop (Holds.drop H) | trivial | assumption), ?_⟩)
      | (refine EfO.call (f := F_slices_Clone_api_Span_api_Span) rfl rfl rfl rfl (OpC.call ok_slices_Clone_api_Span_api_Span rfl) (Rets.mono (Clone_any H hv.up.up (spC_one l) hl) ?_); rintro _ w H; refine ⟨(by first | exact H | exact Holds.drop H | exact Holds.drop (Holds.drop H) | trivial | assumption), ?_⟩)
      | (refine EfO.call (f := F_slices_Clone_api_Span_api_Span) rfl rfl rfl rfl (OpC.call ok_slices_Clone_api_Span_api_Span rfl) (Rets.mono (Clone_any H hv.up (spC_one l) hl) ?_); rintro _ w H; refine ⟨(by first | exact H | exact Holds.drop H | exact Holds.drop (Holds.drop H) | trivial | assumption), ?_⟩)
      | (refine EfO.call (f := F_slices_Insert_api_Span_api_Span) rfl rfl rfl rfl (OpC.call ok_slices_Insert_api_Span_api_Span rfl) (Rets.mono (Insert_any H (spC_one l) hs1 rfl hk hl) ?_); rintro _ w H; refine ⟨(by first | exact H | exact Holds.drop H | exact Holds.drop (Holds.drop H) | trivial | assumption), ?_⟩)
      | (refine EfO.call (f := F_slices_Insert_api_Span_api_Span) rfl rfl rfl rfl (OpC.call ok_slices_Insert_api_Span_api_Span rfl) (Rets.mono (Insert_any H.swap (spC_one l) hs1 rfl hk hl) ?_); rintro _ w H; refine ⟨(by first | exact H | exact Holds.drop H | exact Holds.drop (Holds.drop H) | trivial | assumption), ?_⟩)
      | (refine EfO.eff rfl rfl rfl rfl (OpE.buildSliceP tabOk H rfl rfl rfl rfl) ?_; rintro _ w ⟨b_, rfl, H⟩; refine ⟨(by first | exact H | exact Holds.drop H | exact Holds.drop (Holds.drop H) | trivial | assumption), ?_⟩))
      | (show Vc _ _ _ _ _ _; first
      | refine Vc.seq ?_
      | refine Vc.region ?_
      | refine Vc.condT rfl ?_
      | refine Vc.condF rfl ?_
      | refine Vc.ret ?_
      | refine Vc.skip ?_
      | refine Vc.block ?_
      | refine Vc.exit ?_
      | refine Vc.drawnH (id := 17) H (.take 0 (.take 1 (.take 2 (.take 3 (.take 4 (.take 5 (.take 6 (.take 10 (.take 7 (.take 8 (.take 9 (.take 11 (.take 12 (.take 13 .done)))))))))))))) mixed (by kernel_rfl) (fun w H => ?_)
      | (refine Vc.drawn (id := 19) (.take 0 (.take 2 (.take 3 (.two 1 4 (.only 4 (.only 5 (.take 6 (.take 7 .done)))) (.only 1 (.only 5 (.take 6 (.take 7 .done)))))))) (fun w => Holds I w (blk b 28 (spC s) :: L)) mixed (by kernel_rfl) ?_; have H := H.drew (w.drawn + 1))
      | (refine Vc.cond rfl (fun h => ?_) (fun h => ?_) <;> first | (cases h; done) | (exfalso; simp only [decide_eq_true_eq, decide_eq_false_iff_not] at h; omega) | (with_reducible have hp := of_decide_eq_true h) | (with_reducible have hp := of_decide_eq_false h) | (with_reducible have hp := ndec_t h) | (with_reducible have hp := ndec_f h) | skip))
      | (show KSeq _ _ _ _ _ _ _; first
      | refine KSeq.normal ?_
      | refine KSeq.ret ?_
      | refine KSeq.exit ?_)
      | (show KBlock _ _ _ _ _; first
      | refine KBlock.normal ?_
      | refine KBlock.here ?_
      | refine KBlock.on rfl ?_
      | refine KBlock.ret ?_)
      | refine KLoop.exit ?_
      | refine KLoop.ret ?_
      | refine KCut.exit ?_
      | refine KCut.ret ?_
      | (show KEnd _ _ _ _ _ _; first
      | refine KEnd.mk (Or.inr rfl) ⟨_, (ResL.tmp rfl (ResL.tmp rfl ResL.nil)), ?_⟩
      | refine KEnd.mk (Or.inl rfl) ⟨_, (ResL.tmp rfl (ResL.tmp rfl ResL.nil)), ?_⟩))
    · have e1 : lockE l s = 8 := by unfold lockE; rw [if_pos (by simp_all), if_neg (by rw [hall]; simp), if_pos h]
      have e2 : lockL l s = [] := by unfold lockL; rw [e1]; rfl
      rw [e1, e2]
      exact ⟨_, rfl, H.drop.own_nil⟩
    · have hn : l.any (meetS s) = false := by simp_all
      have e1 : lockE l s = 4 := by unfold lockE; rw [if_pos (by simp_all), if_neg (by rw [hall]; simp), if_neg (by rw [hn]; simp), if_pos (by omega)]
      have e2 : lockL l s = [] := by unfold lockL; rw [e1]; rfl
      rw [e1, e2]
      exact ⟨_, rfl, H.drop.own_nil⟩
    have hn : l.any (meetS s) = false := by simp_all
    have e1 : lockE l s = 0 := by unfold lockE; rw [if_pos (by simp_all), if_neg (by rw [hall]; simp), if_neg (by rw [hn]; simp), if_neg (by omega)]
    have e2 : lockL l s = l.take (posS l s) ++ s :: l.drop (posS l s) := by unfold lockL; rw [e1]; rfl
    have e3 : ∀ k, k ≤ l.length → (l.take k ++ s :: l.drop k).length = l.length + 1 := fun k hk => by rw [List.length_append, List.length_cons, List.length_take, List.length_drop]; omega
    have e4 : ∀ k, (l.take k ++ s :: l.drop k).flatMap spC = (l.flatMap spC).take (k * 3) ++ spC s ++ (l.flatMap spC).drop (k * 3) := fun k => by rw [List.flatMap_append, List.flatMap_cons, ← flat_take spC_len, ← flat_drop spC_len, List.append_assoc]
    have hs1 : ∀ u ∈ spC s, oneC u = true := fun u hu => spC_one [s] u (by simpa using hu)
    refine Vc.loopS [(0, _), (3, _)] (fun k : Nat => [(9, .int .i64 k)]) (fun k w => Holds I w (blk b 28 (spC s) :: L) ∧ k ≤ l.length ∧ ∀ j, j < k → (spAt l j).from' < s.from') (fun k _ => l.length - k) 0 ⟨rfl, trivial⟩ ⟨rfl, rfl, trivial⟩ ⟨H, Nat.zero_le _, fun j hj => by omega⟩ ?_
    rintro k w ⟨H, hk, hall2⟩
    by_cases hlt : k < l.length
    · obtain ⟨b2, o, rfl, hr⟩ := hv.at (by omega)
      have hx := hr.elem spC_len (spAt_get hlt)
      repeat' (first
        | (show VcL _ _ _ _ _ _ _ _; first
      | refine VcL.pures tabOk rfl ?_
      | refine VcL.nil ?_
      | (show VcL _ _ _ _ (⟨_, .load _ _, _, _, _, _⟩ :: _) _ _ _; first
      | refine VcL.load1 tabOk rfl rfl rfl rfl rfl (by first | exact Holds.cell H rfl | exact Holds.cell (Holds.f1 H) rfl | exact Holds.cell (Holds.f2 H) rfl | exact Holds.cell (Holds.f3 H) rfl | exact Holds.cell (Holds.f4 H) rfl | exact Holds.cell (Holds.f5 H) rfl | exact Holds.cell (Holds.f6 H) rfl | exact RdW.get (by assumption) rfl H | exact RdW.get0 (by assumption) rfl H | exact RdW.get (by assumption) rfl (Holds.drop H) | exact RdW.get0 (by assumption) rfl (Holds.drop H) | exact RdW.get (by assumption) rfl (Holds.drop (Holds.drop H)) | exact RdW.get0 (by assumption) rfl (Holds.drop (Holds.drop H)) | exact RdW.get (by assumption) rfl (Holds.drop (Holds.drop (Holds.drop H))) | exact RdW.get0 (by assumption) rfl (Holds.drop (Holds.drop (Holds.drop H))) | assumption) ?_
      | refine VcL.loadR tabOk rfl rfl rfl rfl rfl rfl (by first | exact RdW.rd (by assumption) H | exact RdW.rd (by assumption) (Holds.drop H) | exact RdW.rd (by assumption) (Holds.drop (Holds.drop H)) | exact RdW.rd (by assumption) (Holds.drop (Holds.drop (Holds.drop H))) | assumption) rfl ?_
      | refine VcL.loadN tabOk rfl rfl rfl rfl rfl rfl (by first | exact H | exact (Holds.f1 H) | exact (Holds.f2 H) | exact (Holds.f3 H) | exact (Holds.f4 H) | exact (Holds.f5 H) | exact (Holds.f6 H)) (by exact rfl) ?_)
      | (show VcL _ _ _ _ (⟨_, .binOp _ _ _ _ _, _, _, _, _⟩ :: _) _ _ _; first
      | refine VcL.eqS tabOk rfl rfl rfl rfl rfl rfl (by kernel_rfl) (by kernel_rfl) rfl rfl (by first | exact .inl rfl | exact .inr rfl) ?_)
      | (show VcL _ _ _ _ (⟨_, .indexAddr _ _ _, _, _, _, _⟩ :: _) _ _ _; first
      | refine VcL.indexAddr0 tabOk rfl rfl rfl rfl rfl rfl (by omega) (by omega) ?_
      | refine VcL.indexAddr tabOk rfl rfl rfl rfl rfl rfl (by omega) (by omega) ?_
      | refine VcL.indexArr0 tabOk rfl rfl rfl rfl rfl rfl (by omega) (by omega) ?_
      | refine VcL.indexArr tabOk rfl rfl rfl rfl rfl rfl (by omega) (by omega) ?_)
      | refine VcL.box H rfl rfl rfl rfl rfl (fun b w H => ?_)
      | refine VcL.alloc tabOk H rfl rfl rfl rfl (fun b w H => ?_)
      | refine VcL.buildSlice tabOk H rfl rfl rfl rfl rfl rfl (fun sv w H => ?_)
      | (show VcL _ _ _ _ (⟨_, .store _ _ _, _, _, _, _⟩ :: _) _ _ _; first
      | refine VcL.store tabOk rfl (by first | exact H | exact (Holds.f1 H) | exact (Holds.f2 H) | exact (Holds.f3 H) | exact (Holds.f4 H) | exact (Holds.f5 H) | exact (Holds.f6 H)) rfl rfl (by exact rfl) (by exact rfl) (by exact rfl) (by exact rfl) (fun w H => ?_))
      | (show VcL _ _ _ _ (⟨_, .call ⟨.value (.func F_lock_Valid), _, _⟩, _, _, _, _⟩ :: _) _ _ _; first
      | (refine VcL.callF ok_lock_Valid rfl rfl rfl rfl (Rets.mono (Valid_any H hv.up hl) ?_); rintro _ w ⟨rfl, H⟩))
      | (show VcL _ _ _ _ (⟨_, .call ⟨.value (.func F_lock_isSpan), _, _⟩, _, _, _, _⟩ :: _) _ _ _; first
      | (refine VcL.callF ok_lock_isSpan rfl rfl rfl rfl (Rets.mono (isSpan_any H s) ?_); rintro _ w ⟨rfl, H⟩))
      | (show VcL _ _ _ _ (⟨_, .call ⟨.value (.func F_lock_meet), _, _⟩, _, _, _, _⟩ :: _) _ _ _; first
      | (refine VcL.callF ok_lock_meet rfl rfl rfl rfl (Rets.mono (meet_any H _ _) ?_); rintro _ w ⟨rfl, H⟩))
      | (show VcL _ _ _ _ (⟨_, .call ⟨.value (.func F_slices_Clone_api_Span_api_Span), _, _⟩, _, _, _, _⟩ :: _) _ _ _; first
      | (refine VcL.callF ok_slices_Clone_api_Span_api_Span rfl rfl rfl rfl (Rets.mono (Clone_any H hv.up.up (spC_one l) hl) ?_); rintro _ w H))
      | (show VcL _ _ _ _ (⟨_, .call ⟨.value (.func F_slices_Clone_api_Span_api_Span), _, _⟩, _, _, _, _⟩ :: _) _ _ _; first
      | (refine VcL.callF ok_slices_Clone_api_Span_api_Span rfl rfl rfl rfl (Rets.mono (Clone_any H hv.up (spC_one l) hl) ?_); rintro _ w H))
      | (show VcL _ _ _ _ (⟨_, .call ⟨.value (.func F_slices_Insert_api_Span_api_Span), _, _⟩, _, _, _, _⟩ :: _) _ _ _; first
      | (refine VcL.callF ok_slices_Insert_api_Span_api_Span rfl rfl rfl rfl (Rets.mono (Insert_any H (spC_one l) hs1 rfl hk hl) ?_); rintro _ w H))
      | (show VcL _ _ _ _ (⟨_, .call ⟨.value (.func F_slices_Insert_api_Span_api_Span), _, _⟩, _, _, _, _⟩ :: _) _ _ _; first
      | (refine VcL.callF ok_slices_Insert_api_Span_api_Span rfl rfl rfl rfl (Rets.mono (Insert_any H.swap (spC_one l) hs1 rfl hk hl) ?_); rintro _ w H))
      | (refine VcL.guard rfl rfl rfl rfl (fun h => ?_) (fun h => ?_) <;> first | (cases h; done) | (exfalso; simp only [decide_eq_true_eq, decide_eq_false_iff_not] at h; omega) | (with_reducible have hp := of_decide_eq_true h) | (with_reducible have hp := of_decide_eq_false h) | (with_reducible have hp := ndec_t h) | (with_reducible have hp := ndec_f h) | skip))
        | (show VcD _ _ _ _ _ _ _ _ _; first
      | refine VcD.pures tabOk (by first | exact H | exact Holds.drop H | exact Holds.drop (Holds.drop H) | trivial | assumption) rfl ?_
      | refine VcD.done ?_
      | (show VcD _ _ _ _ _ (.take _ _) _ _ _; first
      | refine VcD.load1 tabOk rfl rfl rfl rfl rfl rfl (by first | exact H | exact Holds.drop H | exact Holds.drop (Holds.drop H) | trivial | assumption) (by intro w_ hw_; first | exact Holds.cell hw_ rfl | exact Holds.cell (Holds.f1 hw_) rfl | exact Holds.cell (Holds.f2 hw_) rfl | exact Holds.cell (Holds.f3 hw_) rfl | exact Holds.cell (Holds.f4 hw_) rfl | exact Holds.cell (Holds.f5 hw_) rfl | exact Holds.cell (Holds.f6 hw_) rfl | exact RdW.get (by assumption) rfl hw_ | exact RdW.get0 (by assumption) rfl hw_ | exact RdW.get (by assumption) rfl (Holds.drop hw_) | exact RdW.get0 (by assumption) rfl (Holds.drop hw_) | exact RdW.get (by assumption) rfl (Holds.drop (Holds.drop hw_)) | exact RdW.get0 (by assumption) rfl (Holds.drop (Holds.drop hw_)) | exact RdW.get (by assumption) rfl (Holds.drop (Holds.drop (Holds.drop hw_))) | exact RdW.get0 (by assumption) rfl (Holds.drop (Holds.drop (Holds.drop hw_))) | assumption) (by exact rfl) ?_
      | refine VcD.loadR tabOk rfl rfl rfl rfl rfl rfl rfl (by first | exact H | exact Holds.drop H | exact Holds.drop (Holds.drop H) | trivial | assumption) (by intro w_ hw_; first | exact RdW.rd (by assumption) hw_ | exact RdW.rd (by assumption) (Holds.drop hw_) | exact RdW.rd (by assumption) (Holds.drop (Holds.drop hw_)) | exact RdW.rd (by assumption) (Holds.drop (Holds.drop (Holds.drop hw_))) | assumption) rfl ?_
      | refine VcD.loadN tabOk rfl rfl rfl rfl rfl rfl rfl (by first | exact H | exact Holds.drop H | exact Holds.drop (Holds.drop H) | trivial | assumption) (by intro w_ hw_; first | exact hw_ | exact (Holds.f1 hw_) | exact (Holds.f2 hw_) | exact (Holds.f3 hw_) | exact (Holds.f4 hw_) | exact (Holds.f5 hw_) | exact (Holds.f6 hw_)) (by exact rfl) ?_
      | refine VcD.indexAddr0 tabOk rfl rfl rfl rfl rfl rfl rfl (by first | exact H | exact Holds.drop H | exact Holds.drop (Holds.drop H) | trivial | assumption) (by omega) (by omega) ?_
      | refine VcD.indexAddr tabOk rfl rfl rfl rfl rfl rfl rfl (by first | exact H | exact Holds.drop H | exact Holds.drop (Holds.drop H) | trivial | assumption) (by omega) (by omega) ?_
      | refine VcD.indexArr0 tabOk rfl rfl rfl rfl rfl rfl rfl (by first | exact H | exact Holds.drop H | exact Holds.drop (Holds.drop H) | trivial | assumption) (by omega) (by omega) ?_
      | refine VcD.indexArr tabOk rfl rfl rfl rfl rfl rfl rfl (by first | exact H | exact Holds.drop H | exact Holds.drop (Holds.drop H) | trivial | assumption) (by omega) (by omega) ?_
      | refine VcD.eqS tabOk rfl rfl rfl rfl rfl rfl (by first | exact H | exact Holds.drop H | exact Holds.drop (Holds.drop H) | trivial | assumption) rfl (by kernel_rfl) (by kernel_rfl) rfl rfl (by first | exact .inl rfl | exact .inr rfl) ?_
      | (refine VcD.guardT rfl rfl rfl rfl rfl (fun h => ?_) (fun h => ?_) <;> first | (cases h; done) | (exfalso; simp only [decide_eq_true_eq, decide_eq_false_iff_not] at h; omega) | (with_reducible have hp := of_decide_eq_true h) | (with_reducible have hp := of_decide_eq_false h) | (with_reducible have hp := ndec_t h) | (with_reducible have hp := ndec_f h) | skip))
      | (show VcD _ _ _ _ _ (.only _ _) _ _ _; first
      | (refine VcD.callF (f := F_lock_Valid) rfl ok_lock_Valid rfl rfl rfl rfl (Rets.mono (Valid_any H hv.up hl) ?_); rintro _ w ⟨rfl, H⟩; refine ⟨(by first | exact H | exact Holds.drop H | exact Holds.drop (Holds.drop H) | trivial | assumption), ?_⟩)
      | (refine VcD.callF (f := F_lock_isSpan) rfl ok_lock_isSpan rfl rfl rfl rfl (Rets.mono (isSpan_any H s) ?_); rintro _ w ⟨rfl, H⟩; refine ⟨(by first | exact H | exact Holds.drop H | exact Holds.drop (Holds.drop H) | trivial | assumption), ?_⟩)
      | (refine VcD.callF (f := F_lock_meet) rfl ok_lock_meet rfl rfl rfl rfl (Rets.mono (meet_any H _ _) ?_); rintro _ w ⟨rfl, H⟩; refine ⟨(by first | exact H | exact Holds.drop H | exact Holds.drop (Holds.drop H) | trivial | assumption), ?_⟩)
      | (refine VcD.callF (f := F_slices_Clone_api_Span_api_Span) rfl ok_slices_Clone_api_Span_api_Span rfl rfl rfl rfl (Rets.mono (Clone_any H hv.up.up (spC_one l) hl) ?_); rintro _ w H; refine ⟨(by first | exact H | exact Holds.drop H | exact Holds.drop (Holds.drop H) | trivial | assumption), ?_⟩)
      | (refine VcD.callF (f := F_slices_Clone_api_Span_api_Span) rfl ok_slices_Clone_api_Span_api_Span rfl rfl rfl rfl (Rets.mono (Clone_any H hv.up (spC_one l) hl) ?_); rintro _ w H; refine ⟨(by first | exact H | exact Holds.drop H | exact Holds.drop (Holds.drop H) | trivial | assumption), ?_⟩)
      | (refine VcD.callF (f := F_slices_Insert_api_Span_api_Span) rfl ok_slices_Insert_api_Span_api_Span rfl rfl rfl rfl (Rets.mono (Insert_any H (spC_one l) hs1 rfl hk hl) ?_); rintro _ w H; refine ⟨(by first | exact H | exact Holds.drop H | exact Holds.drop (Holds.drop H) | trivial | assumption), ?_⟩)
      | (refine VcD.callF (f := F_slices_Insert_api_Span_api_Span) rfl ok_slices_Insert_api_Span_api_Span rfl rfl rfl rfl (Rets.mono (Insert_any H.swap (spC_one l) hs1 rfl hk hl) ?_); rintro _ w H; refine ⟨(by first | exact H | exact Holds.drop H | exact Holds.drop (Holds.drop H) | trivial | assumption), ?_⟩)
      | (refine VcD.eff rfl rfl rfl rfl (OpE.buildSliceP tabOk H rfl rfl rfl rfl) ?_; rintro _ w ⟨b_, rfl, H⟩; refine ⟨(by first | exact H | exact Holds.drop H | exact Holds.drop (Holds.drop H) | trivial | assumption), ?_⟩)
      | refine VcD.skip rfl rfl rfl (by first | exact H | exact Holds.drop H | exact Holds.drop (Holds.drop H) | trivial | assumption) ?_
      | (refine VcD.guardO rfl rfl rfl rfl rfl (fun h => ?_) (fun h => ?_) <;> first | (cases h; done) | (exfalso; simp only [decide_eq_true_eq, decide_eq_false_iff_not] at h; omega) | (with_reducible have hp := of_decide_eq_true h) | (with_reducible have hp := of_decide_eq_false h) | (with_reducible have hp := ndec_t h) | (with_reducible have hp := ndec_f h) | skip))
      | (show VcD _ _ _ _ _ (.two _ _ _ _) _ _ _; refine VcD.two ?_ ?_))
        | (show EfO _ _ _ _ _ _ _ _ _; first
      | (refine EfO.call (f := F_lock_Valid) rfl rfl rfl rfl (OpC.call ok_lock_Valid rfl) (Rets.mono (Valid_any H hv.up hl) ?_); rintro _ w ⟨rfl, H⟩; refine ⟨(by first | exact H | exact Holds.drop H | exact Holds.drop (Holds.drop H) | trivial | assumption), ?_⟩)
      | (refine EfO.call (f := F_lock_isSpan) rfl rfl rfl rfl (OpC.call ok_lock_isSpan rfl) (Rets.mono (isSpan_any H s) ?_); rintro _ w ⟨rfl, H⟩; refine ⟨(by first | exact H | exact Holds.drop H | exact Holds.drop (Holds.drop H) | trivial | assumption), ?_⟩)
      | (refine EfO.call (f := F_lock_meet) rfl rfl rfl rfl (OpC.call ok_lock_meet rfl) (Rets.mono (meet_any H _ _) ?_); rintro _ w ⟨rfl, H⟩; refine ⟨(by first | exact H | exact Holds.drop H | exact Holds.drop (Holds.drop H) | trivial | assumption), ?_⟩)
      | (refine EfO.call (f := F_slices_Clone_api_Span_api_Span) rfl rfl rfl rfl (OpC.call ok_slices_Clone_api_Span_api_Span rfl) (Rets.mono (Clone_any H hv.up.up (spC_one l) hl) ?_); rintro _ w H; refine ⟨(by first | exact H | exact Holds.drop H | exact Holds.drop (Holds.drop H) | trivial | assumption), ?_⟩)
      | (refine EfO.call (f := F_slices_Clone_api_Span_api_Span) rfl rfl rfl rfl (OpC.call ok_slices_Clone_api_Span_api_Span rfl) (Rets.mono (Clone_any H hv.up (spC_one l) hl) ?_); rintro _ w H; refine ⟨(by first | exact H | exact Holds.drop H | exact Holds.drop (Holds.drop H) | trivial | assumption), ?_⟩)
      | (refine EfO.call (f := F_slices_Insert_api_Span_api_Span) rfl rfl rfl rfl (OpC.call ok_slices_Insert_api_Span_api_Span rfl) (Rets.mono (Insert_any H (spC_one l) hs1 rfl hk hl) ?_); rintro _ w H; refine ⟨(by first | exact H | exact Holds.drop H | exact Holds.drop (Holds.drop H) | trivial | assumption), ?_⟩)
      | (refine EfO.call (f := F_slices_Insert_api_Span_api_Span) rfl rfl rfl rfl (OpC.call ok_slices_Insert_api_Span_api_Span rfl) (Rets.mono (Insert_any H.swap (spC_one l) hs1 rfl hk hl) ?_); rintro _ w H; refine ⟨(by first | exact H | exact Holds.drop H | exact Holds.drop (Holds.drop H) | trivial | assumption), ?_⟩)
      | (refine EfO.eff rfl rfl rfl rfl (OpE.buildSliceP tabOk H rfl rfl rfl rfl) ?_; rintro _ w ⟨b_, rfl, H⟩; refine ⟨(by first | exact H | exact Holds.drop H | exact Holds.drop (Holds.drop H) | trivial | assumption), ?_⟩))
        | (show Vc _ _ _ _ _ _; first
      | refine Vc.seq ?_
      | refine Vc.region ?_
      | refine Vc.condT rfl ?_
      | refine Vc.condF rfl ?_
      | refine Vc.ret ?_
      | refine Vc.skip ?_
      | refine Vc.block ?_
      | refine Vc.exit ?_
      | refine Vc.drawnH (id := 17) H (.take 0 (.take 1 (.take 2 (.take 3 (.take 4 (.take 5 (.take 6 (.take 10 (.take 7 (.take 8 (.take 9 (.take 11 (.take 12 (.take 13 .done)))))))))))))) mixed (by kernel_rfl) (fun w H => ?_)
      | (refine Vc.drawn (id := 19) (.take 0 (.take 2 (.take 3 (.two 1 4 (.only 4 (.only 5 (.take 6 (.take 7 .done)))) (.only 1 (.only 5 (.take 6 (.take 7 .done)))))))) (fun w => Holds I w (blk b 28 (spC s) :: L)) mixed (by kernel_rfl) ?_; have H := H.drew (w.drawn + 1))
      | (refine Vc.cond rfl (fun h => ?_) (fun h => ?_) <;> first | (cases h; done) | (exfalso; simp only [decide_eq_true_eq, decide_eq_false_iff_not] at h; omega) | (with_reducible have hp := of_decide_eq_true h) | (with_reducible have hp := of_decide_eq_false h) | (with_reducible have hp := ndec_t h) | (with_reducible have hp := ndec_f h) | skip))
        | (show KSeq _ _ _ _ _ _ _; first
      | refine KSeq.normal ?_
      | refine KSeq.ret ?_
      | refine KSeq.exit ?_)
        | (show KBlock _ _ _ _ _; first
      | refine KBlock.normal ?_
      | refine KBlock.here ?_
      | refine KBlock.on rfl ?_
      | refine KBlock.ret ?_)
        | refine KLoop.exit ?_
        | refine KLoop.ret ?_
        | refine KCut.exit ?_
        | refine KCut.ret ?_
        | (show KEnd _ _ _ _ _ _; first
      | refine KEnd.mk (Or.inr rfl) ⟨_, (ResL.tmp rfl (ResL.tmp rfl ResL.nil)), ?_⟩
      | refine KEnd.mk (Or.inl rfl) ⟨_, (ResL.tmp rfl (ResL.tmp rfl ResL.nil)), ?_⟩))
      · refine KLoop.again (k + 1) ⟨got_succ rfl (by omega), trivial⟩ ⟨rfl, rfl, trivial⟩ ⟨H, hlt, fun j hj => ?_⟩ (by omega)
        rcases Nat.lt_or_ge j k with h1 | h1
        · exact hall2 j h1
        · obtain rfl : j = k := by omega
          exact hp
      all_goals
        have e5 : posS l s = k := posS_at hk hall2 (fun _ => by assumption)
        rw [e1, e2, e5]
        refine ⟨_, rfl, ?_⟩
        show Holds I _ (own _ _ 3 (l.take k ++ s :: l.drop k).length ((l.take k ++ s :: l.drop k).flatMap spC) :: L)
        rw [e3 k hk, e4]
        exact H.swap.drop
    ·
      repeat' (first
        | (show VcL _ _ _ _ _ _ _ _; first
      | refine VcL.pures tabOk rfl ?_
      | refine VcL.nil ?_
      | (show VcL _ _ _ _ (⟨_, .load _ _, _, _, _, _⟩ :: _) _ _ _; first
      | refine VcL.load1 tabOk rfl rfl rfl rfl rfl (by first | exact Holds.cell H rfl | exact Holds.cell (Holds.f1 H) rfl | exact Holds.cell (Holds.f2 H) rfl | exact Holds.cell (Holds.f3 H) rfl | exact Holds.cell (Holds.f4 H) rfl | exact Holds.cell (Holds.f5 H) rfl | exact Holds.cell (Holds.f6 H) rfl | exact RdW.get (by assumption) rfl H | exact RdW.get0 (by assumption) rfl H | exact RdW.get (by assumption) rfl (Holds.drop H) | exact RdW.get0 (by assumption) rfl (Holds.drop H) | exact RdW.get (by assumption) rfl (Holds.drop (Holds.drop H)) | exact RdW.get0 (by assumption) rfl (Holds.drop (Holds.drop H)) | exact RdW.get (by assumption) rfl (Holds.drop (Holds.drop (Holds.drop H))) | exact RdW.get0 (by assumption) rfl (Holds.drop (Holds.drop (Holds.drop H))) | assumption) ?_
      | refine VcL.loadR tabOk rfl rfl rfl rfl rfl rfl (by first | exact RdW.rd (by assumption) H | exact RdW.rd (by assumption) (Holds.drop H) | exact RdW.rd (by assumption) (Holds.drop (Holds.drop H)) | exact RdW.rd (by assumption) (Holds.drop (Holds.drop (Holds.drop H))) | assumption) rfl ?_
      | refine VcL.loadN tabOk rfl rfl rfl rfl rfl rfl (by first | exact H | exact (Holds.f1 H) | exact (Holds.f2 H) | exact (Holds.f3 H) | exact (Holds.f4 H) | exact (Holds.f5 H) | exact (Holds.f6 H)) (by exact rfl) ?_)
      | (show VcL _ _ _ _ (⟨_, .binOp _ _ _ _ _, _, _, _, _⟩ :: _) _ _ _; first
      | refine VcL.eqS tabOk rfl rfl rfl rfl rfl rfl (by kernel_rfl) (by kernel_rfl) rfl rfl (by first | exact .inl rfl | exact .inr rfl) ?_)
      | (show VcL _ _ _ _ (⟨_, .indexAddr _ _ _, _, _, _, _⟩ :: _) _ _ _; first
      | refine VcL.indexAddr0 tabOk rfl rfl rfl rfl rfl rfl (by omega) (by omega) ?_
      | refine VcL.indexAddr tabOk rfl rfl rfl rfl rfl rfl (by omega) (by omega) ?_
      | refine VcL.indexArr0 tabOk rfl rfl rfl rfl rfl rfl (by omega) (by omega) ?_
      | refine VcL.indexArr tabOk rfl rfl rfl rfl rfl rfl (by omega) (by omega) ?_)
      | refine VcL.box H rfl rfl rfl rfl rfl (fun b w H => ?_)
      | refine VcL.alloc tabOk H rfl rfl rfl rfl (fun b w H => ?_)
      | refine VcL.buildSlice tabOk H rfl rfl rfl rfl rfl rfl (fun sv w H => ?_)
      | (show VcL _ _ _ _ (⟨_, .store _ _ _, _, _, _, _⟩ :: _) _ _ _; first
      | refine VcL.store tabOk rfl (by first | exact H | exact (Holds.f1 H) | exact (Holds.f2 H) | exact (Holds.f3 H) | exact (Holds.f4 H) | exact (Holds.f5 H) | exact (Holds.f6 H)) rfl rfl (by exact rfl) (by exact rfl) (by exact rfl) (by exact rfl) (fun w H => ?_))
      | (show VcL _ _ _ _ (⟨_, .call ⟨.value (.func F_lock_Valid), _, _⟩, _, _, _, _⟩ :: _) _ _ _; first
      | (refine VcL.callF ok_lock_Valid rfl rfl rfl rfl (Rets.mono (Valid_any H hv.up hl) ?_); rintro _ w ⟨rfl, H⟩))
      | (show VcL _ _ _ _ (⟨_, .call ⟨.value (.func F_lock_isSpan), _, _⟩, _, _, _, _⟩ :: _) _ _ _; first
      | (refine VcL.callF ok_lock_isSpan rfl rfl rfl rfl (Rets.mono (isSpan_any H s) ?_); rintro _ w ⟨rfl, H⟩))
      | (show VcL _ _ _ _ (⟨_, .call ⟨.value (.func F_lock_meet), _, _⟩, _, _, _, _⟩ :: _) _ _ _; first
      | (refine VcL.callF ok_lock_meet rfl rfl rfl rfl (Rets.mono (meet_any H _ _) ?_); rintro _ w ⟨rfl, H⟩))
      | (show VcL _ _ _ _ (⟨_, .call ⟨.value (.func F_slices_Clone_api_Span_api_Span), _, _⟩, _, _, _, _⟩ :: _) _ _ _; first
      | (refine VcL.callF ok_slices_Clone_api_Span_api_Span rfl rfl rfl rfl (Rets.mono (Clone_any H hv.up.up (spC_one l) hl) ?_); rintro _ w H))
      | (show VcL _ _ _ _ (⟨_, .call ⟨.value (.func F_slices_Clone_api_Span_api_Span), _, _⟩, _, _, _, _⟩ :: _) _ _ _; first
      | (refine VcL.callF ok_slices_Clone_api_Span_api_Span rfl rfl rfl rfl (Rets.mono (Clone_any H hv.up (spC_one l) hl) ?_); rintro _ w H))
      | (show VcL _ _ _ _ (⟨_, .call ⟨.value (.func F_slices_Insert_api_Span_api_Span), _, _⟩, _, _, _, _⟩ :: _) _ _ _; first
      | (refine VcL.callF ok_slices_Insert_api_Span_api_Span rfl rfl rfl rfl (Rets.mono (Insert_any H (spC_one l) hs1 rfl hk hl) ?_); rintro _ w H))
      | (show VcL _ _ _ _ (⟨_, .call ⟨.value (.func F_slices_Insert_api_Span_api_Span), _, _⟩, _, _, _, _⟩ :: _) _ _ _; first
      | (refine VcL.callF ok_slices_Insert_api_Span_api_Span rfl rfl rfl rfl (Rets.mono (Insert_any H.swap (spC_one l) hs1 rfl hk hl) ?_); rintro _ w H))
      | (refine VcL.guard rfl rfl rfl rfl (fun h => ?_) (fun h => ?_) <;> first | (cases h; done) | (exfalso; simp only [decide_eq_true_eq, decide_eq_false_iff_not] at h; omega) | (with_reducible have hp := of_decide_eq_true h) | (with_reducible have hp := of_decide_eq_false h) | (with_reducible have hp := ndec_t h) | (with_reducible have hp := ndec_f h) | skip))
        | (show VcD _ _ _ _ _ _ _ _ _; first
      | refine VcD.pures tabOk (by first | exact H | exact Holds.drop H | exact Holds.drop (Holds.drop H) | trivial | assumption) rfl ?_
      | refine VcD.done ?_
      | (show VcD _ _ _ _ _ (.take _ _) _ _ _; first
      | refine VcD.load1 tabOk rfl rfl rfl rfl rfl rfl (by first | exact H | exact Holds.drop H | exact Holds.drop (Holds.drop H) | trivial | assumption) (by intro w_ hw_; first | exact Holds.cell hw_ rfl | exact Holds.cell (Holds.f1 hw_) rfl | exact Holds.cell (Holds.f2 hw_) rfl | exact Holds.cell (Holds.f3 hw_) rfl | exact Holds.cell (Holds.f4 hw_) rfl | exact Holds.cell (Holds.f5 hw_) rfl | exact Holds.cell (Holds.f6 hw_) rfl | exact RdW.get (by assumption) rfl hw_ | exact RdW.get0 (by assumption) rfl hw_ | exact RdW.get (by assumption) rfl (Holds.drop hw_) | exact RdW.get0 (by assumption) rfl (Holds.drop hw_) | exact RdW.get (by assumption) rfl (Holds.drop (Holds.drop hw_)) | exact RdW.get0 (by assumption) rfl (Holds.drop (Holds.drop hw_)) | exact RdW.get (by assumption) rfl (Holds.drop (Holds.drop (Holds.drop hw_))) | exact RdW.get0 (by assumption) rfl (Holds.drop (Holds.drop (Holds.drop hw_))) | assumption) (by exact rfl) ?_
      | refine VcD.loadR tabOk rfl rfl rfl rfl rfl rfl rfl (by first | exact H | exact Holds.drop H | exact Holds.drop (Holds.drop H) | trivial | assumption) (by intro w_ hw_; first | exact RdW.rd (by assumption) hw_ | exact RdW.rd (by assumption) (Holds.drop hw_) | exact RdW.rd (by assumption) (Holds.drop (Holds.drop hw_)) | exact RdW.rd (by assumption) (Holds.drop (Holds.drop (Holds.drop hw_))) | assumption) rfl ?_
      | refine VcD.loadN tabOk rfl rfl rfl rfl rfl rfl rfl (by first | exact H | exact Holds.drop H | exact Holds.drop (Holds.drop H) | trivial | assumption) (by intro w_ hw_; first | exact hw_ | exact (Holds.f1 hw_) | exact (Holds.f2 hw_) | exact (Holds.f3 hw_) | exact (Holds.f4 hw_) | exact (Holds.f5 hw_) | exact (Holds.f6 hw_)) (by exact rfl) ?_
      | refine VcD.indexAddr0 tabOk rfl rfl rfl rfl rfl rfl rfl (by first | exact H | exact Holds.drop H | exact Holds.drop (Holds.drop H) | trivial | assumption) (by omega) (by omega) ?_
      | refine VcD.indexAddr tabOk rfl rfl rfl rfl rfl rfl rfl (by first | exact H | exact Holds.drop H | exact Holds.drop (Holds.drop H) | trivial | assumption) (by omega) (by omega) ?_
      | refine VcD.indexArr0 tabOk rfl rfl rfl rfl rfl rfl rfl (by first | exact H | exact Holds.drop H | exact Holds.drop (Holds.drop H) | trivial | assumption) (by omega) (by omega) ?_
      | refine VcD.indexArr tabOk rfl rfl rfl rfl rfl rfl rfl (by first | exact H | exact Holds.drop H | exact Holds.drop (Holds.drop H) | trivial | assumption) (by omega) (by omega) ?_
      | refine VcD.eqS tabOk rfl rfl rfl rfl rfl rfl (by first | exact H | exact Holds.drop H | exact Holds.drop (Holds.drop H) | trivial | assumption) rfl (by kernel_rfl) (by kernel_rfl) rfl rfl (by first | exact .inl rfl | exact .inr rfl) ?_
      | (refine VcD.guardT rfl rfl rfl rfl rfl (fun h => ?_) (fun h => ?_) <;> first | (cases h; done) | (exfalso; simp only [decide_eq_true_eq, decide_eq_false_iff_not] at h; omega) | (with_reducible have hp := of_decide_eq_true h) | (with_reducible have hp := of_decide_eq_false h) | (with_reducible have hp := ndec_t h) | (with_reducible have hp := ndec_f h) | skip))
      | (show VcD _ _ _ _ _ (.only _ _) _ _ _; first
      | (refine VcD.callF (f := F_lock_Valid) rfl ok_lock_Valid rfl rfl rfl rfl (Rets.mono (Valid_any H hv.up hl) ?_); rintro _ w ⟨rfl, H⟩; refine ⟨(by first | exact H | exact Holds.drop H | exact Holds.drop (Holds.drop H) | trivial | assumption), ?_⟩)
      | (refine VcD.callF (f := F_lock_isSpan) rfl ok_lock_isSpan rfl rfl rfl rfl (Rets.mono (isSpan_any H s) ?_); rintro _ w ⟨rfl, H⟩; refine ⟨(by first | exact H | exact Holds.drop H | exact Holds.drop (Holds.drop H) | trivial | assumption), ?_⟩)
      | (refine VcD.callF (f := F_lock_meet) rfl ok_lock_meet rfl rfl rfl rfl (Rets.mono (meet_any H _ _) ?_); rintro _ w ⟨rfl, H⟩; refine ⟨(by first | exact H | exact Holds.drop H | exact Holds.drop (Holds.drop H) | trivial | assumption), ?_⟩)
      | (refine VcD.callF (f := F_slices_Clone_api_Span_api_Span) rfl ok_slices_Clone_api_Span_api_Span rfl rfl rfl rfl (Rets.mono (Clone_any H hv.up.up (spC_one l) hl) ?_); rintro _ w H; refine ⟨(by first | exact H | exact Holds.drop H | exact Holds.drop (Holds.drop H) | trivial | assumption), ?_⟩)
      | (refine VcD.callF (f := F_slices_Clone_api_Span_api_Span) rfl ok_slices_Clone_api_Span_api_Span rfl rfl rfl rfl (Rets.mono (Clone_any H hv.up (spC_one l) hl) ?_); rintro _ w H; refine ⟨(by first | exact H | exact Holds.drop H | exact Holds.drop (Holds.drop H) | trivial | assumption), ?_⟩)
      | (refine VcD.callF (f := F_slices_Insert_api_Span_api_Span) rfl ok_slices_Insert_api_Span_api_Span rfl rfl rfl rfl (Rets.mono (Insert_any H (spC_one l) hs1 rfl hk hl) ?_); rintro _ w H; refine ⟨(by first | exact H | exact Holds.drop H | exact Holds.drop (Holds.drop H) | trivial | assumption), ?_⟩)
      | (refine VcD.callF (f := F_slices_Insert_api_Span_api_Span) rfl ok_slices_Insert_api_Span_api_Span rfl rfl rfl rfl (Rets.mono (Insert_any H.swap (spC_one l) hs1 rfl hk hl) ?_); rintro _ w H; refine ⟨(by first | exact H | exact Holds.drop H | exact Holds.drop (Holds.drop H) | trivial | assumption), ?_⟩)
      | (refine VcD.eff rfl rfl rfl rfl (OpE.buildSliceP tabOk H rfl rfl rfl rfl) ?_; rintro _ w ⟨b_, rfl, H⟩; refine ⟨(by first | exact H | exact Holds.drop H | exact Holds.drop (Holds.drop H) | trivial | assumption), ?_⟩)
      | refine VcD.skip rfl rfl rfl (by first | exact H | exact Holds.drop H | exact Holds.drop (Holds.drop H) | trivial | assumption) ?_
      | (refine VcD.guardO rfl rfl rfl rfl rfl (fun h => ?_) (fun h => ?_) <;> first | (cases h; done) | (exfalso; simp only [decide_eq_true_eq, decide_eq_false_iff_not] at h; omega) | (with_reducible have hp := of_decide_eq_true h) | (with_reducible have hp := of_decide_eq_false h) | (with_reducible have hp := ndec_t h) | (with_reducible have hp := ndec_f h) | skip))
      | (show VcD _ _ _ _ _ (.two _ _ _ _) _ _ _; refine VcD.two ?_ ?_))
        | (show EfO _ _ _ _ _ _ _ _ _; first
      | (refine EfO.call (f := F_lock_Valid) rfl rfl rfl rfl (OpC.call ok_lock_Valid rfl) (Rets.mono (Valid_any H hv.up hl) ?_); rintro _ w ⟨rfl, H⟩; refine ⟨(by first | exact H | exact Holds.drop H | exact Holds.drop (Holds.drop H) | trivial | assumption), ?_⟩)
      | (refine EfO.call (f := F_lock_isSpan) rfl rfl rfl rfl (OpC.call ok_lock_isSpan rfl) (Rets.mono (isSpan_any H s) ?_); rintro _ w ⟨rfl, H⟩; refine ⟨(by first | exact H | exact Holds.drop H | exact Holds.drop (Holds.drop H) | trivial | assumption), ?_⟩)
      | (refine EfO.call (f := F_lock_meet) rfl rfl rfl rfl (OpC.call ok_lock_meet rfl) (Rets.mono (meet_any H _ _) ?_); rintro _ w ⟨rfl, H⟩; refine ⟨(by first | exact H | exact Holds.drop H | exact Holds.drop (Holds.drop H) | trivial | assumption), ?_⟩)
      | (refine EfO.call (f := F_slices_Clone_api_Span_api_Span) rfl rfl rfl rfl (OpC.call ok_slices_Clone_api_Span_api_Span rfl) (Rets.mono (Clone_any H hv.up.up (spC_one l) hl) ?_); rintro _ w H; refine ⟨(by first | exact H | exact Holds.drop H | exact Holds.drop (Holds.drop H) | trivial | assumption), ?_⟩)
      | (refine EfO.call (f := F_slices_Clone_api_Span_api_Span) rfl rfl rfl rfl (OpC.call ok_slices_Clone_api_Span_api_Span rfl) (Rets.mono (Clone_any H hv.up (spC_one l) hl) ?_); rintro _ w H; refine ⟨(by first | exact H | exact Holds.drop H | exact Holds.drop (Holds.drop H) | trivial | assumption), ?_⟩)
      | (refine EfO.call (f := F_slices_Insert_api_Span_api_Span) rfl rfl rfl rfl (OpC.call ok_slices_Insert_api_Span_api_Span rfl) (Rets.mono (Insert_any H (spC_one l) hs1 rfl hk hl) ?_); rintro _ w H; refine ⟨(by first | exact H | exact Holds.drop H | exact Holds.drop (Holds.drop H) | trivial | assumption), ?_⟩)
      | (refine EfO.call (f := F_slices_Insert_api_Span_api_Span) rfl rfl rfl rfl (OpC.call ok_slices_Insert_api_Span_api_Span rfl) (Rets.mono (Insert_any H.swap (spC_one l) hs1 rfl hk hl) ?_); rintro _ w H; refine ⟨(by first | exact H | exact Holds.drop H | exact Holds.drop (Holds.drop H) | trivial | assumption), ?_⟩)
      | (refine EfO.eff rfl rfl rfl rfl (OpE.buildSliceP tabOk H rfl rfl rfl rfl) ?_; rintro _ w ⟨b_, rfl, H⟩; refine ⟨(by first | exact H | exact Holds.drop H | exact Holds.drop (Holds.drop H) | trivial | assumption), ?_⟩))
        | (show Vc _ _ _ _ _ _; first
      | refine Vc.seq ?_
      | refine Vc.region ?_
      | refine Vc.condT rfl ?_
      | refine Vc.condF rfl ?_
      | refine Vc.ret ?_
      | refine Vc.skip ?_
      | refine Vc.block ?_
      | refine Vc.exit ?_
      | refine Vc.drawnH (id := 17) H (.take 0 (.take 1 (.take 2 (.take 3 (.take 4 (.take 5 (.take 6 (.take 10 (.take 7 (.take 8 (.take 9 (.take 11 (.take 12 (.take 13 .done)))))))))))))) mixed (by kernel_rfl) (fun w H => ?_)
      | (refine Vc.drawn (id := 19) (.take 0 (.take 2 (.take 3 (.two 1 4 (.only 4 (.only 5 (.take 6 (.take 7 .done)))) (.only 1 (.only 5 (.take 6 (.take 7 .done)))))))) (fun w => Holds I w (blk b 28 (spC s) :: L)) mixed (by kernel_rfl) ?_; have H := H.drew (w.drawn + 1))
      | (refine Vc.cond rfl (fun h => ?_) (fun h => ?_) <;> first | (cases h; done) | (exfalso; simp only [decide_eq_true_eq, decide_eq_false_iff_not] at h; omega) | (with_reducible have hp := of_decide_eq_true h) | (with_reducible have hp := of_decide_eq_false h) | (with_reducible have hp := ndec_t h) | (with_reducible have hp := ndec_f h) | skip))
        | (show KSeq _ _ _ _ _ _ _; first
      | refine KSeq.normal ?_
      | refine KSeq.ret ?_
      | refine KSeq.exit ?_)
        | (show KBlock _ _ _ _ _; first
      | refine KBlock.normal ?_
      | refine KBlock.here ?_
      | refine KBlock.on rfl ?_
      | refine KBlock.ret ?_)
        | refine KLoop.exit ?_
        | refine KLoop.ret ?_
        | refine KCut.exit ?_
        | refine KCut.ret ?_
        | (show KEnd _ _ _ _ _ _; first
      | refine KEnd.mk (Or.inr rfl) ⟨_, (ResL.tmp rfl (ResL.tmp rfl ResL.nil)), ?_⟩
      | refine KEnd.mk (Or.inl rfl) ⟨_, (ResL.tmp rfl (ResL.tmp rfl ResL.nil)), ?_⟩))
      all_goals
        have e5 : posS l s = k := posS_at hk hall2 (fun h => absurd h hlt)
        rw [e1, e2, e5]
        refine ⟨_, rfl, ?_⟩
        show Holds I _ (own _ _ 3 (l.take k ++ s :: l.drop k).length ((l.take k ++ s :: l.drop k).flatMap spC) :: L)
        rw [e3 k hk, e4]
        exact H.swap.drop
theorem May1_any (H : Holds I w L) (s : Sp) (by' : Int) (t : Sp) {c d : Nat} (hc : RdW I L c 0 [.int .i64 by']) (hd : RdW I L d 0 (spC t)) : Rets Try.prog F_lock_May_1 (#[] ++ [spV s].toArray ++ #[.pointer (some ⟨c, 0, none⟩), .pointer (some ⟨d, 0, none⟩)]) w fun u w' => u = .bool (!decide (s.by' = by') && meetS t s) ∧ Holds I w' L := by
  refine ok_lock_May_1.rets rfl ?_
  repeat' (first
    | (show VcL _ _ _ _ _ _ _ _; first
      | refine VcL.pures tabOk rfl ?_
      | refine VcL.nil ?_
      | (show VcL _ _ _ _ (⟨_, .load _ _, _, _, _, _⟩ :: _) _ _ _; first
      | refine VcL.load1 tabOk rfl rfl rfl rfl rfl (by first | exact Holds.cell H rfl | exact Holds.cell (Holds.f1 H) rfl | exact Holds.cell (Holds.f2 H) rfl | exact Holds.cell (Holds.f3 H) rfl | exact Holds.cell (Holds.f4 H) rfl | exact Holds.cell (Holds.f5 H) rfl | exact Holds.cell (Holds.f6 H) rfl | exact RdW.get (by assumption) rfl H | exact RdW.get0 (by assumption) rfl H | exact RdW.get (by assumption) rfl (Holds.drop H) | exact RdW.get0 (by assumption) rfl (Holds.drop H) | exact RdW.get (by assumption) rfl (Holds.drop (Holds.drop H)) | exact RdW.get0 (by assumption) rfl (Holds.drop (Holds.drop H)) | exact RdW.get (by assumption) rfl (Holds.drop (Holds.drop (Holds.drop H))) | exact RdW.get0 (by assumption) rfl (Holds.drop (Holds.drop (Holds.drop H))) | assumption) ?_
      | refine VcL.loadR tabOk rfl rfl rfl rfl rfl rfl (by first | exact RdW.rd (by assumption) H | exact RdW.rd (by assumption) (Holds.drop H) | exact RdW.rd (by assumption) (Holds.drop (Holds.drop H)) | exact RdW.rd (by assumption) (Holds.drop (Holds.drop (Holds.drop H))) | assumption) rfl ?_
      | refine VcL.loadN tabOk rfl rfl rfl rfl rfl rfl (by first | exact H | exact (Holds.f1 H) | exact (Holds.f2 H) | exact (Holds.f3 H) | exact (Holds.f4 H) | exact (Holds.f5 H) | exact (Holds.f6 H)) (by exact rfl) ?_)
      | (show VcL _ _ _ _ (⟨_, .binOp _ _ _ _ _, _, _, _, _⟩ :: _) _ _ _; first
      | refine VcL.eqS tabOk rfl rfl rfl rfl rfl rfl (by kernel_rfl) (by kernel_rfl) rfl rfl (by first | exact .inl rfl | exact .inr rfl) ?_)
      | refine VcL.box H rfl rfl rfl rfl rfl (fun b w H => ?_)
      | (show VcL _ _ _ _ (⟨_, .call ⟨.value (.func F_lock_meet), _, _⟩, _, _, _, _⟩ :: _) _ _ _; first
      | (refine VcL.callF ok_lock_meet rfl rfl rfl rfl (Rets.mono (meet_any H _ _) ?_); rintro _ w ⟨rfl, H⟩))
      | (refine VcL.guard rfl rfl rfl rfl (fun h => ?_) (fun h => ?_) <;> first | (cases h; done) | (exfalso; simp only [decide_eq_true_eq, decide_eq_false_iff_not] at h; omega) | (with_reducible have hp := of_decide_eq_true h) | (with_reducible have hp := of_decide_eq_false h) | (with_reducible have hp := ndec_t h) | (with_reducible have hp := ndec_f h) | skip))
    | (show Vc _ _ _ _ _ _; first
      | refine Vc.seq ?_
      | refine Vc.region ?_
      | refine Vc.condT rfl ?_
      | refine Vc.condF rfl ?_
      | refine Vc.ret ?_
      | refine Vc.skip ?_
      | refine Vc.block ?_
      | refine Vc.exit ?_
      | (refine Vc.cond rfl (fun h => ?_) (fun h => ?_) <;> first | (cases h; done) | (exfalso; simp only [decide_eq_true_eq, decide_eq_false_iff_not] at h; omega) | (with_reducible have hp := of_decide_eq_true h) | (with_reducible have hp := of_decide_eq_false h) | (with_reducible have hp := ndec_t h) | (with_reducible have hp := ndec_f h) | skip))
    | (show KSeq _ _ _ _ _ _ _; first
      | refine KSeq.normal ?_
      | refine KSeq.ret ?_
      | refine KSeq.exit ?_)
    | (show KBlock _ _ _ _ _; first
      | refine KBlock.normal ?_
      | refine KBlock.here ?_
      | refine KBlock.on rfl ?_
      | refine KBlock.ret ?_)
    | refine KLoop.exit ?_
    | refine KLoop.ret ?_
    | refine KCut.exit ?_
    | refine KCut.ret ?_
    | (show KEnd _ _ _ _ _ _; first
      | refine KEnd.mk (Or.inr rfl) ⟨_, (ResL.tmp rfl ResL.nil), ?_⟩
      | refine KEnd.mk (Or.inl rfl) ⟨_, (ResL.tmp rfl ResL.nil), ?_⟩))
  all_goals (refine ⟨?_, H.drop⟩; simp_all [resVal])
def mayOkS (l : List Sp) (t : Sp) : Bool := validS l && (decide (1 ≤ t.by') && (inB t.from' 0 2147483647 && inB t.many 0 2147483647))
def mayS (l : List Sp) (t : Sp) : Bool := mayOkS l t && !(decide (0 < t.many) && l.any (fun s => !decide (s.by' = t.by') && meetS t s))
def mayE (l : List Sp) (t : Sp) : Int := if mayOkS l t then 0 else 2
theorem May_any (H : Holds I w L) {v : Value} {l : List Sp} (hv : SlS I L v l) (hl : l.length ≤ 1000000) (t : Sp) :
    Rets Try.prog F_lock_May #[v, .int .i64 t.by', .int .i64 t.from', .int .i64 t.many] w fun u w' => u = .tuple #[.bool (mayS l t), .int .i64 (mayE l t)] ∧ Holds I w' L := by
  refine ok_lock_May.rets rfl ?_
  repeat' (first
    | (show VcL _ _ _ _ _ _ _ _; first
      | refine VcL.pures tabOk rfl ?_
      | refine VcL.nil ?_
      | (show VcL _ _ _ _ (⟨_, .load _ _, _, _, _, _⟩ :: _) _ _ _; first
      | refine VcL.load1 tabOk rfl rfl rfl rfl rfl (by first | exact Holds.cell H rfl | exact Holds.cell (Holds.f1 H) rfl | exact Holds.cell (Holds.f2 H) rfl | exact Holds.cell (Holds.f3 H) rfl | exact Holds.cell (Holds.f4 H) rfl | exact Holds.cell (Holds.f5 H) rfl | exact Holds.cell (Holds.f6 H) rfl | exact RdW.get (by assumption) rfl H | exact RdW.get0 (by assumption) rfl H | exact RdW.get (by assumption) rfl (Holds.drop H) | exact RdW.get0 (by assumption) rfl (Holds.drop H) | exact RdW.get (by assumption) rfl (Holds.drop (Holds.drop H)) | exact RdW.get0 (by assumption) rfl (Holds.drop (Holds.drop H)) | exact RdW.get (by assumption) rfl (Holds.drop (Holds.drop (Holds.drop H))) | exact RdW.get0 (by assumption) rfl (Holds.drop (Holds.drop (Holds.drop H))) | assumption) ?_
      | refine VcL.loadR tabOk rfl rfl rfl rfl rfl rfl (by first | exact RdW.rd (by assumption) H | exact RdW.rd (by assumption) (Holds.drop H) | exact RdW.rd (by assumption) (Holds.drop (Holds.drop H)) | exact RdW.rd (by assumption) (Holds.drop (Holds.drop (Holds.drop H))) | assumption) rfl ?_
      | refine VcL.loadN tabOk rfl rfl rfl rfl rfl rfl (by first | exact H | exact (Holds.f1 H) | exact (Holds.f2 H) | exact (Holds.f3 H) | exact (Holds.f4 H) | exact (Holds.f5 H) | exact (Holds.f6 H)) (by exact rfl) ?_)
      | (show VcL _ _ _ _ (⟨_, .binOp _ _ _ _ _, _, _, _, _⟩ :: _) _ _ _; first
      | refine VcL.eqS tabOk rfl rfl rfl rfl rfl rfl (by kernel_rfl) (by kernel_rfl) rfl rfl (by first | exact .inl rfl | exact .inr rfl) ?_)
      | refine VcL.box H rfl rfl rfl rfl rfl (fun b w H => ?_)
      | refine VcL.alloc tabOk H rfl rfl rfl rfl (fun b w H => ?_)
      | (show VcL _ _ _ _ (⟨_, .store _ _ _, _, _, _, _⟩ :: _) _ _ _; first
      | refine VcL.store tabOk rfl (by first | exact H | exact (Holds.f1 H) | exact (Holds.f2 H) | exact (Holds.f3 H) | exact (Holds.f4 H) | exact (Holds.f5 H) | exact (Holds.f6 H)) rfl rfl (by exact rfl) (by exact rfl) (by exact rfl) (by exact rfl) (fun w H => ?_))
      | (show VcL _ _ _ _ (⟨_, .call ⟨.value (.func F_lock_Valid), _, _⟩, _, _, _, _⟩ :: _) _ _ _; first
      | (refine VcL.callF ok_lock_Valid rfl rfl rfl rfl (Rets.mono (Valid_any H hv.up hl) ?_); rintro _ w ⟨rfl, H⟩))
      | (show VcL _ _ _ _ (⟨_, .call ⟨.value (.func F_lock_within), _, _⟩, _, _, _, _⟩ :: _) _ _ _; first
      | (refine VcL.callF ok_lock_within rfl rfl rfl rfl (Rets.mono (within_any H _ _ _) ?_); rintro _ w ⟨rfl, H⟩))
      | (show VcL _ _ _ _ (⟨_, .call ⟨.value (.func F_slices_ContainsFunc_api_Span_api_Span), _, _⟩, _, _, _, _⟩ :: _) _ _ _; first
      | (refine VcL.callF ok_slices_ContainsFunc_api_Span_api_Span rfl rfl rfl rfl (Rets.mono (ContainsFunc_any H hv.up.up hl ok_lock_May_1 (fun s => !decide (s.by' = t.by') && meetS t s) (fun w s H => May1_any H s t.by' t Holds.toW.up Holds.toW)) ?_); rintro _ w ⟨rfl, H⟩))
      | (refine VcL.guard rfl rfl rfl rfl (fun h => ?_) (fun h => ?_) <;> first | (cases h; done) | (exfalso; simp only [decide_eq_true_eq, decide_eq_false_iff_not] at h; omega) | (with_reducible have hp := of_decide_eq_true h) | (with_reducible have hp := of_decide_eq_false h) | (with_reducible have hp := ndec_t h) | (with_reducible have hp := ndec_f h) | skip))
    | (show Vc _ _ _ _ _ _; first
      | refine Vc.seq ?_
      | refine Vc.region ?_
      | refine Vc.condT rfl ?_
      | refine Vc.condF rfl ?_
      | refine Vc.ret ?_
      | refine Vc.skip ?_
      | refine Vc.block ?_
      | refine Vc.exit ?_
      | (refine Vc.cond rfl (fun h => ?_) (fun h => ?_) <;> first | (cases h; done) | (exfalso; simp only [decide_eq_true_eq, decide_eq_false_iff_not] at h; omega) | (with_reducible have hp := of_decide_eq_true h) | (with_reducible have hp := of_decide_eq_false h) | (with_reducible have hp := ndec_t h) | (with_reducible have hp := ndec_f h) | skip))
    | (show KSeq _ _ _ _ _ _ _; first
      | refine KSeq.normal ?_
      | refine KSeq.ret ?_
      | refine KSeq.exit ?_)
    | (show KBlock _ _ _ _ _; first
      | refine KBlock.normal ?_
      | refine KBlock.here ?_
      | refine KBlock.on rfl ?_
      | refine KBlock.ret ?_)
    | refine KLoop.exit ?_
    | refine KLoop.ret ?_
    | refine KCut.exit ?_
    | refine KCut.ret ?_
    | (show KEnd _ _ _ _ _ _; first
      | refine KEnd.mk (Or.inr rfl) ⟨_, (ResL.tmp rfl (ResL.tmp rfl ResL.nil)), ?_⟩
      | refine KEnd.mk (Or.inl rfl) ⟨_, (ResL.tmp rfl (ResL.tmp rfl ResL.nil)), ?_⟩))
  all_goals (refine ⟨?_, by first | exact H.drop.drop | exact H.drop⟩; unfold mayS mayE mayOkS; simp_all [resVal] <;> (intros; omega))
/-- A mode: Read, Write, DenyRead, DenyWrite. -/
structure Md where mk ::
  rd : Bool
  wr : Bool
  dr : Bool
  dw : Bool
def mdC (m : Md) : List Value := [.bool m.rd, .bool m.wr, .bool m.dr, .bool m.dw]
def mdV (m : Md) : Value := .agg (mdC m).toArray
theorem mdC_len (m : Md) : (mdC m).length = 4 := rfl
def barS (a b : Md) : Bool := (a.dr && b.rd) || (a.dw && b.wr)
theorem Beside1_any (H : Holds I w L) (a b : Md) : Rets Try.prog F_lock_Beside_1 (#[] ++ [mdV a, mdV b].toArray ++ #[]) w fun u w' => u = .bool (barS a b) ∧ Holds I w' L := by
  refine ok_lock_Beside_1.rets rfl ?_
  repeat' (first
    | (show VcL _ _ _ _ _ _ _ _; first
      | refine VcL.pures tabOk rfl ?_
      | refine VcL.nil ?_
      | (show VcL _ _ _ _ (⟨_, .load _ _, _, _, _, _⟩ :: _) _ _ _; first
      | refine VcL.load1 tabOk rfl rfl rfl rfl rfl (by first | exact Holds.cell H rfl | exact Holds.cell (Holds.f1 H) rfl | exact Holds.cell (Holds.f2 H) rfl | exact Holds.cell (Holds.f3 H) rfl | exact Holds.cell (Holds.f4 H) rfl | exact Holds.cell (Holds.f5 H) rfl | exact Holds.cell (Holds.f6 H) rfl | exact RdW.get (by assumption) rfl H | exact RdW.get0 (by assumption) rfl H | exact RdW.get (by assumption) rfl (Holds.drop H) | exact RdW.get0 (by assumption) rfl (Holds.drop H) | exact RdW.get (by assumption) rfl (Holds.drop (Holds.drop H)) | exact RdW.get0 (by assumption) rfl (Holds.drop (Holds.drop H)) | exact RdW.get (by assumption) rfl (Holds.drop (Holds.drop (Holds.drop H))) | exact RdW.get0 (by assumption) rfl (Holds.drop (Holds.drop (Holds.drop H))) | assumption) ?_
      | refine VcL.loadR tabOk rfl rfl rfl rfl rfl rfl (by first | exact RdW.rd (by assumption) H | exact RdW.rd (by assumption) (Holds.drop H) | exact RdW.rd (by assumption) (Holds.drop (Holds.drop H)) | exact RdW.rd (by assumption) (Holds.drop (Holds.drop (Holds.drop H))) | assumption) rfl ?_
      | refine VcL.loadN tabOk rfl rfl rfl rfl rfl rfl (by first | exact H | exact (Holds.f1 H) | exact (Holds.f2 H) | exact (Holds.f3 H) | exact (Holds.f4 H) | exact (Holds.f5 H) | exact (Holds.f6 H)) (by exact rfl) ?_)
      | refine VcL.box H rfl rfl rfl rfl rfl (fun b w H => ?_)
      | (refine VcL.guard rfl rfl rfl rfl (fun h => ?_) (fun h => ?_) <;> first | (cases h; done) | (exfalso; simp only [decide_eq_true_eq, decide_eq_false_iff_not] at h; omega) | (with_reducible have hp := of_decide_eq_true h) | (with_reducible have hp := of_decide_eq_false h) | (with_reducible have hp := ndec_t h) | (with_reducible have hp := ndec_f h) | skip))
    | (show Vc _ _ _ _ _ _; first
      | refine Vc.seq ?_
      | refine Vc.region ?_
      | refine Vc.condT rfl ?_
      | refine Vc.condF rfl ?_
      | refine Vc.ret ?_
      | refine Vc.skip ?_
      | refine Vc.block ?_
      | refine Vc.exit ?_
      | (refine Vc.cond rfl (fun h => ?_) (fun h => ?_) <;> first | (cases h; done) | (exfalso; simp only [decide_eq_true_eq, decide_eq_false_iff_not] at h; omega) | (with_reducible have hp := of_decide_eq_true h) | (with_reducible have hp := of_decide_eq_false h) | (with_reducible have hp := ndec_t h) | (with_reducible have hp := ndec_f h) | skip))
    | (show KSeq _ _ _ _ _ _ _; first
      | refine KSeq.normal ?_
      | refine KSeq.ret ?_
      | refine KSeq.exit ?_)
    | (show KBlock _ _ _ _ _; first
      | refine KBlock.normal ?_
      | refine KBlock.here ?_
      | refine KBlock.on rfl ?_
      | refine KBlock.ret ?_)
    | refine KLoop.exit ?_
    | refine KLoop.ret ?_
    | refine KCut.exit ?_
    | refine KCut.ret ?_
    | (show KEnd _ _ _ _ _ _; first
      | refine KEnd.mk (Or.inr rfl) ⟨_, (ResL.tmp rfl ResL.nil), ?_⟩
      | refine KEnd.mk (Or.inl rfl) ⟨_, (ResL.tmp rfl ResL.nil), ?_⟩))
  all_goals (refine ⟨?_, H.drop.drop⟩; unfold barS; simp_all [resVal])
def besS (a b : Md) : Bool := !barS a b && !barS b a
theorem Beside_any (H : Holds I w L) (a c : Md) : Rets Try.prog F_lock_Beside #[mdV a, mdV c] w fun u w' => u = .bool (besS a c) ∧ Holds I w' L := by
  refine ok_lock_Beside.rets rfl ?_
  repeat' (first
    | (show VcL _ _ _ _ _ _ _ _; first
      | refine VcL.pures tabOk rfl ?_
      | refine VcL.nil ?_
      | (show VcL _ _ _ _ (⟨_, .load _ _, _, _, _, _⟩ :: _) _ _ _; first
      | refine VcL.load1 tabOk rfl rfl rfl rfl rfl (by first | exact Holds.cell H rfl | exact Holds.cell (Holds.f1 H) rfl | exact Holds.cell (Holds.f2 H) rfl | exact Holds.cell (Holds.f3 H) rfl | exact Holds.cell (Holds.f4 H) rfl | exact Holds.cell (Holds.f5 H) rfl | exact Holds.cell (Holds.f6 H) rfl | exact RdW.get (by assumption) rfl H | exact RdW.get0 (by assumption) rfl H | exact RdW.get (by assumption) rfl (Holds.drop H) | exact RdW.get0 (by assumption) rfl (Holds.drop H) | exact RdW.get (by assumption) rfl (Holds.drop (Holds.drop H)) | exact RdW.get0 (by assumption) rfl (Holds.drop (Holds.drop H)) | exact RdW.get (by assumption) rfl (Holds.drop (Holds.drop (Holds.drop H))) | exact RdW.get0 (by assumption) rfl (Holds.drop (Holds.drop (Holds.drop H))) | assumption) ?_
      | refine VcL.loadR tabOk rfl rfl rfl rfl rfl rfl (by first | exact RdW.rd (by assumption) H | exact RdW.rd (by assumption) (Holds.drop H) | exact RdW.rd (by assumption) (Holds.drop (Holds.drop H)) | exact RdW.rd (by assumption) (Holds.drop (Holds.drop (Holds.drop H))) | assumption) rfl ?_
      | refine VcL.loadN tabOk rfl rfl rfl rfl rfl rfl (by first | exact H | exact (Holds.f1 H) | exact (Holds.f2 H) | exact (Holds.f3 H) | exact (Holds.f4 H) | exact (Holds.f5 H) | exact (Holds.f6 H)) (by exact rfl) ?_)
      | refine VcL.box H rfl rfl rfl rfl rfl (fun b w H => ?_)
      | (show VcL _ _ _ _ (⟨_, .call ⟨.value (.tmp _), _, _⟩, _, _, _, _⟩ :: _) _ _ _; first
      | (refine VcL.callV ok_lock_Beside_1 rfl rfl rfl rfl rfl (Rets.mono (Beside1_any H a c) ?_); rintro _ w ⟨rfl, H⟩))
      | (show VcL _ _ _ _ (⟨_, .call ⟨.value (.tmp _), _, _⟩, _, _, _, _⟩ :: _) _ _ _; first
      | (refine VcL.callV ok_lock_Beside_1 rfl rfl rfl rfl rfl (Rets.mono (Beside1_any H c a) ?_); rintro _ w ⟨rfl, H⟩))
      | (refine VcL.guard rfl rfl rfl rfl (fun h => ?_) (fun h => ?_) <;> first | (cases h; done) | (exfalso; simp only [decide_eq_true_eq, decide_eq_false_iff_not] at h; omega) | (with_reducible have hp := of_decide_eq_true h) | (with_reducible have hp := of_decide_eq_false h) | (with_reducible have hp := ndec_t h) | (with_reducible have hp := ndec_f h) | skip))
    | (show Vc _ _ _ _ _ _; first
      | refine Vc.seq ?_
      | refine Vc.region ?_
      | refine Vc.condT rfl ?_
      | refine Vc.condF rfl ?_
      | refine Vc.ret ?_
      | refine Vc.skip ?_
      | refine Vc.block ?_
      | refine Vc.exit ?_
      | (refine Vc.cond rfl (fun h => ?_) (fun h => ?_) <;> first | (cases h; done) | (exfalso; simp only [decide_eq_true_eq, decide_eq_false_iff_not] at h; omega) | (with_reducible have hp := of_decide_eq_true h) | (with_reducible have hp := of_decide_eq_false h) | (with_reducible have hp := ndec_t h) | (with_reducible have hp := ndec_f h) | skip))
    | (show KSeq _ _ _ _ _ _ _; first
      | refine KSeq.normal ?_
      | refine KSeq.ret ?_
      | refine KSeq.exit ?_)
    | (show KBlock _ _ _ _ _; first
      | refine KBlock.normal ?_
      | refine KBlock.here ?_
      | refine KBlock.on rfl ?_
      | refine KBlock.ret ?_)
    | refine KLoop.exit ?_
    | refine KLoop.ret ?_
    | refine KCut.exit ?_
    | refine KCut.ret ?_
    | (show KEnd _ _ _ _ _ _; first
      | refine KEnd.mk (Or.inr rfl) ⟨_, (ResL.tmp rfl ResL.nil), ?_⟩
      | refine KEnd.mk (Or.inl rfl) ⟨_, (ResL.tmp rfl ResL.nil), ?_⟩))
  all_goals (refine ⟨?_, H.drop.drop⟩; unfold besS; simp_all [resVal])
abbrev SlM (I : Imm) (L : List Asn) (v : Value) (l : List Md) : Prop := SlR I L v 4 l.length (l.flatMap mdC)
def mdAt (l : List Md) (k : Nat) : Md := l.getD k ⟨false, false, false, false⟩
theorem mdAt_get {l : List Md} {k : Nat} (h : k < l.length) : l[k]? = some (mdAt l k) := by unfold mdAt; rw [List.getD_eq_getElem?_getD, List.getElem?_eq_getElem h]; rfl
def idxM (p : Md → Bool) (l : List Md) : Int := match l.findIdx? p with
  | some k => k
  | none => -1
theorem idxM_yes {p : Md → Bool} {l : List Md} {k : Nat} (hk : k < l.length) (h : p (mdAt l k) = true) (hall : ∀ j, j < k → p (mdAt l j) = false) : idxM p l = k := by
  have : l.findIdx? p = some k := by
    rw [List.findIdx?_eq_some_iff_getElem]
    refine ⟨hk, ?_, fun j hj => ?_⟩
    · have := mdAt_get hk
      rw [List.getElem?_eq_getElem hk] at this
      simp only [Option.some.injEq] at this
      rw [this]; exact h
    · have hjl : j < l.length := by omega
      have := mdAt_get hjl
      rw [List.getElem?_eq_getElem hjl] at this
      simp only [Option.some.injEq] at this
      rw [this, hall j hj]; simp
  unfold idxM
  rw [this]
theorem idxM_no {p : Md → Bool} {l : List Md} (hall : ∀ j, j < l.length → p (mdAt l j) = false) : idxM p l = -1 := by
  have : l.findIdx? p = none := by
    rw [List.findIdx?_eq_none_iff]
    intro x hx
    obtain ⟨j, hj, rfl⟩ := List.getElem_of_mem hx
    have := mdAt_get hj
    rw [List.getElem?_eq_getElem hj] at this
    simp only [Option.some.injEq] at this
    rw [this]; exact hall j hj
  unfold idxM
  rw [this]
theorem IndexFuncM_any (H : Holds I w L) {v : Value} {l : List Md} (hv : SlM I L v l) (hl : l.length ≤ 1000000) {g m : Nat} {rs : List ResultVar} {c : Code} {caps : Array Value} (hf : FnOk Try.prog g m rs c) (p : Md → Bool)
    (hF : ∀ w s, Holds I w L → Rets Try.prog g (#[] ++ [mdV s].toArray ++ caps) w fun u w' => u = .bool (p s) ∧ Holds I w' L) :
    Rets Try.prog F_slices_IndexFunc_api_Mode_api_Mode #[v, .func (.func g) #[] caps] w fun u w' => u = .int .i64 (idxM p l) ∧ Holds I w' L := by
  obtain ⟨A, cap, rfl, hcap⟩ := hv.form
  refine ok_slices_IndexFunc_api_Mode_api_Mode.rets rfl ?_
  repeat' (first
    | (show VcL _ _ _ _ _ _ _ _; first
      | refine VcL.pures tabOk rfl ?_
      | refine VcL.nil ?_
      | (show VcL _ _ _ _ (⟨_, .load _ _, _, _, _, _⟩ :: _) _ _ _; first
      | refine VcL.load1 tabOk rfl rfl rfl rfl rfl (by first | exact Holds.cell H rfl | exact Holds.cell (Holds.f1 H) rfl | exact Holds.cell (Holds.f2 H) rfl | exact Holds.cell (Holds.f3 H) rfl | exact Holds.cell (Holds.f4 H) rfl | exact Holds.cell (Holds.f5 H) rfl | exact Holds.cell (Holds.f6 H) rfl | exact RdW.get (by assumption) rfl H | exact RdW.get0 (by assumption) rfl H | exact RdW.get (by assumption) rfl (Holds.drop H) | exact RdW.get0 (by assumption) rfl (Holds.drop H) | exact RdW.get (by assumption) rfl (Holds.drop (Holds.drop H)) | exact RdW.get0 (by assumption) rfl (Holds.drop (Holds.drop H)) | exact RdW.get (by assumption) rfl (Holds.drop (Holds.drop (Holds.drop H))) | exact RdW.get0 (by assumption) rfl (Holds.drop (Holds.drop (Holds.drop H))) | assumption) ?_
      | refine VcL.loadR tabOk rfl rfl rfl rfl rfl rfl (by first | exact RdW.rd (by assumption) H | exact RdW.rd (by assumption) (Holds.drop H) | exact RdW.rd (by assumption) (Holds.drop (Holds.drop H)) | exact RdW.rd (by assumption) (Holds.drop (Holds.drop (Holds.drop H))) | assumption) rfl ?_
      | refine VcL.loadN tabOk rfl rfl rfl rfl rfl rfl (by first | exact H | exact (Holds.f1 H) | exact (Holds.f2 H) | exact (Holds.f3 H) | exact (Holds.f4 H) | exact (Holds.f5 H) | exact (Holds.f6 H)) (by exact rfl) ?_)
      | (show VcL _ _ _ _ (⟨_, .binOp _ _ _ _ _, _, _, _, _⟩ :: _) _ _ _; first
      | refine VcL.eqS tabOk rfl rfl rfl rfl rfl rfl (by kernel_rfl) (by kernel_rfl) rfl rfl (by first | exact .inl rfl | exact .inr rfl) ?_)
      | (show VcL _ _ _ _ (⟨_, .indexAddr _ _ _, _, _, _, _⟩ :: _) _ _ _; first
      | refine VcL.indexAddr0 tabOk rfl rfl rfl rfl rfl rfl (by omega) (by omega) ?_
      | refine VcL.indexAddr tabOk rfl rfl rfl rfl rfl rfl (by omega) (by omega) ?_
      | refine VcL.indexArr0 tabOk rfl rfl rfl rfl rfl rfl (by omega) (by omega) ?_
      | refine VcL.indexArr tabOk rfl rfl rfl rfl rfl rfl (by omega) (by omega) ?_)
      | (show VcL _ _ _ _ (⟨_, .call ⟨.value (.tmp _), _, _⟩, _, _, _, _⟩ :: _) _ _ _; first
      | (refine VcL.callV hf rfl rfl rfl rfl rfl (Rets.mono (hF _ _ H) ?_); rintro _ w ⟨rfl, H⟩))
      | (refine VcL.guard rfl rfl rfl rfl (fun h => ?_) (fun h => ?_) <;> first | (cases h; done) | (exfalso; simp only [decide_eq_true_eq, decide_eq_false_iff_not] at h; omega) | (with_reducible have hp := of_decide_eq_true h) | (with_reducible have hp := of_decide_eq_false h) | (with_reducible have hp := ndec_t h) | (with_reducible have hp := ndec_f h) | skip))
    | (show Vc _ _ _ _ _ _; first
      | refine Vc.seq ?_
      | refine Vc.region ?_
      | refine Vc.condT rfl ?_
      | refine Vc.condF rfl ?_
      | refine Vc.ret ?_
      | refine Vc.skip ?_
      | refine Vc.block ?_
      | refine Vc.exit ?_
      | (refine Vc.cond rfl (fun h => ?_) (fun h => ?_) <;> first | (cases h; done) | (exfalso; simp only [decide_eq_true_eq, decide_eq_false_iff_not] at h; omega) | (with_reducible have hp := of_decide_eq_true h) | (with_reducible have hp := of_decide_eq_false h) | (with_reducible have hp := ndec_t h) | (with_reducible have hp := ndec_f h) | skip))
    | (show KSeq _ _ _ _ _ _ _; first
      | refine KSeq.normal ?_
      | refine KSeq.ret ?_
      | refine KSeq.exit ?_)
    | (show KBlock _ _ _ _ _; first
      | refine KBlock.normal ?_
      | refine KBlock.here ?_
      | refine KBlock.on rfl ?_
      | refine KBlock.ret ?_)
    | refine KLoop.exit ?_
    | refine KLoop.ret ?_
    | refine KCut.exit ?_
    | refine KCut.ret ?_
    | (show KEnd _ _ _ _ _ _; first
      | refine KEnd.mk (Or.inr rfl) ⟨_, (ResL.tmp rfl ResL.nil), ?_⟩
      | refine KEnd.mk (Or.inl rfl) ⟨_, (ResL.tmp rfl ResL.nil), ?_⟩))
  refine Vc.loopS [(0, _), (1, _), (7, _)] (fun k : Nat => [(8, .int .i64 k)]) (fun k w => Holds I w L ∧ k ≤ l.length ∧ ∀ j, j < k → p (mdAt l j) = false) (fun k _ => l.length - k) 0 ⟨rfl, trivial⟩ ⟨rfl, rfl, rfl, trivial⟩ ⟨H, Nat.zero_le _, fun j hj => absurd hj (by omega)⟩ ?_
  rintro k w ⟨H, hk, hall⟩
  by_cases hlt : k < l.length
  · obtain ⟨b, o, rfl, hr⟩ := hv.at (by omega)
    have hx := hr.elem mdC_len (mdAt_get hlt)
    repeat' (first
      | (show VcL _ _ _ _ _ _ _ _; first
      | refine VcL.pures tabOk rfl ?_
      | refine VcL.nil ?_
      | (show VcL _ _ _ _ (⟨_, .load _ _, _, _, _, _⟩ :: _) _ _ _; first
      | refine VcL.load1 tabOk rfl rfl rfl rfl rfl (by first | exact Holds.cell H rfl | exact Holds.cell (Holds.f1 H) rfl | exact Holds.cell (Holds.f2 H) rfl | exact Holds.cell (Holds.f3 H) rfl | exact Holds.cell (Holds.f4 H) rfl | exact Holds.cell (Holds.f5 H) rfl | exact Holds.cell (Holds.f6 H) rfl | exact RdW.get (by assumption) rfl H | exact RdW.get0 (by assumption) rfl H | exact RdW.get (by assumption) rfl (Holds.drop H) | exact RdW.get0 (by assumption) rfl (Holds.drop H) | exact RdW.get (by assumption) rfl (Holds.drop (Holds.drop H)) | exact RdW.get0 (by assumption) rfl (Holds.drop (Holds.drop H)) | exact RdW.get (by assumption) rfl (Holds.drop (Holds.drop (Holds.drop H))) | exact RdW.get0 (by assumption) rfl (Holds.drop (Holds.drop (Holds.drop H))) | assumption) ?_
      | refine VcL.loadR tabOk rfl rfl rfl rfl rfl rfl (by first | exact RdW.rd (by assumption) H | exact RdW.rd (by assumption) (Holds.drop H) | exact RdW.rd (by assumption) (Holds.drop (Holds.drop H)) | exact RdW.rd (by assumption) (Holds.drop (Holds.drop (Holds.drop H))) | assumption) rfl ?_
      | refine VcL.loadN tabOk rfl rfl rfl rfl rfl rfl (by first | exact H | exact (Holds.f1 H) | exact (Holds.f2 H) | exact (Holds.f3 H) | exact (Holds.f4 H) | exact (Holds.f5 H) | exact (Holds.f6 H)) (by exact rfl) ?_)
      | (show VcL _ _ _ _ (⟨_, .binOp _ _ _ _ _, _, _, _, _⟩ :: _) _ _ _; first
      | refine VcL.eqS tabOk rfl rfl rfl rfl rfl rfl (by kernel_rfl) (by kernel_rfl) rfl rfl (by first | exact .inl rfl | exact .inr rfl) ?_)
      | (show VcL _ _ _ _ (⟨_, .indexAddr _ _ _, _, _, _, _⟩ :: _) _ _ _; first
      | refine VcL.indexAddr0 tabOk rfl rfl rfl rfl rfl rfl (by omega) (by omega) ?_
      | refine VcL.indexAddr tabOk rfl rfl rfl rfl rfl rfl (by omega) (by omega) ?_
      | refine VcL.indexArr0 tabOk rfl rfl rfl rfl rfl rfl (by omega) (by omega) ?_
      | refine VcL.indexArr tabOk rfl rfl rfl rfl rfl rfl (by omega) (by omega) ?_)
      | (show VcL _ _ _ _ (⟨_, .call ⟨.value (.tmp _), _, _⟩, _, _, _, _⟩ :: _) _ _ _; first
      | (refine VcL.callV hf rfl rfl rfl rfl rfl (Rets.mono (hF _ _ H) ?_); rintro _ w ⟨rfl, H⟩))
      | (refine VcL.guard rfl rfl rfl rfl (fun h => ?_) (fun h => ?_) <;> first | (cases h; done) | (exfalso; simp only [decide_eq_true_eq, decide_eq_false_iff_not] at h; omega) | (with_reducible have hp := of_decide_eq_true h) | (with_reducible have hp := of_decide_eq_false h) | (with_reducible have hp := ndec_t h) | (with_reducible have hp := ndec_f h) | skip))
      | (show Vc _ _ _ _ _ _; first
      | refine Vc.seq ?_
      | refine Vc.region ?_
      | refine Vc.condT rfl ?_
      | refine Vc.condF rfl ?_
      | refine Vc.ret ?_
      | refine Vc.skip ?_
      | refine Vc.block ?_
      | refine Vc.exit ?_
      | (refine Vc.cond rfl (fun h => ?_) (fun h => ?_) <;> first | (cases h; done) | (exfalso; simp only [decide_eq_true_eq, decide_eq_false_iff_not] at h; omega) | (with_reducible have hp := of_decide_eq_true h) | (with_reducible have hp := of_decide_eq_false h) | (with_reducible have hp := ndec_t h) | (with_reducible have hp := ndec_f h) | skip))
      | (show KSeq _ _ _ _ _ _ _; first
      | refine KSeq.normal ?_
      | refine KSeq.ret ?_
      | refine KSeq.exit ?_)
      | (show KBlock _ _ _ _ _; first
      | refine KBlock.normal ?_
      | refine KBlock.here ?_
      | refine KBlock.on rfl ?_
      | refine KBlock.ret ?_)
      | refine KLoop.exit ?_
      | refine KLoop.ret ?_
      | refine KCut.exit ?_
      | refine KCut.ret ?_
      | (show KEnd _ _ _ _ _ _; first
      | refine KEnd.mk (Or.inr rfl) ⟨_, (ResL.tmp rfl ResL.nil), ?_⟩
      | refine KEnd.mk (Or.inl rfl) ⟨_, (ResL.tmp rfl ResL.nil), ?_⟩))
    · exact ⟨by rw [idxM_yes hlt h hall]; rfl, H⟩
    · refine KLoop.again (k + 1) ⟨got_succ rfl (by omega), trivial⟩ ⟨rfl, rfl, rfl, trivial⟩ ⟨H, hlt, fun j hj => ?_⟩ (by omega)
      rcases Nat.lt_or_ge j k with h1 | h1
      · exact hall j h1
      · obtain rfl : j = k := by omega
        exact h
  ·
    repeat' (first
      | (show VcL _ _ _ _ _ _ _ _; first
      | refine VcL.pures tabOk rfl ?_
      | refine VcL.nil ?_
      | (show VcL _ _ _ _ (⟨_, .load _ _, _, _, _, _⟩ :: _) _ _ _; first
      | refine VcL.load1 tabOk rfl rfl rfl rfl rfl (by first | exact Holds.cell H rfl | exact Holds.cell (Holds.f1 H) rfl | exact Holds.cell (Holds.f2 H) rfl | exact Holds.cell (Holds.f3 H) rfl | exact Holds.cell (Holds.f4 H) rfl | exact Holds.cell (Holds.f5 H) rfl | exact Holds.cell (Holds.f6 H) rfl | exact RdW.get (by assumption) rfl H | exact RdW.get0 (by assumption) rfl H | exact RdW.get (by assumption) rfl (Holds.drop H) | exact RdW.get0 (by assumption) rfl (Holds.drop H) | exact RdW.get (by assumption) rfl (Holds.drop (Holds.drop H)) | exact RdW.get0 (by assumption) rfl (Holds.drop (Holds.drop H)) | exact RdW.get (by assumption) rfl (Holds.drop (Holds.drop (Holds.drop H))) | exact RdW.get0 (by assumption) rfl (Holds.drop (Holds.drop (Holds.drop H))) | assumption) ?_
      | refine VcL.loadR tabOk rfl rfl rfl rfl rfl rfl (by first | exact RdW.rd (by assumption) H | exact RdW.rd (by assumption) (Holds.drop H) | exact RdW.rd (by assumption) (Holds.drop (Holds.drop H)) | exact RdW.rd (by assumption) (Holds.drop (Holds.drop (Holds.drop H))) | assumption) rfl ?_
      | refine VcL.loadN tabOk rfl rfl rfl rfl rfl rfl (by first | exact H | exact (Holds.f1 H) | exact (Holds.f2 H) | exact (Holds.f3 H) | exact (Holds.f4 H) | exact (Holds.f5 H) | exact (Holds.f6 H)) (by exact rfl) ?_)
      | (show VcL _ _ _ _ (⟨_, .binOp _ _ _ _ _, _, _, _, _⟩ :: _) _ _ _; first
      | refine VcL.eqS tabOk rfl rfl rfl rfl rfl rfl (by kernel_rfl) (by kernel_rfl) rfl rfl (by first | exact .inl rfl | exact .inr rfl) ?_)
      | (show VcL _ _ _ _ (⟨_, .indexAddr _ _ _, _, _, _, _⟩ :: _) _ _ _; first
      | refine VcL.indexAddr0 tabOk rfl rfl rfl rfl rfl rfl (by omega) (by omega) ?_
      | refine VcL.indexAddr tabOk rfl rfl rfl rfl rfl rfl (by omega) (by omega) ?_
      | refine VcL.indexArr0 tabOk rfl rfl rfl rfl rfl rfl (by omega) (by omega) ?_
      | refine VcL.indexArr tabOk rfl rfl rfl rfl rfl rfl (by omega) (by omega) ?_)
      | (show VcL _ _ _ _ (⟨_, .call ⟨.value (.tmp _), _, _⟩, _, _, _, _⟩ :: _) _ _ _; first
      | (refine VcL.callV hf rfl rfl rfl rfl rfl (Rets.mono (hF _ _ H) ?_); rintro _ w ⟨rfl, H⟩))
      | (refine VcL.guard rfl rfl rfl rfl (fun h => ?_) (fun h => ?_) <;> first | (cases h; done) | (exfalso; simp only [decide_eq_true_eq, decide_eq_false_iff_not] at h; omega) | (with_reducible have hp := of_decide_eq_true h) | (with_reducible have hp := of_decide_eq_false h) | (with_reducible have hp := ndec_t h) | (with_reducible have hp := ndec_f h) | skip))
      | (show Vc _ _ _ _ _ _; first
      | refine Vc.seq ?_
      | refine Vc.region ?_
      | refine Vc.condT rfl ?_
      | refine Vc.condF rfl ?_
      | refine Vc.ret ?_
      | refine Vc.skip ?_
      | refine Vc.block ?_
      | refine Vc.exit ?_
      | (refine Vc.cond rfl (fun h => ?_) (fun h => ?_) <;> first | (cases h; done) | (exfalso; simp only [decide_eq_true_eq, decide_eq_false_iff_not] at h; omega) | (with_reducible have hp := of_decide_eq_true h) | (with_reducible have hp := of_decide_eq_false h) | (with_reducible have hp := ndec_t h) | (with_reducible have hp := ndec_f h) | skip))
      | (show KSeq _ _ _ _ _ _ _; first
      | refine KSeq.normal ?_
      | refine KSeq.ret ?_
      | refine KSeq.exit ?_)
      | (show KBlock _ _ _ _ _; first
      | refine KBlock.normal ?_
      | refine KBlock.here ?_
      | refine KBlock.on rfl ?_
      | refine KBlock.ret ?_)
      | refine KLoop.exit ?_
      | refine KLoop.ret ?_
      | refine KCut.exit ?_
      | refine KCut.ret ?_
      | (show KEnd _ _ _ _ _ _; first
      | refine KEnd.mk (Or.inr rfl) ⟨_, (ResL.tmp rfl ResL.nil), ?_⟩
      | refine KEnd.mk (Or.inl rfl) ⟨_, (ResL.tmp rfl ResL.nil), ?_⟩))
    obtain rfl : k = l.length := by omega
    exact ⟨by rw [idxM_no hall]; rfl, H⟩
theorem ContainsFuncM_any (H : Holds I w L) {v : Value} {l : List Md} (hv : SlM I L v l) (hl : l.length ≤ 1000000) {g m : Nat} {rs : List ResultVar} {c : Code} {caps : Array Value} (hf : FnOk Try.prog g m rs c) (p : Md → Bool)
    (hF : ∀ w s, Holds I w L → Rets Try.prog g (#[] ++ [mdV s].toArray ++ caps) w fun u w' => u = .bool (p s) ∧ Holds I w' L) :
    Rets Try.prog F_slices_ContainsFunc_api_Mode_api_Mode #[v, .func (.func g) #[] caps] w fun u w' => u = .bool (decide (0 ≤ idxM p l)) ∧ Holds I w' L := by
  obtain ⟨A, cap, rfl, hcap⟩ := hv.form
  refine ok_slices_ContainsFunc_api_Mode_api_Mode.rets rfl ?_
  repeat' (first
    | (show VcL _ _ _ _ _ _ _ _; first
      | refine VcL.pures tabOk rfl ?_
      | refine VcL.nil ?_
      | (show VcL _ _ _ _ (⟨_, .binOp _ _ _ _ _, _, _, _, _⟩ :: _) _ _ _; first
      | refine VcL.eqS tabOk rfl rfl rfl rfl rfl rfl (by kernel_rfl) (by kernel_rfl) rfl rfl (by first | exact .inl rfl | exact .inr rfl) ?_)
      | (show VcL _ _ _ _ (⟨_, .call ⟨.value (.func F_slices_IndexFunc_api_Mode_api_Mode), _, _⟩, _, _, _, _⟩ :: _) _ _ _; first
      | (refine VcL.callF ok_slices_IndexFunc_api_Mode_api_Mode rfl rfl rfl rfl (Rets.mono (IndexFuncM_any H hv hl hf p hF) ?_); rintro _ w ⟨rfl, H⟩))
      | (refine VcL.guard rfl rfl rfl rfl (fun h => ?_) (fun h => ?_) <;> first | (cases h; done) | (exfalso; simp only [decide_eq_true_eq, decide_eq_false_iff_not] at h; omega) | (with_reducible have hp := of_decide_eq_true h) | (with_reducible have hp := of_decide_eq_false h) | (with_reducible have hp := ndec_t h) | (with_reducible have hp := ndec_f h) | skip))
    | (show Vc _ _ _ _ _ _; first
      | refine Vc.seq ?_
      | refine Vc.region ?_
      | refine Vc.condT rfl ?_
      | refine Vc.condF rfl ?_
      | refine Vc.ret ?_
      | refine Vc.skip ?_
      | refine Vc.block ?_
      | refine Vc.exit ?_
      | (refine Vc.cond rfl (fun h => ?_) (fun h => ?_) <;> first | (cases h; done) | (exfalso; simp only [decide_eq_true_eq, decide_eq_false_iff_not] at h; omega) | (with_reducible have hp := of_decide_eq_true h) | (with_reducible have hp := of_decide_eq_false h) | (with_reducible have hp := ndec_t h) | (with_reducible have hp := ndec_f h) | skip))
    | (show KSeq _ _ _ _ _ _ _; first
      | refine KSeq.normal ?_
      | refine KSeq.ret ?_
      | refine KSeq.exit ?_)
    | (show KBlock _ _ _ _ _; first
      | refine KBlock.normal ?_
      | refine KBlock.here ?_
      | refine KBlock.on rfl ?_
      | refine KBlock.ret ?_)
    | refine KLoop.exit ?_
    | refine KLoop.ret ?_
    | refine KCut.exit ?_
    | refine KCut.ret ?_
    | (show KEnd _ _ _ _ _ _; first
      | refine KEnd.mk (Or.inr rfl) ⟨_, (ResL.tmp rfl ResL.nil), ?_⟩
      | refine KEnd.mk (Or.inl rfl) ⟨_, (ResL.tmp rfl ResL.nil), ?_⟩))
  exact ⟨rfl, H⟩
theorem May21_any (H : Holds I w L) (a m : Md) {c : Nat} (hc : RdW I L c 0 (mdC m)) : Rets Try.prog F_lock_May2_1 (#[] ++ [mdV a].toArray ++ #[.pointer (some ⟨c, 0, none⟩)]) w fun u w' => u = .bool (!besS a m) ∧ Holds I w' L := by
  refine ok_lock_May2_1.rets rfl ?_
  repeat' (first
    | (show VcL _ _ _ _ _ _ _ _; first
      | refine VcL.pures tabOk rfl ?_
      | refine VcL.nil ?_
      | (show VcL _ _ _ _ (⟨_, .load _ _, _, _, _, _⟩ :: _) _ _ _; first
      | refine VcL.load1 tabOk rfl rfl rfl rfl rfl (by first | exact Holds.cell H rfl | exact Holds.cell (Holds.f1 H) rfl | exact Holds.cell (Holds.f2 H) rfl | exact Holds.cell (Holds.f3 H) rfl | exact Holds.cell (Holds.f4 H) rfl | exact Holds.cell (Holds.f5 H) rfl | exact Holds.cell (Holds.f6 H) rfl | exact RdW.get (by assumption) rfl H | exact RdW.get0 (by assumption) rfl H | exact RdW.get (by assumption) rfl (Holds.drop H) | exact RdW.get0 (by assumption) rfl (Holds.drop H) | exact RdW.get (by assumption) rfl (Holds.drop (Holds.drop H)) | exact RdW.get0 (by assumption) rfl (Holds.drop (Holds.drop H)) | exact RdW.get (by assumption) rfl (Holds.drop (Holds.drop (Holds.drop H))) | exact RdW.get0 (by assumption) rfl (Holds.drop (Holds.drop (Holds.drop H))) | assumption) ?_
      | refine VcL.loadR tabOk rfl rfl rfl rfl rfl rfl (by first | exact RdW.rd (by assumption) H | exact RdW.rd (by assumption) (Holds.drop H) | exact RdW.rd (by assumption) (Holds.drop (Holds.drop H)) | exact RdW.rd (by assumption) (Holds.drop (Holds.drop (Holds.drop H))) | assumption) rfl ?_
      | refine VcL.loadN tabOk rfl rfl rfl rfl rfl rfl (by first | exact H | exact (Holds.f1 H) | exact (Holds.f2 H) | exact (Holds.f3 H) | exact (Holds.f4 H) | exact (Holds.f5 H) | exact (Holds.f6 H)) (by exact rfl) ?_)
      | refine VcL.box H rfl rfl rfl rfl rfl (fun b w H => ?_)
      | (show VcL _ _ _ _ (⟨_, .call ⟨.value (.func F_lock_Beside), _, _⟩, _, _, _, _⟩ :: _) _ _ _; first
      | (refine VcL.callF ok_lock_Beside rfl rfl rfl rfl (Rets.mono (Beside_any H a m) ?_); rintro _ w ⟨rfl, H⟩))
      | (refine VcL.guard rfl rfl rfl rfl (fun h => ?_) (fun h => ?_) <;> first | (cases h; done) | (exfalso; simp only [decide_eq_true_eq, decide_eq_false_iff_not] at h; omega) | (with_reducible have hp := of_decide_eq_true h) | (with_reducible have hp := of_decide_eq_false h) | (with_reducible have hp := ndec_t h) | (with_reducible have hp := ndec_f h) | skip))
    | (show Vc _ _ _ _ _ _; first
      | refine Vc.seq ?_
      | refine Vc.region ?_
      | refine Vc.condT rfl ?_
      | refine Vc.condF rfl ?_
      | refine Vc.ret ?_
      | refine Vc.skip ?_
      | refine Vc.block ?_
      | refine Vc.exit ?_
      | (refine Vc.cond rfl (fun h => ?_) (fun h => ?_) <;> first | (cases h; done) | (exfalso; simp only [decide_eq_true_eq, decide_eq_false_iff_not] at h; omega) | (with_reducible have hp := of_decide_eq_true h) | (with_reducible have hp := of_decide_eq_false h) | (with_reducible have hp := ndec_t h) | (with_reducible have hp := ndec_f h) | skip))
    | (show KSeq _ _ _ _ _ _ _; first
      | refine KSeq.normal ?_
      | refine KSeq.ret ?_
      | refine KSeq.exit ?_)
    | (show KBlock _ _ _ _ _; first
      | refine KBlock.normal ?_
      | refine KBlock.here ?_
      | refine KBlock.on rfl ?_
      | refine KBlock.ret ?_)
    | refine KLoop.exit ?_
    | refine KLoop.ret ?_
    | refine KCut.exit ?_
    | refine KCut.ret ?_
    | (show KEnd _ _ _ _ _ _; first
      | refine KEnd.mk (Or.inr rfl) ⟨_, (ResL.tmp rfl ResL.nil), ?_⟩
      | refine KEnd.mk (Or.inl rfl) ⟨_, (ResL.tmp rfl ResL.nil), ?_⟩))
  exact ⟨rfl, H.drop⟩
def firstM (l : List Md) (m : Md) : Int := idxM (fun a => !besS a m) l
def firstE (l : List Md) (m : Md) : Int := if 0 ≤ firstM l m then 200 else 0
theorem idxM_neg {p : Md → Bool} {l : List Md} (h : ¬ 0 ≤ idxM p l) : idxM p l = -1 := by
  unfold idxM at *
  split <;> simp_all
theorem May2_any (H : Holds I w L) {v : Value} {l : List Md} (hv : SlM I L v l) (hl : l.length ≤ 1000000) (m : Md) :
    Rets Try.prog F_lock_May2 #[v, mdV m] w fun u w' => u = .bool (!decide (0 ≤ firstM l m)) ∧ Holds I w' L := by
  refine ok_lock_May2.rets rfl ?_
  repeat' (first
    | (show VcL _ _ _ _ _ _ _ _; first
      | refine VcL.pures tabOk rfl ?_
      | refine VcL.nil ?_
      | refine VcL.box H rfl rfl rfl rfl rfl (fun b w H => ?_)
      | (show VcL _ _ _ _ (⟨_, .call ⟨.value (.func F_slices_ContainsFunc_api_Mode_api_Mode), _, _⟩, _, _, _, _⟩ :: _) _ _ _; first
      | (refine VcL.callF ok_slices_ContainsFunc_api_Mode_api_Mode rfl rfl rfl rfl (Rets.mono (ContainsFuncM_any H hv.up hl ok_lock_May2_1 (fun a => !besS a m) (fun w s H => May21_any H s m Holds.toW)) ?_); rintro _ w ⟨rfl, H⟩))
      | (refine VcL.guard rfl rfl rfl rfl (fun h => ?_) (fun h => ?_) <;> first | (cases h; done) | (exfalso; simp only [decide_eq_true_eq, decide_eq_false_iff_not] at h; omega) | (with_reducible have hp := of_decide_eq_true h) | (with_reducible have hp := of_decide_eq_false h) | (with_reducible have hp := ndec_t h) | (with_reducible have hp := ndec_f h) | skip))
    | (show Vc _ _ _ _ _ _; first
      | refine Vc.seq ?_
      | refine Vc.region ?_
      | refine Vc.condT rfl ?_
      | refine Vc.condF rfl ?_
      | refine Vc.ret ?_
      | refine Vc.skip ?_
      | refine Vc.block ?_
      | refine Vc.exit ?_
      | (refine Vc.cond rfl (fun h => ?_) (fun h => ?_) <;> first | (cases h; done) | (exfalso; simp only [decide_eq_true_eq, decide_eq_false_iff_not] at h; omega) | (with_reducible have hp := of_decide_eq_true h) | (with_reducible have hp := of_decide_eq_false h) | (with_reducible have hp := ndec_t h) | (with_reducible have hp := ndec_f h) | skip))
    | (show KSeq _ _ _ _ _ _ _; first
      | refine KSeq.normal ?_
      | refine KSeq.ret ?_
      | refine KSeq.exit ?_)
    | (show KBlock _ _ _ _ _; first
      | refine KBlock.normal ?_
      | refine KBlock.here ?_
      | refine KBlock.on rfl ?_
      | refine KBlock.ret ?_)
    | refine KLoop.exit ?_
    | refine KLoop.ret ?_
    | refine KCut.exit ?_
    | refine KCut.ret ?_
    | (show KEnd _ _ _ _ _ _; first
      | refine KEnd.mk (Or.inr rfl) ⟨_, (ResL.tmp rfl ResL.nil), ?_⟩
      | refine KEnd.mk (Or.inl rfl) ⟨_, (ResL.tmp rfl ResL.nil), ?_⟩))
  exact ⟨rfl, H.drop⟩
end Go.Proofs.Ytngnddnbhlbjbaa.V
