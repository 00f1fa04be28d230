/- Rows of spans, changed by the library: Insert, Delete, DeleteFunc. -/
import Derived.Test.YtngnddnbhlbjbaaVC
namespace Go.Proofs.Ytngnddnbhlbjbaa.V
open Go Go.Proofs.YtngnddnbhlbjbaaV
set_option linter.unusedVariables false
set_option linter.unusedSimpArgs false
set_option maxHeartbeats 1000000
attribute [local irreducible] IntKind.wrap repL
variable {I : Imm} {w : World} {L : List Asn}
def zSp : List Value := [.int .i64 0, .int .i64 0, .int .i64 0]
theorem Insert_any {v : Value} {n i vb : Nat} {cs ds : List Value} (H : Holds I w (own v 28 3 n cs :: pt vb (.cells ds.toArray 28 (0, 0)) :: L)) (h1 : ∀ u ∈ cs, oneC u = true) (hd : ∀ u ∈ ds, oneC u = true) (hdl : ds.length = 3) (hi : i ≤ n) (hn : n ≤ 1000000) :
    Rets Try.prog F_slices_Insert_api_Span_api_Span #[v, .int .i64 i, .slice (some ⟨vb, 0, none⟩) 1 1] w fun u w' => Holds I w' (own u 28 3 (n + 1) (cs.take (i * 3) ++ ds ++ cs.drop (i * 3)) :: L) := by
  rcases H.own_cases with ⟨rfl, rfl, rfl, HN⟩ | ⟨b, o, cap, pre, rest, rfl, hcap, hcl, rfl, hrl, HB⟩
  · obtain rfl : i = 0 := by omega
    refine ok_slices_Insert_api_Span_api_Span.rets rfl ?_
    repeat' (first
      | (show VcL _ _ _ _ _ _ _ _; first
      | refine VcL.pures tabOk rfl ?_
      | refine VcL.nil ?_
      | (show VcL _ _ _ _ (⟨_, .binOp _ _ _ _ _, _, _, _, _⟩ :: _) _ _ _; first
      | refine VcL.eqS tabOk rfl rfl rfl rfl rfl rfl (by kernel_rfl) (by kernel_rfl) rfl rfl (by first | exact .inl rfl | exact .inr rfl) ?_)
      | (show VcL _ _ _ _ (⟨_, .slice _ _ _ _ none, _, _, _, _⟩ :: _) _ _ _; first
      | refine VcL.sliceTo tabOk rfl rfl rfl rfl rfl rfl (by omega) ?_
      | refine VcL.sliceFrom tabOk rfl rfl rfl rfl rfl rfl (by omega) (by omega) (fun p_ hp_ => ?_)
      | refine VcL.sliceN tabOk rfl rfl rfl rfl rfl rfl rfl (by omega) (by omega) (fun p_ hp_ => ?_)
      | refine VcL.slice tabOk rfl rfl rfl rfl rfl rfl rfl (by omega) (by omega) (by omega) (fun p_ hp_ => ?_)
      | refine VcL.sliceNil tabOk rfl rfl rfl rfl rfl rfl rfl (by omega) (by omega) ?_)
      | (refine VcL.guard rfl rfl rfl rfl (fun h => ?_) (fun h => ?_) <;> first | (cases h; done) | (exfalso; simp only [decide_eq_true_eq, decide_eq_false_iff_not] at h; omega) | (with_reducible have hp := of_decide_eq_true h) | (with_reducible have hp := of_decide_eq_false h) | (with_reducible have hp := ndec_t h) | (with_reducible have hp := ndec_f h) | skip))
      | (show VcD _ _ _ _ _ _ _ _ _; first
      | refine VcD.pures tabOk (by first | exact H | exact Holds.drop H | exact Holds.drop (Holds.drop H) | trivial | assumption) rfl ?_
      | refine VcD.done ?_
      | (show VcD _ _ _ _ _ (.take _ _) _ _ _; first
      | refine VcD.sliceTo tabOk rfl rfl rfl rfl rfl rfl rfl (by first | exact H | exact Holds.drop H | exact Holds.drop (Holds.drop H) | trivial | assumption) (by omega) ?_
      | refine VcD.sliceFrom tabOk rfl rfl rfl rfl rfl rfl rfl (by first | exact H | exact Holds.drop H | exact Holds.drop (Holds.drop H) | trivial | assumption) (by omega) (by omega) (fun p_ hp_ => ?_)
      | refine VcD.slice tabOk rfl rfl rfl rfl rfl rfl rfl rfl (by first | exact H | exact Holds.drop H | exact Holds.drop (Holds.drop H) | trivial | assumption) (by omega) (by omega) (by omega) (fun p_ hp_ => ?_)
      | refine VcD.sliceNil tabOk rfl rfl rfl rfl rfl rfl rfl rfl (by first | exact H | exact Holds.drop H | exact Holds.drop (Holds.drop H) | trivial | assumption) (by omega) (by omega) ?_
      | refine VcD.eqS tabOk rfl rfl rfl rfl rfl rfl (by first | exact H | exact Holds.drop H | exact Holds.drop (Holds.drop H) | trivial | assumption) rfl (by kernel_rfl) (by kernel_rfl) rfl rfl (by first | exact .inl rfl | exact .inr rfl) ?_
      | (refine VcD.guardT rfl rfl rfl rfl rfl (fun h => ?_) (fun h => ?_) <;> first | (cases h; done) | (exfalso; simp only [decide_eq_true_eq, decide_eq_false_iff_not] at h; omega) | (with_reducible have hp := of_decide_eq_true h) | (with_reducible have hp := of_decide_eq_false h) | (with_reducible have hp := ndec_t h) | (with_reducible have hp := ndec_f h) | skip))
      | (show VcD _ _ _ _ _ (.only _ _) _ _ _; first
      | refine VcD.skip rfl rfl rfl (by first | exact H | exact Holds.drop H | exact Holds.drop (Holds.drop H) | trivial | assumption) ?_
      | (refine VcD.guardO rfl rfl rfl rfl rfl (fun h => ?_) (fun h => ?_) <;> first | (cases h; done) | (exfalso; simp only [decide_eq_true_eq, decide_eq_false_iff_not] at h; omega) | (with_reducible have hp := of_decide_eq_true h) | (with_reducible have hp := of_decide_eq_false h) | (with_reducible have hp := ndec_t h) | (with_reducible have hp := ndec_f h) | skip))
      | (show VcD _ _ _ _ _ (.two _ _ _ _) _ _ _; refine VcD.two ?_ ?_))
      | (show Vc _ _ _ _ _ _; first
      | refine Vc.seq ?_
      | refine Vc.region ?_
      | refine Vc.condT rfl ?_
      | refine Vc.condF rfl ?_
      | refine Vc.ret ?_
      | refine Vc.skip ?_
      | refine Vc.block ?_
      | refine Vc.exit ?_
      | (refine Vc.drawn (id := 11) (.take 0 (.take 1 (.take 2 (.take 3 (.take 5 (.take 6 (.take 4 (.take 7 (.only 8 .done))))))))) (fun _ => True) mixed (by kernel_rfl) ?_; have H := H.drew (w.drawn + 1))
      | (refine Vc.drawn (id := 15) (.take 0 (.take 1 (.take 2 (.take 3 (.take 5 (.take 6 (.take 4 (.take 7 (.only 8 .done))))))))) (fun _ => True) mixed (by kernel_rfl) ?_; have H := H.drew (w.drawn + 1))
      | (refine Vc.cond rfl (fun h => ?_) (fun h => ?_) <;> first | (cases h; done) | (exfalso; simp only [decide_eq_true_eq, decide_eq_false_iff_not] at h; omega) | (with_reducible have hp := of_decide_eq_true h) | (with_reducible have hp := of_decide_eq_false h) | (with_reducible have hp := ndec_t h) | (with_reducible have hp := ndec_f h) | skip))
      | (show KSeq _ _ _ _ _ _ _; first
      | refine KSeq.normal ?_
      | refine KSeq.ret ?_
      | refine KSeq.exit ?_)
      | (show KBlock _ _ _ _ _; first
      | refine KBlock.normal ?_
      | refine KBlock.here ?_
      | refine KBlock.on rfl ?_
      | refine KBlock.ret ?_)
      | refine KLoop.exit ?_
      | refine KLoop.ret ?_
      | refine KCut.exit ?_
      | refine KCut.ret ?_
      | (show KEnd _ _ _ _ _ _; first
      | refine KEnd.mk (Or.inr rfl) ⟨_, (ResL.tmp rfl ResL.nil), ?_⟩
      | refine KEnd.mk (Or.inl rfl) ⟨_, (ResL.tmp rfl ResL.nil), ?_⟩))
    refine VcL.append tabOk rfl rfl rfl rfl (HN.own_nil) (Src.slice hdl HN.pt_rd) hd (by decide) rfl rfl rfl (fun sv w H => ?_)
    repeat' (first
      | (show VcL _ _ _ _ _ _ _ _; first
      | refine VcL.pures tabOk rfl ?_
      | refine VcL.nil ?_
      | (show VcL _ _ _ _ (⟨_, .binOp _ _ _ _ _, _, _, _, _⟩ :: _) _ _ _; first
      | refine VcL.eqS tabOk rfl rfl rfl rfl rfl rfl (by kernel_rfl) (by kernel_rfl) rfl rfl (by first | exact .inl rfl | exact .inr rfl) ?_)
      | (show VcL _ _ _ _ (⟨_, .slice _ _ _ _ none, _, _, _, _⟩ :: _) _ _ _; first
      | refine VcL.sliceTo tabOk rfl rfl rfl rfl rfl rfl (by omega) ?_
      | refine VcL.sliceFrom tabOk rfl rfl rfl rfl rfl rfl (by omega) (by omega) (fun p_ hp_ => ?_)
      | refine VcL.sliceN tabOk rfl rfl rfl rfl rfl rfl rfl (by omega) (by omega) (fun p_ hp_ => ?_)
      | refine VcL.slice tabOk rfl rfl rfl rfl rfl rfl rfl (by omega) (by omega) (by omega) (fun p_ hp_ => ?_)
      | refine VcL.sliceNil tabOk rfl rfl rfl rfl rfl rfl rfl (by omega) (by omega) ?_)
      | (refine VcL.guard rfl rfl rfl rfl (fun h => ?_) (fun h => ?_) <;> first | (cases h; done) | (exfalso; simp only [decide_eq_true_eq, decide_eq_false_iff_not] at h; omega) | (with_reducible have hp := of_decide_eq_true h) | (with_reducible have hp := of_decide_eq_false h) | (with_reducible have hp := ndec_t h) | (with_reducible have hp := ndec_f h) | skip))
      | (show VcD _ _ _ _ _ _ _ _ _; first
      | refine VcD.pures tabOk (by first | exact H | exact Holds.drop H | exact Holds.drop (Holds.drop H) | trivial | assumption) rfl ?_
      | refine VcD.done ?_
      | (show VcD _ _ _ _ _ (.take _ _) _ _ _; first
      | refine VcD.sliceTo tabOk rfl rfl rfl rfl rfl rfl rfl (by first | exact H | exact Holds.drop H | exact Holds.drop (Holds.drop H) | trivial | assumption) (by omega) ?_
      | refine VcD.sliceFrom tabOk rfl rfl rfl rfl rfl rfl rfl (by first | exact H | exact Holds.drop H | exact Holds.drop (Holds.drop H) | trivial | assumption) (by omega) (by omega) (fun p_ hp_ => ?_)
      | refine VcD.slice tabOk rfl rfl rfl rfl rfl rfl rfl rfl (by first | exact H | exact Holds.drop H | exact Holds.drop (Holds.drop H) | trivial | assumption) (by omega) (by omega) (by omega) (fun p_ hp_ => ?_)
      | refine VcD.sliceNil tabOk rfl rfl rfl rfl rfl rfl rfl rfl (by first | exact H | exact Holds.drop H | exact Holds.drop (Holds.drop H) | trivial | assumption) (by omega) (by omega) ?_
      | refine VcD.eqS tabOk rfl rfl rfl rfl rfl rfl (by first | exact H | exact Holds.drop H | exact Holds.drop (Holds.drop H) | trivial | assumption) rfl (by kernel_rfl) (by kernel_rfl) rfl rfl (by first | exact .inl rfl | exact .inr rfl) ?_
      | (refine VcD.guardT rfl rfl rfl rfl rfl (fun h => ?_) (fun h => ?_) <;> first | (cases h; done) | (exfalso; simp only [decide_eq_true_eq, decide_eq_false_iff_not] at h; omega) | (with_reducible have hp := of_decide_eq_true h) | (with_reducible have hp := of_decide_eq_false h) | (with_reducible have hp := ndec_t h) | (with_reducible have hp := ndec_f h) | skip))
      | (show VcD _ _ _ _ _ (.only _ _) _ _ _; first
      | refine VcD.skip rfl rfl rfl (by first | exact H | exact Holds.drop H | exact Holds.drop (Holds.drop H) | trivial | assumption) ?_
      | (refine VcD.guardO rfl rfl rfl rfl rfl (fun h => ?_) (fun h => ?_) <;> first | (cases h; done) | (exfalso; simp only [decide_eq_true_eq, decide_eq_false_iff_not] at h; omega) | (with_reducible have hp := of_decide_eq_true h) | (with_reducible have hp := of_decide_eq_false h) | (with_reducible have hp := ndec_t h) | (with_reducible have hp := ndec_f h) | skip))
      | (show VcD _ _ _ _ _ (.two _ _ _ _) _ _ _; refine VcD.two ?_ ?_))
      | (show Vc _ _ _ _ _ _; first
      | refine Vc.seq ?_
      | refine Vc.region ?_
      | refine Vc.condT rfl ?_
      | refine Vc.condF rfl ?_
      | refine Vc.ret ?_
      | refine Vc.skip ?_
      | refine Vc.block ?_
      | refine Vc.exit ?_
      | (refine Vc.drawn (id := 11) (.take 0 (.take 1 (.take 2 (.take 3 (.take 5 (.take 6 (.take 4 (.take 7 (.only 8 .done))))))))) (fun _ => True) mixed (by kernel_rfl) ?_; have H := H.drew (w.drawn + 1))
      | (refine Vc.drawn (id := 15) (.take 0 (.take 1 (.take 2 (.take 3 (.take 5 (.take 6 (.take 4 (.take 7 (.only 8 .done))))))))) (fun _ => True) mixed (by kernel_rfl) ?_; have H := H.drew (w.drawn + 1))
      | (refine Vc.cond rfl (fun h => ?_) (fun h => ?_) <;> first | (cases h; done) | (exfalso; simp only [decide_eq_true_eq, decide_eq_false_iff_not] at h; omega) | (with_reducible have hp := of_decide_eq_true h) | (with_reducible have hp := of_decide_eq_false h) | (with_reducible have hp := ndec_t h) | (with_reducible have hp := ndec_f h) | skip))
      | (show KSeq _ _ _ _ _ _ _; first
      | refine KSeq.normal ?_
      | refine KSeq.ret ?_
      | refine KSeq.exit ?_)
      | (show KBlock _ _ _ _ _; first
      | refine KBlock.normal ?_
      | refine KBlock.here ?_
      | refine KBlock.on rfl ?_
      | refine KBlock.ret ?_)
      | refine KLoop.exit ?_
      | refine KLoop.ret ?_
      | refine KCut.exit ?_
      | refine KCut.ret ?_
      | (show KEnd _ _ _ _ _ _; first
      | refine KEnd.mk (Or.inr rfl) ⟨_, (ResL.tmp rfl ResL.nil), ?_⟩
      | refine KEnd.mk (Or.inl rfl) ⟨_, (ResL.tmp rfl ResL.nil), ?_⟩))
    simpa [resVal] using H.swap.drop
  · have hw1 : IntKind.i64.wrap (↑n + ↑(1 : Nat)) = ((n + 1 : Nat) : Int) := by rw [IntKind.wrap_i64]; omega
    rcases Nat.lt_or_ge i n with hin | hin
    · have hw2 : IntKind.i64.wrap (((n + 1 : Nat) : Int) - (i : Int)) = ((n + 1 - i : Nat) : Int) := by rw [IntKind.wrap_i64]; omega
      have hw3 : IntKind.i64.wrap (↑i + ↑(1 : Nat)) = ((i + 1 : Nat) : Int) := by rw [IntKind.wrap_i64]; omega
      have H := HB; clear HB
      refine ok_slices_Insert_api_Span_api_Span.rets rfl ?_
      repeat' (first
        | rw [hw1]
        | rw [hw2]
        | rw [hw3]
        | (show VcL _ _ _ _ _ _ _ _; first
      | refine VcL.pures tabOk rfl ?_
      | refine VcL.nil ?_
      | (show VcL _ _ _ _ (⟨_, .binOp _ _ _ _ _, _, _, _, _⟩ :: _) _ _ _; first
      | refine VcL.eqS tabOk rfl rfl rfl rfl rfl rfl (by kernel_rfl) (by kernel_rfl) rfl rfl (by first | exact .inl rfl | exact .inr rfl) ?_)
      | (show VcL _ _ _ _ (⟨_, .slice _ _ _ _ none, _, _, _, _⟩ :: _) _ _ _; first
      | refine VcL.sliceTo tabOk rfl rfl rfl rfl rfl rfl (by omega) ?_
      | refine VcL.sliceFrom tabOk rfl rfl rfl rfl rfl rfl (by omega) (by omega) (fun p_ hp_ => ?_)
      | refine VcL.sliceN tabOk rfl rfl rfl rfl rfl rfl rfl (by omega) (by omega) (fun p_ hp_ => ?_)
      | refine VcL.slice tabOk rfl rfl rfl rfl rfl rfl rfl (by omega) (by omega) (by omega) (fun p_ hp_ => ?_)
      | refine VcL.sliceNil tabOk rfl rfl rfl rfl rfl rfl rfl (by omega) (by omega) ?_)
      | (refine VcL.guard rfl rfl rfl rfl (fun h => ?_) (fun h => ?_) <;> first | (cases h; done) | (exfalso; simp only [decide_eq_true_eq, decide_eq_false_iff_not] at h; omega) | (with_reducible have hp := of_decide_eq_true h) | (with_reducible have hp := of_decide_eq_false h) | (with_reducible have hp := ndec_t h) | (with_reducible have hp := ndec_f h) | skip))
        | (show VcD _ _ _ _ _ _ _ _ _; first
      | refine VcD.pures tabOk (by first | exact H | exact Holds.drop H | exact Holds.drop (Holds.drop H) | trivial | assumption) rfl ?_
      | refine VcD.done ?_
      | (show VcD _ _ _ _ _ (.take _ _) _ _ _; first
      | refine VcD.sliceTo tabOk rfl rfl rfl rfl rfl rfl rfl (by first | exact H | exact Holds.drop H | exact Holds.drop (Holds.drop H) | trivial | assumption) (by omega) ?_
      | refine VcD.sliceFrom tabOk rfl rfl rfl rfl rfl rfl rfl (by first | exact H | exact Holds.drop H | exact Holds.drop (Holds.drop H) | trivial | assumption) (by omega) (by omega) (fun p_ hp_ => ?_)
      | refine VcD.slice tabOk rfl rfl rfl rfl rfl rfl rfl rfl (by first | exact H | exact Holds.drop H | exact Holds.drop (Holds.drop H) | trivial | assumption) (by omega) (by omega) (by omega) (fun p_ hp_ => ?_)
      | refine VcD.sliceNil tabOk rfl rfl rfl rfl rfl rfl rfl rfl (by first | exact H | exact Holds.drop H | exact Holds.drop (Holds.drop H) | trivial | assumption) (by omega) (by omega) ?_
      | refine VcD.eqS tabOk rfl rfl rfl rfl rfl rfl (by first | exact H | exact Holds.drop H | exact Holds.drop (Holds.drop H) | trivial | assumption) rfl (by kernel_rfl) (by kernel_rfl) rfl rfl (by first | exact .inl rfl | exact .inr rfl) ?_
      | (refine VcD.guardT rfl rfl rfl rfl rfl (fun h => ?_) (fun h => ?_) <;> first | (cases h; done) | (exfalso; simp only [decide_eq_true_eq, decide_eq_false_iff_not] at h; omega) | (with_reducible have hp := of_decide_eq_true h) | (with_reducible have hp := of_decide_eq_false h) | (with_reducible have hp := ndec_t h) | (with_reducible have hp := ndec_f h) | skip))
      | (show VcD _ _ _ _ _ (.only _ _) _ _ _; first
      | refine VcD.skip rfl rfl rfl (by first | exact H | exact Holds.drop H | exact Holds.drop (Holds.drop H) | trivial | assumption) ?_
      | (refine VcD.guardO rfl rfl rfl rfl rfl (fun h => ?_) (fun h => ?_) <;> first | (cases h; done) | (exfalso; simp only [decide_eq_true_eq, decide_eq_false_iff_not] at h; omega) | (with_reducible have hp := of_decide_eq_true h) | (with_reducible have hp := of_decide_eq_false h) | (with_reducible have hp := ndec_t h) | (with_reducible have hp := ndec_f h) | skip))
      | (show VcD _ _ _ _ _ (.two _ _ _ _) _ _ _; refine VcD.two ?_ ?_))
        | (show Vc _ _ _ _ _ _; first
      | refine Vc.seq ?_
      | refine Vc.region ?_
      | refine Vc.condT rfl ?_
      | refine Vc.condF rfl ?_
      | refine Vc.ret ?_
      | refine Vc.skip ?_
      | refine Vc.block ?_
      | refine Vc.exit ?_
      | (refine Vc.drawn (id := 11) (.take 0 (.take 1 (.take 2 (.take 3 (.take 5 (.take 6 (.take 4 (.take 7 (.only 8 .done))))))))) (fun _ => True) mixed (by kernel_rfl) ?_; have H := H.drew (w.drawn + 1))
      | (refine Vc.drawn (id := 15) (.take 0 (.take 1 (.take 2 (.take 3 (.take 5 (.take 6 (.take 4 (.take 7 (.only 8 .done))))))))) (fun _ => True) mixed (by kernel_rfl) ?_; have H := H.drew (w.drawn + 1))
      | (refine Vc.cond rfl (fun h => ?_) (fun h => ?_) <;> first | (cases h; done) | (exfalso; simp only [decide_eq_true_eq, decide_eq_false_iff_not] at h; omega) | (with_reducible have hp := of_decide_eq_true h) | (with_reducible have hp := of_decide_eq_false h) | (with_reducible have hp := ndec_t h) | (with_reducible have hp := ndec_f h) | skip))
        | (show KSeq _ _ _ _ _ _ _; first
      | refine KSeq.normal ?_
      | refine KSeq.ret ?_
      | refine KSeq.exit ?_)
        | (show KBlock _ _ _ _ _; first
      | refine KBlock.normal ?_
      | refine KBlock.here ?_
      | refine KBlock.on rfl ?_
      | refine KBlock.ret ?_)
        | refine KLoop.exit ?_
        | refine KLoop.ret ?_
        | refine KCut.exit ?_
        | refine KCut.ret ?_
        | (show KEnd _ _ _ _ _ _; first
      | refine KEnd.mk (Or.inr rfl) ⟨_, (ResL.tmp rfl ResL.nil), ?_⟩
      | refine KEnd.mk (Or.inl rfl) ⟨_, (ResL.tmp rfl ResL.nil), ?_⟩))
      · have hp' := of_decide_eq_true h
        refine VcL.appendMake (m := n + 1 - i) tabOk rfl rfl rfl rfl rfl H (Src.slice (cs := cs.take (i * 3)) (by show _ = i * 3; rw [List.length_take]; omega) (H.rdAt (row_split pre cs rest (i * 3)) rfl)) (by omega) (by show (i + (n + 1 - i)) * 24 ≤ 2 ^ 46; omega) rfl rfl rfl (fun b2 cap2 rs w hc2 hr2 H => ?_)
        rw [show i + (n + 1 - i) = n + 1 by omega] at hc2 hr2
        rw [show i + (n + 1 - i) = n + 1 by omega]
        repeat' (first
          | rw [hw1]
          | rw [hw2]
          | rw [hw3]
          | (show VcL _ _ _ _ _ _ _ _; first
      | refine VcL.pures tabOk rfl ?_
      | refine VcL.nil ?_
      | (show VcL _ _ _ _ (⟨_, .binOp _ _ _ _ _, _, _, _, _⟩ :: _) _ _ _; first
      | refine VcL.eqS tabOk rfl rfl rfl rfl rfl rfl (by kernel_rfl) (by kernel_rfl) rfl rfl (by first | exact .inl rfl | exact .inr rfl) ?_)
      | (show VcL _ _ _ _ (⟨_, .slice _ _ _ _ none, _, _, _, _⟩ :: _) _ _ _; first
      | refine VcL.sliceTo tabOk rfl rfl rfl rfl rfl rfl (by omega) ?_
      | refine VcL.sliceFrom tabOk rfl rfl rfl rfl rfl rfl (by omega) (by omega) (fun p_ hp_ => ?_)
      | refine VcL.sliceN tabOk rfl rfl rfl rfl rfl rfl rfl (by omega) (by omega) (fun p_ hp_ => ?_)
      | refine VcL.slice tabOk rfl rfl rfl rfl rfl rfl rfl (by omega) (by omega) (by omega) (fun p_ hp_ => ?_)
      | refine VcL.sliceNil tabOk rfl rfl rfl rfl rfl rfl rfl (by omega) (by omega) ?_)
      | (refine VcL.guard rfl rfl rfl rfl (fun h => ?_) (fun h => ?_) <;> first | (cases h; done) | (exfalso; simp only [decide_eq_true_eq, decide_eq_false_iff_not] at h; omega) | (with_reducible have hp := of_decide_eq_true h) | (with_reducible have hp := of_decide_eq_false h) | (with_reducible have hp := ndec_t h) | (with_reducible have hp := ndec_f h) | skip))
          | (show VcD _ _ _ _ _ _ _ _ _; first
      | refine VcD.pures tabOk (by first | exact H | exact Holds.drop H | exact Holds.drop (Holds.drop H) | trivial | assumption) rfl ?_
      | refine VcD.done ?_
      | (show VcD _ _ _ _ _ (.take _ _) _ _ _; first
      | refine VcD.sliceTo tabOk rfl rfl rfl rfl rfl rfl rfl (by first | exact H | exact Holds.drop H | exact Holds.drop (Holds.drop H) | trivial | assumption) (by omega) ?_
      | refine VcD.sliceFrom tabOk rfl rfl rfl rfl rfl rfl rfl (by first | exact H | exact Holds.drop H | exact Holds.drop (Holds.drop H) | trivial | assumption) (by omega) (by omega) (fun p_ hp_ => ?_)
      | refine VcD.slice tabOk rfl rfl rfl rfl rfl rfl rfl rfl (by first | exact H | exact Holds.drop H | exact Holds.drop (Holds.drop H) | trivial | assumption) (by omega) (by omega) (by omega) (fun p_ hp_ => ?_)
      | refine VcD.sliceNil tabOk rfl rfl rfl rfl rfl rfl rfl rfl (by first | exact H | exact Holds.drop H | exact Holds.drop (Holds.drop H) | trivial | assumption) (by omega) (by omega) ?_
      | refine VcD.eqS tabOk rfl rfl rfl rfl rfl rfl (by first | exact H | exact Holds.drop H | exact Holds.drop (Holds.drop H) | trivial | assumption) rfl (by kernel_rfl) (by kernel_rfl) rfl rfl (by first | exact .inl rfl | exact .inr rfl) ?_
      | (refine VcD.guardT rfl rfl rfl rfl rfl (fun h => ?_) (fun h => ?_) <;> first | (cases h; done) | (exfalso; simp only [decide_eq_true_eq, decide_eq_false_iff_not] at h; omega) | (with_reducible have hp := of_decide_eq_true h) | (with_reducible have hp := of_decide_eq_false h) | (with_reducible have hp := ndec_t h) | (with_reducible have hp := ndec_f h) | skip))
      | (show VcD _ _ _ _ _ (.only _ _) _ _ _; first
      | refine VcD.skip rfl rfl rfl (by first | exact H | exact Holds.drop H | exact Holds.drop (Holds.drop H) | trivial | assumption) ?_
      | (refine VcD.guardO rfl rfl rfl rfl rfl (fun h => ?_) (fun h => ?_) <;> first | (cases h; done) | (exfalso; simp only [decide_eq_true_eq, decide_eq_false_iff_not] at h; omega) | (with_reducible have hp := of_decide_eq_true h) | (with_reducible have hp := of_decide_eq_false h) | (with_reducible have hp := ndec_t h) | (with_reducible have hp := ndec_f h) | skip))
      | (show VcD _ _ _ _ _ (.two _ _ _ _) _ _ _; refine VcD.two ?_ ?_))
          | (show Vc _ _ _ _ _ _; first
      | refine Vc.seq ?_
      | refine Vc.region ?_
      | refine Vc.condT rfl ?_
      | refine Vc.condF rfl ?_
      | refine Vc.ret ?_
      | refine Vc.skip ?_
      | refine Vc.block ?_
      | refine Vc.exit ?_
      | (refine Vc.drawn (id := 11) (.take 0 (.take 1 (.take 2 (.take 3 (.take 5 (.take 6 (.take 4 (.take 7 (.only 8 .done))))))))) (fun _ => True) mixed (by kernel_rfl) ?_; have H := H.drew (w.drawn + 1))
      | (refine Vc.drawn (id := 15) (.take 0 (.take 1 (.take 2 (.take 3 (.take 5 (.take 6 (.take 4 (.take 7 (.only 8 .done))))))))) (fun _ => True) mixed (by kernel_rfl) ?_; have H := H.drew (w.drawn + 1))
      | (refine Vc.cond rfl (fun h => ?_) (fun h => ?_) <;> first | (cases h; done) | (exfalso; simp only [decide_eq_true_eq, decide_eq_false_iff_not] at h; omega) | (with_reducible have hp := of_decide_eq_true h) | (with_reducible have hp := of_decide_eq_false h) | (with_reducible have hp := ndec_t h) | (with_reducible have hp := ndec_f h) | skip))
          | (show KSeq _ _ _ _ _ _ _; first
      | refine KSeq.normal ?_
      | refine KSeq.ret ?_
      | refine KSeq.exit ?_)
          | (show KBlock _ _ _ _ _; first
      | refine KBlock.normal ?_
      | refine KBlock.here ?_
      | refine KBlock.on rfl ?_
      | refine KBlock.ret ?_)
          | refine KLoop.exit ?_
          | refine KLoop.ret ?_
          | refine KCut.exit ?_
          | refine KCut.ret ?_
          | (show KEnd _ _ _ _ _ _; first
      | refine KEnd.mk (Or.inr rfl) ⟨_, (ResL.tmp rfl ResL.nil), ?_⟩
      | refine KEnd.mk (Or.inl rfl) ⟨_, (ResL.tmp rfl ResL.nil), ?_⟩))
        have H : Holds I w (blk b2 28 (cs.take (i * 3) ++ repL (n + 1 - i) zSp ++ rs) :: blk b 28 (pre ++ cs ++ rest) :: pt vb (.cells ds.toArray 28 (0, 0)) :: L) := H
        have hr2 : (cap2 - (n + 1)) * 3 ≤ rs.length := hr2
        have hX : (cs.take (i * 3) ++ repL (n + 1 - i) zSp ++ rs).length = i * 3 + (n + 1 - i) * 3 + rs.length := by
          rw [List.length_append, List.length_append, List.length_take, repL_length, show zSp.length = 3 from rfl]; omega
        obtain rfl : p_ = i * 3 := by omega
        refine VcL.copyB (m := 1) (ds := ds) tabOk rfl rfl rfl H (Rd.firsts hdl H.drop.drop.pt_rd) rfl hdl hd ?_ rfl rfl rfl (fun w H => ?_)
        · rw [hX]; show i * 3 + min 1 (n + 1 - i) * 3 ≤ _; omega
        have H : Holds I w (blk b2 28 (over (cs.take (i * 3) ++ repL (n + 1 - i) zSp ++ rs) (i * 3) ds) :: blk b 28 (pre ++ cs ++ rest) :: pt vb (.cells ds.toArray 28 (0, 0)) :: L) := H.as (congrArg (over _ _) (List.take_of_length_le (by show _ ≤ min 1 (n + 1 - i) * 3; omega)))
        have hX2 : (over (cs.take (i * 3) ++ repL (n + 1 - i) zSp ++ rs) (i * 3) ds).length = i * 3 + (n + 1 - i) * 3 + rs.length := by rw [over_length (by omega), hX]
        have hdr : (cs.drop (i * 3)).length = (n - i) * 3 := by rw [List.length_drop]; omega
        repeat' (first
          | rw [hw1]
          | rw [hw2]
          | rw [hw3]
          | (show VcL _ _ _ _ _ _ _ _; first
      | refine VcL.pures tabOk rfl ?_
      | refine VcL.nil ?_
      | (show VcL _ _ _ _ (⟨_, .binOp _ _ _ _ _, _, _, _, _⟩ :: _) _ _ _; first
      | refine VcL.eqS tabOk rfl rfl rfl rfl rfl rfl (by kernel_rfl) (by kernel_rfl) rfl rfl (by first | exact .inl rfl | exact .inr rfl) ?_)
      | (show VcL _ _ _ _ (⟨_, .slice _ _ _ _ none, _, _, _, _⟩ :: _) _ _ _; first
      | refine VcL.sliceTo tabOk rfl rfl rfl rfl rfl rfl (by omega) ?_
      | refine VcL.sliceFrom tabOk rfl rfl rfl rfl rfl rfl (by omega) (by omega) (fun p_ hp_ => ?_)
      | refine VcL.sliceN tabOk rfl rfl rfl rfl rfl rfl rfl (by omega) (by omega) (fun p_ hp_ => ?_)
      | refine VcL.slice tabOk rfl rfl rfl rfl rfl rfl rfl (by omega) (by omega) (by omega) (fun p_ hp_ => ?_)
      | refine VcL.sliceNil tabOk rfl rfl rfl rfl rfl rfl rfl (by omega) (by omega) ?_)
      | (refine VcL.guard rfl rfl rfl rfl (fun h => ?_) (fun h => ?_) <;> first | (cases h; done) | (exfalso; simp only [decide_eq_true_eq, decide_eq_false_iff_not] at h; omega) | (with_reducible have hp := of_decide_eq_true h) | (with_reducible have hp := of_decide_eq_false h) | (with_reducible have hp := ndec_t h) | (with_reducible have hp := ndec_f h) | skip))
          | (show VcD _ _ _ _ _ _ _ _ _; first
      | refine VcD.pures tabOk (by first | exact H | exact Holds.drop H | exact Holds.drop (Holds.drop H) | trivial | assumption) rfl ?_
      | refine VcD.done ?_
      | (show VcD _ _ _ _ _ (.take _ _) _ _ _; first
      | refine VcD.sliceTo tabOk rfl rfl rfl rfl rfl rfl rfl (by first | exact H | exact Holds.drop H | exact Holds.drop (Holds.drop H) | trivial | assumption) (by omega) ?_
      | refine VcD.sliceFrom tabOk rfl rfl rfl rfl rfl rfl rfl (by first | exact H | exact Holds.drop H | exact Holds.drop (Holds.drop H) | trivial | assumption) (by omega) (by omega) (fun p_ hp_ => ?_)
      | refine VcD.slice tabOk rfl rfl rfl rfl rfl rfl rfl rfl (by first | exact H | exact Holds.drop H | exact Holds.drop (Holds.drop H) | trivial | assumption) (by omega) (by omega) (by omega) (fun p_ hp_ => ?_)
      | refine VcD.sliceNil tabOk rfl rfl rfl rfl rfl rfl rfl rfl (by first | exact H | exact Holds.drop H | exact Holds.drop (Holds.drop H) | trivial | assumption) (by omega) (by omega) ?_
      | refine VcD.eqS tabOk rfl rfl rfl rfl rfl rfl (by first | exact H | exact Holds.drop H | exact Holds.drop (Holds.drop H) | trivial | assumption) rfl (by kernel_rfl) (by kernel_rfl) rfl rfl (by first | exact .inl rfl | exact .inr rfl) ?_
      | (refine VcD.guardT rfl rfl rfl rfl rfl (fun h => ?_) (fun h => ?_) <;> first | (cases h; done) | (exfalso; simp only [decide_eq_true_eq, decide_eq_false_iff_not] at h; omega) | (with_reducible have hp := of_decide_eq_true h) | (with_reducible have hp := of_decide_eq_false h) | (with_reducible have hp := ndec_t h) | (with_reducible have hp := ndec_f h) | skip))
      | (show VcD _ _ _ _ _ (.only _ _) _ _ _; first
      | refine VcD.skip rfl rfl rfl (by first | exact H | exact Holds.drop H | exact Holds.drop (Holds.drop H) | trivial | assumption) ?_
      | (refine VcD.guardO rfl rfl rfl rfl rfl (fun h => ?_) (fun h => ?_) <;> first | (cases h; done) | (exfalso; simp only [decide_eq_true_eq, decide_eq_false_iff_not] at h; omega) | (with_reducible have hp := of_decide_eq_true h) | (with_reducible have hp := of_decide_eq_false h) | (with_reducible have hp := ndec_t h) | (with_reducible have hp := ndec_f h) | skip))
      | (show VcD _ _ _ _ _ (.two _ _ _ _) _ _ _; refine VcD.two ?_ ?_))
          | (show Vc _ _ _ _ _ _; first
      | refine Vc.seq ?_
      | refine Vc.region ?_
      | refine Vc.condT rfl ?_
      | refine Vc.condF rfl ?_
      | refine Vc.ret ?_
      | refine Vc.skip ?_
      | refine Vc.block ?_
      | refine Vc.exit ?_
      | (refine Vc.drawn (id := 11) (.take 0 (.take 1 (.take 2 (.take 3 (.take 5 (.take 6 (.take 4 (.take 7 (.only 8 .done))))))))) (fun _ => True) mixed (by kernel_rfl) ?_; have H := H.drew (w.drawn + 1))
      | (refine Vc.drawn (id := 15) (.take 0 (.take 1 (.take 2 (.take 3 (.take 5 (.take 6 (.take 4 (.take 7 (.only 8 .done))))))))) (fun _ => True) mixed (by kernel_rfl) ?_; have H := H.drew (w.drawn + 1))
      | (refine Vc.cond rfl (fun h => ?_) (fun h => ?_) <;> first | (cases h; done) | (exfalso; simp only [decide_eq_true_eq, decide_eq_false_iff_not] at h; omega) | (with_reducible have hp := of_decide_eq_true h) | (with_reducible have hp := of_decide_eq_false h) | (with_reducible have hp := ndec_t h) | (with_reducible have hp := ndec_f h) | skip))
          | (show KSeq _ _ _ _ _ _ _; first
      | refine KSeq.normal ?_
      | refine KSeq.ret ?_
      | refine KSeq.exit ?_)
          | (show KBlock _ _ _ _ _; first
      | refine KBlock.normal ?_
      | refine KBlock.here ?_
      | refine KBlock.on rfl ?_
      | refine KBlock.ret ?_)
          | refine KLoop.exit ?_
          | refine KLoop.ret ?_
          | refine KCut.exit ?_
          | refine KCut.ret ?_
          | (show KEnd _ _ _ _ _ _; first
      | refine KEnd.mk (Or.inr rfl) ⟨_, (ResL.tmp rfl ResL.nil), ?_⟩
      | refine KEnd.mk (Or.inl rfl) ⟨_, (ResL.tmp rfl ResL.nil), ?_⟩))
        rename_i q1 hq1
        obtain rfl : q1 = (i + 1) * 3 := by omega
        obtain rfl : p_ = (pre ++ cs.take (i * 3)).length := by rw [List.length_append, List.length_take]; omega
        refine VcD.copyB (m := n - i) (ds := cs.drop (i * 3)) tabOk rfl rfl rfl rfl H (Rd.firsts hdr (H.drop.rdAt (row_split2 pre cs rest (i * 3)) rfl)) rfl hdr (fun u hu => h1 u (List.mem_of_mem_drop (List.mem_of_mem_take hu))) ?_ rfl rfl rfl (fun w H => ⟨trivial, ?_⟩)
        · rw [hX2]; show (i + 1) * 3 + min (n - i) (n + 1 - (i + 1)) * 3 ≤ _; omega
        have H : Holds I w (blk b2 28 ([] ++ (cs.take (i * 3) ++ ds ++ cs.drop (i * 3)) ++ rs) :: blk b 28 (pre ++ cs ++ rest) :: pt vb (.cells ds.toArray 28 (0, 0)) :: L) := H.as ((congrArg (over _ _) (List.take_of_length_le (by show _ ≤ min (n - i) (n + 1 - (i + 1)) * 3; omega))).trans (ins_new hcl hdl (show zSp.length = 3 from rfl) hi))
        repeat' (first
          | rw [hw1]
          | rw [hw2]
          | rw [hw3]
          | (show VcL _ _ _ _ _ _ _ _; first
      | refine VcL.pures tabOk rfl ?_
      | refine VcL.nil ?_
      | (show VcL _ _ _ _ (⟨_, .binOp _ _ _ _ _, _, _, _, _⟩ :: _) _ _ _; first
      | refine VcL.eqS tabOk rfl rfl rfl rfl rfl rfl (by kernel_rfl) (by kernel_rfl) rfl rfl (by first | exact .inl rfl | exact .inr rfl) ?_)
      | (show VcL _ _ _ _ (⟨_, .slice _ _ _ _ none, _, _, _, _⟩ :: _) _ _ _; first
      | refine VcL.sliceTo tabOk rfl rfl rfl rfl rfl rfl (by omega) ?_
      | refine VcL.sliceFrom tabOk rfl rfl rfl rfl rfl rfl (by omega) (by omega) (fun p_ hp_ => ?_)
      | refine VcL.sliceN tabOk rfl rfl rfl rfl rfl rfl rfl (by omega) (by omega) (fun p_ hp_ => ?_)
      | refine VcL.slice tabOk rfl rfl rfl rfl rfl rfl rfl (by omega) (by omega) (by omega) (fun p_ hp_ => ?_)
      | refine VcL.sliceNil tabOk rfl rfl rfl rfl rfl rfl rfl (by omega) (by omega) ?_)
      | (refine VcL.guard rfl rfl rfl rfl (fun h => ?_) (fun h => ?_) <;> first | (cases h; done) | (exfalso; simp only [decide_eq_true_eq, decide_eq_false_iff_not] at h; omega) | (with_reducible have hp := of_decide_eq_true h) | (with_reducible have hp := of_decide_eq_false h) | (with_reducible have hp := ndec_t h) | (with_reducible have hp := ndec_f h) | skip))
          | (show VcD _ _ _ _ _ _ _ _ _; first
      | refine VcD.pures tabOk (by first | exact H | exact Holds.drop H | exact Holds.drop (Holds.drop H) | trivial | assumption) rfl ?_
      | refine VcD.done ?_
      | (show VcD _ _ _ _ _ (.take _ _) _ _ _; first
      | refine VcD.sliceTo tabOk rfl rfl rfl rfl rfl rfl rfl (by first | exact H | exact Holds.drop H | exact Holds.drop (Holds.drop H) | trivial | assumption) (by omega) ?_
      | refine VcD.sliceFrom tabOk rfl rfl rfl rfl rfl rfl rfl (by first | exact H | exact Holds.drop H | exact Holds.drop (Holds.drop H) | trivial | assumption) (by omega) (by omega) (fun p_ hp_ => ?_)
      | refine VcD.slice tabOk rfl rfl rfl rfl rfl rfl rfl rfl (by first | exact H | exact Holds.drop H | exact Holds.drop (Holds.drop H) | trivial | assumption) (by omega) (by omega) (by omega) (fun p_ hp_ => ?_)
      | refine VcD.sliceNil tabOk rfl rfl rfl rfl rfl rfl rfl rfl (by first | exact H | exact Holds.drop H | exact Holds.drop (Holds.drop H) | trivial | assumption) (by omega) (by omega) ?_
      | refine VcD.eqS tabOk rfl rfl rfl rfl rfl rfl (by first | exact H | exact Holds.drop H | exact Holds.drop (Holds.drop H) | trivial | assumption) rfl (by kernel_rfl) (by kernel_rfl) rfl rfl (by first | exact .inl rfl | exact .inr rfl) ?_
      | (refine VcD.guardT rfl rfl rfl rfl rfl (fun h => ?_) (fun h => ?_) <;> first | (cases h; done) | (exfalso; simp only [decide_eq_true_eq, decide_eq_false_iff_not] at h; omega) | (with_reducible have hp := of_decide_eq_true h) | (with_reducible have hp := of_decide_eq_false h) | (with_reducible have hp := ndec_t h) | (with_reducible have hp := ndec_f h) | skip))
      | (show VcD _ _ _ _ _ (.only _ _) _ _ _; first
      | refine VcD.skip rfl rfl rfl (by first | exact H | exact Holds.drop H | exact Holds.drop (Holds.drop H) | trivial | assumption) ?_
      | (refine VcD.guardO rfl rfl rfl rfl rfl (fun h => ?_) (fun h => ?_) <;> first | (cases h; done) | (exfalso; simp only [decide_eq_true_eq, decide_eq_false_iff_not] at h; omega) | (with_reducible have hp := of_decide_eq_true h) | (with_reducible have hp := of_decide_eq_false h) | (with_reducible have hp := ndec_t h) | (with_reducible have hp := ndec_f h) | skip))
      | (show VcD _ _ _ _ _ (.two _ _ _ _) _ _ _; refine VcD.two ?_ ?_))
          | (show Vc _ _ _ _ _ _; first
      | refine Vc.seq ?_
      | refine Vc.region ?_
      | refine Vc.condT rfl ?_
      | refine Vc.condF rfl ?_
      | refine Vc.ret ?_
      | refine Vc.skip ?_
      | refine Vc.block ?_
      | refine Vc.exit ?_
      | (refine Vc.drawn (id := 11) (.take 0 (.take 1 (.take 2 (.take 3 (.take 5 (.take 6 (.take 4 (.take 7 (.only 8 .done))))))))) (fun _ => True) mixed (by kernel_rfl) ?_; have H := H.drew (w.drawn + 1))
      | (refine Vc.drawn (id := 15) (.take 0 (.take 1 (.take 2 (.take 3 (.take 5 (.take 6 (.take 4 (.take 7 (.only 8 .done))))))))) (fun _ => True) mixed (by kernel_rfl) ?_; have H := H.drew (w.drawn + 1))
      | (refine Vc.cond rfl (fun h => ?_) (fun h => ?_) <;> first | (cases h; done) | (exfalso; simp only [decide_eq_true_eq, decide_eq_false_iff_not] at h; omega) | (with_reducible have hp := of_decide_eq_true h) | (with_reducible have hp := of_decide_eq_false h) | (with_reducible have hp := ndec_t h) | (with_reducible have hp := ndec_f h) | skip))
          | (show KSeq _ _ _ _ _ _ _; first
      | refine KSeq.normal ?_
      | refine KSeq.ret ?_
      | refine KSeq.exit ?_)
          | (show KBlock _ _ _ _ _; first
      | refine KBlock.normal ?_
      | refine KBlock.here ?_
      | refine KBlock.on rfl ?_
      | refine KBlock.ret ?_)
          | refine KLoop.exit ?_
          | refine KLoop.ret ?_
          | refine KCut.exit ?_
          | refine KCut.ret ?_
          | (show KEnd _ _ _ _ _ _; first
      | refine KEnd.mk (Or.inr rfl) ⟨_, (ResL.tmp rfl ResL.nil), ?_⟩
      | refine KEnd.mk (Or.inl rfl) ⟨_, (ResL.tmp rfl ResL.nil), ?_⟩))
        exact (H.own_mk hc2 (by simp only [List.length_append, List.length_take, List.length_drop]; omega) hr2).swap.drop.swap.drop
      · have hp' : ¬ (cap < n + 1) := by omega
        refine VcL.overlaps (t := 22) (tr := 4) (sz := 3) (ev' := ds.toArray) tabOk rfl rfl rfl Try.func31 rfl rfl rfl (by kernel_rfl) H.swap (by rw [List.length_append, List.length_append]; omega) rfl rfl rfl ?_
        have hdr : (cs.drop (i * 3)).length = (n - i) * 3 := by rw [List.length_drop]; omega
        have hrl3 : 3 ≤ rest.length := Nat.le_trans (show 3 ≤ (cap - n) * 3 by omega) hrl
        have hsl : (cs.drop (i * 3) ++ rest.take 3).length = (n + 1 - i) * 3 := by rw [List.length_append, hdr, List.length_take]; omega
        have hXl : (pre ++ cs ++ rest).length = pre.length + n * 3 + rest.length := by rw [List.length_append, List.length_append]; omega
        repeat' (first
          | rw [hw1]
          | rw [hw2]
          | rw [hw3]
          | (show VcL _ _ _ _ _ _ _ _; first
      | refine VcL.pures tabOk rfl ?_
      | refine VcL.nil ?_
      | (show VcL _ _ _ _ (⟨_, .binOp _ _ _ _ _, _, _, _, _⟩ :: _) _ _ _; first
      | refine VcL.eqS tabOk rfl rfl rfl rfl rfl rfl (by kernel_rfl) (by kernel_rfl) rfl rfl (by first | exact .inl rfl | exact .inr rfl) ?_)
      | (show VcL _ _ _ _ (⟨_, .slice _ _ _ _ none, _, _, _, _⟩ :: _) _ _ _; first
      | refine VcL.sliceTo tabOk rfl rfl rfl rfl rfl rfl (by omega) ?_
      | refine VcL.sliceFrom tabOk rfl rfl rfl rfl rfl rfl (by omega) (by omega) (fun p_ hp_ => ?_)
      | refine VcL.sliceN tabOk rfl rfl rfl rfl rfl rfl rfl (by omega) (by omega) (fun p_ hp_ => ?_)
      | refine VcL.slice tabOk rfl rfl rfl rfl rfl rfl rfl (by omega) (by omega) (by omega) (fun p_ hp_ => ?_)
      | refine VcL.sliceNil tabOk rfl rfl rfl rfl rfl rfl rfl (by omega) (by omega) ?_)
      | (refine VcL.guard rfl rfl rfl rfl (fun h => ?_) (fun h => ?_) <;> first | (cases h; done) | (exfalso; simp only [decide_eq_true_eq, decide_eq_false_iff_not] at h; omega) | (with_reducible have hp := of_decide_eq_true h) | (with_reducible have hp := of_decide_eq_false h) | (with_reducible have hp := ndec_t h) | (with_reducible have hp := ndec_f h) | skip))
          | (show VcD _ _ _ _ _ _ _ _ _; first
      | refine VcD.pures tabOk (by first | exact H | exact Holds.drop H | exact Holds.drop (Holds.drop H) | trivial | assumption) rfl ?_
      | refine VcD.done ?_
      | (show VcD _ _ _ _ _ (.take _ _) _ _ _; first
      | refine VcD.sliceTo tabOk rfl rfl rfl rfl rfl rfl rfl (by first | exact H | exact Holds.drop H | exact Holds.drop (Holds.drop H) | trivial | assumption) (by omega) ?_
      | refine VcD.sliceFrom tabOk rfl rfl rfl rfl rfl rfl rfl (by first | exact H | exact Holds.drop H | exact Holds.drop (Holds.drop H) | trivial | assumption) (by omega) (by omega) (fun p_ hp_ => ?_)
      | refine VcD.slice tabOk rfl rfl rfl rfl rfl rfl rfl rfl (by first | exact H | exact Holds.drop H | exact Holds.drop (Holds.drop H) | trivial | assumption) (by omega) (by omega) (by omega) (fun p_ hp_ => ?_)
      | refine VcD.sliceNil tabOk rfl rfl rfl rfl rfl rfl rfl rfl (by first | exact H | exact Holds.drop H | exact Holds.drop (Holds.drop H) | trivial | assumption) (by omega) (by omega) ?_
      | refine VcD.eqS tabOk rfl rfl rfl rfl rfl rfl (by first | exact H | exact Holds.drop H | exact Holds.drop (Holds.drop H) | trivial | assumption) rfl (by kernel_rfl) (by kernel_rfl) rfl rfl (by first | exact .inl rfl | exact .inr rfl) ?_
      | (refine VcD.guardT rfl rfl rfl rfl rfl (fun h => ?_) (fun h => ?_) <;> first | (cases h; done) | (exfalso; simp only [decide_eq_true_eq, decide_eq_false_iff_not] at h; omega) | (with_reducible have hp := of_decide_eq_true h) | (with_reducible have hp := of_decide_eq_false h) | (with_reducible have hp := ndec_t h) | (with_reducible have hp := ndec_f h) | skip))
      | (show VcD _ _ _ _ _ (.only _ _) _ _ _; first
      | refine VcD.skip rfl rfl rfl (by first | exact H | exact Holds.drop H | exact Holds.drop (Holds.drop H) | trivial | assumption) ?_
      | (refine VcD.guardO rfl rfl rfl rfl rfl (fun h => ?_) (fun h => ?_) <;> first | (cases h; done) | (exfalso; simp only [decide_eq_true_eq, decide_eq_false_iff_not] at h; omega) | (with_reducible have hp := of_decide_eq_true h) | (with_reducible have hp := of_decide_eq_false h) | (with_reducible have hp := ndec_t h) | (with_reducible have hp := ndec_f h) | skip))
      | (show VcD _ _ _ _ _ (.two _ _ _ _) _ _ _; refine VcD.two ?_ ?_))
          | (show Vc _ _ _ _ _ _; first
      | refine Vc.seq ?_
      | refine Vc.region ?_
      | refine Vc.condT rfl ?_
      | refine Vc.condF rfl ?_
      | refine Vc.ret ?_
      | refine Vc.skip ?_
      | refine Vc.block ?_
      | refine Vc.exit ?_
      | (refine Vc.drawn (id := 11) (.take 0 (.take 1 (.take 2 (.take 3 (.take 5 (.take 6 (.take 4 (.take 7 (.only 8 .done))))))))) (fun _ => True) mixed (by kernel_rfl) ?_; have H := H.drew (w.drawn + 1))
      | (refine Vc.drawn (id := 15) (.take 0 (.take 1 (.take 2 (.take 3 (.take 5 (.take 6 (.take 4 (.take 7 (.only 8 .done))))))))) (fun _ => True) mixed (by kernel_rfl) ?_; have H := H.drew (w.drawn + 1))
      | (refine Vc.cond rfl (fun h => ?_) (fun h => ?_) <;> first | (cases h; done) | (exfalso; simp only [decide_eq_true_eq, decide_eq_false_iff_not] at h; omega) | (with_reducible have hp := of_decide_eq_true h) | (with_reducible have hp := of_decide_eq_false h) | (with_reducible have hp := ndec_t h) | (with_reducible have hp := ndec_f h) | skip))
          | (show KSeq _ _ _ _ _ _ _; first
      | refine KSeq.normal ?_
      | refine KSeq.ret ?_
      | refine KSeq.exit ?_)
          | (show KBlock _ _ _ _ _; first
      | refine KBlock.normal ?_
      | refine KBlock.here ?_
      | refine KBlock.on rfl ?_
      | refine KBlock.ret ?_)
          | refine KLoop.exit ?_
          | refine KLoop.ret ?_
          | refine KCut.exit ?_
          | refine KCut.ret ?_
          | (show KEnd _ _ _ _ _ _; first
      | refine KEnd.mk (Or.inr rfl) ⟨_, (ResL.tmp rfl ResL.nil), ?_⟩
      | refine KEnd.mk (Or.inl rfl) ⟨_, (ResL.tmp rfl ResL.nil), ?_⟩))
        rename_i q1 hq1
        obtain rfl : p_ = (pre ++ cs.take (i * 3)).length := by rw [List.length_append, List.length_take]; omega
        have hq1 : i + 1 < cap → q1 = pre.length + (i + 1) * 3 := hq1
        obtain rfl : q1 = pre.length + (i + 1) * 3 := by omega
        refine VcD.copyB (m := n + 1 - i) (ds := cs.drop (i * 3) ++ rest.take 3) tabOk rfl rfl rfl rfl H (Rd.firsts hsl (H.rdAt (post := rest.drop 3) (by
          rw [row_split pre cs rest (i * 3)]
          conv => lhs; rw [← List.take_append_drop 3 rest]
          simp only [List.append_assoc]) rfl)) rfl hsl (fun u hu => ?_) ?_ rfl rfl rfl (fun w H => ⟨trivial, ?_⟩)
        · have hu : u ∈ (cs.drop (i * 3) ++ rest.take 3).take (min (n + 1 - i) (n + 1 - (i + 1)) * 3) := hu
          rw [List.take_append_of_le_length (by rw [hdr]; omega)] at hu
          exact h1 u (List.mem_of_mem_drop (List.mem_of_mem_take hu))
        · rw [hXl]; show pre.length + (i + 1) * 3 + min (n + 1 - i) (n + 1 - (i + 1)) * 3 ≤ _; omega
        have H : Holds I w (blk b 28 (over (pre ++ cs ++ rest) (pre.length + (i + 1) * 3) (cs.drop (i * 3))) :: pt vb (.cells ds.toArray 28 (0, 0)) :: L) := H.as (congrArg (over _ _) (by
          show (cs.drop (i * 3) ++ rest.take 3).take (min (n + 1 - i) (n + 1 - (i + 1)) * 3) = cs.drop (i * 3)
          rw [show min (n + 1 - i) (n + 1 - (i + 1)) = n - i by omega, ← hdr, List.take_left]))
        repeat' (first
          | rw [hw1]
          | rw [hw2]
          | rw [hw3]
          | (show VcL _ _ _ _ _ _ _ _; first
      | refine VcL.pures tabOk rfl ?_
      | refine VcL.nil ?_
      | (show VcL _ _ _ _ (⟨_, .binOp _ _ _ _ _, _, _, _, _⟩ :: _) _ _ _; first
      | refine VcL.eqS tabOk rfl rfl rfl rfl rfl rfl (by kernel_rfl) (by kernel_rfl) rfl rfl (by first | exact .inl rfl | exact .inr rfl) ?_)
      | (show VcL _ _ _ _ (⟨_, .slice _ _ _ _ none, _, _, _, _⟩ :: _) _ _ _; first
      | refine VcL.sliceTo tabOk rfl rfl rfl rfl rfl rfl (by omega) ?_
      | refine VcL.sliceFrom tabOk rfl rfl rfl rfl rfl rfl (by omega) (by omega) (fun p_ hp_ => ?_)
      | refine VcL.sliceN tabOk rfl rfl rfl rfl rfl rfl rfl (by omega) (by omega) (fun p_ hp_ => ?_)
      | refine VcL.slice tabOk rfl rfl rfl rfl rfl rfl rfl (by omega) (by omega) (by omega) (fun p_ hp_ => ?_)
      | refine VcL.sliceNil tabOk rfl rfl rfl rfl rfl rfl rfl (by omega) (by omega) ?_)
      | (refine VcL.guard rfl rfl rfl rfl (fun h => ?_) (fun h => ?_) <;> first | (cases h; done) | (exfalso; simp only [decide_eq_true_eq, decide_eq_false_iff_not] at h; omega) | (with_reducible have hp := of_decide_eq_true h) | (with_reducible have hp := of_decide_eq_false h) | (with_reducible have hp := ndec_t h) | (with_reducible have hp := ndec_f h) | skip))
          | (show VcD _ _ _ _ _ _ _ _ _; first
      | refine VcD.pures tabOk (by first | exact H | exact Holds.drop H | exact Holds.drop (Holds.drop H) | trivial | assumption) rfl ?_
      | refine VcD.done ?_
      | (show VcD _ _ _ _ _ (.take _ _) _ _ _; first
      | refine VcD.sliceTo tabOk rfl rfl rfl rfl rfl rfl rfl (by first | exact H | exact Holds.drop H | exact Holds.drop (Holds.drop H) | trivial | assumption) (by omega) ?_
      | refine VcD.sliceFrom tabOk rfl rfl rfl rfl rfl rfl rfl (by first | exact H | exact Holds.drop H | exact Holds.drop (Holds.drop H) | trivial | assumption) (by omega) (by omega) (fun p_ hp_ => ?_)
      | refine VcD.slice tabOk rfl rfl rfl rfl rfl rfl rfl rfl (by first | exact H | exact Holds.drop H | exact Holds.drop (Holds.drop H) | trivial | assumption) (by omega) (by omega) (by omega) (fun p_ hp_ => ?_)
      | refine VcD.sliceNil tabOk rfl rfl rfl rfl rfl rfl rfl rfl (by first | exact H | exact Holds.drop H | exact Holds.drop (Holds.drop H) | trivial | assumption) (by omega) (by omega) ?_
      | refine VcD.eqS tabOk rfl rfl rfl rfl rfl rfl (by first | exact H | exact Holds.drop H | exact Holds.drop (Holds.drop H) | trivial | assumption) rfl (by kernel_rfl) (by kernel_rfl) rfl rfl (by first | exact .inl rfl | exact .inr rfl) ?_
      | (refine VcD.guardT rfl rfl rfl rfl rfl (fun h => ?_) (fun h => ?_) <;> first | (cases h; done) | (exfalso; simp only [decide_eq_true_eq, decide_eq_false_iff_not] at h; omega) | (with_reducible have hp := of_decide_eq_true h) | (with_reducible have hp := of_decide_eq_false h) | (with_reducible have hp := ndec_t h) | (with_reducible have hp := ndec_f h) | skip))
      | (show VcD _ _ _ _ _ (.only _ _) _ _ _; first
      | refine VcD.skip rfl rfl rfl (by first | exact H | exact Holds.drop H | exact Holds.drop (Holds.drop H) | trivial | assumption) ?_
      | (refine VcD.guardO rfl rfl rfl rfl rfl (fun h => ?_) (fun h => ?_) <;> first | (cases h; done) | (exfalso; simp only [decide_eq_true_eq, decide_eq_false_iff_not] at h; omega) | (with_reducible have hp := of_decide_eq_true h) | (with_reducible have hp := of_decide_eq_false h) | (with_reducible have hp := ndec_t h) | (with_reducible have hp := ndec_f h) | skip))
      | (show VcD _ _ _ _ _ (.two _ _ _ _) _ _ _; refine VcD.two ?_ ?_))
          | (show Vc _ _ _ _ _ _; first
      | refine Vc.seq ?_
      | refine Vc.region ?_
      | refine Vc.condT rfl ?_
      | refine Vc.condF rfl ?_
      | refine Vc.ret ?_
      | refine Vc.skip ?_
      | refine Vc.block ?_
      | refine Vc.exit ?_
      | (refine Vc.drawn (id := 11) (.take 0 (.take 1 (.take 2 (.take 3 (.take 5 (.take 6 (.take 4 (.take 7 (.only 8 .done))))))))) (fun _ => True) mixed (by kernel_rfl) ?_; have H := H.drew (w.drawn + 1))
      | (refine Vc.drawn (id := 15) (.take 0 (.take 1 (.take 2 (.take 3 (.take 5 (.take 6 (.take 4 (.take 7 (.only 8 .done))))))))) (fun _ => True) mixed (by kernel_rfl) ?_; have H := H.drew (w.drawn + 1))
      | (refine Vc.cond rfl (fun h => ?_) (fun h => ?_) <;> first | (cases h; done) | (exfalso; simp only [decide_eq_true_eq, decide_eq_false_iff_not] at h; omega) | (with_reducible have hp := of_decide_eq_true h) | (with_reducible have hp := of_decide_eq_false h) | (with_reducible have hp := ndec_t h) | (with_reducible have hp := ndec_f h) | skip))
          | (show KSeq _ _ _ _ _ _ _; first
      | refine KSeq.normal ?_
      | refine KSeq.ret ?_
      | refine KSeq.exit ?_)
          | (show KBlock _ _ _ _ _; first
      | refine KBlock.normal ?_
      | refine KBlock.here ?_
      | refine KBlock.on rfl ?_
      | refine KBlock.ret ?_)
          | refine KLoop.exit ?_
          | refine KLoop.ret ?_
          | refine KCut.exit ?_
          | refine KCut.ret ?_
          | (show KEnd _ _ _ _ _ _; first
      | refine KEnd.mk (Or.inr rfl) ⟨_, (ResL.tmp rfl ResL.nil), ?_⟩
      | refine KEnd.mk (Or.inl rfl) ⟨_, (ResL.tmp rfl ResL.nil), ?_⟩))
        obtain rfl : p_ = pre.length + i * 3 := by omega
        refine VcL.copyB (m := 1) (ds := ds) tabOk rfl rfl rfl H (Rd.firsts hdl H.drop.pt_rd) rfl hdl hd ?_ rfl rfl rfl (fun w H => ?_)
        · rw [over_length (by omega), hXl]; show pre.length + i * 3 + min 1 (n + 1 - i) * 3 ≤ _; omega
        have H : Holds I w (blk b 28 (pre ++ (cs.take (i * 3) ++ ds ++ cs.drop (i * 3)) ++ rest.drop 3) :: pt vb (.cells ds.toArray 28 (0, 0)) :: L) := H.as ((congrArg (over _ _) (List.take_of_length_le (by show _ ≤ min 1 (n + 1 - i) * 3; omega))).trans (ins_here hcl hdl hrl3 hi))
        repeat' (first
          | rw [hw1]
          | rw [hw2]
          | rw [hw3]
          | (show VcL _ _ _ _ _ _ _ _; first
      | refine VcL.pures tabOk rfl ?_
      | refine VcL.nil ?_
      | (show VcL _ _ _ _ (⟨_, .binOp _ _ _ _ _, _, _, _, _⟩ :: _) _ _ _; first
      | refine VcL.eqS tabOk rfl rfl rfl rfl rfl rfl (by kernel_rfl) (by kernel_rfl) rfl rfl (by first | exact .inl rfl | exact .inr rfl) ?_)
      | (show VcL _ _ _ _ (⟨_, .slice _ _ _ _ none, _, _, _, _⟩ :: _) _ _ _; first
      | refine VcL.sliceTo tabOk rfl rfl rfl rfl rfl rfl (by omega) ?_
      | refine VcL.sliceFrom tabOk rfl rfl rfl rfl rfl rfl (by omega) (by omega) (fun p_ hp_ => ?_)
      | refine VcL.sliceN tabOk rfl rfl rfl rfl rfl rfl rfl (by omega) (by omega) (fun p_ hp_ => ?_)
      | refine VcL.slice tabOk rfl rfl rfl rfl rfl rfl rfl (by omega) (by omega) (by omega) (fun p_ hp_ => ?_)
      | refine VcL.sliceNil tabOk rfl rfl rfl rfl rfl rfl rfl (by omega) (by omega) ?_)
      | (refine VcL.guard rfl rfl rfl rfl (fun h => ?_) (fun h => ?_) <;> first | (cases h; done) | (exfalso; simp only [decide_eq_true_eq, decide_eq_false_iff_not] at h; omega) | (with_reducible have hp := of_decide_eq_true h) | (with_reducible have hp := of_decide_eq_false h) | (with_reducible have hp := ndec_t h) | (with_reducible have hp := ndec_f h) | skip))
          | (show VcD _ _ _ _ _ _ _ _ _; first
      | refine VcD.pures tabOk (by first | exact H | exact Holds.drop H | exact Holds.drop (Holds.drop H) | trivial | assumption) rfl ?_
      | refine VcD.done ?_
      | (show VcD _ _ _ _ _ (.take _ _) _ _ _; first
      | refine VcD.sliceTo tabOk rfl rfl rfl rfl rfl rfl rfl (by first | exact H | exact Holds.drop H | exact Holds.drop (Holds.drop H) | trivial | assumption) (by omega) ?_
      | refine VcD.sliceFrom tabOk rfl rfl rfl rfl rfl rfl rfl (by first | exact H | exact Holds.drop H | exact Holds.drop (Holds.drop H) | trivial | assumption) (by omega) (by omega) (fun p_ hp_ => ?_)
      | refine VcD.slice tabOk rfl rfl rfl rfl rfl rfl rfl rfl (by first | exact H | exact Holds.drop H | exact Holds.drop (Holds.drop H) | trivial | assumption) (by omega) (by omega) (by omega) (fun p_ hp_ => ?_)
      | refine VcD.sliceNil tabOk rfl rfl rfl rfl rfl rfl rfl rfl (by first | exact H | exact Holds.drop H | exact Holds.drop (Holds.drop H) | trivial | assumption) (by omega) (by omega) ?_
      | refine VcD.eqS tabOk rfl rfl rfl rfl rfl rfl (by first | exact H | exact Holds.drop H | exact Holds.drop (Holds.drop H) | trivial | assumption) rfl (by kernel_rfl) (by kernel_rfl) rfl rfl (by first | exact .inl rfl | exact .inr rfl) ?_
      | (refine VcD.guardT rfl rfl rfl rfl rfl (fun h => ?_) (fun h => ?_) <;> first | (cases h; done) | (exfalso; simp only [decide_eq_true_eq, decide_eq_false_iff_not] at h; omega) | (with_reducible have hp := of_decide_eq_true h) | (with_reducible have hp := of_decide_eq_false h) | (with_reducible have hp := ndec_t h) | (with_reducible have hp := ndec_f h) | skip))
      | (show VcD _ _ _ _ _ (.only _ _) _ _ _; first
      | refine VcD.skip rfl rfl rfl (by first | exact H | exact Holds.drop H | exact Holds.drop (Holds.drop H) | trivial | assumption) ?_
      | (refine VcD.guardO rfl rfl rfl rfl rfl (fun h => ?_) (fun h => ?_) <;> first | (cases h; done) | (exfalso; simp only [decide_eq_true_eq, decide_eq_false_iff_not] at h; omega) | (with_reducible have hp := of_decide_eq_true h) | (with_reducible have hp := of_decide_eq_false h) | (with_reducible have hp := ndec_t h) | (with_reducible have hp := ndec_f h) | skip))
      | (show VcD _ _ _ _ _ (.two _ _ _ _) _ _ _; refine VcD.two ?_ ?_))
          | (show Vc _ _ _ _ _ _; first
      | refine Vc.seq ?_
      | refine Vc.region ?_
      | refine Vc.condT rfl ?_
      | refine Vc.condF rfl ?_
      | refine Vc.ret ?_
      | refine Vc.skip ?_
      | refine Vc.block ?_
      | refine Vc.exit ?_
      | (refine Vc.drawn (id := 11) (.take 0 (.take 1 (.take 2 (.take 3 (.take 5 (.take 6 (.take 4 (.take 7 (.only 8 .done))))))))) (fun _ => True) mixed (by kernel_rfl) ?_; have H := H.drew (w.drawn + 1))
      | (refine Vc.drawn (id := 15) (.take 0 (.take 1 (.take 2 (.take 3 (.take 5 (.take 6 (.take 4 (.take 7 (.only 8 .done))))))))) (fun _ => True) mixed (by kernel_rfl) ?_; have H := H.drew (w.drawn + 1))
      | (refine Vc.cond rfl (fun h => ?_) (fun h => ?_) <;> first | (cases h; done) | (exfalso; simp only [decide_eq_true_eq, decide_eq_false_iff_not] at h; omega) | (with_reducible have hp := of_decide_eq_true h) | (with_reducible have hp := of_decide_eq_false h) | (with_reducible have hp := ndec_t h) | (with_reducible have hp := ndec_f h) | skip))
          | (show KSeq _ _ _ _ _ _ _; first
      | refine KSeq.normal ?_
      | refine KSeq.ret ?_
      | refine KSeq.exit ?_)
          | (show KBlock _ _ _ _ _; first
      | refine KBlock.normal ?_
      | refine KBlock.here ?_
      | refine KBlock.on rfl ?_
      | refine KBlock.ret ?_)
          | refine KLoop.exit ?_
          | refine KLoop.ret ?_
          | refine KCut.exit ?_
          | refine KCut.ret ?_
          | (show KEnd _ _ _ _ _ _; first
      | refine KEnd.mk (Or.inr rfl) ⟨_, (ResL.tmp rfl ResL.nil), ?_⟩
      | refine KEnd.mk (Or.inl rfl) ⟨_, (ResL.tmp rfl ResL.nil), ?_⟩))
        exact (H.own_mk (by omega) (by simp only [List.length_append, List.length_take, List.length_drop]; omega) (by rw [List.length_drop]; omega)).swap.drop
    · obtain rfl : i = n := by omega
      refine ok_slices_Insert_api_Span_api_Span.rets rfl ?_
      repeat' (first
        | rw [hw1]
        | rw [hw2]
        | rw [hw3]
        | (show VcL _ _ _ _ _ _ _ _; first
      | refine VcL.pures tabOk rfl ?_
      | refine VcL.nil ?_
      | (show VcL _ _ _ _ (⟨_, .binOp _ _ _ _ _, _, _, _, _⟩ :: _) _ _ _; first
      | refine VcL.eqS tabOk rfl rfl rfl rfl rfl rfl (by kernel_rfl) (by kernel_rfl) rfl rfl (by first | exact .inl rfl | exact .inr rfl) ?_)
      | (show VcL _ _ _ _ (⟨_, .slice _ _ _ _ none, _, _, _, _⟩ :: _) _ _ _; first
      | refine VcL.sliceTo tabOk rfl rfl rfl rfl rfl rfl (by omega) ?_
      | refine VcL.sliceFrom tabOk rfl rfl rfl rfl rfl rfl (by omega) (by omega) (fun p_ hp_ => ?_)
      | refine VcL.sliceN tabOk rfl rfl rfl rfl rfl rfl rfl (by omega) (by omega) (fun p_ hp_ => ?_)
      | refine VcL.slice tabOk rfl rfl rfl rfl rfl rfl rfl (by omega) (by omega) (by omega) (fun p_ hp_ => ?_)
      | refine VcL.sliceNil tabOk rfl rfl rfl rfl rfl rfl rfl (by omega) (by omega) ?_)
      | (refine VcL.guard rfl rfl rfl rfl (fun h => ?_) (fun h => ?_) <;> first | (cases h; done) | (exfalso; simp only [decide_eq_true_eq, decide_eq_false_iff_not] at h; omega) | (with_reducible have hp := of_decide_eq_true h) | (with_reducible have hp := of_decide_eq_false h) | (with_reducible have hp := ndec_t h) | (with_reducible have hp := ndec_f h) | skip))
        | (show VcD _ _ _ _ _ _ _ _ _; first
      | refine VcD.pures tabOk (by first | exact H | exact Holds.drop H | exact Holds.drop (Holds.drop H) | trivial | assumption) rfl ?_
      | refine VcD.done ?_
      | (show VcD _ _ _ _ _ (.take _ _) _ _ _; first
      | refine VcD.sliceTo tabOk rfl rfl rfl rfl rfl rfl rfl (by first | exact H | exact Holds.drop H | exact Holds.drop (Holds.drop H) | trivial | assumption) (by omega) ?_
      | refine VcD.sliceFrom tabOk rfl rfl rfl rfl rfl rfl rfl (by first | exact H | exact Holds.drop H | exact Holds.drop (Holds.drop H) | trivial | assumption) (by omega) (by omega) (fun p_ hp_ => ?_)
      | refine VcD.slice tabOk rfl rfl rfl rfl rfl rfl rfl rfl (by first | exact H | exact Holds.drop H | exact Holds.drop (Holds.drop H) | trivial | assumption) (by omega) (by omega) (by omega) (fun p_ hp_ => ?_)
      | refine VcD.sliceNil tabOk rfl rfl rfl rfl rfl rfl rfl rfl (by first | exact H | exact Holds.drop H | exact Holds.drop (Holds.drop H) | trivial | assumption) (by omega) (by omega) ?_
      | refine VcD.eqS tabOk rfl rfl rfl rfl rfl rfl (by first | exact H | exact Holds.drop H | exact Holds.drop (Holds.drop H) | trivial | assumption) rfl (by kernel_rfl) (by kernel_rfl) rfl rfl (by first | exact .inl rfl | exact .inr rfl) ?_
      | (refine VcD.guardT rfl rfl rfl rfl rfl (fun h => ?_) (fun h => ?_) <;> first | (cases h; done) | (exfalso; simp only [decide_eq_true_eq, decide_eq_false_iff_not] at h; omega) | (with_reducible have hp := of_decide_eq_true h) | (with_reducible have hp := of_decide_eq_false h) | (with_reducible have hp := ndec_t h) | (with_reducible have hp := ndec_f h) | skip))
      | (show VcD _ _ _ _ _ (.only _ _) _ _ _; first
      | refine VcD.skip rfl rfl rfl (by first | exact H | exact Holds.drop H | exact Holds.drop (Holds.drop H) | trivial | assumption) ?_
      | (refine VcD.guardO rfl rfl rfl rfl rfl (fun h => ?_) (fun h => ?_) <;> first | (cases h; done) | (exfalso; simp only [decide_eq_true_eq, decide_eq_false_iff_not] at h; omega) | (with_reducible have hp := of_decide_eq_true h) | (with_reducible have hp := of_decide_eq_false h) | (with_reducible have hp := ndec_t h) | (with_reducible have hp := ndec_f h) | skip))
      | (show VcD _ _ _ _ _ (.two _ _ _ _) _ _ _; refine VcD.two ?_ ?_))
        | (show Vc _ _ _ _ _ _; first
      | refine Vc.seq ?_
      | refine Vc.region ?_
      | refine Vc.condT rfl ?_
      | refine Vc.condF rfl ?_
      | refine Vc.ret ?_
      | refine Vc.skip ?_
      | refine Vc.block ?_
      | refine Vc.exit ?_
      | (refine Vc.drawn (id := 11) (.take 0 (.take 1 (.take 2 (.take 3 (.take 5 (.take 6 (.take 4 (.take 7 (.only 8 .done))))))))) (fun _ => True) mixed (by kernel_rfl) ?_; have H := H.drew (w.drawn + 1))
      | (refine Vc.drawn (id := 15) (.take 0 (.take 1 (.take 2 (.take 3 (.take 5 (.take 6 (.take 4 (.take 7 (.only 8 .done))))))))) (fun _ => True) mixed (by kernel_rfl) ?_; have H := H.drew (w.drawn + 1))
      | (refine Vc.cond rfl (fun h => ?_) (fun h => ?_) <;> first | (cases h; done) | (exfalso; simp only [decide_eq_true_eq, decide_eq_false_iff_not] at h; omega) | (with_reducible have hp := of_decide_eq_true h) | (with_reducible have hp := of_decide_eq_false h) | (with_reducible have hp := ndec_t h) | (with_reducible have hp := ndec_f h) | skip))
        | (show KSeq _ _ _ _ _ _ _; first
      | refine KSeq.normal ?_
      | refine KSeq.ret ?_
      | refine KSeq.exit ?_)
        | (show KBlock _ _ _ _ _; first
      | refine KBlock.normal ?_
      | refine KBlock.here ?_
      | refine KBlock.on rfl ?_
      | refine KBlock.ret ?_)
        | refine KLoop.exit ?_
        | refine KLoop.ret ?_
        | refine KCut.exit ?_
        | refine KCut.ret ?_
        | (show KEnd _ _ _ _ _ _; first
      | refine KEnd.mk (Or.inr rfl) ⟨_, (ResL.tmp rfl ResL.nil), ?_⟩
      | refine KEnd.mk (Or.inl rfl) ⟨_, (ResL.tmp rfl ResL.nil), ?_⟩))
      refine VcL.append tabOk rfl rfl rfl rfl H (Src.slice hdl H.drop.pt_rd) hd (by show (i + 1) * 24 ≤ 2 ^ 46; omega) rfl rfl rfl (fun sv w H => ?_)
      repeat' (first
        | rw [hw1]
        | rw [hw2]
        | rw [hw3]
        | (show VcL _ _ _ _ _ _ _ _; first
      | refine VcL.pures tabOk rfl ?_
      | refine VcL.nil ?_
      | (show VcL _ _ _ _ (⟨_, .binOp _ _ _ _ _, _, _, _, _⟩ :: _) _ _ _; first
      | refine VcL.eqS tabOk rfl rfl rfl rfl rfl rfl (by kernel_rfl) (by kernel_rfl) rfl rfl (by first | exact .inl rfl | exact .inr rfl) ?_)
      | (show VcL _ _ _ _ (⟨_, .slice _ _ _ _ none, _, _, _, _⟩ :: _) _ _ _; first
      | refine VcL.sliceTo tabOk rfl rfl rfl rfl rfl rfl (by omega) ?_
      | refine VcL.sliceFrom tabOk rfl rfl rfl rfl rfl rfl (by omega) (by omega) (fun p_ hp_ => ?_)
      | refine VcL.sliceN tabOk rfl rfl rfl rfl rfl rfl rfl (by omega) (by omega) (fun p_ hp_ => ?_)
      | refine VcL.slice tabOk rfl rfl rfl rfl rfl rfl rfl (by omega) (by omega) (by omega) (fun p_ hp_ => ?_)
      | refine VcL.sliceNil tabOk rfl rfl rfl rfl rfl rfl rfl (by omega) (by omega) ?_)
      | (refine VcL.guard rfl rfl rfl rfl (fun h => ?_) (fun h => ?_) <;> first | (cases h; done) | (exfalso; simp only [decide_eq_true_eq, decide_eq_false_iff_not] at h; omega) | (with_reducible have hp := of_decide_eq_true h) | (with_reducible have hp := of_decide_eq_false h) | (with_reducible have hp := ndec_t h) | (with_reducible have hp := ndec_f h) | skip))
        | (show VcD _ _ _ _ _ _ _ _ _; first
      | refine VcD.pures tabOk (by first | exact H | exact Holds.drop H | exact Holds.drop (Holds.drop H) | trivial | assumption) rfl ?_
      | refine VcD.done ?_
      | (show VcD _ _ _ _ _ (.take _ _) _ _ _; first
      | refine VcD.sliceTo tabOk rfl rfl rfl rfl rfl rfl rfl (by first | exact H | exact Holds.drop H | exact Holds.drop (Holds.drop H) | trivial | assumption) (by omega) ?_
      | refine VcD.sliceFrom tabOk rfl rfl rfl rfl rfl rfl rfl (by first | exact H | exact Holds.drop H | exact Holds.drop (Holds.drop H) | trivial | assumption) (by omega) (by omega) (fun p_ hp_ => ?_)
      | refine VcD.slice tabOk rfl rfl rfl rfl rfl rfl rfl rfl (by first | exact H | exact Holds.drop H | exact Holds.drop (Holds.drop H) | trivial | assumption) (by omega) (by omega) (by omega) (fun p_ hp_ => ?_)
      | refine VcD.sliceNil tabOk rfl rfl rfl rfl rfl rfl rfl rfl (by first | exact H | exact Holds.drop H | exact Holds.drop (Holds.drop H) | trivial | assumption) (by omega) (by omega) ?_
      | refine VcD.eqS tabOk rfl rfl rfl rfl rfl rfl (by first | exact H | exact Holds.drop H | exact Holds.drop (Holds.drop H) | trivial | assumption) rfl (by kernel_rfl) (by kernel_rfl) rfl rfl (by first | exact .inl rfl | exact .inr rfl) ?_
      | (refine VcD.guardT rfl rfl rfl rfl rfl (fun h => ?_) (fun h => ?_) <;> first | (cases h; done) | (exfalso; simp only [decide_eq_true_eq, decide_eq_false_iff_not] at h; omega) | (with_reducible have hp := of_decide_eq_true h) | (with_reducible have hp := of_decide_eq_false h) | (with_reducible have hp := ndec_t h) | (with_reducible have hp := ndec_f h) | skip))
      | (show VcD _ _ _ _ _ (.only _ _) _ _ _; first
      | refine VcD.skip rfl rfl rfl (by first | exact H | exact Holds.drop H | exact Holds.drop (Holds.drop H) | trivial | assumption) ?_
      | (refine VcD.guardO rfl rfl rfl rfl rfl (fun h => ?_) (fun h => ?_) <;> first | (cases h; done) | (exfalso; simp only [decide_eq_true_eq, decide_eq_false_iff_not] at h; omega) | (with_reducible have hp := of_decide_eq_true h) | (with_reducible have hp := of_decide_eq_false h) | (with_reducible have hp := ndec_t h) | (with_reducible have hp := ndec_f h) | skip))
      | (show VcD _ _ _ _ _ (.two _ _ _ _) _ _ _; refine VcD.two ?_ ?_))
        | (show Vc _ _ _ _ _ _; first
      | refine Vc.seq ?_
      | refine Vc.region ?_
      | refine Vc.condT rfl ?_
      | refine Vc.condF rfl ?_
      | refine Vc.ret ?_
      | refine Vc.skip ?_
      | refine Vc.block ?_
      | refine Vc.exit ?_
      | (refine Vc.drawn (id := 11) (.take 0 (.take 1 (.take 2 (.take 3 (.take 5 (.take 6 (.take 4 (.take 7 (.only 8 .done))))))))) (fun _ => True) mixed (by kernel_rfl) ?_; have H := H.drew (w.drawn + 1))
      | (refine Vc.drawn (id := 15) (.take 0 (.take 1 (.take 2 (.take 3 (.take 5 (.take 6 (.take 4 (.take 7 (.only 8 .done))))))))) (fun _ => True) mixed (by kernel_rfl) ?_; have H := H.drew (w.drawn + 1))
      | (refine Vc.cond rfl (fun h => ?_) (fun h => ?_) <;> first | (cases h; done) | (exfalso; simp only [decide_eq_true_eq, decide_eq_false_iff_not] at h; omega) | (with_reducible have hp := of_decide_eq_true h) | (with_reducible have hp := of_decide_eq_false h) | (with_reducible have hp := ndec_t h) | (with_reducible have hp := ndec_f h) | skip))
        | (show KSeq _ _ _ _ _ _ _; first
      | refine KSeq.normal ?_
      | refine KSeq.ret ?_
      | refine KSeq.exit ?_)
        | (show KBlock _ _ _ _ _; first
      | refine KBlock.normal ?_
      | refine KBlock.here ?_
      | refine KBlock.on rfl ?_
      | refine KBlock.ret ?_)
        | refine KLoop.exit ?_
        | refine KLoop.ret ?_
        | refine KCut.exit ?_
        | refine KCut.ret ?_
        | (show KEnd _ _ _ _ _ _; first
      | refine KEnd.mk (Or.inr rfl) ⟨_, (ResL.tmp rfl ResL.nil), ?_⟩
      | refine KEnd.mk (Or.inl rfl) ⟨_, (ResL.tmp rfl ResL.nil), ?_⟩))
      have e1 : cs.take (i * 3) = cs := List.take_of_length_le (by omega)
      have e2 : cs.drop (i * 3) = [] := List.drop_of_length_le (by omega)
      rw [e1, e2, List.append_nil]
      exact H.swap.drop
theorem Delete_any {v : Value} {n i : Nat} {cs : List Value} (H : Holds I w (own v 28 3 n cs :: L)) (h1 : ∀ u ∈ cs, oneC u = true) (hi : i < n) (hn : n ≤ 1000000) :
    Rets Try.prog F_slices_Delete_api_Span_api_Span #[v, .int .i64 i, .int .i64 (i + 1 : Nat)] w fun u w' => Holds I w' (own u 28 3 (n - 1) (cs.take (i * 3) ++ cs.drop ((i + 1) * 3)) :: L) := by
  rcases H.own_cases with ⟨rfl, rfl, rfl, HN⟩ | ⟨b, o, cap, pre, rest, rfl, hcap, hcl, rfl, hrl, HB⟩
  · omega
  · have H := HB; clear HB
    have hdr : (cs.drop ((i + 1) * 3)).length = (n - (i + 1)) * 3 := by rw [List.length_drop]; omega
    have hXl : (pre ++ cs ++ rest).length = pre.length + n * 3 + rest.length := by rw [List.length_append, List.length_append]; omega
    refine ok_slices_Delete_api_Span_api_Span.rets rfl ?_
    repeat' (first
      | (refine VcL.slice3 tabOk rfl rfl rfl rfl rfl rfl rfl rfl (by omega) (by omega) (by omega) (by omega) (fun _ => ?_))
      | (show VcL _ _ _ _ _ _ _ _; first
      | refine VcL.pures tabOk rfl ?_
      | refine VcL.nil ?_
      | (show VcL _ _ _ _ (⟨_, .binOp _ _ _ _ _, _, _, _, _⟩ :: _) _ _ _; first
      | refine VcL.eqS tabOk rfl rfl rfl rfl rfl rfl (by kernel_rfl) (by kernel_rfl) rfl rfl (by first | exact .inl rfl | exact .inr rfl) ?_)
      | (show VcL _ _ _ _ (⟨_, .slice _ _ _ _ none, _, _, _, _⟩ :: _) _ _ _; first
      | refine VcL.sliceTo tabOk rfl rfl rfl rfl rfl rfl (by omega) ?_
      | refine VcL.sliceFrom tabOk rfl rfl rfl rfl rfl rfl (by omega) (by omega) (fun p_ hp_ => ?_)
      | refine VcL.sliceN tabOk rfl rfl rfl rfl rfl rfl rfl (by omega) (by omega) (fun p_ hp_ => ?_)
      | refine VcL.slice tabOk rfl rfl rfl rfl rfl rfl rfl (by omega) (by omega) (by omega) (fun p_ hp_ => ?_)
      | refine VcL.sliceNil tabOk rfl rfl rfl rfl rfl rfl rfl (by omega) (by omega) ?_)
      | (refine VcL.guard rfl rfl rfl rfl (fun h => ?_) (fun h => ?_) <;> first | (cases h; done) | (exfalso; simp only [decide_eq_true_eq, decide_eq_false_iff_not] at h; omega) | (with_reducible have hp := of_decide_eq_true h) | (with_reducible have hp := of_decide_eq_false h) | (with_reducible have hp := ndec_t h) | (with_reducible have hp := ndec_f h) | skip))
      | (show VcD _ _ _ _ _ _ _ _ _; first
      | refine VcD.pures tabOk (by first | exact H | exact Holds.drop H | exact Holds.drop (Holds.drop H) | trivial | assumption) rfl ?_
      | refine VcD.done ?_
      | (show VcD _ _ _ _ _ (.take _ _) _ _ _; first
      | refine VcD.sliceTo tabOk rfl rfl rfl rfl rfl rfl rfl (by first | exact H | exact Holds.drop H | exact Holds.drop (Holds.drop H) | trivial | assumption) (by omega) ?_
      | refine VcD.sliceFrom tabOk rfl rfl rfl rfl rfl rfl rfl (by first | exact H | exact Holds.drop H | exact Holds.drop (Holds.drop H) | trivial | assumption) (by omega) (by omega) (fun p_ hp_ => ?_)
      | refine VcD.slice tabOk rfl rfl rfl rfl rfl rfl rfl rfl (by first | exact H | exact Holds.drop H | exact Holds.drop (Holds.drop H) | trivial | assumption) (by omega) (by omega) (by omega) (fun p_ hp_ => ?_)
      | refine VcD.sliceNil tabOk rfl rfl rfl rfl rfl rfl rfl rfl (by first | exact H | exact Holds.drop H | exact Holds.drop (Holds.drop H) | trivial | assumption) (by omega) (by omega) ?_
      | (refine VcD.guardT rfl rfl rfl rfl rfl (fun h => ?_) (fun h => ?_) <;> first | (cases h; done) | (exfalso; simp only [decide_eq_true_eq, decide_eq_false_iff_not] at h; omega) | (with_reducible have hp := of_decide_eq_true h) | (with_reducible have hp := of_decide_eq_false h) | (with_reducible have hp := ndec_t h) | (with_reducible have hp := ndec_f h) | skip))
      | (show VcD _ _ _ _ _ (.only _ _) _ _ _; first
      | refine VcD.skip rfl rfl rfl (by first | exact H | exact Holds.drop H | exact Holds.drop (Holds.drop H) | trivial | assumption) ?_
      | (refine VcD.guardO rfl rfl rfl rfl rfl (fun h => ?_) (fun h => ?_) <;> first | (cases h; done) | (exfalso; simp only [decide_eq_true_eq, decide_eq_false_iff_not] at h; omega) | (with_reducible have hp := of_decide_eq_true h) | (with_reducible have hp := of_decide_eq_false h) | (with_reducible have hp := ndec_t h) | (with_reducible have hp := ndec_f h) | skip))
      | (show VcD _ _ _ _ _ (.two _ _ _ _) _ _ _; refine VcD.two ?_ ?_))
      | (show Vc _ _ _ _ _ _; first
      | refine Vc.seq ?_
      | refine Vc.region ?_
      | refine Vc.condT rfl ?_
      | refine Vc.condF rfl ?_
      | refine Vc.ret ?_
      | refine Vc.skip ?_
      | refine Vc.block ?_
      | refine Vc.exit ?_
      | (refine Vc.drawn (id := 5) (.take 0 (.take 1 (.take 3 (.take 4 (.take 2 (.take 5 (.only 6 (.take 7 .done)))))))) (fun _ => True) mixed (by kernel_rfl) ?_; have H := H.drew (w.drawn + 1))
      | (refine Vc.cond rfl (fun h => ?_) (fun h => ?_) <;> first | (cases h; done) | (exfalso; simp only [decide_eq_true_eq, decide_eq_false_iff_not] at h; omega) | (with_reducible have hp := of_decide_eq_true h) | (with_reducible have hp := of_decide_eq_false h) | (with_reducible have hp := ndec_t h) | (with_reducible have hp := ndec_f h) | skip))
      | (show KSeq _ _ _ _ _ _ _; first
      | refine KSeq.normal ?_
      | refine KSeq.ret ?_
      | refine KSeq.exit ?_)
      | (show KBlock _ _ _ _ _; first
      | refine KBlock.normal ?_
      | refine KBlock.here ?_
      | refine KBlock.on rfl ?_
      | refine KBlock.ret ?_)
      | refine KLoop.exit ?_
      | refine KLoop.ret ?_
      | refine KCut.exit ?_
      | refine KCut.ret ?_
      | (show KEnd _ _ _ _ _ _; first
      | refine KEnd.mk (Or.inr rfl) ⟨_, (ResL.tmp rfl ResL.nil), ?_⟩
      | refine KEnd.mk (Or.inl rfl) ⟨_, (ResL.tmp rfl ResL.nil), ?_⟩))
    have hsrc : Src w 3 (.slice (some ⟨b, p_, none⟩) (n - (i + 1)) (cap - (i + 1))) (n - (i + 1)) (cs.drop ((i + 1) * 3)) := by
      rcases Nat.lt_or_ge (i + 1) n with hlt | hge
      · obtain rfl : p_ = (pre ++ cs.take ((i + 1) * 3)).length := by rw [List.length_append, List.length_take]; omega
        exact Src.slice hdr (H.rdAt (row_split2 pre cs rest ((i + 1) * 3)) rfl)
      · have e : cs.drop ((i + 1) * 3) = [] := List.drop_of_length_le (by omega)
        exact Src.slice hdr (fun j v hj => by rw [e] at hj; simp at hj)
    refine VcD.appendFits (m := n - (i + 1)) (ds := cs.drop ((i + 1) * 3)) tabOk rfl rfl rfl rfl rfl H (hsrc.of_heap rfl) (fun u hu => h1 u (List.mem_of_mem_drop hu)) (by omega) ?_ rfl rfl rfl (fun w H => ⟨trivial, ?_⟩)
    · rw [hXl]; show pre.length + (i + (n - (i + 1))) * 3 ≤ _; omega
    have H : Holds I w (blk b 28 (over (pre ++ cs ++ rest) (pre.length + i * 3) (cs.drop ((i + 1) * 3))) :: L) := H
    rw [show i + (n - (i + 1)) = n - 1 by omega]
    repeat' (first
      | (refine VcL.slice3 tabOk rfl rfl rfl rfl rfl rfl rfl rfl (by omega) (by omega) (by omega) (by omega) (fun _ => ?_))
      | (show VcL _ _ _ _ _ _ _ _; first
      | refine VcL.pures tabOk rfl ?_
      | refine VcL.nil ?_
      | (show VcL _ _ _ _ (⟨_, .binOp _ _ _ _ _, _, _, _, _⟩ :: _) _ _ _; first
      | refine VcL.eqS tabOk rfl rfl rfl rfl rfl rfl (by kernel_rfl) (by kernel_rfl) rfl rfl (by first | exact .inl rfl | exact .inr rfl) ?_)
      | (show VcL _ _ _ _ (⟨_, .slice _ _ _ _ none, _, _, _, _⟩ :: _) _ _ _; first
      | refine VcL.sliceTo tabOk rfl rfl rfl rfl rfl rfl (by omega) ?_
      | refine VcL.sliceFrom tabOk rfl rfl rfl rfl rfl rfl (by omega) (by omega) (fun p_ hp_ => ?_)
      | refine VcL.sliceN tabOk rfl rfl rfl rfl rfl rfl rfl (by omega) (by omega) (fun p_ hp_ => ?_)
      | refine VcL.slice tabOk rfl rfl rfl rfl rfl rfl rfl (by omega) (by omega) (by omega) (fun p_ hp_ => ?_)
      | refine VcL.sliceNil tabOk rfl rfl rfl rfl rfl rfl rfl (by omega) (by omega) ?_)
      | (refine VcL.guard rfl rfl rfl rfl (fun h => ?_) (fun h => ?_) <;> first | (cases h; done) | (exfalso; simp only [decide_eq_true_eq, decide_eq_false_iff_not] at h; omega) | (with_reducible have hp := of_decide_eq_true h) | (with_reducible have hp := of_decide_eq_false h) | (with_reducible have hp := ndec_t h) | (with_reducible have hp := ndec_f h) | skip))
      | (show VcD _ _ _ _ _ _ _ _ _; first
      | refine VcD.pures tabOk (by first | exact H | exact Holds.drop H | exact Holds.drop (Holds.drop H) | trivial | assumption) rfl ?_
      | refine VcD.done ?_
      | (show VcD _ _ _ _ _ (.take _ _) _ _ _; first
      | refine VcD.sliceTo tabOk rfl rfl rfl rfl rfl rfl rfl (by first | exact H | exact Holds.drop H | exact Holds.drop (Holds.drop H) | trivial | assumption) (by omega) ?_
      | refine VcD.sliceFrom tabOk rfl rfl rfl rfl rfl rfl rfl (by first | exact H | exact Holds.drop H | exact Holds.drop (Holds.drop H) | trivial | assumption) (by omega) (by omega) (fun p_ hp_ => ?_)
      | refine VcD.slice tabOk rfl rfl rfl rfl rfl rfl rfl rfl (by first | exact H | exact Holds.drop H | exact Holds.drop (Holds.drop H) | trivial | assumption) (by omega) (by omega) (by omega) (fun p_ hp_ => ?_)
      | refine VcD.sliceNil tabOk rfl rfl rfl rfl rfl rfl rfl rfl (by first | exact H | exact Holds.drop H | exact Holds.drop (Holds.drop H) | trivial | assumption) (by omega) (by omega) ?_
      | (refine VcD.guardT rfl rfl rfl rfl rfl (fun h => ?_) (fun h => ?_) <;> first | (cases h; done) | (exfalso; simp only [decide_eq_true_eq, decide_eq_false_iff_not] at h; omega) | (with_reducible have hp := of_decide_eq_true h) | (with_reducible have hp := of_decide_eq_false h) | (with_reducible have hp := ndec_t h) | (with_reducible have hp := ndec_f h) | skip))
      | (show VcD _ _ _ _ _ (.only _ _) _ _ _; first
      | refine VcD.skip rfl rfl rfl (by first | exact H | exact Holds.drop H | exact Holds.drop (Holds.drop H) | trivial | assumption) ?_
      | (refine VcD.guardO rfl rfl rfl rfl rfl (fun h => ?_) (fun h => ?_) <;> first | (cases h; done) | (exfalso; simp only [decide_eq_true_eq, decide_eq_false_iff_not] at h; omega) | (with_reducible have hp := of_decide_eq_true h) | (with_reducible have hp := of_decide_eq_false h) | (with_reducible have hp := ndec_t h) | (with_reducible have hp := ndec_f h) | skip))
      | (show VcD _ _ _ _ _ (.two _ _ _ _) _ _ _; refine VcD.two ?_ ?_))
      | (show Vc _ _ _ _ _ _; first
      | refine Vc.seq ?_
      | refine Vc.region ?_
      | refine Vc.condT rfl ?_
      | refine Vc.condF rfl ?_
      | refine Vc.ret ?_
      | refine Vc.skip ?_
      | refine Vc.block ?_
      | refine Vc.exit ?_
      | (refine Vc.drawn (id := 5) (.take 0 (.take 1 (.take 3 (.take 4 (.take 2 (.take 5 (.only 6 (.take 7 .done)))))))) (fun _ => True) mixed (by kernel_rfl) ?_; have H := H.drew (w.drawn + 1))
      | (refine Vc.cond rfl (fun h => ?_) (fun h => ?_) <;> first | (cases h; done) | (exfalso; simp only [decide_eq_true_eq, decide_eq_false_iff_not] at h; omega) | (with_reducible have hp := of_decide_eq_true h) | (with_reducible have hp := of_decide_eq_false h) | (with_reducible have hp := ndec_t h) | (with_reducible have hp := ndec_f h) | skip))
      | (show KSeq _ _ _ _ _ _ _; first
      | refine KSeq.normal ?_
      | refine KSeq.ret ?_
      | refine KSeq.exit ?_)
      | (show KBlock _ _ _ _ _; first
      | refine KBlock.normal ?_
      | refine KBlock.here ?_
      | refine KBlock.on rfl ?_
      | refine KBlock.ret ?_)
      | refine KLoop.exit ?_
      | refine KLoop.ret ?_
      | refine KCut.exit ?_
      | refine KCut.ret ?_
      | (show KEnd _ _ _ _ _ _; first
      | refine KEnd.mk (Or.inr rfl) ⟨_, (ResL.tmp rfl ResL.nil), ?_⟩
      | refine KEnd.mk (Or.inl rfl) ⟨_, (ResL.tmp rfl ResL.nil), ?_⟩))
    rename_i q1 hq1 _
    clear hq1
    obtain rfl : p_ = pre.length + (n - 1) * 3 := by omega
    refine VcL.clear tabOk rfl rfl H rfl (.inr ?_) rfl (fun w H => ?_)
    · rw [over_length (by omega), hXl]; show pre.length + (n - 1) * 3 + (n - (n - 1)) * 3 ≤ _; omega
    have H : Holds I w (blk b 28 (pre ++ (cs.take (i * 3) ++ cs.drop ((i + 1) * 3)) ++ (zSp ++ rest)) :: L) := H.as ((congrArg (over _ _) (by
      show repL (n - (n - 1)) zSp = zSp
      rw [show n - (n - 1) = 1 by omega]; simp [repL])).trans (del_row hcl rfl hi))
    repeat' (first
      | (refine VcL.slice3 tabOk rfl rfl rfl rfl rfl rfl rfl rfl (by omega) (by omega) (by omega) (by omega) (fun _ => ?_))
      | (show VcL _ _ _ _ _ _ _ _; first
      | refine VcL.pures tabOk rfl ?_
      | refine VcL.nil ?_
      | (show VcL _ _ _ _ (⟨_, .binOp _ _ _ _ _, _, _, _, _⟩ :: _) _ _ _; first
      | refine VcL.eqS tabOk rfl rfl rfl rfl rfl rfl (by kernel_rfl) (by kernel_rfl) rfl rfl (by first | exact .inl rfl | exact .inr rfl) ?_)
      | (show VcL _ _ _ _ (⟨_, .slice _ _ _ _ none, _, _, _, _⟩ :: _) _ _ _; first
      | refine VcL.sliceTo tabOk rfl rfl rfl rfl rfl rfl (by omega) ?_
      | refine VcL.sliceFrom tabOk rfl rfl rfl rfl rfl rfl (by omega) (by omega) (fun p_ hp_ => ?_)
      | refine VcL.sliceN tabOk rfl rfl rfl rfl rfl rfl rfl (by omega) (by omega) (fun p_ hp_ => ?_)
      | refine VcL.slice tabOk rfl rfl rfl rfl rfl rfl rfl (by omega) (by omega) (by omega) (fun p_ hp_ => ?_)
      | refine VcL.sliceNil tabOk rfl rfl rfl rfl rfl rfl rfl (by omega) (by omega) ?_)
      | (refine VcL.guard rfl rfl rfl rfl (fun h => ?_) (fun h => ?_) <;> first | (cases h; done) | (exfalso; simp only [decide_eq_true_eq, decide_eq_false_iff_not] at h; omega) | (with_reducible have hp := of_decide_eq_true h) | (with_reducible have hp := of_decide_eq_false h) | (with_reducible have hp := ndec_t h) | (with_reducible have hp := ndec_f h) | skip))
      | (show VcD _ _ _ _ _ _ _ _ _; first
      | refine VcD.pures tabOk (by first | exact H | exact Holds.drop H | exact Holds.drop (Holds.drop H) | trivial | assumption) rfl ?_
      | refine VcD.done ?_
      | (show VcD _ _ _ _ _ (.take _ _) _ _ _; first
      | refine VcD.sliceTo tabOk rfl rfl rfl rfl rfl rfl rfl (by first | exact H | exact Holds.drop H | exact Holds.drop (Holds.drop H) | trivial | assumption) (by omega) ?_
      | refine VcD.sliceFrom tabOk rfl rfl rfl rfl rfl rfl rfl (by first | exact H | exact Holds.drop H | exact Holds.drop (Holds.drop H) | trivial | assumption) (by omega) (by omega) (fun p_ hp_ => ?_)
      | refine VcD.slice tabOk rfl rfl rfl rfl rfl rfl rfl rfl (by first | exact H | exact Holds.drop H | exact Holds.drop (Holds.drop H) | trivial | assumption) (by omega) (by omega) (by omega) (fun p_ hp_ => ?_)
      | refine VcD.sliceNil tabOk rfl rfl rfl rfl rfl rfl rfl rfl (by first | exact H | exact Holds.drop H | exact Holds.drop (Holds.drop H) | trivial | assumption) (by omega) (by omega) ?_
      | (refine VcD.guardT rfl rfl rfl rfl rfl (fun h => ?_) (fun h => ?_) <;> first | (cases h; done) | (exfalso; simp only [decide_eq_true_eq, decide_eq_false_iff_not] at h; omega) | (with_reducible have hp := of_decide_eq_true h) | (with_reducible have hp := of_decide_eq_false h) | (with_reducible have hp := ndec_t h) | (with_reducible have hp := ndec_f h) | skip))
      | (show VcD _ _ _ _ _ (.only _ _) _ _ _; first
      | refine VcD.skip rfl rfl rfl (by first | exact H | exact Holds.drop H | exact Holds.drop (Holds.drop H) | trivial | assumption) ?_
      | (refine VcD.guardO rfl rfl rfl rfl rfl (fun h => ?_) (fun h => ?_) <;> first | (cases h; done) | (exfalso; simp only [decide_eq_true_eq, decide_eq_false_iff_not] at h; omega) | (with_reducible have hp := of_decide_eq_true h) | (with_reducible have hp := of_decide_eq_false h) | (with_reducible have hp := ndec_t h) | (with_reducible have hp := ndec_f h) | skip))
      | (show VcD _ _ _ _ _ (.two _ _ _ _) _ _ _; refine VcD.two ?_ ?_))
      | (show Vc _ _ _ _ _ _; first
      | refine Vc.seq ?_
      | refine Vc.region ?_
      | refine Vc.condT rfl ?_
      | refine Vc.condF rfl ?_
      | refine Vc.ret ?_
      | refine Vc.skip ?_
      | refine Vc.block ?_
      | refine Vc.exit ?_
      | (refine Vc.drawn (id := 5) (.take 0 (.take 1 (.take 3 (.take 4 (.take 2 (.take 5 (.only 6 (.take 7 .done)))))))) (fun _ => True) mixed (by kernel_rfl) ?_; have H := H.drew (w.drawn + 1))
      | (refine Vc.cond rfl (fun h => ?_) (fun h => ?_) <;> first | (cases h; done) | (exfalso; simp only [decide_eq_true_eq, decide_eq_false_iff_not] at h; omega) | (with_reducible have hp := of_decide_eq_true h) | (with_reducible have hp := of_decide_eq_false h) | (with_reducible have hp := ndec_t h) | (with_reducible have hp := ndec_f h) | skip))
      | (show KSeq _ _ _ _ _ _ _; first
      | refine KSeq.normal ?_
      | refine KSeq.ret ?_
      | refine KSeq.exit ?_)
      | (show KBlock _ _ _ _ _; first
      | refine KBlock.normal ?_
      | refine KBlock.here ?_
      | refine KBlock.on rfl ?_
      | refine KBlock.ret ?_)
      | refine KLoop.exit ?_
      | refine KLoop.ret ?_
      | refine KCut.exit ?_
      | refine KCut.ret ?_
      | (show KEnd _ _ _ _ _ _; first
      | refine KEnd.mk (Or.inr rfl) ⟨_, (ResL.tmp rfl ResL.nil), ?_⟩
      | refine KEnd.mk (Or.inl rfl) ⟨_, (ResL.tmp rfl ResL.nil), ?_⟩))
    exact H.own_mk (by omega) (by simp only [List.length_append, List.length_take, List.length_drop]; omega) (by rw [List.length_append, show zSp.length = 3 from rfl]; omega)
def keepS (p : Sp → Bool) (l : List Sp) (j : Nat) : List Sp := (l.take j).filter fun x => !p x
theorem keepS_succ {p : Sp → Bool} {l : List Sp} {j : Nat} (h : j < l.length) : keepS p l (j + 1) = keepS p l j ++ (if p (spAt l j) then [] else [spAt l j]) := by
  unfold keepS
  rw [List.take_add_one, spAt_get h, List.filter_append]
  cases hp : p (spAt l j) <;> simp [hp]
theorem keepS_le (p : Sp → Bool) (l : List Sp) (j : Nat) : (keepS p l j).length ≤ j := by
  unfold keepS
  exact Nat.le_trans (List.length_filter_le _ _) (by rw [List.length_take]; omega)
theorem drop_at {l : List Sp} {j : Nat} (h : j < l.length) : l.drop j = spAt l j :: l.drop (j + 1) := by
  have := spAt_get h
  rw [List.getElem?_eq_getElem h] at this
  simp only [Option.some.injEq] at this
  rw [← this]; simp
theorem idxS_first {p : Sp → Bool} {l : List Sp} (h : idxS p l ≠ -1) : ∃ k, k < l.length ∧ idxS p l = (k : Int) ∧ p (spAt l k) = true ∧ keepS p l k = l.take k := by
  unfold idxS at h ⊢
  cases hf : l.findIdx? p with
  | none => rw [hf] at h; exact absurd rfl h
  | some k =>
    obtain ⟨hk, h1, h2⟩ := List.findIdx?_eq_some_iff_getElem.1 hf
    refine ⟨k, hk, rfl, ?_, ?_⟩
    · have := spAt_get hk
      rw [List.getElem?_eq_getElem hk] at this
      simp only [Option.some.injEq] at this
      rw [← this]; exact h1
    · unfold keepS
      rw [List.filter_eq_self]
      intro a ha
      obtain ⟨j, hj, rfl⟩ := List.getElem_of_mem ha
      rw [List.length_take] at hj
      rw [List.getElem_take]
      have := h2 j (by omega)
      simpa using this
theorem idxS_none {p : Sp → Bool} {l : List Sp} (h : idxS p l = -1) : l.filter (fun x => !p x) = l := by
  unfold idxS at h
  cases hf : l.findIdx? p with
  | none =>
    rw [List.findIdx?_eq_none_iff] at hf
    rw [List.filter_eq_self]
    intro a ha
    rw [hf a ha]; rfl
  | some k => rw [hf] at h; simp only at h; omega
theorem DeleteFunc_any {v : Value} {l : List Sp} (H : Holds I w (ownS v l :: L)) (hl : l.length ≤ 1000000) {g m : Nat} {rs : List ResultVar} {c : Code} {caps : Array Value} (hf : FnOk Try.prog g m rs c) (p : Sp → Bool)
    (hF : ∀ w s (A : List Asn), Holds I w (A ++ L) → Rets Try.prog g (#[] ++ [spV s].toArray ++ caps) w fun u w' => u = .bool (p s) ∧ Holds I w' (A ++ L)) :
    Rets Try.prog F_slices_DeleteFunc_api_Span_api_Span #[v, .func (.func g) #[] caps] w fun u w' => Holds I w' (ownS u (l.filter fun x => !p x) :: L) := by
  have hv : SlS I (ownS v l :: L) v l := H.own_toR
  have hF1 : ∀ a w s, Holds I w (a :: L) → Rets Try.prog g (#[] ++ [spV s].toArray ++ caps) w fun u w' => u = .bool (p s) ∧ Holds I w' (a :: L) := fun a w s => hF w s [a]
  have hF2 : ∀ a b w s, Holds I w (a :: b :: L) → Rets Try.prog g (#[] ++ [spV s].toArray ++ caps) w fun u w' => u = .bool (p s) ∧ Holds I w' (a :: b :: L) := fun a b w s => hF w s [a, b]
  refine ok_slices_DeleteFunc_api_Span_api_Span.rets rfl ?_
  repeat' (first
    | (show VcL _ _ _ _ _ _ _ _; first
      | refine VcL.pures tabOk rfl ?_
      | refine VcL.nil ?_
      | (show VcL _ _ _ _ (⟨_, .load _ _, _, _, _, _⟩ :: _) _ _ _; first
      | refine VcL.load1 tabOk rfl rfl rfl rfl rfl (by first | exact Holds.cell H rfl | exact Holds.cell (Holds.f1 H) rfl | exact Holds.cell (Holds.f2 H) rfl | exact Holds.cell (Holds.f3 H) rfl | exact Holds.cell (Holds.f4 H) rfl | exact Holds.cell (Holds.f5 H) rfl | exact Holds.cell (Holds.f6 H) rfl | exact RdW.get (by assumption) rfl H | exact RdW.get0 (by assumption) rfl H | exact RdW.get (by assumption) rfl (Holds.drop H) | exact RdW.get0 (by assumption) rfl (Holds.drop H) | exact RdW.get (by assumption) rfl (Holds.drop (Holds.drop H)) | exact RdW.get0 (by assumption) rfl (Holds.drop (Holds.drop H)) | exact RdW.get (by assumption) rfl (Holds.drop (Holds.drop (Holds.drop H))) | exact RdW.get0 (by assumption) rfl (Holds.drop (Holds.drop (Holds.drop H))) | assumption) ?_
      | refine VcL.loadR tabOk rfl rfl rfl rfl rfl rfl (by first | exact RdW.rd (by assumption) H | exact RdW.rd (by assumption) (Holds.drop H) | exact RdW.rd (by assumption) (Holds.drop (Holds.drop H)) | exact RdW.rd (by assumption) (Holds.drop (Holds.drop (Holds.drop H))) | assumption) rfl ?_
      | refine VcL.loadN tabOk rfl rfl rfl rfl rfl rfl (by first | exact H | exact (Holds.f1 H) | exact (Holds.f2 H) | exact (Holds.f3 H) | exact (Holds.f4 H) | exact (Holds.f5 H) | exact (Holds.f6 H)) (by exact rfl) ?_)
      | (show VcL _ _ _ _ (⟨_, .binOp _ _ _ _ _, _, _, _, _⟩ :: _) _ _ _; first
      | refine VcL.eqS tabOk rfl rfl rfl rfl rfl rfl (by kernel_rfl) (by kernel_rfl) rfl rfl (by first | exact .inl rfl | exact .inr rfl) ?_)
      | (show VcL _ _ _ _ (⟨_, .indexAddr _ _ _, _, _, _, _⟩ :: _) _ _ _; first
      | refine VcL.indexAddr0 tabOk rfl rfl rfl rfl rfl rfl (by omega) (by omega) ?_
      | refine VcL.indexAddr tabOk rfl rfl rfl rfl rfl rfl (by omega) (by omega) ?_
      | refine VcL.indexArr0 tabOk rfl rfl rfl rfl rfl rfl (by omega) (by omega) ?_
      | refine VcL.indexArr tabOk rfl rfl rfl rfl rfl rfl (by omega) (by omega) ?_)
      | (show VcL _ _ _ _ (⟨_, .slice _ _ _ _ none, _, _, _, _⟩ :: _) _ _ _; first
      | refine VcL.sliceTo tabOk rfl rfl rfl rfl rfl rfl (by omega) ?_
      | refine VcL.sliceFrom tabOk rfl rfl rfl rfl rfl rfl (by omega) (by omega) (fun p_ hp_ => ?_)
      | refine VcL.sliceN tabOk rfl rfl rfl rfl rfl rfl rfl (by omega) (by omega) (fun p_ hp_ => ?_)
      | refine VcL.slice tabOk rfl rfl rfl rfl rfl rfl rfl (by omega) (by omega) (by omega) (fun p_ hp_ => ?_)
      | refine VcL.sliceNil tabOk rfl rfl rfl rfl rfl rfl rfl (by omega) (by omega) ?_)
      | refine VcL.alloc tabOk H rfl rfl rfl rfl (fun b w H => ?_)
      | (show VcL _ _ _ _ (⟨_, .store _ _ _, _, _, _, _⟩ :: _) _ _ _; first
      | refine VcL.store tabOk rfl (by first | exact H | exact (Holds.f1 H) | exact (Holds.f2 H) | exact (Holds.f3 H) | exact (Holds.f4 H) | exact (Holds.f5 H) | exact (Holds.f6 H)) rfl rfl (by exact rfl) (by exact rfl) (by exact rfl) (by exact rfl) (fun w H => ?_))
      | (show VcL _ _ _ _ (⟨_, .call ⟨.value (.func F_slices_IndexFunc_api_Span_api_Span), _, _⟩, _, _, _, _⟩ :: _) _ _ _; first
      | (refine VcL.callF ok_slices_IndexFunc_api_Span_api_Span rfl rfl rfl rfl (Rets.mono (IndexFunc_any H hv hl hf p (hF1 _)) ?_); rintro _ w ⟨rfl, H⟩))
      | (show VcL _ _ _ _ (⟨_, .call ⟨.value (.tmp _), _, _⟩, _, _, _, _⟩ :: _) _ _ _; first
      | (refine VcL.callV hf rfl rfl rfl rfl rfl (Rets.mono (hF2 _ _ _ _ H) ?_); rintro _ w ⟨rfl, H⟩))
      | (refine VcL.guard rfl rfl rfl rfl (fun h => ?_) (fun h => ?_) <;> first | (cases h; done) | (exfalso; simp only [decide_eq_true_eq, decide_eq_false_iff_not] at h; omega) | (with_reducible have hp := of_decide_eq_true h) | (with_reducible have hp := of_decide_eq_false h) | (with_reducible have hp := ndec_t h) | (with_reducible have hp := ndec_f h) | skip))
    | (show Vc _ _ _ _ _ _; first
      | refine Vc.seq ?_
      | refine Vc.region ?_
      | refine Vc.condT rfl ?_
      | refine Vc.condF rfl ?_
      | refine Vc.ret ?_
      | refine Vc.skip ?_
      | refine Vc.block ?_
      | refine Vc.exit ?_
      | (refine Vc.cond rfl (fun h => ?_) (fun h => ?_) <;> first | (cases h; done) | (exfalso; simp only [decide_eq_true_eq, decide_eq_false_iff_not] at h; omega) | (with_reducible have hp := of_decide_eq_true h) | (with_reducible have hp := of_decide_eq_false h) | (with_reducible have hp := ndec_t h) | (with_reducible have hp := ndec_f h) | skip))
    | (show KSeq _ _ _ _ _ _ _; first
      | refine KSeq.normal ?_
      | refine KSeq.ret ?_
      | refine KSeq.exit ?_)
    | (show KBlock _ _ _ _ _; first
      | refine KBlock.normal ?_
      | refine KBlock.here ?_
      | refine KBlock.on rfl ?_
      | refine KBlock.ret ?_)
    | refine KLoop.exit ?_
    | refine KLoop.ret ?_
    | refine KCut.exit ?_
    | refine KCut.ret ?_
    | (show KEnd _ _ _ _ _ _; first
      | refine KEnd.mk (Or.inr rfl) ⟨_, (ResL.tmp rfl ResL.nil), ?_⟩
      | refine KEnd.mk (Or.inl rfl) ⟨_, (ResL.tmp rfl ResL.nil), ?_⟩))
  · have h' : idxS p l = -1 := by simpa using h
    rw [idxS_none h']
    exact H
  · have h' : idxS p l ≠ -1 := by simpa using h
    obtain ⟨k, hk, e, hpk, hkeep⟩ := idxS_first h'
    rw [e]
    have hw : IntKind.i64.wrap ((k : Int) + 1) = ((k + 1 : Nat) : Int) := by rw [IntKind.wrap_i64]; omega
    rw [hw]
    rcases H.own_cases with ⟨rfl, hn, _, _⟩ | ⟨b, o, cap, pre, rest, rfl, hcap, hcl, rfl, hrl, HB⟩
    · omega
    have H := HB; clear HB
    have hkl : (keepS p l k).length = k := by rw [hkeep, List.length_take]; omega
    refine Vc.loopS [(0, _), (1, _)] (fun j : Nat => [(5, .int .i64 (keepS p l j).length), (6, .int .i64 j)]) (fun j w => j ≤ l.length ∧ (keepS p l j).length < j ∧ ∃ junk : List Sp, (keepS p l j).length + junk.length = j ∧ Holds I w (blk b 28 (pre ++ (keepS p l j ++ junk ++ l.drop j).flatMap spC ++ rest) :: L)) (fun j _ => l.length - j) (k + 1) ⟨?_, rfl, trivial⟩ ⟨rfl, rfl, trivial⟩ ⟨hk, ?_, [spAt l k], ?_, ?_⟩ ?_
    · rw [keepS_succ hk, hpk]; simp [hkl]; rfl
    · rw [keepS_succ hk, hpk]; simp [hkl]
    · rw [keepS_succ hk, hpk]; simp [hkl]
    · rw [keepS_succ hk, hpk, hkeep]
      simp only [if_true, List.append_nil, List.append_assoc, List.singleton_append]
      rw [← drop_at hk, List.take_append_drop, ← List.append_assoc]
      exact H
    rintro j w ⟨hj, hij, junk, hjl, H⟩
    have hll : (keepS p l j ++ junk ++ l.drop j).length = l.length := by rw [List.length_append, List.length_append, List.length_drop]; omega
    by_cases hlt : j < l.length
    · have hx : (keepS p l j ++ junk ++ l.drop j)[j]? = some (spAt l j) := by
        rw [List.getElem?_append_right (by rw [List.length_append]; omega), drop_at hlt, List.length_append, hjl, Nat.sub_self]; rfl
      have hrd : Rd w b (pre.length + j * 3) (spC (spAt l j)) := H.rdAt (pre := pre ++ ((keepS p l j ++ junk ++ l.drop j).take j).flatMap spC) (post := ((keepS p l j ++ junk ++ l.drop j).drop (j + 1)).flatMap spC ++ rest) (by rw [flat_split hx]; simp only [List.append_assoc]) (by rw [List.length_append, flat_len spC_len, List.length_take]; omega)
      have hs := keepS_succ (p := p) hlt
      repeat' (first
        | (show VcL _ _ _ _ _ _ _ _; first
      | refine VcL.pures tabOk rfl ?_
      | refine VcL.nil ?_
      | (show VcL _ _ _ _ (⟨_, .load _ _, _, _, _, _⟩ :: _) _ _ _; first
      | refine VcL.load1 tabOk rfl rfl rfl rfl rfl (by first | exact Holds.cell H rfl | exact Holds.cell (Holds.f1 H) rfl | exact Holds.cell (Holds.f2 H) rfl | exact Holds.cell (Holds.f3 H) rfl | exact Holds.cell (Holds.f4 H) rfl | exact Holds.cell (Holds.f5 H) rfl | exact Holds.cell (Holds.f6 H) rfl | exact RdW.get (by assumption) rfl H | exact RdW.get0 (by assumption) rfl H | exact RdW.get (by assumption) rfl (Holds.drop H) | exact RdW.get0 (by assumption) rfl (Holds.drop H) | exact RdW.get (by assumption) rfl (Holds.drop (Holds.drop H)) | exact RdW.get0 (by assumption) rfl (Holds.drop (Holds.drop H)) | exact RdW.get (by assumption) rfl (Holds.drop (Holds.drop (Holds.drop H))) | exact RdW.get0 (by assumption) rfl (Holds.drop (Holds.drop (Holds.drop H))) | assumption) ?_
      | refine VcL.loadR tabOk rfl rfl rfl rfl rfl rfl (by first | exact RdW.rd (by assumption) H | exact RdW.rd (by assumption) (Holds.drop H) | exact RdW.rd (by assumption) (Holds.drop (Holds.drop H)) | exact RdW.rd (by assumption) (Holds.drop (Holds.drop (Holds.drop H))) | assumption) rfl ?_
      | refine VcL.loadN tabOk rfl rfl rfl rfl rfl rfl (by first | exact H | exact (Holds.f1 H) | exact (Holds.f2 H) | exact (Holds.f3 H) | exact (Holds.f4 H) | exact (Holds.f5 H) | exact (Holds.f6 H)) (by exact rfl) ?_)
      | (show VcL _ _ _ _ (⟨_, .binOp _ _ _ _ _, _, _, _, _⟩ :: _) _ _ _; first
      | refine VcL.eqS tabOk rfl rfl rfl rfl rfl rfl (by kernel_rfl) (by kernel_rfl) rfl rfl (by first | exact .inl rfl | exact .inr rfl) ?_)
      | (show VcL _ _ _ _ (⟨_, .indexAddr _ _ _, _, _, _, _⟩ :: _) _ _ _; first
      | refine VcL.indexAddr0 tabOk rfl rfl rfl rfl rfl rfl (by omega) (by omega) ?_
      | refine VcL.indexAddr tabOk rfl rfl rfl rfl rfl rfl (by omega) (by omega) ?_
      | refine VcL.indexArr0 tabOk rfl rfl rfl rfl rfl rfl (by omega) (by omega) ?_
      | refine VcL.indexArr tabOk rfl rfl rfl rfl rfl rfl (by omega) (by omega) ?_)
      | (show VcL _ _ _ _ (⟨_, .slice _ _ _ _ none, _, _, _, _⟩ :: _) _ _ _; first
      | refine VcL.sliceTo tabOk rfl rfl rfl rfl rfl rfl (by omega) ?_
      | refine VcL.sliceFrom tabOk rfl rfl rfl rfl rfl rfl (by omega) (by omega) (fun p_ hp_ => ?_)
      | refine VcL.sliceN tabOk rfl rfl rfl rfl rfl rfl rfl (by omega) (by omega) (fun p_ hp_ => ?_)
      | refine VcL.slice tabOk rfl rfl rfl rfl rfl rfl rfl (by omega) (by omega) (by omega) (fun p_ hp_ => ?_)
      | refine VcL.sliceNil tabOk rfl rfl rfl rfl rfl rfl rfl (by omega) (by omega) ?_)
      | refine VcL.alloc tabOk H rfl rfl rfl rfl (fun b w H => ?_)
      | (show VcL _ _ _ _ (⟨_, .store _ _ _, _, _, _, _⟩ :: _) _ _ _; first
      | refine VcL.store tabOk rfl (by first | exact H | exact (Holds.f1 H) | exact (Holds.f2 H) | exact (Holds.f3 H) | exact (Holds.f4 H) | exact (Holds.f5 H) | exact (Holds.f6 H)) rfl rfl (by exact rfl) (by exact rfl) (by exact rfl) (by exact rfl) (fun w H => ?_))
      | (show VcL _ _ _ _ (⟨_, .call ⟨.value (.func F_slices_IndexFunc_api_Span_api_Span), _, _⟩, _, _, _, _⟩ :: _) _ _ _; first
      | (refine VcL.callF ok_slices_IndexFunc_api_Span_api_Span rfl rfl rfl rfl (Rets.mono (IndexFunc_any H hv hl hf p (hF1 _)) ?_); rintro _ w ⟨rfl, H⟩))
      | (show VcL _ _ _ _ (⟨_, .call ⟨.value (.tmp _), _, _⟩, _, _, _, _⟩ :: _) _ _ _; first
      | (refine VcL.callV hf rfl rfl rfl rfl rfl (Rets.mono (hF2 _ _ _ _ H) ?_); rintro _ w ⟨rfl, H⟩))
      | (refine VcL.guard rfl rfl rfl rfl (fun h => ?_) (fun h => ?_) <;> first | (cases h; done) | (exfalso; simp only [decide_eq_true_eq, decide_eq_false_iff_not] at h; omega) | (with_reducible have hp := of_decide_eq_true h) | (with_reducible have hp := of_decide_eq_false h) | (with_reducible have hp := ndec_t h) | (with_reducible have hp := ndec_f h) | skip))
        | (show Vc _ _ _ _ _ _; first
      | refine Vc.seq ?_
      | refine Vc.region ?_
      | refine Vc.condT rfl ?_
      | refine Vc.condF rfl ?_
      | refine Vc.ret ?_
      | refine Vc.skip ?_
      | refine Vc.block ?_
      | refine Vc.exit ?_
      | (refine Vc.cond rfl (fun h => ?_) (fun h => ?_) <;> first | (cases h; done) | (exfalso; simp only [decide_eq_true_eq, decide_eq_false_iff_not] at h; omega) | (with_reducible have hp := of_decide_eq_true h) | (with_reducible have hp := of_decide_eq_false h) | (with_reducible have hp := ndec_t h) | (with_reducible have hp := ndec_f h) | skip))
        | (show KSeq _ _ _ _ _ _ _; first
      | refine KSeq.normal ?_
      | refine KSeq.ret ?_
      | refine KSeq.exit ?_)
        | (show KBlock _ _ _ _ _; first
      | refine KBlock.normal ?_
      | refine KBlock.here ?_
      | refine KBlock.on rfl ?_
      | refine KBlock.ret ?_)
        | refine KLoop.exit ?_
        | refine KLoop.ret ?_
        | refine KCut.exit ?_
        | refine KCut.ret ?_
        | (show KEnd _ _ _ _ _ _; first
      | refine KEnd.mk (Or.inr rfl) ⟨_, (ResL.tmp rfl ResL.nil), ?_⟩
      | refine KEnd.mk (Or.inl rfl) ⟨_, (ResL.tmp rfl ResL.nil), ?_⟩))
      · have hpn : p (spAt l j) = false := by simpa using h
        rw [hpn] at hs
        have e5 : (keepS p l (j + 1)).length = (keepS p l j).length + 1 := by rw [hs]; simp
        refine VcL.storeAt tabOk rfl H.swap rfl rfl rfl rfl ?_ rfl (fun w H => ?_)
        · rw [List.length_append, List.length_append, flat_len spC_len, hll]; show _ + (Int.toNat _) * 3 + 3 ≤ _; omega
        repeat' (first
          | (show VcL _ _ _ _ _ _ _ _; first
      | refine VcL.pures tabOk rfl ?_
      | refine VcL.nil ?_
      | (show VcL _ _ _ _ (⟨_, .load _ _, _, _, _, _⟩ :: _) _ _ _; first
      | refine VcL.load1 tabOk rfl rfl rfl rfl rfl (by first | exact Holds.cell H rfl | exact Holds.cell (Holds.f1 H) rfl | exact Holds.cell (Holds.f2 H) rfl | exact Holds.cell (Holds.f3 H) rfl | exact Holds.cell (Holds.f4 H) rfl | exact Holds.cell (Holds.f5 H) rfl | exact Holds.cell (Holds.f6 H) rfl | exact RdW.get (by assumption) rfl H | exact RdW.get0 (by assumption) rfl H | exact RdW.get (by assumption) rfl (Holds.drop H) | exact RdW.get0 (by assumption) rfl (Holds.drop H) | exact RdW.get (by assumption) rfl (Holds.drop (Holds.drop H)) | exact RdW.get0 (by assumption) rfl (Holds.drop (Holds.drop H)) | exact RdW.get (by assumption) rfl (Holds.drop (Holds.drop (Holds.drop H))) | exact RdW.get0 (by assumption) rfl (Holds.drop (Holds.drop (Holds.drop H))) | assumption) ?_
      | refine VcL.loadR tabOk rfl rfl rfl rfl rfl rfl (by first | exact RdW.rd (by assumption) H | exact RdW.rd (by assumption) (Holds.drop H) | exact RdW.rd (by assumption) (Holds.drop (Holds.drop H)) | exact RdW.rd (by assumption) (Holds.drop (Holds.drop (Holds.drop H))) | assumption) rfl ?_
      | refine VcL.loadN tabOk rfl rfl rfl rfl rfl rfl (by first | exact H | exact (Holds.f1 H) | exact (Holds.f2 H) | exact (Holds.f3 H) | exact (Holds.f4 H) | exact (Holds.f5 H) | exact (Holds.f6 H)) (by exact rfl) ?_)
      | (show VcL _ _ _ _ (⟨_, .binOp _ _ _ _ _, _, _, _, _⟩ :: _) _ _ _; first
      | refine VcL.eqS tabOk rfl rfl rfl rfl rfl rfl (by kernel_rfl) (by kernel_rfl) rfl rfl (by first | exact .inl rfl | exact .inr rfl) ?_)
      | (show VcL _ _ _ _ (⟨_, .indexAddr _ _ _, _, _, _, _⟩ :: _) _ _ _; first
      | refine VcL.indexAddr0 tabOk rfl rfl rfl rfl rfl rfl (by omega) (by omega) ?_
      | refine VcL.indexAddr tabOk rfl rfl rfl rfl rfl rfl (by omega) (by omega) ?_
      | refine VcL.indexArr0 tabOk rfl rfl rfl rfl rfl rfl (by omega) (by omega) ?_
      | refine VcL.indexArr tabOk rfl rfl rfl rfl rfl rfl (by omega) (by omega) ?_)
      | (show VcL _ _ _ _ (⟨_, .slice _ _ _ _ none, _, _, _, _⟩ :: _) _ _ _; first
      | refine VcL.sliceTo tabOk rfl rfl rfl rfl rfl rfl (by omega) ?_
      | refine VcL.sliceFrom tabOk rfl rfl rfl rfl rfl rfl (by omega) (by omega) (fun p_ hp_ => ?_)
      | refine VcL.sliceN tabOk rfl rfl rfl rfl rfl rfl rfl (by omega) (by omega) (fun p_ hp_ => ?_)
      | refine VcL.slice tabOk rfl rfl rfl rfl rfl rfl rfl (by omega) (by omega) (by omega) (fun p_ hp_ => ?_)
      | refine VcL.sliceNil tabOk rfl rfl rfl rfl rfl rfl rfl (by omega) (by omega) ?_)
      | refine VcL.alloc tabOk H rfl rfl rfl rfl (fun b w H => ?_)
      | (show VcL _ _ _ _ (⟨_, .store _ _ _, _, _, _, _⟩ :: _) _ _ _; first
      | refine VcL.store tabOk rfl (by first | exact H | exact (Holds.f1 H) | exact (Holds.f2 H) | exact (Holds.f3 H) | exact (Holds.f4 H) | exact (Holds.f5 H) | exact (Holds.f6 H)) rfl rfl (by exact rfl) (by exact rfl) (by exact rfl) (by exact rfl) (fun w H => ?_))
      | (show VcL _ _ _ _ (⟨_, .call ⟨.value (.func F_slices_IndexFunc_api_Span_api_Span), _, _⟩, _, _, _, _⟩ :: _) _ _ _; first
      | (refine VcL.callF ok_slices_IndexFunc_api_Span_api_Span rfl rfl rfl rfl (Rets.mono (IndexFunc_any H hv hl hf p (hF1 _)) ?_); rintro _ w ⟨rfl, H⟩))
      | (show VcL _ _ _ _ (⟨_, .call ⟨.value (.tmp _), _, _⟩, _, _, _, _⟩ :: _) _ _ _; first
      | (refine VcL.callV hf rfl rfl rfl rfl rfl (Rets.mono (hF2 _ _ _ _ H) ?_); rintro _ w ⟨rfl, H⟩))
      | (refine VcL.guard rfl rfl rfl rfl (fun h => ?_) (fun h => ?_) <;> first | (cases h; done) | (exfalso; simp only [decide_eq_true_eq, decide_eq_false_iff_not] at h; omega) | (with_reducible have hp := of_decide_eq_true h) | (with_reducible have hp := of_decide_eq_false h) | (with_reducible have hp := ndec_t h) | (with_reducible have hp := ndec_f h) | skip))
          | (show Vc _ _ _ _ _ _; first
      | refine Vc.seq ?_
      | refine Vc.region ?_
      | refine Vc.condT rfl ?_
      | refine Vc.condF rfl ?_
      | refine Vc.ret ?_
      | refine Vc.skip ?_
      | refine Vc.block ?_
      | refine Vc.exit ?_
      | (refine Vc.cond rfl (fun h => ?_) (fun h => ?_) <;> first | (cases h; done) | (exfalso; simp only [decide_eq_true_eq, decide_eq_false_iff_not] at h; omega) | (with_reducible have hp := of_decide_eq_true h) | (with_reducible have hp := of_decide_eq_false h) | (with_reducible have hp := ndec_t h) | (with_reducible have hp := ndec_f h) | skip))
          | (show KSeq _ _ _ _ _ _ _; first
      | refine KSeq.normal ?_
      | refine KSeq.ret ?_
      | refine KSeq.exit ?_)
          | (show KBlock _ _ _ _ _; first
      | refine KBlock.normal ?_
      | refine KBlock.here ?_
      | refine KBlock.on rfl ?_
      | refine KBlock.ret ?_)
          | refine KLoop.exit ?_
          | refine KLoop.ret ?_
          | refine KCut.exit ?_
          | refine KCut.ret ?_
          | (show KEnd _ _ _ _ _ _; first
      | refine KEnd.mk (Or.inr rfl) ⟨_, (ResL.tmp rfl ResL.nil), ?_⟩
      | refine KEnd.mk (Or.inl rfl) ⟨_, (ResL.tmp rfl ResL.nil), ?_⟩))
        cases junk with
        | nil => simp at hjl; omega
        | cons y junk =>
          refine KLoop.again (j + 1) ⟨by show _ = some (Value.int .i64 (((keepS p l (j + 1)).length : Nat) : Int)); rw [e5]; exact got_succ rfl (by omega), got_succ rfl (by omega), trivial⟩ ⟨rfl, rfl, trivial⟩ ⟨hlt, by omega, junk ++ [spAt l j], ?_, ?_⟩ (by omega)
          · simp at hjl ⊢; omega
          · have hy : (keepS p l j ++ (y :: junk) ++ l.drop j)[(keepS p l j).length]? = some y := by simp
            have ee : (keepS p l j ++ (y :: junk) ++ l.drop j).set (keepS p l j).length (spAt l j) = keepS p l (j + 1) ++ (junk ++ [spAt l j]) ++ l.drop (j + 1) := by
              rw [hs, drop_at hlt]; simp
            rw [← ee]
            exact (H.as (over_row (pre := pre) (rest := rest) spC_len (y := spAt l j) hy)).swap.drop
      · have hpn : p (spAt l j) = true := by simpa using h
        rw [hpn] at hs
        have e5 : (keepS p l (j + 1)).length = (keepS p l j).length := by rw [hs]; simp
        refine KLoop.again (j + 1) ⟨by show _ = some (Value.int .i64 (((keepS p l (j + 1)).length : Nat) : Int)); rw [e5]; rfl, got_succ rfl (by omega), trivial⟩ ⟨rfl, rfl, trivial⟩ ⟨hlt, by omega, junk ++ [spAt l j], ?_, ?_⟩ (by omega)
        · simp; omega
        · have ee : keepS p l j ++ junk ++ l.drop j = keepS p l (j + 1) ++ (junk ++ [spAt l j]) ++ l.drop (j + 1) := by
            rw [hs, drop_at hlt]; simp
          rw [ee] at H
          exact H.drop
    · obtain rfl : j = l.length := by omega
      have hkk : keepS p l l.length = l.filter (fun x => !p x) := by unfold keepS; rw [List.take_length]
      rw [← hkk]
      rw [List.drop_length, List.append_nil] at H
      repeat' (first
        | (show VcL _ _ _ _ _ _ _ _; first
      | refine VcL.pures tabOk rfl ?_
      | refine VcL.nil ?_
      | (show VcL _ _ _ _ (⟨_, .load _ _, _, _, _, _⟩ :: _) _ _ _; first
      | refine VcL.load1 tabOk rfl rfl rfl rfl rfl (by first | exact Holds.cell H rfl | exact Holds.cell (Holds.f1 H) rfl | exact Holds.cell (Holds.f2 H) rfl | exact Holds.cell (Holds.f3 H) rfl | exact Holds.cell (Holds.f4 H) rfl | exact Holds.cell (Holds.f5 H) rfl | exact Holds.cell (Holds.f6 H) rfl | exact RdW.get (by assumption) rfl H | exact RdW.get0 (by assumption) rfl H | exact RdW.get (by assumption) rfl (Holds.drop H) | exact RdW.get0 (by assumption) rfl (Holds.drop H) | exact RdW.get (by assumption) rfl (Holds.drop (Holds.drop H)) | exact RdW.get0 (by assumption) rfl (Holds.drop (Holds.drop H)) | exact RdW.get (by assumption) rfl (Holds.drop (Holds.drop (Holds.drop H))) | exact RdW.get0 (by assumption) rfl (Holds.drop (Holds.drop (Holds.drop H))) | assumption) ?_
      | refine VcL.loadR tabOk rfl rfl rfl rfl rfl rfl (by first | exact RdW.rd (by assumption) H | exact RdW.rd (by assumption) (Holds.drop H) | exact RdW.rd (by assumption) (Holds.drop (Holds.drop H)) | exact RdW.rd (by assumption) (Holds.drop (Holds.drop (Holds.drop H))) | assumption) rfl ?_
      | refine VcL.loadN tabOk rfl rfl rfl rfl rfl rfl (by first | exact H | exact (Holds.f1 H) | exact (Holds.f2 H) | exact (Holds.f3 H) | exact (Holds.f4 H) | exact (Holds.f5 H) | exact (Holds.f6 H)) (by exact rfl) ?_)
      | (show VcL _ _ _ _ (⟨_, .binOp _ _ _ _ _, _, _, _, _⟩ :: _) _ _ _; first
      | refine VcL.eqS tabOk rfl rfl rfl rfl rfl rfl (by kernel_rfl) (by kernel_rfl) rfl rfl (by first | exact .inl rfl | exact .inr rfl) ?_)
      | (show VcL _ _ _ _ (⟨_, .indexAddr _ _ _, _, _, _, _⟩ :: _) _ _ _; first
      | refine VcL.indexAddr0 tabOk rfl rfl rfl rfl rfl rfl (by omega) (by omega) ?_
      | refine VcL.indexAddr tabOk rfl rfl rfl rfl rfl rfl (by omega) (by omega) ?_
      | refine VcL.indexArr0 tabOk rfl rfl rfl rfl rfl rfl (by omega) (by omega) ?_
      | refine VcL.indexArr tabOk rfl rfl rfl rfl rfl rfl (by omega) (by omega) ?_)
      | (show VcL _ _ _ _ (⟨_, .slice _ _ _ _ none, _, _, _, _⟩ :: _) _ _ _; first
      | refine VcL.sliceTo tabOk rfl rfl rfl rfl rfl rfl (by omega) ?_
      | refine VcL.sliceFrom tabOk rfl rfl rfl rfl rfl rfl (by omega) (by omega) (fun p_ hp_ => ?_)
      | refine VcL.sliceN tabOk rfl rfl rfl rfl rfl rfl rfl (by omega) (by omega) (fun p_ hp_ => ?_)
      | refine VcL.slice tabOk rfl rfl rfl rfl rfl rfl rfl (by omega) (by omega) (by omega) (fun p_ hp_ => ?_)
      | refine VcL.sliceNil tabOk rfl rfl rfl rfl rfl rfl rfl (by omega) (by omega) ?_)
      | refine VcL.alloc tabOk H rfl rfl rfl rfl (fun b w H => ?_)
      | (show VcL _ _ _ _ (⟨_, .store _ _ _, _, _, _, _⟩ :: _) _ _ _; first
      | refine VcL.store tabOk rfl (by first | exact H | exact (Holds.f1 H) | exact (Holds.f2 H) | exact (Holds.f3 H) | exact (Holds.f4 H) | exact (Holds.f5 H) | exact (Holds.f6 H)) rfl rfl (by exact rfl) (by exact rfl) (by exact rfl) (by exact rfl) (fun w H => ?_))
      | (show VcL _ _ _ _ (⟨_, .call ⟨.value (.func F_slices_IndexFunc_api_Span_api_Span), _, _⟩, _, _, _, _⟩ :: _) _ _ _; first
      | (refine VcL.callF ok_slices_IndexFunc_api_Span_api_Span rfl rfl rfl rfl (Rets.mono (IndexFunc_any H hv hl hf p (hF1 _)) ?_); rintro _ w ⟨rfl, H⟩))
      | (show VcL _ _ _ _ (⟨_, .call ⟨.value (.tmp _), _, _⟩, _, _, _, _⟩ :: _) _ _ _; first
      | (refine VcL.callV hf rfl rfl rfl rfl rfl (Rets.mono (hF2 _ _ _ _ H) ?_); rintro _ w ⟨rfl, H⟩))
      | (refine VcL.guard rfl rfl rfl rfl (fun h => ?_) (fun h => ?_) <;> first | (cases h; done) | (exfalso; simp only [decide_eq_true_eq, decide_eq_false_iff_not] at h; omega) | (with_reducible have hp := of_decide_eq_true h) | (with_reducible have hp := of_decide_eq_false h) | (with_reducible have hp := ndec_t h) | (with_reducible have hp := ndec_f h) | skip))
        | (show Vc _ _ _ _ _ _; first
      | refine Vc.seq ?_
      | refine Vc.region ?_
      | refine Vc.condT rfl ?_
      | refine Vc.condF rfl ?_
      | refine Vc.ret ?_
      | refine Vc.skip ?_
      | refine Vc.block ?_
      | refine Vc.exit ?_
      | (refine Vc.cond rfl (fun h => ?_) (fun h => ?_) <;> first | (cases h; done) | (exfalso; simp only [decide_eq_true_eq, decide_eq_false_iff_not] at h; omega) | (with_reducible have hp := of_decide_eq_true h) | (with_reducible have hp := of_decide_eq_false h) | (with_reducible have hp := ndec_t h) | (with_reducible have hp := ndec_f h) | skip))
        | (show KSeq _ _ _ _ _ _ _; first
      | refine KSeq.normal ?_
      | refine KSeq.ret ?_
      | refine KSeq.exit ?_)
        | (show KBlock _ _ _ _ _; first
      | refine KBlock.normal ?_
      | refine KBlock.here ?_
      | refine KBlock.on rfl ?_
      | refine KBlock.ret ?_)
        | refine KLoop.exit ?_
        | refine KLoop.ret ?_
        | refine KCut.exit ?_
        | refine KCut.ret ?_
        | (show KEnd _ _ _ _ _ _; first
      | refine KEnd.mk (Or.inr rfl) ⟨_, (ResL.tmp rfl ResL.nil), ?_⟩
      | refine KEnd.mk (Or.inl rfl) ⟨_, (ResL.tmp rfl ResL.nil), ?_⟩))
      obtain rfl : p_ = pre.length + (keepS p l l.length).length * 3 := by omega
      have hjk : junk.length = l.length - (keepS p l l.length).length := by omega
      refine VcL.clear tabOk rfl rfl H rfl (.inr ?_) rfl (fun w H => ?_)
      · rw [List.length_append, List.length_append, flat_len spC_len, List.length_append, hjl]; show _ + _ * 3 + (_ - _) * 3 ≤ _; omega
      have H : Holds I w (blk b 28 (pre ++ (keepS p l l.length).flatMap spC ++ (repL (l.length - (keepS p l l.length).length) zSp ++ rest)) :: L) := H.as (by
        have e1 : pre ++ ((keepS p l l.length) ++ junk).flatMap spC ++ rest = (pre ++ (keepS p l l.length).flatMap spC) ++ junk.flatMap spC ++ rest := by rw [List.flatMap_append]; simp only [List.append_assoc]
        rw [e1]
        refine (over_mid (d := repL (l.length - (keepS p l l.length).length) zSp) (by rw [List.length_append, flat_len spC_len]) (by rw [flat_len spC_len, repL_length, hjk]; rfl)).trans ?_
        simp only [List.append_assoc])
      repeat' (first
        | (show VcL _ _ _ _ _ _ _ _; first
      | refine VcL.pures tabOk rfl ?_
      | refine VcL.nil ?_
      | (show VcL _ _ _ _ (⟨_, .load _ _, _, _, _, _⟩ :: _) _ _ _; first
      | refine VcL.load1 tabOk rfl rfl rfl rfl rfl (by first | exact Holds.cell H rfl | exact Holds.cell (Holds.f1 H) rfl | exact Holds.cell (Holds.f2 H) rfl | exact Holds.cell (Holds.f3 H) rfl | exact Holds.cell (Holds.f4 H) rfl | exact Holds.cell (Holds.f5 H) rfl | exact Holds.cell (Holds.f6 H) rfl | exact RdW.get (by assumption) rfl H | exact RdW.get0 (by assumption) rfl H | exact RdW.get (by assumption) rfl (Holds.drop H) | exact RdW.get0 (by assumption) rfl (Holds.drop H) | exact RdW.get (by assumption) rfl (Holds.drop (Holds.drop H)) | exact RdW.get0 (by assumption) rfl (Holds.drop (Holds.drop H)) | exact RdW.get (by assumption) rfl (Holds.drop (Holds.drop (Holds.drop H))) | exact RdW.get0 (by assumption) rfl (Holds.drop (Holds.drop (Holds.drop H))) | assumption) ?_
      | refine VcL.loadR tabOk rfl rfl rfl rfl rfl rfl (by first | exact RdW.rd (by assumption) H | exact RdW.rd (by assumption) (Holds.drop H) | exact RdW.rd (by assumption) (Holds.drop (Holds.drop H)) | exact RdW.rd (by assumption) (Holds.drop (Holds.drop (Holds.drop H))) | assumption) rfl ?_
      | refine VcL.loadN tabOk rfl rfl rfl rfl rfl rfl (by first | exact H | exact (Holds.f1 H) | exact (Holds.f2 H) | exact (Holds.f3 H) | exact (Holds.f4 H) | exact (Holds.f5 H) | exact (Holds.f6 H)) (by exact rfl) ?_)
      | (show VcL _ _ _ _ (⟨_, .binOp _ _ _ _ _, _, _, _, _⟩ :: _) _ _ _; first
      | refine VcL.eqS tabOk rfl rfl rfl rfl rfl rfl (by kernel_rfl) (by kernel_rfl) rfl rfl (by first | exact .inl rfl | exact .inr rfl) ?_)
      | (show VcL _ _ _ _ (⟨_, .indexAddr _ _ _, _, _, _, _⟩ :: _) _ _ _; first
      | refine VcL.indexAddr0 tabOk rfl rfl rfl rfl rfl rfl (by omega) (by omega) ?_
      | refine VcL.indexAddr tabOk rfl rfl rfl rfl rfl rfl (by omega) (by omega) ?_
      | refine VcL.indexArr0 tabOk rfl rfl rfl rfl rfl rfl (by omega) (by omega) ?_
      | refine VcL.indexArr tabOk rfl rfl rfl rfl rfl rfl (by omega) (by omega) ?_)
      | (show VcL _ _ _ _ (⟨_, .slice _ _ _ _ none, _, _, _, _⟩ :: _) _ _ _; first
      | refine VcL.sliceTo tabOk rfl rfl rfl rfl rfl rfl (by omega) ?_
      | refine VcL.sliceFrom tabOk rfl rfl rfl rfl rfl rfl (by omega) (by omega) (fun p_ hp_ => ?_)
      | refine VcL.sliceN tabOk rfl rfl rfl rfl rfl rfl rfl (by omega) (by omega) (fun p_ hp_ => ?_)
      | refine VcL.slice tabOk rfl rfl rfl rfl rfl rfl rfl (by omega) (by omega) (by omega) (fun p_ hp_ => ?_)
      | refine VcL.sliceNil tabOk rfl rfl rfl rfl rfl rfl rfl (by omega) (by omega) ?_)
      | refine VcL.alloc tabOk H rfl rfl rfl rfl (fun b w H => ?_)
      | (show VcL _ _ _ _ (⟨_, .store _ _ _, _, _, _, _⟩ :: _) _ _ _; first
      | refine VcL.store tabOk rfl (by first | exact H | exact (Holds.f1 H) | exact (Holds.f2 H) | exact (Holds.f3 H) | exact (Holds.f4 H) | exact (Holds.f5 H) | exact (Holds.f6 H)) rfl rfl (by exact rfl) (by exact rfl) (by exact rfl) (by exact rfl) (fun w H => ?_))
      | (show VcL _ _ _ _ (⟨_, .call ⟨.value (.func F_slices_IndexFunc_api_Span_api_Span), _, _⟩, _, _, _, _⟩ :: _) _ _ _; first
      | (refine VcL.callF ok_slices_IndexFunc_api_Span_api_Span rfl rfl rfl rfl (Rets.mono (IndexFunc_any H hv hl hf p (hF1 _)) ?_); rintro _ w ⟨rfl, H⟩))
      | (show VcL _ _ _ _ (⟨_, .call ⟨.value (.tmp _), _, _⟩, _, _, _, _⟩ :: _) _ _ _; first
      | (refine VcL.callV hf rfl rfl rfl rfl rfl (Rets.mono (hF2 _ _ _ _ H) ?_); rintro _ w ⟨rfl, H⟩))
      | (refine VcL.guard rfl rfl rfl rfl (fun h => ?_) (fun h => ?_) <;> first | (cases h; done) | (exfalso; simp only [decide_eq_true_eq, decide_eq_false_iff_not] at h; omega) | (with_reducible have hp := of_decide_eq_true h) | (with_reducible have hp := of_decide_eq_false h) | (with_reducible have hp := ndec_t h) | (with_reducible have hp := ndec_f h) | skip))
        | (show Vc _ _ _ _ _ _; first
      | refine Vc.seq ?_
      | refine Vc.region ?_
      | refine Vc.condT rfl ?_
      | refine Vc.condF rfl ?_
      | refine Vc.ret ?_
      | refine Vc.skip ?_
      | refine Vc.block ?_
      | refine Vc.exit ?_
      | (refine Vc.cond rfl (fun h => ?_) (fun h => ?_) <;> first | (cases h; done) | (exfalso; simp only [decide_eq_true_eq, decide_eq_false_iff_not] at h; omega) | (with_reducible have hp := of_decide_eq_true h) | (with_reducible have hp := of_decide_eq_false h) | (with_reducible have hp := ndec_t h) | (with_reducible have hp := ndec_f h) | skip))
        | (show KSeq _ _ _ _ _ _ _; first
      | refine KSeq.normal ?_
      | refine KSeq.ret ?_
      | refine KSeq.exit ?_)
        | (show KBlock _ _ _ _ _; first
      | refine KBlock.normal ?_
      | refine KBlock.here ?_
      | refine KBlock.on rfl ?_
      | refine KBlock.ret ?_)
        | refine KLoop.exit ?_
        | refine KLoop.ret ?_
        | refine KCut.exit ?_
        | refine KCut.ret ?_
        | (show KEnd _ _ _ _ _ _; first
      | refine KEnd.mk (Or.inr rfl) ⟨_, (ResL.tmp rfl ResL.nil), ?_⟩
      | refine KEnd.mk (Or.inl rfl) ⟨_, (ResL.tmp rfl ResL.nil), ?_⟩))
      exact H.own_mk (by omega) (by rw [flat_len spC_len]) (by rw [List.length_append, repL_length]; show _ ≤ _ * 3 + _; omega)
theorem own_push {v : Value} {l : List Sp} {x : Sp} (H : Holds I w (own v 28 3 (l.length + 1) (l.flatMap spC ++ spC x) :: L)) : Holds I w (ownS v (l ++ [x]) :: L) := by
  unfold ownS
  rw [List.length_append, List.flatMap_append]
  simpa using H
theorem one_of (x : Sp) : ∀ u ∈ spC x, oneC u = true := fun u hu => spC_one [x] u (by simpa using hu)
def filK (p : Sp → Bool) (l : List Sp) (k : Nat) : List Sp := (l.take k).filter p
theorem filK_succ {p : Sp → Bool} {l : List Sp} {j : Nat} (h : j < l.length) : filK p l (j + 1) = filK p l j ++ (if p (spAt l j) then [spAt l j] else []) := by
  unfold filK
  rw [List.take_add_one, spAt_get h, List.filter_append]
  cases hp : p (spAt l j) <;> simp [hp]
theorem filK_le (p : Sp → Bool) (l : List Sp) (j : Nat) : (filK p l j).length ≤ j := by
  unfold filK
  exact Nat.le_trans (List.length_filter_le _ _) (by rw [List.length_take]; omega)
theorem filK_all (p : Sp → Bool) (l : List Sp) : filK p l l.length = l.filter p := by unfold filK; rw [List.take_length]
end Go.Proofs.Ytngnddnbhlbjbaa.V
