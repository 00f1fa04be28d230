/- Disks are compared. -/
import Derived.Test.YtoahfjfknljacaaVFF
namespace Go.Proofs.Ytoahfjfknljacaa.V
open Go Go.Proofs.YtoahfjfknljacaaV
set_option linter.unusedVariables false
set_option linter.unusedSimpArgs false
set_option maxHeartbeats 1000000
set_option maxRecDepth 4000
attribute [local irreducible] IntKind.wrap
variable {I : Imm} {w : World} {L : List Asn}
instance : DecidableEq Dk := fun a b => decidable_of_iff (a.blocks = b.blocks ∧ a.wait = b.wait ∧ a.writes = b.writes ∧ a.stop = b.stop) ⟨fun ⟨h1, h2, h3, h4⟩ => by cases a; cases b; cases h1; cases h2; cases h3; cases h4; rfl, fun h => by cases h; exact ⟨rfl, rfl, rfl, rfl⟩⟩
theorem args2 (a b : Value) : (#[] ++ [a, b].toArray ++ #[] : Array Value) = #[a, b] := by simp
theorem EqualV_any (H : Holds I w L) {v u : Value} {l m : By} (hv : SlR I L v 1 l.length (byL l)) (hu : SlR I L u 1 m.length (byL m)) (hl : l.length ≤ 140737488355328) :
    Rets Try.prog F_slices_Equal_byte_byte (#[] ++ [v, u].toArray ++ #[]) w fun r w' => r = .bool (decide (l = m)) ∧ Holds I w' L := by
  rw [args2]
  exact Equal_any H hv hu hl
abbrev snds (l : List Vb) : List By := l.map (·.2)
theorem map_eq_of {α β : Type} [Inhabited α] {f : α → β} {xs ys : List α} (hl : xs.length = ys.length) (h : ∀ j, j < xs.length → f (atD xs j) = f (atD ys j)) : xs.map f = ys.map f := by
  apply List.ext_getElem?
  intro i
  rw [List.getElem?_map, List.getElem?_map]
  rcases Nat.lt_or_ge i xs.length with hi | hi
  · rw [atD_get hi, atD_get (by omega), Option.map_some, Option.map_some, h i hi]
  · rw [List.getElem?_eq_none hi, List.getElem?_eq_none (by omega)]
theorem map_ne_of {α β : Type} [Inhabited α] {f : α → β} {xs ys : List α} {j : Nat} (h1 : j < xs.length) (h2 : j < ys.length) (h : ¬ f (atD xs j) = f (atD ys j)) : ¬ xs.map f = ys.map f := fun e => by
  apply h
  have := congrArg (fun l => l[j]?) e
  simp only [List.getElem?_map] at this
  rw [atD_get h1, atD_get h2] at this
  simpa using this
theorem EqB_any (H : Holds I w L) {v u : Value} {xs ys : List Vb} (hv : SlR I L v 1 xs.length (xs.flatMap bkC)) (hu : SlR I L u 1 ys.length (ys.flatMap bkC)) (hx : ∀ x ∈ xs, SlR I L x.1 1 x.2.length (byL x.2)) (hy : ∀ x ∈ ys, SlR I L x.1 1 x.2.length (byL x.2)) (hl : xs.length ≤ 1000000) (h256 : ∀ x ∈ xs, x.2.length = 256) :
    Rets Try.prog F_slices_EqualFunc_byte_byte_byte_byte #[v, u, .func (.func F_slices_Equal_byte_byte) #[] #[]] w fun r w' => r = .bool (decide (snds xs = snds ys)) ∧ Holds I w' L := by
  obtain ⟨A, cap, rfl, hcap⟩ := hv.form
  obtain ⟨B, cap2, rfl, hcap2⟩ := hu.form
  refine ok_slices_EqualFunc_byte_byte_byte_byte.rets rfl ?_
  repeat' (first
    | (show VcL _ _ _ _ _ _ _ _; first
      | refine VcL.pures tabOk rfl ?_
      | refine VcL.nil ?_
      | (show VcL _ _ _ _ (⟨_, .load _ _, _, _, _, _⟩ :: _) _ _ _; first
      | refine VcL.load1 tabOk rfl rfl rfl rfl rfl (by first | exact Holds.cell H rfl | exact Holds.cell (Holds.f1 H) rfl | exact Holds.cell (Holds.f2 H) rfl | exact Holds.cell (Holds.f3 H) rfl | exact Holds.cell (Holds.f4 H) rfl | exact Holds.cell (Holds.f5 H) rfl | exact Holds.cell (Holds.f6 H) rfl | exact RdW.get (by assumption) rfl H | exact RdW.get0 (by assumption) rfl H | exact RdW.get (by assumption) rfl (Holds.drop H) | exact RdW.get0 (by assumption) rfl (Holds.drop H) | exact RdW.get (by assumption) rfl (Holds.drop (Holds.drop H)) | exact RdW.get0 (by assumption) rfl (Holds.drop (Holds.drop H)) | exact RdW.get (by assumption) rfl (Holds.drop (Holds.drop (Holds.drop H))) | exact RdW.get0 (by assumption) rfl (Holds.drop (Holds.drop (Holds.drop H))) | exact Holds.rowCell H (fun _ => rfl) (by first | assumption | exact atD_get (by assumption)) rfl | exact Holds.rowCell0 H (fun _ => rfl) (by first | assumption | exact atD_get (by assumption)) rfl | exact Holds.ownCell H (fun _ => rfl) (by first | assumption | exact atD_get (by assumption)) rfl | exact Holds.ownCell0 H (fun _ => rfl) (by first | assumption | exact atD_get (by assumption)) rfl | exact Holds.rowCell (Holds.f1 H) (fun _ => rfl) (by first | assumption | exact atD_get (by assumption)) rfl | exact Holds.rowCell0 (Holds.f1 H) (fun _ => rfl) (by first | assumption | exact atD_get (by assumption)) rfl | exact Holds.ownCell (Holds.f1 H) (fun _ => rfl) (by first | assumption | exact atD_get (by assumption)) rfl | exact Holds.ownCell0 (Holds.f1 H) (fun _ => rfl) (by first | assumption | exact atD_get (by assumption)) rfl | exact Holds.rowCell (Holds.f2 H) (fun _ => rfl) (by first | assumption | exact atD_get (by assumption)) rfl | exact Holds.rowCell0 (Holds.f2 H) (fun _ => rfl) (by first | assumption | exact atD_get (by assumption)) rfl | exact Holds.ownCell (Holds.f2 H) (fun _ => rfl) (by first | assumption | exact atD_get (by assumption)) rfl | exact Holds.ownCell0 (Holds.f2 H) (fun _ => rfl) (by first | assumption | exact atD_get (by assumption)) rfl | exact Holds.rowCell (Holds.f3 H) (fun _ => rfl) (by first | assumption | exact atD_get (by assumption)) rfl | exact Holds.rowCell0 (Holds.f3 H) (fun _ => rfl) (by first | assumption | exact atD_get (by assumption)) rfl | exact Holds.ownCell (Holds.f3 H) (fun _ => rfl) (by first | assumption | exact atD_get (by assumption)) rfl | exact Holds.ownCell0 (Holds.f3 H) (fun _ => rfl) (by first | assumption | exact atD_get (by assumption)) rfl | exact Holds.rowCell (Holds.f4 H) (fun _ => rfl) (by first | assumption | exact atD_get (by assumption)) rfl | exact Holds.rowCell0 (Holds.f4 H) (fun _ => rfl) (by first | assumption | exact atD_get (by assumption)) rfl | exact Holds.ownCell (Holds.f4 H) (fun _ => rfl) (by first | assumption | exact atD_get (by assumption)) rfl | exact Holds.ownCell0 (Holds.f4 H) (fun _ => rfl) (by first | assumption | exact atD_get (by assumption)) rfl | assumption) ?_
      | refine VcL.loadR tabOk rfl rfl rfl rfl rfl rfl (by first | exact RdW.rd (by assumption) H | exact RdW.rd (by assumption) (Holds.drop H) | exact RdW.rd (by assumption) (Holds.drop (Holds.drop H)) | exact RdW.rd (by assumption) (Holds.drop (Holds.drop (Holds.drop H))) | assumption) rfl ?_
      | refine VcL.loadN tabOk rfl rfl rfl rfl rfl rfl (by first | exact H | exact (Holds.f1 H) | exact (Holds.f2 H) | exact (Holds.f3 H) | exact (Holds.f4 H) | exact (Holds.f5 H) | exact (Holds.f6 H)) (by exact rfl) ?_
      | refine VcL.loadRowN0 tabOk rfl rfl rfl rfl rfl rfl H (fun _ => rfl) (by first | assumption | exact atD_get (by assumption)) (by exact rfl) (by exact rfl) (by exact rfl) ?_
      | refine VcL.loadRowN tabOk rfl rfl rfl rfl rfl rfl H (fun _ => rfl) (by first | assumption | exact atD_get (by assumption)) (by exact rfl) (by exact rfl) (by exact rfl) ?_
      | refine VcL.loadOwnN0 tabOk rfl rfl rfl rfl rfl rfl H (fun _ => rfl) (by first | assumption | exact atD_get (by assumption)) (by exact rfl) (by exact rfl) (by exact rfl) ?_
      | refine VcL.loadOwnN tabOk rfl rfl rfl rfl rfl rfl H (fun _ => rfl) (by first | assumption | exact atD_get (by assumption)) (by exact rfl) (by exact rfl) (by exact rfl) ?_
      | refine VcL.loadRowN0 tabOk rfl rfl rfl rfl rfl rfl (Holds.f1 H) (fun _ => rfl) (by first | assumption | exact atD_get (by assumption)) (by exact rfl) (by exact rfl) (by exact rfl) ?_
      | refine VcL.loadRowN tabOk rfl rfl rfl rfl rfl rfl (Holds.f1 H) (fun _ => rfl) (by first | assumption | exact atD_get (by assumption)) (by exact rfl) (by exact rfl) (by exact rfl) ?_
      | refine VcL.loadOwnN0 tabOk rfl rfl rfl rfl rfl rfl (Holds.f1 H) (fun _ => rfl) (by first | assumption | exact atD_get (by assumption)) (by exact rfl) (by exact rfl) (by exact rfl) ?_
      | refine VcL.loadOwnN tabOk rfl rfl rfl rfl rfl rfl (Holds.f1 H) (fun _ => rfl) (by first | assumption | exact atD_get (by assumption)) (by exact rfl) (by exact rfl) (by exact rfl) ?_
      | refine VcL.loadRowN0 tabOk rfl rfl rfl rfl rfl rfl (Holds.f2 H) (fun _ => rfl) (by first | assumption | exact atD_get (by assumption)) (by exact rfl) (by exact rfl) (by exact rfl) ?_
      | refine VcL.loadRowN tabOk rfl rfl rfl rfl rfl rfl (Holds.f2 H) (fun _ => rfl) (by first | assumption | exact atD_get (by assumption)) (by exact rfl) (by exact rfl) (by exact rfl) ?_
      | refine VcL.loadOwnN0 tabOk rfl rfl rfl rfl rfl rfl (Holds.f2 H) (fun _ => rfl) (by first | assumption | exact atD_get (by assumption)) (by exact rfl) (by exact rfl) (by exact rfl) ?_
      | refine VcL.loadOwnN tabOk rfl rfl rfl rfl rfl rfl (Holds.f2 H) (fun _ => rfl) (by first | assumption | exact atD_get (by assumption)) (by exact rfl) (by exact rfl) (by exact rfl) ?_
      | refine VcL.loadRowN0 tabOk rfl rfl rfl rfl rfl rfl (Holds.f3 H) (fun _ => rfl) (by first | assumption | exact atD_get (by assumption)) (by exact rfl) (by exact rfl) (by exact rfl) ?_
      | refine VcL.loadRowN tabOk rfl rfl rfl rfl rfl rfl (Holds.f3 H) (fun _ => rfl) (by first | assumption | exact atD_get (by assumption)) (by exact rfl) (by exact rfl) (by exact rfl) ?_
      | refine VcL.loadOwnN0 tabOk rfl rfl rfl rfl rfl rfl (Holds.f3 H) (fun _ => rfl) (by first | assumption | exact atD_get (by assumption)) (by exact rfl) (by exact rfl) (by exact rfl) ?_
      | refine VcL.loadOwnN tabOk rfl rfl rfl rfl rfl rfl (Holds.f3 H) (fun _ => rfl) (by first | assumption | exact atD_get (by assumption)) (by exact rfl) (by exact rfl) (by exact rfl) ?_
      | refine VcL.loadRowN0 tabOk rfl rfl rfl rfl rfl rfl (Holds.f4 H) (fun _ => rfl) (by first | assumption | exact atD_get (by assumption)) (by exact rfl) (by exact rfl) (by exact rfl) ?_
      | refine VcL.loadRowN tabOk rfl rfl rfl rfl rfl rfl (Holds.f4 H) (fun _ => rfl) (by first | assumption | exact atD_get (by assumption)) (by exact rfl) (by exact rfl) (by exact rfl) ?_
      | refine VcL.loadOwnN0 tabOk rfl rfl rfl rfl rfl rfl (Holds.f4 H) (fun _ => rfl) (by first | assumption | exact atD_get (by assumption)) (by exact rfl) (by exact rfl) (by exact rfl) ?_
      | refine VcL.loadOwnN tabOk rfl rfl rfl rfl rfl rfl (Holds.f4 H) (fun _ => rfl) (by first | assumption | exact atD_get (by assumption)) (by exact rfl) (by exact rfl) (by exact rfl) ?_)
      | (show VcL _ _ _ _ (⟨_, .binOp _ _ _ _ _, _, _, _, _⟩ :: _) _ _ _; first
      | refine VcL.shl rfl rfl (by first | assumption | rfl) rfl rfl rfl ?_
      | refine VcL.shr rfl rfl (by first | assumption | rfl) rfl rfl rfl ?_
      | refine VcL.eqS tabOk rfl rfl rfl rfl rfl rfl (by kernel_rfl) (by kernel_rfl) rfl rfl (by first | exact .inl rfl | exact .inr rfl) ?_)
      | (show VcL _ _ _ _ (⟨_, .indexAddr _ _ _, _, _, _, _⟩ :: _) _ _ _; first
      | refine VcL.indexAddr0 tabOk rfl rfl rfl rfl rfl rfl (by omega) (by omega) ?_
      | refine VcL.indexAddr tabOk rfl rfl rfl rfl rfl rfl (by omega) (by omega) ?_
      | refine VcL.indexArr0 tabOk rfl rfl rfl rfl rfl rfl (by omega) (by omega) ?_
      | refine VcL.indexArr tabOk rfl rfl rfl rfl rfl rfl (by omega) (by omega) ?_)
      | (refine VcL.guard rfl rfl rfl rfl (fun h => ?_) (fun h => ?_) <;> first | (cases h; done) | (exfalso; simp only [decide_eq_true_eq, decide_eq_false_iff_not, Bool.not_eq_true', Bool.not_eq_false'] at h; omega) | (with_reducible have hp := of_decide_eq_true h) | (with_reducible have hp := of_decide_eq_false h) | (with_reducible have hp := ndec_t h) | (with_reducible have hp := ndec_f h) | skip))
    | (show Vc _ _ _ _ _ _; first
      | refine Vc.seq ?_
      | refine Vc.region ?_
      | refine Vc.condT rfl ?_
      | refine Vc.condF rfl ?_
      | refine Vc.ret ?_
      | refine Vc.skip ?_
      | refine Vc.block ?_
      | refine Vc.exit ?_
      | (refine Vc.cond rfl (fun h => ?_) (fun h => ?_) <;> first | (cases h; done) | (exfalso; simp only [decide_eq_true_eq, decide_eq_false_iff_not, Bool.not_eq_true', Bool.not_eq_false'] at h; omega) | (with_reducible have hp := of_decide_eq_true h) | (with_reducible have hp := of_decide_eq_false h) | (with_reducible have hp := ndec_t h) | (with_reducible have hp := ndec_f h) | skip))
    | (show KSeq _ _ _ _ _ _ _; first
      | refine KSeq.normal ?_
      | refine KSeq.ret ?_
      | refine KSeq.exit ?_)
    | (show KBlock _ _ _ _ _ _; first
      | refine KBlock.normal ?_
      | refine KBlock.here ?_
      | refine KBlock.on rfl ?_
      | refine KBlock.ret ?_)
    | refine KLoop.exit ?_
    | refine KLoop.ret ?_
    | refine KCut.exit ?_
    | refine KCut.ret ?_
    | (show KEnd _ _ _ _ _ _ _; first
      | refine KEnd.fin (Or.inr rfl) ⟨_, (ResL.tmp rfl ResL.nil), ?_⟩
      | refine KEnd.fin (Or.inl rfl) ⟨_, (ResL.tmp rfl ResL.nil), ?_⟩))
  · exact ⟨by rw [decide_eq_false (fun e => by have := congrArg List.length e; simp only [List.length_map] at this; omega)]; rfl, H⟩
  have hlen : xs.length = ys.length := by omega
  refine Vc.loopS [(1, _), (2, _), (15, _), (16, _)] (fun k : Nat => [(17, .int .i64 k)]) (fun k w => Holds I w L ∧ k ≤ xs.length ∧ ∀ j, j < k → (atD xs j).2 = (atD ys j).2) (fun k _ => xs.length - k) 0 ⟨rfl, trivial⟩ ⟨rfl, rfl, rfl, rfl, trivial⟩ ⟨H, Nat.zero_le _, fun j hj => absurd hj (by omega)⟩ ?_
  rintro k w ⟨H, hk, hall⟩
  by_cases hlt : k < xs.length
  · obtain ⟨b1, o1, rfl, hr1⟩ := hv.at (by omega)
    obtain ⟨b2, o2, rfl, hr2⟩ := hu.at (by omega)
    have hr1 := hr1.elem bkC_len (atD_get hlt)
    have hr2 := hr2.elem bkC_len (atD_get (show k < ys.length by omega))
    have hx1 := hx _ (atD_mem hlt)
    have hy1 := hy _ (atD_mem (show k < ys.length by omega))
    have h2 := h256 _ (atD_mem hlt)
    have hne := map_ne_of (f := fun x : Vb => x.2) hlt (show k < ys.length by omega)
    obtain ⟨x, hxe⟩ : ∃ x, atD xs k = x := ⟨_, rfl⟩
    obtain ⟨y, hye⟩ : ∃ y, atD ys k = y := ⟨_, rfl⟩
    rw [hxe] at hr1 hx1 h2 hne
    rw [hye] at hr2 hy1 hne
    have hr1 : RdW I L b1 (o1 + k * 1) [x.1] := hr1
    have hr2 : RdW I L b2 (o2 + k * 1) [y.1] := hr2
    obtain ⟨xv, xd⟩ := x
    obtain ⟨yv, yd⟩ := y
    dsimp only at hx1 hy1 h2 hne
    obtain ⟨A5, c5, rfl, hc5⟩ := hx1.form
    obtain ⟨A6, c6, rfl, hc6⟩ := hy1.form
    repeat' (first
      | (show VcL _ _ _ _ _ _ _ _; first
      | refine VcL.pures tabOk rfl ?_
      | refine VcL.nil ?_
      | (show VcL _ _ _ _ (⟨_, .load _ _, _, _, _, _⟩ :: _) _ _ _; first
      | refine VcL.load1 tabOk rfl rfl rfl rfl rfl (by first | exact Holds.cell H rfl | exact Holds.cell (Holds.f1 H) rfl | exact Holds.cell (Holds.f2 H) rfl | exact Holds.cell (Holds.f3 H) rfl | exact Holds.cell (Holds.f4 H) rfl | exact Holds.cell (Holds.f5 H) rfl | exact Holds.cell (Holds.f6 H) rfl | exact RdW.get (by assumption) rfl H | exact RdW.get0 (by assumption) rfl H | exact RdW.get (by assumption) rfl (Holds.drop H) | exact RdW.get0 (by assumption) rfl (Holds.drop H) | exact RdW.get (by assumption) rfl (Holds.drop (Holds.drop H)) | exact RdW.get0 (by assumption) rfl (Holds.drop (Holds.drop H)) | exact RdW.get (by assumption) rfl (Holds.drop (Holds.drop (Holds.drop H))) | exact RdW.get0 (by assumption) rfl (Holds.drop (Holds.drop (Holds.drop H))) | exact Holds.rowCell H (fun _ => rfl) (by first | assumption | exact atD_get (by assumption)) rfl | exact Holds.rowCell0 H (fun _ => rfl) (by first | assumption | exact atD_get (by assumption)) rfl | exact Holds.ownCell H (fun _ => rfl) (by first | assumption | exact atD_get (by assumption)) rfl | exact Holds.ownCell0 H (fun _ => rfl) (by first | assumption | exact atD_get (by assumption)) rfl | exact Holds.rowCell (Holds.f1 H) (fun _ => rfl) (by first | assumption | exact atD_get (by assumption)) rfl | exact Holds.rowCell0 (Holds.f1 H) (fun _ => rfl) (by first | assumption | exact atD_get (by assumption)) rfl | exact Holds.ownCell (Holds.f1 H) (fun _ => rfl) (by first | assumption | exact atD_get (by assumption)) rfl | exact Holds.ownCell0 (Holds.f1 H) (fun _ => rfl) (by first | assumption | exact atD_get (by assumption)) rfl | exact Holds.rowCell (Holds.f2 H) (fun _ => rfl) (by first | assumption | exact atD_get (by assumption)) rfl | exact Holds.rowCell0 (Holds.f2 H) (fun _ => rfl) (by first | assumption | exact atD_get (by assumption)) rfl | exact Holds.ownCell (Holds.f2 H) (fun _ => rfl) (by first | assumption | exact atD_get (by assumption)) rfl | exact Holds.ownCell0 (Holds.f2 H) (fun _ => rfl) (by first | assumption | exact atD_get (by assumption)) rfl | exact Holds.rowCell (Holds.f3 H) (fun _ => rfl) (by first | assumption | exact atD_get (by assumption)) rfl | exact Holds.rowCell0 (Holds.f3 H) (fun _ => rfl) (by first | assumption | exact atD_get (by assumption)) rfl | exact Holds.ownCell (Holds.f3 H) (fun _ => rfl) (by first | assumption | exact atD_get (by assumption)) rfl | exact Holds.ownCell0 (Holds.f3 H) (fun _ => rfl) (by first | assumption | exact atD_get (by assumption)) rfl | exact Holds.rowCell (Holds.f4 H) (fun _ => rfl) (by first | assumption | exact atD_get (by assumption)) rfl | exact Holds.rowCell0 (Holds.f4 H) (fun _ => rfl) (by first | assumption | exact atD_get (by assumption)) rfl | exact Holds.ownCell (Holds.f4 H) (fun _ => rfl) (by first | assumption | exact atD_get (by assumption)) rfl | exact Holds.ownCell0 (Holds.f4 H) (fun _ => rfl) (by first | assumption | exact atD_get (by assumption)) rfl | assumption) ?_
      | refine VcL.loadR tabOk rfl rfl rfl rfl rfl rfl (by first | exact RdW.rd (by assumption) H | exact RdW.rd (by assumption) (Holds.drop H) | exact RdW.rd (by assumption) (Holds.drop (Holds.drop H)) | exact RdW.rd (by assumption) (Holds.drop (Holds.drop (Holds.drop H))) | assumption) rfl ?_
      | refine VcL.loadN tabOk rfl rfl rfl rfl rfl rfl (by first | exact H | exact (Holds.f1 H) | exact (Holds.f2 H) | exact (Holds.f3 H) | exact (Holds.f4 H) | exact (Holds.f5 H) | exact (Holds.f6 H)) (by exact rfl) ?_
      | refine VcL.loadRowN0 tabOk rfl rfl rfl rfl rfl rfl H (fun _ => rfl) (by first | assumption | exact atD_get (by assumption)) (by exact rfl) (by exact rfl) (by exact rfl) ?_
      | refine VcL.loadRowN tabOk rfl rfl rfl rfl rfl rfl H (fun _ => rfl) (by first | assumption | exact atD_get (by assumption)) (by exact rfl) (by exact rfl) (by exact rfl) ?_
      | refine VcL.loadOwnN0 tabOk rfl rfl rfl rfl rfl rfl H (fun _ => rfl) (by first | assumption | exact atD_get (by assumption)) (by exact rfl) (by exact rfl) (by exact rfl) ?_
      | refine VcL.loadOwnN tabOk rfl rfl rfl rfl rfl rfl H (fun _ => rfl) (by first | assumption | exact atD_get (by assumption)) (by exact rfl) (by exact rfl) (by exact rfl) ?_
      | refine VcL.loadRowN0 tabOk rfl rfl rfl rfl rfl rfl (Holds.f1 H) (fun _ => rfl) (by first | assumption | exact atD_get (by assumption)) (by exact rfl) (by exact rfl) (by exact rfl) ?_
      | refine VcL.loadRowN tabOk rfl rfl rfl rfl rfl rfl (Holds.f1 H) (fun _ => rfl) (by first | assumption | exact atD_get (by assumption)) (by exact rfl) (by exact rfl) (by exact rfl) ?_
      | refine VcL.loadOwnN0 tabOk rfl rfl rfl rfl rfl rfl (Holds.f1 H) (fun _ => rfl) (by first | assumption | exact atD_get (by assumption)) (by exact rfl) (by exact rfl) (by exact rfl) ?_
      | refine VcL.loadOwnN tabOk rfl rfl rfl rfl rfl rfl (Holds.f1 H) (fun _ => rfl) (by first | assumption | exact atD_get (by assumption)) (by exact rfl) (by exact rfl) (by exact rfl) ?_
      | refine VcL.loadRowN0 tabOk rfl rfl rfl rfl rfl rfl (Holds.f2 H) (fun _ => rfl) (by first | assumption | exact atD_get (by assumption)) (by exact rfl) (by exact rfl) (by exact rfl) ?_
      | refine VcL.loadRowN tabOk rfl rfl rfl rfl rfl rfl (Holds.f2 H) (fun _ => rfl) (by first | assumption | exact atD_get (by assumption)) (by exact rfl) (by exact rfl) (by exact rfl) ?_
      | refine VcL.loadOwnN0 tabOk rfl rfl rfl rfl rfl rfl (Holds.f2 H) (fun _ => rfl) (by first | assumption | exact atD_get (by assumption)) (by exact rfl) (by exact rfl) (by exact rfl) ?_
      | refine VcL.loadOwnN tabOk rfl rfl rfl rfl rfl rfl (Holds.f2 H) (fun _ => rfl) (by first | assumption | exact atD_get (by assumption)) (by exact rfl) (by exact rfl) (by exact rfl) ?_
      | refine VcL.loadRowN0 tabOk rfl rfl rfl rfl rfl rfl (Holds.f3 H) (fun _ => rfl) (by first | assumption | exact atD_get (by assumption)) (by exact rfl) (by exact rfl) (by exact rfl) ?_
      | refine VcL.loadRowN tabOk rfl rfl rfl rfl rfl rfl (Holds.f3 H) (fun _ => rfl) (by first | assumption | exact atD_get (by assumption)) (by exact rfl) (by exact rfl) (by exact rfl) ?_
      | refine VcL.loadOwnN0 tabOk rfl rfl rfl rfl rfl rfl (Holds.f3 H) (fun _ => rfl) (by first | assumption | exact atD_get (by assumption)) (by exact rfl) (by exact rfl) (by exact rfl) ?_
      | refine VcL.loadOwnN tabOk rfl rfl rfl rfl rfl rfl (Holds.f3 H) (fun _ => rfl) (by first | assumption | exact atD_get (by assumption)) (by exact rfl) (by exact rfl) (by exact rfl) ?_
      | refine VcL.loadRowN0 tabOk rfl rfl rfl rfl rfl rfl (Holds.f4 H) (fun _ => rfl) (by first | assumption | exact atD_get (by assumption)) (by exact rfl) (by exact rfl) (by exact rfl) ?_
      | refine VcL.loadRowN tabOk rfl rfl rfl rfl rfl rfl (Holds.f4 H) (fun _ => rfl) (by first | assumption | exact atD_get (by assumption)) (by exact rfl) (by exact rfl) (by exact rfl) ?_
      | refine VcL.loadOwnN0 tabOk rfl rfl rfl rfl rfl rfl (Holds.f4 H) (fun _ => rfl) (by first | assumption | exact atD_get (by assumption)) (by exact rfl) (by exact rfl) (by exact rfl) ?_
      | refine VcL.loadOwnN tabOk rfl rfl rfl rfl rfl rfl (Holds.f4 H) (fun _ => rfl) (by first | assumption | exact atD_get (by assumption)) (by exact rfl) (by exact rfl) (by exact rfl) ?_)
      | (show VcL _ _ _ _ (⟨_, .binOp _ _ _ _ _, _, _, _, _⟩ :: _) _ _ _; first
      | refine VcL.shl rfl rfl (by first | assumption | rfl) rfl rfl rfl ?_
      | refine VcL.shr rfl rfl (by first | assumption | rfl) rfl rfl rfl ?_
      | refine VcL.eqS tabOk rfl rfl rfl rfl rfl rfl (by kernel_rfl) (by kernel_rfl) rfl rfl (by first | exact .inl rfl | exact .inr rfl) ?_)
      | (show VcL _ _ _ _ (⟨_, .indexAddr _ _ _, _, _, _, _⟩ :: _) _ _ _; first
      | refine VcL.indexAddr0 tabOk rfl rfl rfl rfl rfl rfl (by omega) (by omega) ?_
      | refine VcL.indexAddr tabOk rfl rfl rfl rfl rfl rfl (by omega) (by omega) ?_
      | refine VcL.indexArr0 tabOk rfl rfl rfl rfl rfl rfl (by omega) (by omega) ?_
      | refine VcL.indexArr tabOk rfl rfl rfl rfl rfl rfl (by omega) (by omega) ?_)
      | (show VcL _ _ _ _ (⟨_, .call ⟨.value (.tmp _), _, _⟩, _, _, _, _⟩ :: _) _ _ _; first
      | (refine VcL.callV ok_slices_Equal_byte_byte rfl rfl rfl rfl rfl (Rets.mono (EqualV_any H hx1 hy1 (by omega)) ?_); rintro _ w ⟨rfl, H⟩))
      | (refine VcL.guard rfl rfl rfl rfl (fun h => ?_) (fun h => ?_) <;> first | (cases h; done) | (exfalso; simp only [decide_eq_true_eq, decide_eq_false_iff_not, Bool.not_eq_true', Bool.not_eq_false'] at h; omega) | (with_reducible have hp := of_decide_eq_true h) | (with_reducible have hp := of_decide_eq_false h) | (with_reducible have hp := ndec_t h) | (with_reducible have hp := ndec_f h) | skip))
      | (show Vc _ _ _ _ _ _; first
      | refine Vc.seq ?_
      | refine Vc.region ?_
      | refine Vc.condT rfl ?_
      | refine Vc.condF rfl ?_
      | refine Vc.ret ?_
      | refine Vc.skip ?_
      | refine Vc.block ?_
      | refine Vc.exit ?_
      | (refine Vc.cond rfl (fun h => ?_) (fun h => ?_) <;> first | (cases h; done) | (exfalso; simp only [decide_eq_true_eq, decide_eq_false_iff_not, Bool.not_eq_true', Bool.not_eq_false'] at h; omega) | (with_reducible have hp := of_decide_eq_true h) | (with_reducible have hp := of_decide_eq_false h) | (with_reducible have hp := ndec_t h) | (with_reducible have hp := ndec_f h) | skip))
      | (show KSeq _ _ _ _ _ _ _; first
      | refine KSeq.normal ?_
      | refine KSeq.ret ?_
      | refine KSeq.exit ?_)
      | (show KBlock _ _ _ _ _ _; first
      | refine KBlock.normal ?_
      | refine KBlock.here ?_
      | refine KBlock.on rfl ?_
      | refine KBlock.ret ?_)
      | refine KLoop.exit ?_
      | refine KLoop.ret ?_
      | refine KCut.exit ?_
      | refine KCut.ret ?_
      | (show KEnd _ _ _ _ _ _ _; first
      | refine KEnd.fin (Or.inr rfl) ⟨_, (ResL.tmp rfl ResL.nil), ?_⟩
      | refine KEnd.fin (Or.inl rfl) ⟨_, (ResL.tmp rfl ResL.nil), ?_⟩))
    · exact ⟨by rw [decide_eq_false (hne (by assumption))]; rfl, H⟩
    · refine KLoop.again (k + 1) ⟨got_succ rfl (by omega), trivial⟩ ⟨rfl, rfl, rfl, rfl, trivial⟩ ⟨H, hlt, fun j hj => ?_⟩ (by omega)
      rcases Nat.lt_or_ge j k with h1 | h1
      · exact hall j h1
      · obtain rfl : j = k := by omega
        rw [hxe, hye]
        assumption
  · obtain rfl : k = xs.length := by omega
    repeat' (first
      | (show VcL _ _ _ _ _ _ _ _; first
      | refine VcL.pures tabOk rfl ?_
      | refine VcL.nil ?_
      | (show VcL _ _ _ _ (⟨_, .load _ _, _, _, _, _⟩ :: _) _ _ _; first
      | refine VcL.load1 tabOk rfl rfl rfl rfl rfl (by first | exact Holds.cell H rfl | exact Holds.cell (Holds.f1 H) rfl | exact Holds.cell (Holds.f2 H) rfl | exact Holds.cell (Holds.f3 H) rfl | exact Holds.cell (Holds.f4 H) rfl | exact Holds.cell (Holds.f5 H) rfl | exact Holds.cell (Holds.f6 H) rfl | exact RdW.get (by assumption) rfl H | exact RdW.get0 (by assumption) rfl H | exact RdW.get (by assumption) rfl (Holds.drop H) | exact RdW.get0 (by assumption) rfl (Holds.drop H) | exact RdW.get (by assumption) rfl (Holds.drop (Holds.drop H)) | exact RdW.get0 (by assumption) rfl (Holds.drop (Holds.drop H)) | exact RdW.get (by assumption) rfl (Holds.drop (Holds.drop (Holds.drop H))) | exact RdW.get0 (by assumption) rfl (Holds.drop (Holds.drop (Holds.drop H))) | exact Holds.rowCell H (fun _ => rfl) (by first | assumption | exact atD_get (by assumption)) rfl | exact Holds.rowCell0 H (fun _ => rfl) (by first | assumption | exact atD_get (by assumption)) rfl | exact Holds.ownCell H (fun _ => rfl) (by first | assumption | exact atD_get (by assumption)) rfl | exact Holds.ownCell0 H (fun _ => rfl) (by first | assumption | exact atD_get (by assumption)) rfl | exact Holds.rowCell (Holds.f1 H) (fun _ => rfl) (by first | assumption | exact atD_get (by assumption)) rfl | exact Holds.rowCell0 (Holds.f1 H) (fun _ => rfl) (by first | assumption | exact atD_get (by assumption)) rfl | exact Holds.ownCell (Holds.f1 H) (fun _ => rfl) (by first | assumption | exact atD_get (by assumption)) rfl | exact Holds.ownCell0 (Holds.f1 H) (fun _ => rfl) (by first | assumption | exact atD_get (by assumption)) rfl | exact Holds.rowCell (Holds.f2 H) (fun _ => rfl) (by first | assumption | exact atD_get (by assumption)) rfl | exact Holds.rowCell0 (Holds.f2 H) (fun _ => rfl) (by first | assumption | exact atD_get (by assumption)) rfl | exact Holds.ownCell (Holds.f2 H) (fun _ => rfl) (by first | assumption | exact atD_get (by assumption)) rfl | exact Holds.ownCell0 (Holds.f2 H) (fun _ => rfl) (by first | assumption | exact atD_get (by assumption)) rfl | exact Holds.rowCell (Holds.f3 H) (fun _ => rfl) (by first | assumption | exact atD_get (by assumption)) rfl | exact Holds.rowCell0 (Holds.f3 H) (fun _ => rfl) (by first | assumption | exact atD_get (by assumption)) rfl | exact Holds.ownCell (Holds.f3 H) (fun _ => rfl) (by first | assumption | exact atD_get (by assumption)) rfl | exact Holds.ownCell0 (Holds.f3 H) (fun _ => rfl) (by first | assumption | exact atD_get (by assumption)) rfl | exact Holds.rowCell (Holds.f4 H) (fun _ => rfl) (by first | assumption | exact atD_get (by assumption)) rfl | exact Holds.rowCell0 (Holds.f4 H) (fun _ => rfl) (by first | assumption | exact atD_get (by assumption)) rfl | exact Holds.ownCell (Holds.f4 H) (fun _ => rfl) (by first | assumption | exact atD_get (by assumption)) rfl | exact Holds.ownCell0 (Holds.f4 H) (fun _ => rfl) (by first | assumption | exact atD_get (by assumption)) rfl | assumption) ?_
      | refine VcL.loadR tabOk rfl rfl rfl rfl rfl rfl (by first | exact RdW.rd (by assumption) H | exact RdW.rd (by assumption) (Holds.drop H) | exact RdW.rd (by assumption) (Holds.drop (Holds.drop H)) | exact RdW.rd (by assumption) (Holds.drop (Holds.drop (Holds.drop H))) | assumption) rfl ?_
      | refine VcL.loadN tabOk rfl rfl rfl rfl rfl rfl (by first | exact H | exact (Holds.f1 H) | exact (Holds.f2 H) | exact (Holds.f3 H) | exact (Holds.f4 H) | exact (Holds.f5 H) | exact (Holds.f6 H)) (by exact rfl) ?_
      | refine VcL.loadRowN0 tabOk rfl rfl rfl rfl rfl rfl H (fun _ => rfl) (by first | assumption | exact atD_get (by assumption)) (by exact rfl) (by exact rfl) (by exact rfl) ?_
      | refine VcL.loadRowN tabOk rfl rfl rfl rfl rfl rfl H (fun _ => rfl) (by first | assumption | exact atD_get (by assumption)) (by exact rfl) (by exact rfl) (by exact rfl) ?_
      | refine VcL.loadOwnN0 tabOk rfl rfl rfl rfl rfl rfl H (fun _ => rfl) (by first | assumption | exact atD_get (by assumption)) (by exact rfl) (by exact rfl) (by exact rfl) ?_
      | refine VcL.loadOwnN tabOk rfl rfl rfl rfl rfl rfl H (fun _ => rfl) (by first | assumption | exact atD_get (by assumption)) (by exact rfl) (by exact rfl) (by exact rfl) ?_
      | refine VcL.loadRowN0 tabOk rfl rfl rfl rfl rfl rfl (Holds.f1 H) (fun _ => rfl) (by first | assumption | exact atD_get (by assumption)) (by exact rfl) (by exact rfl) (by exact rfl) ?_
      | refine VcL.loadRowN tabOk rfl rfl rfl rfl rfl rfl (Holds.f1 H) (fun _ => rfl) (by first | assumption | exact atD_get (by assumption)) (by exact rfl) (by exact rfl) (by exact rfl) ?_
      | refine VcL.loadOwnN0 tabOk rfl rfl rfl rfl rfl rfl (Holds.f1 H) (fun _ => rfl) (by first | assumption | exact atD_get (by assumption)) (by exact rfl) (by exact rfl) (by exact rfl) ?_
      | refine VcL.loadOwnN tabOk rfl rfl rfl rfl rfl rfl (Holds.f1 H) (fun _ => rfl) (by first | assumption | exact atD_get (by assumption)) (by exact rfl) (by exact rfl) (by exact rfl) ?_
      | refine VcL.loadRowN0 tabOk rfl rfl rfl rfl rfl rfl (Holds.f2 H) (fun _ => rfl) (by first | assumption | exact atD_get (by assumption)) (by exact rfl) (by exact rfl) (by exact rfl) ?_
      | refine VcL.loadRowN tabOk rfl rfl rfl rfl rfl rfl (Holds.f2 H) (fun _ => rfl) (by first | assumption | exact atD_get (by assumption)) (by exact rfl) (by exact rfl) (by exact rfl) ?_
      | refine VcL.loadOwnN0 tabOk rfl rfl rfl rfl rfl rfl (Holds.f2 H) (fun _ => rfl) (by first | assumption | exact atD_get (by assumption)) (by exact rfl) (by exact rfl) (by exact rfl) ?_
      | refine VcL.loadOwnN tabOk rfl rfl rfl rfl rfl rfl (Holds.f2 H) (fun _ => rfl) (by first | assumption | exact atD_get (by assumption)) (by exact rfl) (by exact rfl) (by exact rfl) ?_
      | refine VcL.loadRowN0 tabOk rfl rfl rfl rfl rfl rfl (Holds.f3 H) (fun _ => rfl) (by first | assumption | exact atD_get (by assumption)) (by exact rfl) (by exact rfl) (by exact rfl) ?_
      | refine VcL.loadRowN tabOk rfl rfl rfl rfl rfl rfl (Holds.f3 H) (fun _ => rfl) (by first | assumption | exact atD_get (by assumption)) (by exact rfl) (by exact rfl) (by exact rfl) ?_
      | refine VcL.loadOwnN0 tabOk rfl rfl rfl rfl rfl rfl (Holds.f3 H) (fun _ => rfl) (by first | assumption | exact atD_get (by assumption)) (by exact rfl) (by exact rfl) (by exact rfl) ?_
      | refine VcL.loadOwnN tabOk rfl rfl rfl rfl rfl rfl (Holds.f3 H) (fun _ => rfl) (by first | assumption | exact atD_get (by assumption)) (by exact rfl) (by exact rfl) (by exact rfl) ?_
      | refine VcL.loadRowN0 tabOk rfl rfl rfl rfl rfl rfl (Holds.f4 H) (fun _ => rfl) (by first | assumption | exact atD_get (by assumption)) (by exact rfl) (by exact rfl) (by exact rfl) ?_
      | refine VcL.loadRowN tabOk rfl rfl rfl rfl rfl rfl (Holds.f4 H) (fun _ => rfl) (by first | assumption | exact atD_get (by assumption)) (by exact rfl) (by exact rfl) (by exact rfl) ?_
      | refine VcL.loadOwnN0 tabOk rfl rfl rfl rfl rfl rfl (Holds.f4 H) (fun _ => rfl) (by first | assumption | exact atD_get (by assumption)) (by exact rfl) (by exact rfl) (by exact rfl) ?_
      | refine VcL.loadOwnN tabOk rfl rfl rfl rfl rfl rfl (Holds.f4 H) (fun _ => rfl) (by first | assumption | exact atD_get (by assumption)) (by exact rfl) (by exact rfl) (by exact rfl) ?_)
      | (show VcL _ _ _ _ (⟨_, .binOp _ _ _ _ _, _, _, _, _⟩ :: _) _ _ _; first
      | refine VcL.shl rfl rfl (by first | assumption | rfl) rfl rfl rfl ?_
      | refine VcL.shr rfl rfl (by first | assumption | rfl) rfl rfl rfl ?_
      | refine VcL.eqS tabOk rfl rfl rfl rfl rfl rfl (by kernel_rfl) (by kernel_rfl) rfl rfl (by first | exact .inl rfl | exact .inr rfl) ?_)
      | (show VcL _ _ _ _ (⟨_, .indexAddr _ _ _, _, _, _, _⟩ :: _) _ _ _; first
      | refine VcL.indexAddr0 tabOk rfl rfl rfl rfl rfl rfl (by omega) (by omega) ?_
      | refine VcL.indexAddr tabOk rfl rfl rfl rfl rfl rfl (by omega) (by omega) ?_
      | refine VcL.indexArr0 tabOk rfl rfl rfl rfl rfl rfl (by omega) (by omega) ?_
      | refine VcL.indexArr tabOk rfl rfl rfl rfl rfl rfl (by omega) (by omega) ?_)
      | (show VcL _ _ _ _ (⟨_, .call ⟨.value (.tmp _), _, _⟩, _, _, _, _⟩ :: _) _ _ _; first
      | (refine VcL.callV ok_slices_Equal_byte_byte rfl rfl rfl rfl rfl (Rets.mono (EqualV_any H hx1 hy1 (by omega)) ?_); rintro _ w ⟨rfl, H⟩))
      | (refine VcL.guard rfl rfl rfl rfl (fun h => ?_) (fun h => ?_) <;> first | (cases h; done) | (exfalso; simp only [decide_eq_true_eq, decide_eq_false_iff_not, Bool.not_eq_true', Bool.not_eq_false'] at h; omega) | (with_reducible have hp := of_decide_eq_true h) | (with_reducible have hp := of_decide_eq_false h) | (with_reducible have hp := ndec_t h) | (with_reducible have hp := ndec_f h) | skip))
      | (show Vc _ _ _ _ _ _; first
      | refine Vc.seq ?_
      | refine Vc.region ?_
      | refine Vc.condT rfl ?_
      | refine Vc.condF rfl ?_
      | refine Vc.ret ?_
      | refine Vc.skip ?_
      | refine Vc.block ?_
      | refine Vc.exit ?_
      | (refine Vc.cond rfl (fun h => ?_) (fun h => ?_) <;> first | (cases h; done) | (exfalso; simp only [decide_eq_true_eq, decide_eq_false_iff_not, Bool.not_eq_true', Bool.not_eq_false'] at h; omega) | (with_reducible have hp := of_decide_eq_true h) | (with_reducible have hp := of_decide_eq_false h) | (with_reducible have hp := ndec_t h) | (with_reducible have hp := ndec_f h) | skip))
      | (show KSeq _ _ _ _ _ _ _; first
      | refine KSeq.normal ?_
      | refine KSeq.ret ?_
      | refine KSeq.exit ?_)
      | (show KBlock _ _ _ _ _ _; first
      | refine KBlock.normal ?_
      | refine KBlock.here ?_
      | refine KBlock.on rfl ?_
      | refine KBlock.ret ?_)
      | refine KLoop.exit ?_
      | refine KLoop.ret ?_
      | refine KCut.exit ?_
      | refine KCut.ret ?_
      | (show KEnd _ _ _ _ _ _ _; first
      | refine KEnd.fin (Or.inr rfl) ⟨_, (ResL.tmp rfl ResL.nil), ?_⟩
      | refine KEnd.fin (Or.inl rfl) ⟨_, (ResL.tmp rfl ResL.nil), ?_⟩))
    exact ⟨by rw [decide_eq_true (map_eq_of hlen hall)]; rfl, H⟩
theorem Same1_any (H : Holds I w L) {x y : Nat × Vb} (hx : SlR I L x.2.1 1 x.2.2.length (byL x.2.2)) (hy : SlR I L y.2.1 1 y.2.2.length (byL y.2.2)) (hl : x.2.2.length = 256) :
    Rets Try.prog F_journal_SameDisk_1 (#[] ++ [.agg (wkC x).toArray, .agg (wkC y).toArray].toArray ++ #[]) w fun r w' => r = .bool (decide ((x.1, x.2.2) = (y.1, y.2.2))) ∧ Holds I w' L := by
  rw [args2]
  obtain ⟨n, xv, xd⟩ := x
  obtain ⟨m, yv, yd⟩ := y
  dsimp only at hx hy hl
  obtain ⟨A5, c5, rfl, hc5⟩ := hx.form
  obtain ⟨A6, c6, rfl, hc6⟩ := hy.form
  show Rets Try.prog F_journal_SameDisk_1 #[.agg #[.int .i64 (n : Nat), .slice A5 xd.length c5], .agg #[.int .i64 (m : Nat), .slice A6 yd.length c6]] w _
  refine ok_journal_SameDisk_1.rets rfl ?_
  repeat' (first
    | (show VcL _ _ _ _ _ _ _ _; first
      | refine VcL.pures tabOk rfl ?_
      | refine VcL.nil ?_
      | (show VcL _ _ _ _ (⟨_, .load _ _, _, _, _, _⟩ :: _) _ _ _; first
      | refine VcL.load1 tabOk rfl rfl rfl rfl rfl (by first | exact Holds.cell H rfl | exact Holds.cell (Holds.f1 H) rfl | exact Holds.cell (Holds.f2 H) rfl | exact Holds.cell (Holds.f3 H) rfl | exact Holds.cell (Holds.f4 H) rfl | exact Holds.cell (Holds.f5 H) rfl | exact Holds.cell (Holds.f6 H) rfl | exact RdW.get (by assumption) rfl H | exact RdW.get0 (by assumption) rfl H | exact RdW.get (by assumption) rfl (Holds.drop H) | exact RdW.get0 (by assumption) rfl (Holds.drop H) | exact RdW.get (by assumption) rfl (Holds.drop (Holds.drop H)) | exact RdW.get0 (by assumption) rfl (Holds.drop (Holds.drop H)) | exact RdW.get (by assumption) rfl (Holds.drop (Holds.drop (Holds.drop H))) | exact RdW.get0 (by assumption) rfl (Holds.drop (Holds.drop (Holds.drop H))) | exact Holds.rowCell H (fun _ => rfl) (by first | assumption | exact atD_get (by assumption)) rfl | exact Holds.rowCell0 H (fun _ => rfl) (by first | assumption | exact atD_get (by assumption)) rfl | exact Holds.ownCell H (fun _ => rfl) (by first | assumption | exact atD_get (by assumption)) rfl | exact Holds.ownCell0 H (fun _ => rfl) (by first | assumption | exact atD_get (by assumption)) rfl | exact Holds.rowCell (Holds.f1 H) (fun _ => rfl) (by first | assumption | exact atD_get (by assumption)) rfl | exact Holds.rowCell0 (Holds.f1 H) (fun _ => rfl) (by first | assumption | exact atD_get (by assumption)) rfl | exact Holds.ownCell (Holds.f1 H) (fun _ => rfl) (by first | assumption | exact atD_get (by assumption)) rfl | exact Holds.ownCell0 (Holds.f1 H) (fun _ => rfl) (by first | assumption | exact atD_get (by assumption)) rfl | exact Holds.rowCell (Holds.f2 H) (fun _ => rfl) (by first | assumption | exact atD_get (by assumption)) rfl | exact Holds.rowCell0 (Holds.f2 H) (fun _ => rfl) (by first | assumption | exact atD_get (by assumption)) rfl | exact Holds.ownCell (Holds.f2 H) (fun _ => rfl) (by first | assumption | exact atD_get (by assumption)) rfl | exact Holds.ownCell0 (Holds.f2 H) (fun _ => rfl) (by first | assumption | exact atD_get (by assumption)) rfl | exact Holds.rowCell (Holds.f3 H) (fun _ => rfl) (by first | assumption | exact atD_get (by assumption)) rfl | exact Holds.rowCell0 (Holds.f3 H) (fun _ => rfl) (by first | assumption | exact atD_get (by assumption)) rfl | exact Holds.ownCell (Holds.f3 H) (fun _ => rfl) (by first | assumption | exact atD_get (by assumption)) rfl | exact Holds.ownCell0 (Holds.f3 H) (fun _ => rfl) (by first | assumption | exact atD_get (by assumption)) rfl | exact Holds.rowCell (Holds.f4 H) (fun _ => rfl) (by first | assumption | exact atD_get (by assumption)) rfl | exact Holds.rowCell0 (Holds.f4 H) (fun _ => rfl) (by first | assumption | exact atD_get (by assumption)) rfl | exact Holds.ownCell (Holds.f4 H) (fun _ => rfl) (by first | assumption | exact atD_get (by assumption)) rfl | exact Holds.ownCell0 (Holds.f4 H) (fun _ => rfl) (by first | assumption | exact atD_get (by assumption)) rfl | assumption) ?_
      | refine VcL.loadR tabOk rfl rfl rfl rfl rfl rfl (by first | exact RdW.rd (by assumption) H | exact RdW.rd (by assumption) (Holds.drop H) | exact RdW.rd (by assumption) (Holds.drop (Holds.drop H)) | exact RdW.rd (by assumption) (Holds.drop (Holds.drop (Holds.drop H))) | assumption) rfl ?_
      | refine VcL.loadN tabOk rfl rfl rfl rfl rfl rfl (by first | exact H | exact (Holds.f1 H) | exact (Holds.f2 H) | exact (Holds.f3 H) | exact (Holds.f4 H) | exact (Holds.f5 H) | exact (Holds.f6 H)) (by exact rfl) ?_
      | refine VcL.loadRowN0 tabOk rfl rfl rfl rfl rfl rfl H (fun _ => rfl) (by first | assumption | exact atD_get (by assumption)) (by exact rfl) (by exact rfl) (by exact rfl) ?_
      | refine VcL.loadRowN tabOk rfl rfl rfl rfl rfl rfl H (fun _ => rfl) (by first | assumption | exact atD_get (by assumption)) (by exact rfl) (by exact rfl) (by exact rfl) ?_
      | refine VcL.loadOwnN0 tabOk rfl rfl rfl rfl rfl rfl H (fun _ => rfl) (by first | assumption | exact atD_get (by assumption)) (by exact rfl) (by exact rfl) (by exact rfl) ?_
      | refine VcL.loadOwnN tabOk rfl rfl rfl rfl rfl rfl H (fun _ => rfl) (by first | assumption | exact atD_get (by assumption)) (by exact rfl) (by exact rfl) (by exact rfl) ?_
      | refine VcL.loadRowN0 tabOk rfl rfl rfl rfl rfl rfl (Holds.f1 H) (fun _ => rfl) (by first | assumption | exact atD_get (by assumption)) (by exact rfl) (by exact rfl) (by exact rfl) ?_
      | refine VcL.loadRowN tabOk rfl rfl rfl rfl rfl rfl (Holds.f1 H) (fun _ => rfl) (by first | assumption | exact atD_get (by assumption)) (by exact rfl) (by exact rfl) (by exact rfl) ?_
      | refine VcL.loadOwnN0 tabOk rfl rfl rfl rfl rfl rfl (Holds.f1 H) (fun _ => rfl) (by first | assumption | exact atD_get (by assumption)) (by exact rfl) (by exact rfl) (by exact rfl) ?_
      | refine VcL.loadOwnN tabOk rfl rfl rfl rfl rfl rfl (Holds.f1 H) (fun _ => rfl) (by first | assumption | exact atD_get (by assumption)) (by exact rfl) (by exact rfl) (by exact rfl) ?_
      | refine VcL.loadRowN0 tabOk rfl rfl rfl rfl rfl rfl (Holds.f2 H) (fun _ => rfl) (by first | assumption | exact atD_get (by assumption)) (by exact rfl) (by exact rfl) (by exact rfl) ?_
      | refine VcL.loadRowN tabOk rfl rfl rfl rfl rfl rfl (Holds.f2 H) (fun _ => rfl) (by first | assumption | exact atD_get (by assumption)) (by exact rfl) (by exact rfl) (by exact rfl) ?_
      | refine VcL.loadOwnN0 tabOk rfl rfl rfl rfl rfl rfl (Holds.f2 H) (fun _ => rfl) (by first | assumption | exact atD_get (by assumption)) (by exact rfl) (by exact rfl) (by exact rfl) ?_
      | refine VcL.loadOwnN tabOk rfl rfl rfl rfl rfl rfl (Holds.f2 H) (fun _ => rfl) (by first | assumption | exact atD_get (by assumption)) (by exact rfl) (by exact rfl) (by exact rfl) ?_
      | refine VcL.loadRowN0 tabOk rfl rfl rfl rfl rfl rfl (Holds.f3 H) (fun _ => rfl) (by first | assumption | exact atD_get (by assumption)) (by exact rfl) (by exact rfl) (by exact rfl) ?_
      | refine VcL.loadRowN tabOk rfl rfl rfl rfl rfl rfl (Holds.f3 H) (fun _ => rfl) (by first | assumption | exact atD_get (by assumption)) (by exact rfl) (by exact rfl) (by exact rfl) ?_
      | refine VcL.loadOwnN0 tabOk rfl rfl rfl rfl rfl rfl (Holds.f3 H) (fun _ => rfl) (by first | assumption | exact atD_get (by assumption)) (by exact rfl) (by exact rfl) (by exact rfl) ?_
      | refine VcL.loadOwnN tabOk rfl rfl rfl rfl rfl rfl (Holds.f3 H) (fun _ => rfl) (by first | assumption | exact atD_get (by assumption)) (by exact rfl) (by exact rfl) (by exact rfl) ?_
      | refine VcL.loadRowN0 tabOk rfl rfl rfl rfl rfl rfl (Holds.f4 H) (fun _ => rfl) (by first | assumption | exact atD_get (by assumption)) (by exact rfl) (by exact rfl) (by exact rfl) ?_
      | refine VcL.loadRowN tabOk rfl rfl rfl rfl rfl rfl (Holds.f4 H) (fun _ => rfl) (by first | assumption | exact atD_get (by assumption)) (by exact rfl) (by exact rfl) (by exact rfl) ?_
      | refine VcL.loadOwnN0 tabOk rfl rfl rfl rfl rfl rfl (Holds.f4 H) (fun _ => rfl) (by first | assumption | exact atD_get (by assumption)) (by exact rfl) (by exact rfl) (by exact rfl) ?_
      | refine VcL.loadOwnN tabOk rfl rfl rfl rfl rfl rfl (Holds.f4 H) (fun _ => rfl) (by first | assumption | exact atD_get (by assumption)) (by exact rfl) (by exact rfl) (by exact rfl) ?_)
      | (show VcL _ _ _ _ (⟨_, .binOp _ _ _ _ _, _, _, _, _⟩ :: _) _ _ _; first
      | refine VcL.shl rfl rfl (by first | assumption | rfl) rfl rfl rfl ?_
      | refine VcL.shr rfl rfl (by first | assumption | rfl) rfl rfl rfl ?_
      | refine VcL.eqS tabOk rfl rfl rfl rfl rfl rfl (by kernel_rfl) (by kernel_rfl) rfl rfl (by first | exact .inl rfl | exact .inr rfl) ?_)
      | refine VcL.box H rfl rfl rfl rfl rfl (fun b w H => ?_)
      | (show VcL _ _ _ _ (⟨_, .call ⟨.value (.func F_slices_Equal_byte_byte), _, _⟩, _, _, _, _⟩ :: _) _ _ _; first
      | (refine VcL.callF ok_slices_Equal_byte_byte rfl rfl rfl rfl (Rets.mono (Equal_any H hx.up.up hy.up.up (by omega)) ?_); rintro _ w ⟨rfl, H⟩))
      | (refine VcL.guard rfl rfl rfl rfl (fun h => ?_) (fun h => ?_) <;> first | (cases h; done) | (exfalso; simp only [decide_eq_true_eq, decide_eq_false_iff_not, Bool.not_eq_true', Bool.not_eq_false'] at h; omega) | (with_reducible have hp := of_decide_eq_true h) | (with_reducible have hp := of_decide_eq_false h) | (with_reducible have hp := ndec_t h) | (with_reducible have hp := ndec_f h) | skip))
    | (show Vc _ _ _ _ _ _; first
      | refine Vc.seq ?_
      | refine Vc.region ?_
      | refine Vc.condT rfl ?_
      | refine Vc.condF rfl ?_
      | refine Vc.ret ?_
      | refine Vc.skip ?_
      | refine Vc.block ?_
      | refine Vc.exit ?_
      | (refine Vc.cond rfl (fun h => ?_) (fun h => ?_) <;> first | (cases h; done) | (exfalso; simp only [decide_eq_true_eq, decide_eq_false_iff_not, Bool.not_eq_true', Bool.not_eq_false'] at h; omega) | (with_reducible have hp := of_decide_eq_true h) | (with_reducible have hp := of_decide_eq_false h) | (with_reducible have hp := ndec_t h) | (with_reducible have hp := ndec_f h) | skip))
    | (show KSeq _ _ _ _ _ _ _; first
      | refine KSeq.normal ?_
      | refine KSeq.ret ?_
      | refine KSeq.exit ?_)
    | (show KBlock _ _ _ _ _ _; first
      | refine KBlock.normal ?_
      | refine KBlock.here ?_
      | refine KBlock.on rfl ?_
      | refine KBlock.ret ?_)
    | refine KLoop.exit ?_
    | refine KLoop.ret ?_
    | refine KCut.exit ?_
    | refine KCut.ret ?_
    | (show KEnd _ _ _ _ _ _ _; first
      | refine KEnd.fin (Or.inr rfl) ⟨_, (ResL.tmp rfl ResL.nil), ?_⟩
      | refine KEnd.fin (Or.inl rfl) ⟨_, (ResL.tmp rfl ResL.nil), ?_⟩))
  · refine ⟨?_, H.drop.drop⟩
    have e : n = m := by omega
    subst e
    show Value.bool (decide (xd = yd)) = _
    congr 1
    exact decide_eq_decide.2 ⟨fun e => by rw [e], fun e => by injection e⟩
  · refine ⟨?_, H.drop.drop⟩
    rw [decide_eq_false (fun e => by injection e with e1 e2; subst e1; exact hp rfl)]
    rfl
abbrev prs (l : List (Nat × Vb)) : List (Nat × By) := l.map (fun x => (x.1, x.2.2))
theorem EqW_any (H : Holds I w L) {v u : Value} {xs ys : List (Nat × Vb)} (hv : SlR I L v 2 xs.length (xs.flatMap wkC)) (hu : SlR I L u 2 ys.length (ys.flatMap wkC)) (hx : ∀ x ∈ xs, SlR I L x.2.1 1 x.2.2.length (byL x.2.2)) (hy : ∀ x ∈ ys, SlR I L x.2.1 1 x.2.2.length (byL x.2.2)) (hl : xs.length ≤ 2 ^ 41) (h256 : ∀ x ∈ xs, x.2.2.length = 256) :
    Rets Try.prog F_slices_EqualFunc_api_Write_api_Write_api_Write_api_Write #[v, u, .func (.func F_journal_SameDisk_1) #[] #[]] w fun r w' => r = .bool (decide (prs xs = prs ys)) ∧ Holds I w' L := by
  obtain ⟨A, cap, rfl, hcap⟩ := hv.form
  obtain ⟨B, cap2, rfl, hcap2⟩ := hu.form
  refine ok_slices_EqualFunc_api_Write_api_Write_api_Write_api_Write.rets rfl ?_
  repeat' (first
    | (show VcL _ _ _ _ _ _ _ _; first
      | refine VcL.pures tabOk rfl ?_
      | refine VcL.nil ?_
      | (show VcL _ _ _ _ (⟨_, .load _ _, _, _, _, _⟩ :: _) _ _ _; first
      | refine VcL.load1 tabOk rfl rfl rfl rfl rfl (by first | exact Holds.cell H rfl | exact Holds.cell (Holds.f1 H) rfl | exact Holds.cell (Holds.f2 H) rfl | exact Holds.cell (Holds.f3 H) rfl | exact Holds.cell (Holds.f4 H) rfl | exact Holds.cell (Holds.f5 H) rfl | exact Holds.cell (Holds.f6 H) rfl | exact RdW.get (by assumption) rfl H | exact RdW.get0 (by assumption) rfl H | exact RdW.get (by assumption) rfl (Holds.drop H) | exact RdW.get0 (by assumption) rfl (Holds.drop H) | exact RdW.get (by assumption) rfl (Holds.drop (Holds.drop H)) | exact RdW.get0 (by assumption) rfl (Holds.drop (Holds.drop H)) | exact RdW.get (by assumption) rfl (Holds.drop (Holds.drop (Holds.drop H))) | exact RdW.get0 (by assumption) rfl (Holds.drop (Holds.drop (Holds.drop H))) | exact Holds.rowCell H (fun _ => rfl) (by first | assumption | exact atD_get (by assumption)) rfl | exact Holds.rowCell0 H (fun _ => rfl) (by first | assumption | exact atD_get (by assumption)) rfl | exact Holds.ownCell H (fun _ => rfl) (by first | assumption | exact atD_get (by assumption)) rfl | exact Holds.ownCell0 H (fun _ => rfl) (by first | assumption | exact atD_get (by assumption)) rfl | exact Holds.rowCell (Holds.f1 H) (fun _ => rfl) (by first | assumption | exact atD_get (by assumption)) rfl | exact Holds.rowCell0 (Holds.f1 H) (fun _ => rfl) (by first | assumption | exact atD_get (by assumption)) rfl | exact Holds.ownCell (Holds.f1 H) (fun _ => rfl) (by first | assumption | exact atD_get (by assumption)) rfl | exact Holds.ownCell0 (Holds.f1 H) (fun _ => rfl) (by first | assumption | exact atD_get (by assumption)) rfl | exact Holds.rowCell (Holds.f2 H) (fun _ => rfl) (by first | assumption | exact atD_get (by assumption)) rfl | exact Holds.rowCell0 (Holds.f2 H) (fun _ => rfl) (by first | assumption | exact atD_get (by assumption)) rfl | exact Holds.ownCell (Holds.f2 H) (fun _ => rfl) (by first | assumption | exact atD_get (by assumption)) rfl | exact Holds.ownCell0 (Holds.f2 H) (fun _ => rfl) (by first | assumption | exact atD_get (by assumption)) rfl | exact Holds.rowCell (Holds.f3 H) (fun _ => rfl) (by first | assumption | exact atD_get (by assumption)) rfl | exact Holds.rowCell0 (Holds.f3 H) (fun _ => rfl) (by first | assumption | exact atD_get (by assumption)) rfl | exact Holds.ownCell (Holds.f3 H) (fun _ => rfl) (by first | assumption | exact atD_get (by assumption)) rfl | exact Holds.ownCell0 (Holds.f3 H) (fun _ => rfl) (by first | assumption | exact atD_get (by assumption)) rfl | exact Holds.rowCell (Holds.f4 H) (fun _ => rfl) (by first | assumption | exact atD_get (by assumption)) rfl | exact Holds.rowCell0 (Holds.f4 H) (fun _ => rfl) (by first | assumption | exact atD_get (by assumption)) rfl | exact Holds.ownCell (Holds.f4 H) (fun _ => rfl) (by first | assumption | exact atD_get (by assumption)) rfl | exact Holds.ownCell0 (Holds.f4 H) (fun _ => rfl) (by first | assumption | exact atD_get (by assumption)) rfl | assumption) ?_
      | refine VcL.loadR tabOk rfl rfl rfl rfl rfl rfl (by first | exact RdW.rd (by assumption) H | exact RdW.rd (by assumption) (Holds.drop H) | exact RdW.rd (by assumption) (Holds.drop (Holds.drop H)) | exact RdW.rd (by assumption) (Holds.drop (Holds.drop (Holds.drop H))) | assumption) rfl ?_
      | refine VcL.loadN tabOk rfl rfl rfl rfl rfl rfl (by first | exact H | exact (Holds.f1 H) | exact (Holds.f2 H) | exact (Holds.f3 H) | exact (Holds.f4 H) | exact (Holds.f5 H) | exact (Holds.f6 H)) (by exact rfl) ?_
      | refine VcL.loadRowN0 tabOk rfl rfl rfl rfl rfl rfl H (fun _ => rfl) (by first | assumption | exact atD_get (by assumption)) (by exact rfl) (by exact rfl) (by exact rfl) ?_
      | refine VcL.loadRowN tabOk rfl rfl rfl rfl rfl rfl H (fun _ => rfl) (by first | assumption | exact atD_get (by assumption)) (by exact rfl) (by exact rfl) (by exact rfl) ?_
      | refine VcL.loadOwnN0 tabOk rfl rfl rfl rfl rfl rfl H (fun _ => rfl) (by first | assumption | exact atD_get (by assumption)) (by exact rfl) (by exact rfl) (by exact rfl) ?_
      | refine VcL.loadOwnN tabOk rfl rfl rfl rfl rfl rfl H (fun _ => rfl) (by first | assumption | exact atD_get (by assumption)) (by exact rfl) (by exact rfl) (by exact rfl) ?_
      | refine VcL.loadRowN0 tabOk rfl rfl rfl rfl rfl rfl (Holds.f1 H) (fun _ => rfl) (by first | assumption | exact atD_get (by assumption)) (by exact rfl) (by exact rfl) (by exact rfl) ?_
      | refine VcL.loadRowN tabOk rfl rfl rfl rfl rfl rfl (Holds.f1 H) (fun _ => rfl) (by first | assumption | exact atD_get (by assumption)) (by exact rfl) (by exact rfl) (by exact rfl) ?_
      | refine VcL.loadOwnN0 tabOk rfl rfl rfl rfl rfl rfl (Holds.f1 H) (fun _ => rfl) (by first | assumption | exact atD_get (by assumption)) (by exact rfl) (by exact rfl) (by exact rfl) ?_
      | refine VcL.loadOwnN tabOk rfl rfl rfl rfl rfl rfl (Holds.f1 H) (fun _ => rfl) (by first | assumption | exact atD_get (by assumption)) (by exact rfl) (by exact rfl) (by exact rfl) ?_
      | refine VcL.loadRowN0 tabOk rfl rfl rfl rfl rfl rfl (Holds.f2 H) (fun _ => rfl) (by first | assumption | exact atD_get (by assumption)) (by exact rfl) (by exact rfl) (by exact rfl) ?_
      | refine VcL.loadRowN tabOk rfl rfl rfl rfl rfl rfl (Holds.f2 H) (fun _ => rfl) (by first | assumption | exact atD_get (by assumption)) (by exact rfl) (by exact rfl) (by exact rfl) ?_
      | refine VcL.loadOwnN0 tabOk rfl rfl rfl rfl rfl rfl (Holds.f2 H) (fun _ => rfl) (by first | assumption | exact atD_get (by assumption)) (by exact rfl) (by exact rfl) (by exact rfl) ?_
      | refine VcL.loadOwnN tabOk rfl rfl rfl rfl rfl rfl (Holds.f2 H) (fun _ => rfl) (by first | assumption | exact atD_get (by assumption)) (by exact rfl) (by exact rfl) (by exact rfl) ?_
      | refine VcL.loadRowN0 tabOk rfl rfl rfl rfl rfl rfl (Holds.f3 H) (fun _ => rfl) (by first | assumption | exact atD_get (by assumption)) (by exact rfl) (by exact rfl) (by exact rfl) ?_
      | refine VcL.loadRowN tabOk rfl rfl rfl rfl rfl rfl (Holds.f3 H) (fun _ => rfl) (by first | assumption | exact atD_get (by assumption)) (by exact rfl) (by exact rfl) (by exact rfl) ?_
      | refine VcL.loadOwnN0 tabOk rfl rfl rfl rfl rfl rfl (Holds.f3 H) (fun _ => rfl) (by first | assumption | exact atD_get (by assumption)) (by exact rfl) (by exact rfl) (by exact rfl) ?_
      | refine VcL.loadOwnN tabOk rfl rfl rfl rfl rfl rfl (Holds.f3 H) (fun _ => rfl) (by first | assumption | exact atD_get (by assumption)) (by exact rfl) (by exact rfl) (by exact rfl) ?_
      | refine VcL.loadRowN0 tabOk rfl rfl rfl rfl rfl rfl (Holds.f4 H) (fun _ => rfl) (by first | assumption | exact atD_get (by assumption)) (by exact rfl) (by exact rfl) (by exact rfl) ?_
      | refine VcL.loadRowN tabOk rfl rfl rfl rfl rfl rfl (Holds.f4 H) (fun _ => rfl) (by first | assumption | exact atD_get (by assumption)) (by exact rfl) (by exact rfl) (by exact rfl) ?_
      | refine VcL.loadOwnN0 tabOk rfl rfl rfl rfl rfl rfl (Holds.f4 H) (fun _ => rfl) (by first | assumption | exact atD_get (by assumption)) (by exact rfl) (by exact rfl) (by exact rfl) ?_
      | refine VcL.loadOwnN tabOk rfl rfl rfl rfl rfl rfl (Holds.f4 H) (fun _ => rfl) (by first | assumption | exact atD_get (by assumption)) (by exact rfl) (by exact rfl) (by exact rfl) ?_)
      | (show VcL _ _ _ _ (⟨_, .binOp _ _ _ _ _, _, _, _, _⟩ :: _) _ _ _; first
      | refine VcL.shl rfl rfl (by first | assumption | rfl) rfl rfl rfl ?_
      | refine VcL.shr rfl rfl (by first | assumption | rfl) rfl rfl rfl ?_
      | refine VcL.eqS tabOk rfl rfl rfl rfl rfl rfl (by kernel_rfl) (by kernel_rfl) rfl rfl (by first | exact .inl rfl | exact .inr rfl) ?_)
      | (show VcL _ _ _ _ (⟨_, .indexAddr _ _ _, _, _, _, _⟩ :: _) _ _ _; first
      | refine VcL.indexAddr0 tabOk rfl rfl rfl rfl rfl rfl (by omega) (by omega) ?_
      | refine VcL.indexAddr tabOk rfl rfl rfl rfl rfl rfl (by omega) (by omega) ?_
      | refine VcL.indexArr0 tabOk rfl rfl rfl rfl rfl rfl (by omega) (by omega) ?_
      | refine VcL.indexArr tabOk rfl rfl rfl rfl rfl rfl (by omega) (by omega) ?_)
      | refine VcL.alloc tabOk H rfl rfl rfl rfl (fun b w H => ?_)
      | (show VcL _ _ _ _ (⟨_, .store _ _ _, _, _, _, _⟩ :: _) _ _ _; first
      | refine VcL.store tabOk rfl (by first | exact H | exact (Holds.f1 H) | exact (Holds.f2 H) | exact (Holds.f3 H) | exact (Holds.f4 H) | exact (Holds.f5 H) | exact (Holds.f6 H)) rfl rfl (by exact rfl) (by exact rfl) (by exact rfl) (by exact rfl) (fun w H => ?_))
      | (refine VcL.guard rfl rfl rfl rfl (fun h => ?_) (fun h => ?_) <;> first | (cases h; done) | (exfalso; simp only [decide_eq_true_eq, decide_eq_false_iff_not, Bool.not_eq_true', Bool.not_eq_false'] at h; omega) | (with_reducible have hp := of_decide_eq_true h) | (with_reducible have hp := of_decide_eq_false h) | (with_reducible have hp := ndec_t h) | (with_reducible have hp := ndec_f h) | skip))
    | (show Vc _ _ _ _ _ _; first
      | refine Vc.seq ?_
      | refine Vc.region ?_
      | refine Vc.condT rfl ?_
      | refine Vc.condF rfl ?_
      | refine Vc.ret ?_
      | refine Vc.skip ?_
      | refine Vc.block ?_
      | refine Vc.exit ?_
      | (refine Vc.cond rfl (fun h => ?_) (fun h => ?_) <;> first | (cases h; done) | (exfalso; simp only [decide_eq_true_eq, decide_eq_false_iff_not, Bool.not_eq_true', Bool.not_eq_false'] at h; omega) | (with_reducible have hp := of_decide_eq_true h) | (with_reducible have hp := of_decide_eq_false h) | (with_reducible have hp := ndec_t h) | (with_reducible have hp := ndec_f h) | skip))
    | (show KSeq _ _ _ _ _ _ _; first
      | refine KSeq.normal ?_
      | refine KSeq.ret ?_
      | refine KSeq.exit ?_)
    | (show KBlock _ _ _ _ _ _; first
      | refine KBlock.normal ?_
      | refine KBlock.here ?_
      | refine KBlock.on rfl ?_
      | refine KBlock.ret ?_)
    | refine KLoop.exit ?_
    | refine KLoop.ret ?_
    | refine KCut.exit ?_
    | refine KCut.ret ?_
    | (show KEnd _ _ _ _ _ _ _; first
      | refine KEnd.fin (Or.inr rfl) ⟨_, (ResL.tmp rfl ResL.nil), ?_⟩
      | refine KEnd.fin (Or.inl rfl) ⟨_, (ResL.tmp rfl ResL.nil), ?_⟩))
  · exact ⟨by rw [decide_eq_false (fun e => by have := congrArg List.length e; simp only [List.length_map] at this; omega)]; rfl, H⟩
  have hlen : xs.length = ys.length := by omega
  refine Vc.loopS [(1, _), (2, _), (15, _), (16, _)] (fun k : Nat => [(17, .int .i64 k)]) (fun k w => Holds I w L ∧ k ≤ xs.length ∧ ∀ j, j < k → ((atD xs j).1, (atD xs j).2.2) = ((atD ys j).1, (atD ys j).2.2)) (fun k _ => xs.length - k) 0 ⟨rfl, trivial⟩ ⟨rfl, rfl, rfl, rfl, trivial⟩ ⟨H, Nat.zero_le _, fun j hj => absurd hj (by omega)⟩ ?_
  rintro k w ⟨H, hk, hall⟩
  by_cases hlt : k < xs.length
  · obtain ⟨b1, o1, rfl, hr1⟩ := hv.at (by omega)
    obtain ⟨b2, o2, rfl, hr2⟩ := hu.at (by omega)
    have hr1 := hr1.elem wkC_len (atD_get hlt)
    have hr2 := hr2.elem wkC_len (atD_get (show k < ys.length by omega))
    have hx1 := hx _ (atD_mem hlt)
    have hy1 := hy _ (atD_mem (show k < ys.length by omega))
    have h2 := h256 _ (atD_mem hlt)
    have hne := map_ne_of (f := fun x : Nat × Vb => (x.1, x.2.2)) hlt (show k < ys.length by omega)
    obtain ⟨x, hxe⟩ : ∃ x, atD xs k = x := ⟨_, rfl⟩
    obtain ⟨y, hye⟩ : ∃ y, atD ys k = y := ⟨_, rfl⟩
    rw [hxe] at hr1 hx1 h2 hne
    rw [hye] at hr2 hy1 hne
    have hr1 : RdW I L b1 (o1 + k * 2) [.int .i64 (x.1 : Nat), x.2.1] := hr1
    have hr2 : RdW I L b2 (o2 + k * 2) [.int .i64 (y.1 : Nat), y.2.1] := hr2
    obtain ⟨n, xv, xd⟩ := x
    obtain ⟨m, yv, yd⟩ := y
    dsimp only at hx1 hy1 h2 hne
    obtain ⟨A5, c5, rfl, hc5⟩ := hx1.form
    obtain ⟨A6, c6, rfl, hc6⟩ := hy1.form
    repeat' (first
      | (show VcL _ _ _ _ _ _ _ _; first
      | refine VcL.pures tabOk rfl ?_
      | refine VcL.nil ?_
      | (show VcL _ _ _ _ (⟨_, .load _ _, _, _, _, _⟩ :: _) _ _ _; first
      | refine VcL.load1 tabOk rfl rfl rfl rfl rfl (by first | exact Holds.cell H rfl | exact Holds.cell (Holds.f1 H) rfl | exact Holds.cell (Holds.f2 H) rfl | exact Holds.cell (Holds.f3 H) rfl | exact Holds.cell (Holds.f4 H) rfl | exact Holds.cell (Holds.f5 H) rfl | exact Holds.cell (Holds.f6 H) rfl | exact RdW.get (by assumption) rfl H | exact RdW.get0 (by assumption) rfl H | exact RdW.get (by assumption) rfl (Holds.drop H) | exact RdW.get0 (by assumption) rfl (Holds.drop H) | exact RdW.get (by assumption) rfl (Holds.drop (Holds.drop H)) | exact RdW.get0 (by assumption) rfl (Holds.drop (Holds.drop H)) | exact RdW.get (by assumption) rfl (Holds.drop (Holds.drop (Holds.drop H))) | exact RdW.get0 (by assumption) rfl (Holds.drop (Holds.drop (Holds.drop H))) | exact Holds.rowCell H (fun _ => rfl) (by first | assumption | exact atD_get (by assumption)) rfl | exact Holds.rowCell0 H (fun _ => rfl) (by first | assumption | exact atD_get (by assumption)) rfl | exact Holds.ownCell H (fun _ => rfl) (by first | assumption | exact atD_get (by assumption)) rfl | exact Holds.ownCell0 H (fun _ => rfl) (by first | assumption | exact atD_get (by assumption)) rfl | exact Holds.rowCell (Holds.f1 H) (fun _ => rfl) (by first | assumption | exact atD_get (by assumption)) rfl | exact Holds.rowCell0 (Holds.f1 H) (fun _ => rfl) (by first | assumption | exact atD_get (by assumption)) rfl | exact Holds.ownCell (Holds.f1 H) (fun _ => rfl) (by first | assumption | exact atD_get (by assumption)) rfl | exact Holds.ownCell0 (Holds.f1 H) (fun _ => rfl) (by first | assumption | exact atD_get (by assumption)) rfl | exact Holds.rowCell (Holds.f2 H) (fun _ => rfl) (by first | assumption | exact atD_get (by assumption)) rfl | exact Holds.rowCell0 (Holds.f2 H) (fun _ => rfl) (by first | assumption | exact atD_get (by assumption)) rfl | exact Holds.ownCell (Holds.f2 H) (fun _ => rfl) (by first | assumption | exact atD_get (by assumption)) rfl | exact Holds.ownCell0 (Holds.f2 H) (fun _ => rfl) (by first | assumption | exact atD_get (by assumption)) rfl | exact Holds.rowCell (Holds.f3 H) (fun _ => rfl) (by first | assumption | exact atD_get (by assumption)) rfl | exact Holds.rowCell0 (Holds.f3 H) (fun _ => rfl) (by first | assumption | exact atD_get (by assumption)) rfl | exact Holds.ownCell (Holds.f3 H) (fun _ => rfl) (by first | assumption | exact atD_get (by assumption)) rfl | exact Holds.ownCell0 (Holds.f3 H) (fun _ => rfl) (by first | assumption | exact atD_get (by assumption)) rfl | exact Holds.rowCell (Holds.f4 H) (fun _ => rfl) (by first | assumption | exact atD_get (by assumption)) rfl | exact Holds.rowCell0 (Holds.f4 H) (fun _ => rfl) (by first | assumption | exact atD_get (by assumption)) rfl | exact Holds.ownCell (Holds.f4 H) (fun _ => rfl) (by first | assumption | exact atD_get (by assumption)) rfl | exact Holds.ownCell0 (Holds.f4 H) (fun _ => rfl) (by first | assumption | exact atD_get (by assumption)) rfl | assumption) ?_
      | refine VcL.loadR tabOk rfl rfl rfl rfl rfl rfl (by first | exact RdW.rd (by assumption) H | exact RdW.rd (by assumption) (Holds.drop H) | exact RdW.rd (by assumption) (Holds.drop (Holds.drop H)) | exact RdW.rd (by assumption) (Holds.drop (Holds.drop (Holds.drop H))) | assumption) rfl ?_
      | refine VcL.loadN tabOk rfl rfl rfl rfl rfl rfl (by first | exact H | exact (Holds.f1 H) | exact (Holds.f2 H) | exact (Holds.f3 H) | exact (Holds.f4 H) | exact (Holds.f5 H) | exact (Holds.f6 H)) (by exact rfl) ?_
      | refine VcL.loadRowN0 tabOk rfl rfl rfl rfl rfl rfl H (fun _ => rfl) (by first | assumption | exact atD_get (by assumption)) (by exact rfl) (by exact rfl) (by exact rfl) ?_
      | refine VcL.loadRowN tabOk rfl rfl rfl rfl rfl rfl H (fun _ => rfl) (by first | assumption | exact atD_get (by assumption)) (by exact rfl) (by exact rfl) (by exact rfl) ?_
      | refine VcL.loadOwnN0 tabOk rfl rfl rfl rfl rfl rfl H (fun _ => rfl) (by first | assumption | exact atD_get (by assumption)) (by exact rfl) (by exact rfl) (by exact rfl) ?_
      | refine VcL.loadOwnN tabOk rfl rfl rfl rfl rfl rfl H (fun _ => rfl) (by first | assumption | exact atD_get (by assumption)) (by exact rfl) (by exact rfl) (by exact rfl) ?_
      | refine VcL.loadRowN0 tabOk rfl rfl rfl rfl rfl rfl (Holds.f1 H) (fun _ => rfl) (by first | assumption | exact atD_get (by assumption)) (by exact rfl) (by exact rfl) (by exact rfl) ?_
      | refine VcL.loadRowN tabOk rfl rfl rfl rfl rfl rfl (Holds.f1 H) (fun _ => rfl) (by first | assumption | exact atD_get (by assumption)) (by exact rfl) (by exact rfl) (by exact rfl) ?_
      | refine VcL.loadOwnN0 tabOk rfl rfl rfl rfl rfl rfl (Holds.f1 H) (fun _ => rfl) (by first | assumption | exact atD_get (by assumption)) (by exact rfl) (by exact rfl) (by exact rfl) ?_
      | refine VcL.loadOwnN tabOk rfl rfl rfl rfl rfl rfl (Holds.f1 H) (fun _ => rfl) (by first | assumption | exact atD_get (by assumption)) (by exact rfl) (by exact rfl) (by exact rfl) ?_
      | refine VcL.loadRowN0 tabOk rfl rfl rfl rfl rfl rfl (Holds.f2 H) (fun _ => rfl) (by first | assumption | exact atD_get (by assumption)) (by exact rfl) (by exact rfl) (by exact rfl) ?_
      | refine VcL.loadRowN tabOk rfl rfl rfl rfl rfl rfl (Holds.f2 H) (fun _ => rfl) (by first | assumption | exact atD_get (by assumption)) (by exact rfl) (by exact rfl) (by exact rfl) ?_
      | refine VcL.loadOwnN0 tabOk rfl rfl rfl rfl rfl rfl (Holds.f2 H) (fun _ => rfl) (by first | assumption | exact atD_get (by assumption)) (by exact rfl) (by exact rfl) (by exact rfl) ?_
      | refine VcL.loadOwnN tabOk rfl rfl rfl rfl rfl rfl (Holds.f2 H) (fun _ => rfl) (by first | assumption | exact atD_get (by assumption)) (by exact rfl) (by exact rfl) (by exact rfl) ?_
      | refine VcL.loadRowN0 tabOk rfl rfl rfl rfl rfl rfl (Holds.f3 H) (fun _ => rfl) (by first | assumption | exact atD_get (by assumption)) (by exact rfl) (by exact rfl) (by exact rfl) ?_
      | refine VcL.loadRowN tabOk rfl rfl rfl rfl rfl rfl (Holds.f3 H) (fun _ => rfl) (by first | assumption | exact atD_get (by assumption)) (by exact rfl) (by exact rfl) (by exact rfl) ?_
      | refine VcL.loadOwnN0 tabOk rfl rfl rfl rfl rfl rfl (Holds.f3 H) (fun _ => rfl) (by first | assumption | exact atD_get (by assumption)) (by exact rfl) (by exact rfl) (by exact rfl) ?_
      | refine VcL.loadOwnN tabOk rfl rfl rfl rfl rfl rfl (Holds.f3 H) (fun _ => rfl) (by first | assumption | exact atD_get (by assumption)) (by exact rfl) (by exact rfl) (by exact rfl) ?_
      | refine VcL.loadRowN0 tabOk rfl rfl rfl rfl rfl rfl (Holds.f4 H) (fun _ => rfl) (by first | assumption | exact atD_get (by assumption)) (by exact rfl) (by exact rfl) (by exact rfl) ?_
      | refine VcL.loadRowN tabOk rfl rfl rfl rfl rfl rfl (Holds.f4 H) (fun _ => rfl) (by first | assumption | exact atD_get (by assumption)) (by exact rfl) (by exact rfl) (by exact rfl) ?_
      | refine VcL.loadOwnN0 tabOk rfl rfl rfl rfl rfl rfl (Holds.f4 H) (fun _ => rfl) (by first | assumption | exact atD_get (by assumption)) (by exact rfl) (by exact rfl) (by exact rfl) ?_
      | refine VcL.loadOwnN tabOk rfl rfl rfl rfl rfl rfl (Holds.f4 H) (fun _ => rfl) (by first | assumption | exact atD_get (by assumption)) (by exact rfl) (by exact rfl) (by exact rfl) ?_)
      | (show VcL _ _ _ _ (⟨_, .binOp _ _ _ _ _, _, _, _, _⟩ :: _) _ _ _; first
      | refine VcL.shl rfl rfl (by first | assumption | rfl) rfl rfl rfl ?_
      | refine VcL.shr rfl rfl (by first | assumption | rfl) rfl rfl rfl ?_
      | refine VcL.eqS tabOk rfl rfl rfl rfl rfl rfl (by kernel_rfl) (by kernel_rfl) rfl rfl (by first | exact .inl rfl | exact .inr rfl) ?_)
      | (show VcL _ _ _ _ (⟨_, .indexAddr _ _ _, _, _, _, _⟩ :: _) _ _ _; first
      | refine VcL.indexAddr0 tabOk rfl rfl rfl rfl rfl rfl (by omega) (by omega) ?_
      | refine VcL.indexAddr tabOk rfl rfl rfl rfl rfl rfl (by omega) (by omega) ?_
      | refine VcL.indexArr0 tabOk rfl rfl rfl rfl rfl rfl (by omega) (by omega) ?_
      | refine VcL.indexArr tabOk rfl rfl rfl rfl rfl rfl (by omega) (by omega) ?_)
      | refine VcL.alloc tabOk H rfl rfl rfl rfl (fun b w H => ?_)
      | (show VcL _ _ _ _ (⟨_, .store _ _ _, _, _, _, _⟩ :: _) _ _ _; first
      | refine VcL.store tabOk rfl (by first | exact H | exact (Holds.f1 H) | exact (Holds.f2 H) | exact (Holds.f3 H) | exact (Holds.f4 H) | exact (Holds.f5 H) | exact (Holds.f6 H)) rfl rfl (by exact rfl) (by exact rfl) (by exact rfl) (by exact rfl) (fun w H => ?_))
      | (show VcL _ _ _ _ (⟨_, .call ⟨.value (.tmp _), _, _⟩, _, _, _, _⟩ :: _) _ _ _; first
      | (refine VcL.callV ok_journal_SameDisk_1 rfl rfl rfl rfl rfl (Rets.mono (Same1_any (x := (n, .slice A5 xd.length c5, xd)) (y := (m, .slice A6 yd.length c6, yd)) H hx1.up.up hy1.up.up h2) ?_); rintro _ w ⟨rfl, H⟩))
      | (show VcL _ _ _ _ (⟨_, .call ⟨.value (.tmp _), _, _⟩, _, _, _, _⟩ :: _) _ _ _; first
      | (refine VcL.callV ok_journal_SameDisk_1 rfl rfl rfl rfl rfl (Rets.mono (Same1_any (x := (n, .slice A5 xd.length c5, xd)) (y := (m, .slice A6 yd.length c6, yd)) H hx1.up hy1.up h2) ?_); rintro _ w ⟨rfl, H⟩))
      | (refine VcL.guard rfl rfl rfl rfl (fun h => ?_) (fun h => ?_) <;> first | (cases h; done) | (exfalso; simp only [decide_eq_true_eq, decide_eq_false_iff_not, Bool.not_eq_true', Bool.not_eq_false'] at h; omega) | (with_reducible have hp := of_decide_eq_true h) | (with_reducible have hp := of_decide_eq_false h) | (with_reducible have hp := ndec_t h) | (with_reducible have hp := ndec_f h) | skip))
      | (show Vc _ _ _ _ _ _; first
      | refine Vc.seq ?_
      | refine Vc.region ?_
      | refine Vc.condT rfl ?_
      | refine Vc.condF rfl ?_
      | refine Vc.ret ?_
      | refine Vc.skip ?_
      | refine Vc.block ?_
      | refine Vc.exit ?_
      | (refine Vc.cond rfl (fun h => ?_) (fun h => ?_) <;> first | (cases h; done) | (exfalso; simp only [decide_eq_true_eq, decide_eq_false_iff_not, Bool.not_eq_true', Bool.not_eq_false'] at h; omega) | (with_reducible have hp := of_decide_eq_true h) | (with_reducible have hp := of_decide_eq_false h) | (with_reducible have hp := ndec_t h) | (with_reducible have hp := ndec_f h) | skip))
      | (show KSeq _ _ _ _ _ _ _; first
      | refine KSeq.normal ?_
      | refine KSeq.ret ?_
      | refine KSeq.exit ?_)
      | (show KBlock _ _ _ _ _ _; first
      | refine KBlock.normal ?_
      | refine KBlock.here ?_
      | refine KBlock.on rfl ?_
      | refine KBlock.ret ?_)
      | refine KLoop.exit ?_
      | refine KLoop.ret ?_
      | refine KCut.exit ?_
      | refine KCut.ret ?_
      | (show KEnd _ _ _ _ _ _ _; first
      | refine KEnd.fin (Or.inr rfl) ⟨_, (ResL.tmp rfl ResL.nil), ?_⟩
      | refine KEnd.fin (Or.inl rfl) ⟨_, (ResL.tmp rfl ResL.nil), ?_⟩))
    · exact ⟨by rw [decide_eq_false (hne (by assumption))]; rfl, H.drop.drop⟩
    · refine KLoop.again (k + 1) ⟨got_succ rfl (by omega), trivial⟩ ⟨rfl, rfl, rfl, rfl, trivial⟩ ⟨H.drop.drop, hlt, fun j hj => ?_⟩ (by omega)
      rcases Nat.lt_or_ge j k with h1 | h1
      · exact hall j h1
      · obtain rfl : j = k := by omega
        rw [hxe, hye]
        assumption
  · obtain rfl : k = xs.length := by omega
    repeat' (first
      | (show VcL _ _ _ _ _ _ _ _; first
      | refine VcL.pures tabOk rfl ?_
      | refine VcL.nil ?_
      | (show VcL _ _ _ _ (⟨_, .load _ _, _, _, _, _⟩ :: _) _ _ _; first
      | refine VcL.load1 tabOk rfl rfl rfl rfl rfl (by first | exact Holds.cell H rfl | exact Holds.cell (Holds.f1 H) rfl | exact Holds.cell (Holds.f2 H) rfl | exact Holds.cell (Holds.f3 H) rfl | exact Holds.cell (Holds.f4 H) rfl | exact Holds.cell (Holds.f5 H) rfl | exact Holds.cell (Holds.f6 H) rfl | exact RdW.get (by assumption) rfl H | exact RdW.get0 (by assumption) rfl H | exact RdW.get (by assumption) rfl (Holds.drop H) | exact RdW.get0 (by assumption) rfl (Holds.drop H) | exact RdW.get (by assumption) rfl (Holds.drop (Holds.drop H)) | exact RdW.get0 (by assumption) rfl (Holds.drop (Holds.drop H)) | exact RdW.get (by assumption) rfl (Holds.drop (Holds.drop (Holds.drop H))) | exact RdW.get0 (by assumption) rfl (Holds.drop (Holds.drop (Holds.drop H))) | exact Holds.rowCell H (fun _ => rfl) (by first | assumption | exact atD_get (by assumption)) rfl | exact Holds.rowCell0 H (fun _ => rfl) (by first | assumption | exact atD_get (by assumption)) rfl | exact Holds.ownCell H (fun _ => rfl) (by first | assumption | exact atD_get (by assumption)) rfl | exact Holds.ownCell0 H (fun _ => rfl) (by first | assumption | exact atD_get (by assumption)) rfl | exact Holds.rowCell (Holds.f1 H) (fun _ => rfl) (by first | assumption | exact atD_get (by assumption)) rfl | exact Holds.rowCell0 (Holds.f1 H) (fun _ => rfl) (by first | assumption | exact atD_get (by assumption)) rfl | exact Holds.ownCell (Holds.f1 H) (fun _ => rfl) (by first | assumption | exact atD_get (by assumption)) rfl | exact Holds.ownCell0 (Holds.f1 H) (fun _ => rfl) (by first | assumption | exact atD_get (by assumption)) rfl | exact Holds.rowCell (Holds.f2 H) (fun _ => rfl) (by first | assumption | exact atD_get (by assumption)) rfl | exact Holds.rowCell0 (Holds.f2 H) (fun _ => rfl) (by first | assumption | exact atD_get (by assumption)) rfl | exact Holds.ownCell (Holds.f2 H) (fun _ => rfl) (by first | assumption | exact atD_get (by assumption)) rfl | exact Holds.ownCell0 (Holds.f2 H) (fun _ => rfl) (by first | assumption | exact atD_get (by assumption)) rfl | exact Holds.rowCell (Holds.f3 H) (fun _ => rfl) (by first | assumption | exact atD_get (by assumption)) rfl | exact Holds.rowCell0 (Holds.f3 H) (fun _ => rfl) (by first | assumption | exact atD_get (by assumption)) rfl | exact Holds.ownCell (Holds.f3 H) (fun _ => rfl) (by first | assumption | exact atD_get (by assumption)) rfl | exact Holds.ownCell0 (Holds.f3 H) (fun _ => rfl) (by first | assumption | exact atD_get (by assumption)) rfl | exact Holds.rowCell (Holds.f4 H) (fun _ => rfl) (by first | assumption | exact atD_get (by assumption)) rfl | exact Holds.rowCell0 (Holds.f4 H) (fun _ => rfl) (by first | assumption | exact atD_get (by assumption)) rfl | exact Holds.ownCell (Holds.f4 H) (fun _ => rfl) (by first | assumption | exact atD_get (by assumption)) rfl | exact Holds.ownCell0 (Holds.f4 H) (fun _ => rfl) (by first | assumption | exact atD_get (by assumption)) rfl | assumption) ?_
      | refine VcL.loadR tabOk rfl rfl rfl rfl rfl rfl (by first | exact RdW.rd (by assumption) H | exact RdW.rd (by assumption) (Holds.drop H) | exact RdW.rd (by assumption) (Holds.drop (Holds.drop H)) | exact RdW.rd (by assumption) (Holds.drop (Holds.drop (Holds.drop H))) | assumption) rfl ?_
      | refine VcL.loadN tabOk rfl rfl rfl rfl rfl rfl (by first | exact H | exact (Holds.f1 H) | exact (Holds.f2 H) | exact (Holds.f3 H) | exact (Holds.f4 H) | exact (Holds.f5 H) | exact (Holds.f6 H)) (by exact rfl) ?_
      | refine VcL.loadRowN0 tabOk rfl rfl rfl rfl rfl rfl H (fun _ => rfl) (by first | assumption | exact atD_get (by assumption)) (by exact rfl) (by exact rfl) (by exact rfl) ?_
      | refine VcL.loadRowN tabOk rfl rfl rfl rfl rfl rfl H (fun _ => rfl) (by first | assumption | exact atD_get (by assumption)) (by exact rfl) (by exact rfl) (by exact rfl) ?_
      | refine VcL.loadOwnN0 tabOk rfl rfl rfl rfl rfl rfl H (fun _ => rfl) (by first | assumption | exact atD_get (by assumption)) (by exact rfl) (by exact rfl) (by exact rfl) ?_
      | refine VcL.loadOwnN tabOk rfl rfl rfl rfl rfl rfl H (fun _ => rfl) (by first | assumption | exact atD_get (by assumption)) (by exact rfl) (by exact rfl) (by exact rfl) ?_
      | refine VcL.loadRowN0 tabOk rfl rfl rfl rfl rfl rfl (Holds.f1 H) (fun _ => rfl) (by first | assumption | exact atD_get (by assumption)) (by exact rfl) (by exact rfl) (by exact rfl) ?_
      | refine VcL.loadRowN tabOk rfl rfl rfl rfl rfl rfl (Holds.f1 H) (fun _ => rfl) (by first | assumption | exact atD_get (by assumption)) (by exact rfl) (by exact rfl) (by exact rfl) ?_
      | refine VcL.loadOwnN0 tabOk rfl rfl rfl rfl rfl rfl (Holds.f1 H) (fun _ => rfl) (by first | assumption | exact atD_get (by assumption)) (by exact rfl) (by exact rfl) (by exact rfl) ?_
      | refine VcL.loadOwnN tabOk rfl rfl rfl rfl rfl rfl (Holds.f1 H) (fun _ => rfl) (by first | assumption | exact atD_get (by assumption)) (by exact rfl) (by exact rfl) (by exact rfl) ?_
      | refine VcL.loadRowN0 tabOk rfl rfl rfl rfl rfl rfl (Holds.f2 H) (fun _ => rfl) (by first | assumption | exact atD_get (by assumption)) (by exact rfl) (by exact rfl) (by exact rfl) ?_
      | refine VcL.loadRowN tabOk rfl rfl rfl rfl rfl rfl (Holds.f2 H) (fun _ => rfl) (by first | assumption | exact atD_get (by assumption)) (by exact rfl) (by exact rfl) (by exact rfl) ?_
      | refine VcL.loadOwnN0 tabOk rfl rfl rfl rfl rfl rfl (Holds.f2 H) (fun _ => rfl) (by first | assumption | exact atD_get (by assumption)) (by exact rfl) (by exact rfl) (by exact rfl) ?_
      | refine VcL.loadOwnN tabOk rfl rfl rfl rfl rfl rfl (Holds.f2 H) (fun _ => rfl) (by first | assumption | exact atD_get (by assumption)) (by exact rfl) (by exact rfl) (by exact rfl) ?_
      | refine VcL.loadRowN0 tabOk rfl rfl rfl rfl rfl rfl (Holds.f3 H) (fun _ => rfl) (by first | assumption | exact atD_get (by assumption)) (by exact rfl) (by exact rfl) (by exact rfl) ?_
      | refine VcL.loadRowN tabOk rfl rfl rfl rfl rfl rfl (Holds.f3 H) (fun _ => rfl) (by first | assumption | exact atD_get (by assumption)) (by exact rfl) (by exact rfl) (by exact rfl) ?_
      | refine VcL.loadOwnN0 tabOk rfl rfl rfl rfl rfl rfl (Holds.f3 H) (fun _ => rfl) (by first | assumption | exact atD_get (by assumption)) (by exact rfl) (by exact rfl) (by exact rfl) ?_
      | refine VcL.loadOwnN tabOk rfl rfl rfl rfl rfl rfl (Holds.f3 H) (fun _ => rfl) (by first | assumption | exact atD_get (by assumption)) (by exact rfl) (by exact rfl) (by exact rfl) ?_
      | refine VcL.loadRowN0 tabOk rfl rfl rfl rfl rfl rfl (Holds.f4 H) (fun _ => rfl) (by first | assumption | exact atD_get (by assumption)) (by exact rfl) (by exact rfl) (by exact rfl) ?_
      | refine VcL.loadRowN tabOk rfl rfl rfl rfl rfl rfl (Holds.f4 H) (fun _ => rfl) (by first | assumption | exact atD_get (by assumption)) (by exact rfl) (by exact rfl) (by exact rfl) ?_
      | refine VcL.loadOwnN0 tabOk rfl rfl rfl rfl rfl rfl (Holds.f4 H) (fun _ => rfl) (by first | assumption | exact atD_get (by assumption)) (by exact rfl) (by exact rfl) (by exact rfl) ?_
      | refine VcL.loadOwnN tabOk rfl rfl rfl rfl rfl rfl (Holds.f4 H) (fun _ => rfl) (by first | assumption | exact atD_get (by assumption)) (by exact rfl) (by exact rfl) (by exact rfl) ?_)
      | (show VcL _ _ _ _ (⟨_, .binOp _ _ _ _ _, _, _, _, _⟩ :: _) _ _ _; first
      | refine VcL.shl rfl rfl (by first | assumption | rfl) rfl rfl rfl ?_
      | refine VcL.shr rfl rfl (by first | assumption | rfl) rfl rfl rfl ?_
      | refine VcL.eqS tabOk rfl rfl rfl rfl rfl rfl (by kernel_rfl) (by kernel_rfl) rfl rfl (by first | exact .inl rfl | exact .inr rfl) ?_)
      | (show VcL _ _ _ _ (⟨_, .indexAddr _ _ _, _, _, _, _⟩ :: _) _ _ _; first
      | refine VcL.indexAddr0 tabOk rfl rfl rfl rfl rfl rfl (by omega) (by omega) ?_
      | refine VcL.indexAddr tabOk rfl rfl rfl rfl rfl rfl (by omega) (by omega) ?_
      | refine VcL.indexArr0 tabOk rfl rfl rfl rfl rfl rfl (by omega) (by omega) ?_
      | refine VcL.indexArr tabOk rfl rfl rfl rfl rfl rfl (by omega) (by omega) ?_)
      | refine VcL.alloc tabOk H rfl rfl rfl rfl (fun b w H => ?_)
      | (show VcL _ _ _ _ (⟨_, .store _ _ _, _, _, _, _⟩ :: _) _ _ _; first
      | refine VcL.store tabOk rfl (by first | exact H | exact (Holds.f1 H) | exact (Holds.f2 H) | exact (Holds.f3 H) | exact (Holds.f4 H) | exact (Holds.f5 H) | exact (Holds.f6 H)) rfl rfl (by exact rfl) (by exact rfl) (by exact rfl) (by exact rfl) (fun w H => ?_))
      | (show VcL _ _ _ _ (⟨_, .call ⟨.value (.tmp _), _, _⟩, _, _, _, _⟩ :: _) _ _ _; first
      | (refine VcL.callV ok_journal_SameDisk_1 rfl rfl rfl rfl rfl (Rets.mono (Same1_any (x := (n, .slice A5 xd.length c5, xd)) (y := (m, .slice A6 yd.length c6, yd)) H hx1.up.up hy1.up.up h2) ?_); rintro _ w ⟨rfl, H⟩))
      | (show VcL _ _ _ _ (⟨_, .call ⟨.value (.tmp _), _, _⟩, _, _, _, _⟩ :: _) _ _ _; first
      | (refine VcL.callV ok_journal_SameDisk_1 rfl rfl rfl rfl rfl (Rets.mono (Same1_any (x := (n, .slice A5 xd.length c5, xd)) (y := (m, .slice A6 yd.length c6, yd)) H hx1.up hy1.up h2) ?_); rintro _ w ⟨rfl, H⟩))
      | (refine VcL.guard rfl rfl rfl rfl (fun h => ?_) (fun h => ?_) <;> first | (cases h; done) | (exfalso; simp only [decide_eq_true_eq, decide_eq_false_iff_not, Bool.not_eq_true', Bool.not_eq_false'] at h; omega) | (with_reducible have hp := of_decide_eq_true h) | (with_reducible have hp := of_decide_eq_false h) | (with_reducible have hp := ndec_t h) | (with_reducible have hp := ndec_f h) | skip))
      | (show Vc _ _ _ _ _ _; first
      | refine Vc.seq ?_
      | refine Vc.region ?_
      | refine Vc.condT rfl ?_
      | refine Vc.condF rfl ?_
      | refine Vc.ret ?_
      | refine Vc.skip ?_
      | refine Vc.block ?_
      | refine Vc.exit ?_
      | (refine Vc.cond rfl (fun h => ?_) (fun h => ?_) <;> first | (cases h; done) | (exfalso; simp only [decide_eq_true_eq, decide_eq_false_iff_not, Bool.not_eq_true', Bool.not_eq_false'] at h; omega) | (with_reducible have hp := of_decide_eq_true h) | (with_reducible have hp := of_decide_eq_false h) | (with_reducible have hp := ndec_t h) | (with_reducible have hp := ndec_f h) | skip))
      | (show KSeq _ _ _ _ _ _ _; first
      | refine KSeq.normal ?_
      | refine KSeq.ret ?_
      | refine KSeq.exit ?_)
      | (show KBlock _ _ _ _ _ _; first
      | refine KBlock.normal ?_
      | refine KBlock.here ?_
      | refine KBlock.on rfl ?_
      | refine KBlock.ret ?_)
      | refine KLoop.exit ?_
      | refine KLoop.ret ?_
      | refine KCut.exit ?_
      | refine KCut.ret ?_
      | (show KEnd _ _ _ _ _ _ _; first
      | refine KEnd.fin (Or.inr rfl) ⟨_, (ResL.tmp rfl ResL.nil), ?_⟩
      | refine KEnd.fin (Or.inl rfl) ⟨_, (ResL.tmp rfl ResL.nil), ?_⟩))
    exact ⟨by rw [decide_eq_true (map_eq_of hlen hall)]; rfl, H⟩
theorem SlR.via {M : List Asn} {v : Value} {sz n : Nat} {cs : List Value} (H : Holds I w M) (hm : ∀ w, Holds I w M → Holds I w L) (h : SlR I L v sz n cs) : SlR I M v sz n cs := h.more hm
theorem SameDisk_any {a c : Nat} {D C : Dk} (H : Holds I w (dskA a D :: dskA c C :: L)) (hw : D.writes < 2 ^ 40) :
    Rets Try.prog F_journal_SameDisk #[ptr a, ptr c] w fun r w' => r = .bool (decide (D = C)) ∧ Holds I w' (dskA a D :: dskA c C :: L) := by
  obtain ⟨b1, o1, cap1, A2, cap2, P, rfl, hk, hcap, HB⟩ := dsk_open H
  obtain ⟨b3, o3, cap3, A4, cap4, Q, rfl, hq, hcap2, HC⟩ := dsk_open (Holds.re [4] HB rfl)
  clear H HB
  have H := Holds.re [4, 4, 4, 4] HC rfl
  clear HC
  have hwr : P.dk.writes = P.writes := rfl
  rw [hwr] at hw
  have hmany := hk.many
  have hfew := hk.few
  have hst : ∀ w, Holds I w (blk a 76 (dkV P (.slice (some ⟨b1, o1, none⟩) P.bl.length cap1) (.slice A2 P.wt.length cap2)) :: own (.slice (some ⟨b1, o1, none⟩) P.bl.length cap1) 22 1 P.bl.length (P.bl.flatMap bkC) :: own (.slice A2 P.wt.length cap2) 86 2 P.wt.length (P.wt.flatMap wkC) :: bysA P.all :: blk c 76 (dkV Q (.slice (some ⟨b3, o3, none⟩) Q.bl.length cap3) (.slice A4 Q.wt.length cap4)) :: own (.slice (some ⟨b3, o3, none⟩) Q.bl.length cap3) 22 1 Q.bl.length (Q.bl.flatMap bkC) :: own (.slice A4 Q.wt.length cap4) 86 2 Q.wt.length (Q.wt.flatMap wkC) :: bysA Q.all :: L) → Holds I w (dskA a P.dk :: dskA c Q.dk :: L) := fun w H => by
    have H1 := dsk_close P rfl hk.ok H
    exact Holds.swap (dsk_close Q rfl hq.ok (Holds.re [1, 1, 1, 1] H1 rfl))
  have s1 := SlR.via H (fun _ H => Holds.re [1] H rfl) (Holds.own_toR (Holds.re [1] H rfl))
  have s2 := SlR.via H (fun _ H => Holds.re [2] H rfl) (Holds.own_toR (Holds.re [2] H rfl))
  have s3 := SlR.via H (fun _ H => Holds.re [5] H rfl) (Holds.own_toR (Holds.re [5] H rfl))
  have s4 := SlR.via H (fun _ H => Holds.re [6] H rfl) (Holds.own_toR (Holds.re [6] H rfl))
  have d1 := fun (x : Vb) (hx : x ∈ P.all) => SlR.via H (fun _ H => Holds.re [3] H rfl) (bys_rd hx (Holds.re [3] H rfl))
  have d2 := fun (x : Vb) (hx : x ∈ Q.all) => SlR.via H (fun _ H => Holds.re [7] H rfl) (bys_rd hx (Holds.re [7] H rfl))
  have hD : decide (P.dk = Q.dk) = (decide (snds P.bl = snds Q.bl) && decide (prs P.wt = prs Q.wt) && decide (P.writes = Q.writes) && decide (P.stop = Q.stop)) := by
    rw [← Bool.decide_and, ← Bool.decide_and, ← Bool.decide_and]
    refine decide_eq_decide.2 ⟨fun e => ?_, fun ⟨⟨⟨h1, h2⟩, h3⟩, h4⟩ => ?_⟩
    · exact ⟨⟨⟨congrArg Dk.blocks e, congrArg Dk.wait e⟩, congrArg Dk.writes e⟩, congrArg Dk.stop e⟩
    · unfold Kd.dk
      rw [h3, h4]
      show (⟨snds P.bl, prs P.wt, _, _⟩ : Dk) = _
      rw [h1, h2]
  rw [hD]
  refine ok_journal_SameDisk.rets rfl ?_
  repeat' (first
    | (show VcL _ _ _ _ _ _ _ _; first
      | refine VcL.pures tabOk rfl ?_
      | refine VcL.nil ?_
      | (show VcL _ _ _ _ (⟨_, .load _ _, _, _, _, _⟩ :: _) _ _ _; first
      | refine VcL.load1 tabOk rfl rfl rfl rfl rfl (by first | exact Holds.cell H rfl | exact Holds.cell (Holds.f1 H) rfl | exact Holds.cell (Holds.f2 H) rfl | exact Holds.cell (Holds.f3 H) rfl | exact Holds.cell (Holds.f4 H) rfl | exact Holds.cell (Holds.f5 H) rfl | exact Holds.cell (Holds.f6 H) rfl | exact RdW.get (by assumption) rfl H | exact RdW.get0 (by assumption) rfl H | exact RdW.get (by assumption) rfl (Holds.drop H) | exact RdW.get0 (by assumption) rfl (Holds.drop H) | exact RdW.get (by assumption) rfl (Holds.drop (Holds.drop H)) | exact RdW.get0 (by assumption) rfl (Holds.drop (Holds.drop H)) | exact RdW.get (by assumption) rfl (Holds.drop (Holds.drop (Holds.drop H))) | exact RdW.get0 (by assumption) rfl (Holds.drop (Holds.drop (Holds.drop H))) | exact Holds.rowCell H (fun _ => rfl) (by first | assumption | exact atD_get (by assumption)) rfl | exact Holds.rowCell0 H (fun _ => rfl) (by first | assumption | exact atD_get (by assumption)) rfl | exact Holds.ownCell H (fun _ => rfl) (by first | assumption | exact atD_get (by assumption)) rfl | exact Holds.ownCell0 H (fun _ => rfl) (by first | assumption | exact atD_get (by assumption)) rfl | exact Holds.rowCell (Holds.f1 H) (fun _ => rfl) (by first | assumption | exact atD_get (by assumption)) rfl | exact Holds.rowCell0 (Holds.f1 H) (fun _ => rfl) (by first | assumption | exact atD_get (by assumption)) rfl | exact Holds.ownCell (Holds.f1 H) (fun _ => rfl) (by first | assumption | exact atD_get (by assumption)) rfl | exact Holds.ownCell0 (Holds.f1 H) (fun _ => rfl) (by first | assumption | exact atD_get (by assumption)) rfl | exact Holds.rowCell (Holds.f2 H) (fun _ => rfl) (by first | assumption | exact atD_get (by assumption)) rfl | exact Holds.rowCell0 (Holds.f2 H) (fun _ => rfl) (by first | assumption | exact atD_get (by assumption)) rfl | exact Holds.ownCell (Holds.f2 H) (fun _ => rfl) (by first | assumption | exact atD_get (by assumption)) rfl | exact Holds.ownCell0 (Holds.f2 H) (fun _ => rfl) (by first | assumption | exact atD_get (by assumption)) rfl | exact Holds.rowCell (Holds.f3 H) (fun _ => rfl) (by first | assumption | exact atD_get (by assumption)) rfl | exact Holds.rowCell0 (Holds.f3 H) (fun _ => rfl) (by first | assumption | exact atD_get (by assumption)) rfl | exact Holds.ownCell (Holds.f3 H) (fun _ => rfl) (by first | assumption | exact atD_get (by assumption)) rfl | exact Holds.ownCell0 (Holds.f3 H) (fun _ => rfl) (by first | assumption | exact atD_get (by assumption)) rfl | exact Holds.rowCell (Holds.f4 H) (fun _ => rfl) (by first | assumption | exact atD_get (by assumption)) rfl | exact Holds.rowCell0 (Holds.f4 H) (fun _ => rfl) (by first | assumption | exact atD_get (by assumption)) rfl | exact Holds.ownCell (Holds.f4 H) (fun _ => rfl) (by first | assumption | exact atD_get (by assumption)) rfl | exact Holds.ownCell0 (Holds.f4 H) (fun _ => rfl) (by first | assumption | exact atD_get (by assumption)) rfl | assumption) ?_
      | refine VcL.loadR tabOk rfl rfl rfl rfl rfl rfl (by first | exact RdW.rd (by assumption) H | exact RdW.rd (by assumption) (Holds.drop H) | exact RdW.rd (by assumption) (Holds.drop (Holds.drop H)) | exact RdW.rd (by assumption) (Holds.drop (Holds.drop (Holds.drop H))) | assumption) rfl ?_
      | refine VcL.loadN tabOk rfl rfl rfl rfl rfl rfl (by first | exact H | exact (Holds.f1 H) | exact (Holds.f2 H) | exact (Holds.f3 H) | exact (Holds.f4 H) | exact (Holds.f5 H) | exact (Holds.f6 H)) (by exact rfl) ?_
      | refine VcL.loadRowN0 tabOk rfl rfl rfl rfl rfl rfl H (fun _ => rfl) (by first | assumption | exact atD_get (by assumption)) (by exact rfl) (by exact rfl) (by exact rfl) ?_
      | refine VcL.loadRowN tabOk rfl rfl rfl rfl rfl rfl H (fun _ => rfl) (by first | assumption | exact atD_get (by assumption)) (by exact rfl) (by exact rfl) (by exact rfl) ?_
      | refine VcL.loadOwnN0 tabOk rfl rfl rfl rfl rfl rfl H (fun _ => rfl) (by first | assumption | exact atD_get (by assumption)) (by exact rfl) (by exact rfl) (by exact rfl) ?_
      | refine VcL.loadOwnN tabOk rfl rfl rfl rfl rfl rfl H (fun _ => rfl) (by first | assumption | exact atD_get (by assumption)) (by exact rfl) (by exact rfl) (by exact rfl) ?_
      | refine VcL.loadRowN0 tabOk rfl rfl rfl rfl rfl rfl (Holds.f1 H) (fun _ => rfl) (by first | assumption | exact atD_get (by assumption)) (by exact rfl) (by exact rfl) (by exact rfl) ?_
      | refine VcL.loadRowN tabOk rfl rfl rfl rfl rfl rfl (Holds.f1 H) (fun _ => rfl) (by first | assumption | exact atD_get (by assumption)) (by exact rfl) (by exact rfl) (by exact rfl) ?_
      | refine VcL.loadOwnN0 tabOk rfl rfl rfl rfl rfl rfl (Holds.f1 H) (fun _ => rfl) (by first | assumption | exact atD_get (by assumption)) (by exact rfl) (by exact rfl) (by exact rfl) ?_
      | refine VcL.loadOwnN tabOk rfl rfl rfl rfl rfl rfl (Holds.f1 H) (fun _ => rfl) (by first | assumption | exact atD_get (by assumption)) (by exact rfl) (by exact rfl) (by exact rfl) ?_
      | refine VcL.loadRowN0 tabOk rfl rfl rfl rfl rfl rfl (Holds.f2 H) (fun _ => rfl) (by first | assumption | exact atD_get (by assumption)) (by exact rfl) (by exact rfl) (by exact rfl) ?_
      | refine VcL.loadRowN tabOk rfl rfl rfl rfl rfl rfl (Holds.f2 H) (fun _ => rfl) (by first | assumption | exact atD_get (by assumption)) (by exact rfl) (by exact rfl) (by exact rfl) ?_
      | refine VcL.loadOwnN0 tabOk rfl rfl rfl rfl rfl rfl (Holds.f2 H) (fun _ => rfl) (by first | assumption | exact atD_get (by assumption)) (by exact rfl) (by exact rfl) (by exact rfl) ?_
      | refine VcL.loadOwnN tabOk rfl rfl rfl rfl rfl rfl (Holds.f2 H) (fun _ => rfl) (by first | assumption | exact atD_get (by assumption)) (by exact rfl) (by exact rfl) (by exact rfl) ?_
      | refine VcL.loadRowN0 tabOk rfl rfl rfl rfl rfl rfl (Holds.f3 H) (fun _ => rfl) (by first | assumption | exact atD_get (by assumption)) (by exact rfl) (by exact rfl) (by exact rfl) ?_
      | refine VcL.loadRowN tabOk rfl rfl rfl rfl rfl rfl (Holds.f3 H) (fun _ => rfl) (by first | assumption | exact atD_get (by assumption)) (by exact rfl) (by exact rfl) (by exact rfl) ?_
      | refine VcL.loadOwnN0 tabOk rfl rfl rfl rfl rfl rfl (Holds.f3 H) (fun _ => rfl) (by first | assumption | exact atD_get (by assumption)) (by exact rfl) (by exact rfl) (by exact rfl) ?_
      | refine VcL.loadOwnN tabOk rfl rfl rfl rfl rfl rfl (Holds.f3 H) (fun _ => rfl) (by first | assumption | exact atD_get (by assumption)) (by exact rfl) (by exact rfl) (by exact rfl) ?_
      | refine VcL.loadRowN0 tabOk rfl rfl rfl rfl rfl rfl (Holds.f4 H) (fun _ => rfl) (by first | assumption | exact atD_get (by assumption)) (by exact rfl) (by exact rfl) (by exact rfl) ?_
      | refine VcL.loadRowN tabOk rfl rfl rfl rfl rfl rfl (Holds.f4 H) (fun _ => rfl) (by first | assumption | exact atD_get (by assumption)) (by exact rfl) (by exact rfl) (by exact rfl) ?_
      | refine VcL.loadOwnN0 tabOk rfl rfl rfl rfl rfl rfl (Holds.f4 H) (fun _ => rfl) (by first | assumption | exact atD_get (by assumption)) (by exact rfl) (by exact rfl) (by exact rfl) ?_
      | refine VcL.loadOwnN tabOk rfl rfl rfl rfl rfl rfl (Holds.f4 H) (fun _ => rfl) (by first | assumption | exact atD_get (by assumption)) (by exact rfl) (by exact rfl) (by exact rfl) ?_)
      | (show VcL _ _ _ _ (⟨_, .binOp _ _ _ _ _, _, _, _, _⟩ :: _) _ _ _; first
      | refine VcL.shl rfl rfl (by first | assumption | rfl) rfl rfl rfl ?_
      | refine VcL.shr rfl rfl (by first | assumption | rfl) rfl rfl rfl ?_
      | refine VcL.eqS tabOk rfl rfl rfl rfl rfl rfl (by kernel_rfl) (by kernel_rfl) rfl rfl (by first | exact .inl rfl | exact .inr rfl) ?_)
      | (show VcL _ _ _ _ (⟨_, .call ⟨.value (.func F_journal_Disk_none), _, _⟩, _, _, _, _⟩ :: _) _ _ _; first
      | (refine VcL.callF ok_journal_Disk_none rfl rfl rfl rfl (Rets.mono (noneD_any H Holds.toW hk.some) ?_); rintro _ w ⟨rfl, H⟩))
      | (show VcL _ _ _ _ (⟨_, .call ⟨.value (.func F_journal_Disk_none), _, _⟩, _, _, _, _⟩ :: _) _ _ _; first
      | (refine VcL.callF ok_journal_Disk_none rfl rfl rfl rfl (Rets.mono (noneD_any (Holds.re [4] H rfl) Holds.toW hq.some) ?_); rintro _ w ⟨rfl, H⟩; have H := Holds.re [1, 1, 1, 1] H rfl))
      | (show VcL _ _ _ _ (⟨_, .call ⟨.value (.func F_slices_EqualFunc_byte_byte_byte_byte), _, _⟩, _, _, _, _⟩ :: _) _ _ _; first
      | (refine VcL.callF ok_slices_EqualFunc_byte_byte_byte_byte rfl rfl rfl rfl (Rets.mono (EqB_any H s1 s3 (fun x hx => d1 x (List.mem_append_left _ hx)) (fun x hx => d2 x (List.mem_append_left _ hx)) (by omega) hk.bl) ?_); rintro _ w ⟨rfl, H⟩))
      | (show VcL _ _ _ _ (⟨_, .call ⟨.value (.func F_slices_EqualFunc_api_Write_api_Write_api_Write_api_Write), _, _⟩, _, _, _, _⟩ :: _) _ _ _; first
      | (refine VcL.callF ok_slices_EqualFunc_api_Write_api_Write_api_Write_api_Write rfl rfl rfl rfl (Rets.mono (EqW_any H s2 s4 (fun x hx => d1 x.2 (List.mem_append_right _ (List.mem_map_of_mem hx))) (fun x hx => d2 x.2 (List.mem_append_right _ (List.mem_map_of_mem hx))) (by omega) (fun x hx => (hk.wt x hx).2)) ?_); rintro _ w ⟨rfl, H⟩))
      | (refine VcL.guard rfl rfl rfl rfl (fun h => ?_) (fun h => ?_) <;> first | (cases h; done) | (exfalso; simp only [decide_eq_true_eq, decide_eq_false_iff_not, Bool.not_eq_true', Bool.not_eq_false'] at h; omega) | (with_reducible have hp := of_decide_eq_true h) | (with_reducible have hp := of_decide_eq_false h) | (with_reducible have hp := ndec_t h) | (with_reducible have hp := ndec_f h) | skip))
    | (show VcD _ _ _ _ _ _ _ _ _; first
      | refine VcD.pures tabOk rfl ?_
      | refine VcD.done ?_
      | (show VcD _ _ _ _ _ (.pure _ _) _ _ _; first
      | refine VcD.shl rfl rfl rfl (by first | assumption | rfl) rfl rfl rfl ?_
      | refine VcD.shr rfl rfl rfl (by first | assumption | rfl) rfl rfl rfl ?_
      | refine VcD.eqS tabOk rfl rfl rfl rfl rfl rfl rfl (by kernel_rfl) (by kernel_rfl) rfl rfl (by first | exact .inl rfl | exact .inr rfl) ?_
      | (refine VcD.guardP rfl rfl rfl rfl rfl (fun h => ?_) (fun h => ?_) <;> first | (cases h; done) | (exfalso; simp only [decide_eq_true_eq, decide_eq_false_iff_not, Bool.not_eq_true', Bool.not_eq_false'] at h; omega) | (with_reducible have hp := of_decide_eq_true h) | (with_reducible have hp := of_decide_eq_false h) | (with_reducible have hp := ndec_t h) | (with_reducible have hp := ndec_f h) | skip))
      | (show VcD _ _ _ _ _ (.take _ _) _ _ _; first
      | refine VcD.load1 tabOk rfl rfl rfl rfl rfl rfl (by intro w_ hw_; first | exact Holds.cell hw_ rfl | exact Holds.cell (Holds.f1 hw_) rfl | exact Holds.cell (Holds.f2 hw_) rfl | exact Holds.cell (Holds.f3 hw_) rfl | exact Holds.cell (Holds.f4 hw_) rfl | exact Holds.cell (Holds.f5 hw_) rfl | exact Holds.cell (Holds.f6 hw_) rfl | exact RdW.get (by assumption) rfl hw_ | exact RdW.get0 (by assumption) rfl hw_ | exact RdW.get (by assumption) rfl (Holds.drop hw_) | exact RdW.get0 (by assumption) rfl (Holds.drop hw_) | exact RdW.get (by assumption) rfl (Holds.drop (Holds.drop hw_)) | exact RdW.get0 (by assumption) rfl (Holds.drop (Holds.drop hw_)) | exact RdW.get (by assumption) rfl (Holds.drop (Holds.drop (Holds.drop hw_))) | exact RdW.get0 (by assumption) rfl (Holds.drop (Holds.drop (Holds.drop hw_))) | exact Holds.rowCell hw_ (fun _ => rfl) (by first | assumption | exact atD_get (by assumption)) rfl | exact Holds.rowCell0 hw_ (fun _ => rfl) (by first | assumption | exact atD_get (by assumption)) rfl | exact Holds.ownCell hw_ (fun _ => rfl) (by first | assumption | exact atD_get (by assumption)) rfl | exact Holds.ownCell0 hw_ (fun _ => rfl) (by first | assumption | exact atD_get (by assumption)) rfl | exact Holds.rowCell (Holds.f1 hw_) (fun _ => rfl) (by first | assumption | exact atD_get (by assumption)) rfl | exact Holds.rowCell0 (Holds.f1 hw_) (fun _ => rfl) (by first | assumption | exact atD_get (by assumption)) rfl | exact Holds.ownCell (Holds.f1 hw_) (fun _ => rfl) (by first | assumption | exact atD_get (by assumption)) rfl | exact Holds.ownCell0 (Holds.f1 hw_) (fun _ => rfl) (by first | assumption | exact atD_get (by assumption)) rfl | exact Holds.rowCell (Holds.f2 hw_) (fun _ => rfl) (by first | assumption | exact atD_get (by assumption)) rfl | exact Holds.rowCell0 (Holds.f2 hw_) (fun _ => rfl) (by first | assumption | exact atD_get (by assumption)) rfl | exact Holds.ownCell (Holds.f2 hw_) (fun _ => rfl) (by first | assumption | exact atD_get (by assumption)) rfl | exact Holds.ownCell0 (Holds.f2 hw_) (fun _ => rfl) (by first | assumption | exact atD_get (by assumption)) rfl | exact Holds.rowCell (Holds.f3 hw_) (fun _ => rfl) (by first | assumption | exact atD_get (by assumption)) rfl | exact Holds.rowCell0 (Holds.f3 hw_) (fun _ => rfl) (by first | assumption | exact atD_get (by assumption)) rfl | exact Holds.ownCell (Holds.f3 hw_) (fun _ => rfl) (by first | assumption | exact atD_get (by assumption)) rfl | exact Holds.ownCell0 (Holds.f3 hw_) (fun _ => rfl) (by first | assumption | exact atD_get (by assumption)) rfl | exact Holds.rowCell (Holds.f4 hw_) (fun _ => rfl) (by first | assumption | exact atD_get (by assumption)) rfl | exact Holds.rowCell0 (Holds.f4 hw_) (fun _ => rfl) (by first | assumption | exact atD_get (by assumption)) rfl | exact Holds.ownCell (Holds.f4 hw_) (fun _ => rfl) (by first | assumption | exact atD_get (by assumption)) rfl | exact Holds.ownCell0 (Holds.f4 hw_) (fun _ => rfl) (by first | assumption | exact atD_get (by assumption)) rfl | exact hw_ _ _ rfl | exact hw_ 0 _ rfl | exact hw_.1 _ _ rfl | exact hw_.1 0 _ rfl | exact hw_.2 _ _ rfl | exact hw_.2 0 _ rfl | assumption) (by exact rfl) ?_
      | refine VcD.loadR tabOk rfl rfl rfl rfl rfl rfl rfl (by intro w_ hw_; first | exact RdW.rd (by assumption) hw_ | exact RdW.rd (by assumption) (Holds.drop hw_) | exact RdW.rd (by assumption) (Holds.drop (Holds.drop hw_)) | exact RdW.rd (by assumption) (Holds.drop (Holds.drop (Holds.drop hw_))) | exact hw_.1 | exact hw_.2 | assumption) rfl ?_
      | refine VcD.loadRowN0 tabOk rfl rfl rfl rfl rfl rfl rfl (fun _ hw_ => hw_) (fun _ => rfl) (by first | assumption | exact atD_get (by assumption)) (by exact rfl) (by exact rfl) (by exact rfl) ?_
      | refine VcD.loadRowN tabOk rfl rfl rfl rfl rfl rfl rfl (fun _ hw_ => hw_) (fun _ => rfl) (by first | assumption | exact atD_get (by assumption)) (by exact rfl) (by exact rfl) (by exact rfl) ?_
      | refine VcD.loadRowN0 tabOk rfl rfl rfl rfl rfl rfl rfl (fun _ hw_ => (Holds.f1 hw_)) (fun _ => rfl) (by first | assumption | exact atD_get (by assumption)) (by exact rfl) (by exact rfl) (by exact rfl) ?_
      | refine VcD.loadRowN tabOk rfl rfl rfl rfl rfl rfl rfl (fun _ hw_ => (Holds.f1 hw_)) (fun _ => rfl) (by first | assumption | exact atD_get (by assumption)) (by exact rfl) (by exact rfl) (by exact rfl) ?_
      | refine VcD.loadRowN0 tabOk rfl rfl rfl rfl rfl rfl rfl (fun _ hw_ => (Holds.f2 hw_)) (fun _ => rfl) (by first | assumption | exact atD_get (by assumption)) (by exact rfl) (by exact rfl) (by exact rfl) ?_
      | refine VcD.loadRowN tabOk rfl rfl rfl rfl rfl rfl rfl (fun _ hw_ => (Holds.f2 hw_)) (fun _ => rfl) (by first | assumption | exact atD_get (by assumption)) (by exact rfl) (by exact rfl) (by exact rfl) ?_
      | refine VcD.loadRowN0 tabOk rfl rfl rfl rfl rfl rfl rfl (fun _ hw_ => (Holds.f3 hw_)) (fun _ => rfl) (by first | assumption | exact atD_get (by assumption)) (by exact rfl) (by exact rfl) (by exact rfl) ?_
      | refine VcD.loadRowN tabOk rfl rfl rfl rfl rfl rfl rfl (fun _ hw_ => (Holds.f3 hw_)) (fun _ => rfl) (by first | assumption | exact atD_get (by assumption)) (by exact rfl) (by exact rfl) (by exact rfl) ?_
      | refine VcD.loadRowN0 tabOk rfl rfl rfl rfl rfl rfl rfl (fun _ hw_ => (Holds.f4 hw_)) (fun _ => rfl) (by first | assumption | exact atD_get (by assumption)) (by exact rfl) (by exact rfl) (by exact rfl) ?_
      | refine VcD.loadRowN tabOk rfl rfl rfl rfl rfl rfl rfl (fun _ hw_ => (Holds.f4 hw_)) (fun _ => rfl) (by first | assumption | exact atD_get (by assumption)) (by exact rfl) (by exact rfl) (by exact rfl) ?_
      | refine VcD.loadN tabOk rfl rfl rfl rfl rfl rfl rfl (by intro w_ hw_; first | exact hw_ | exact (Holds.f1 hw_) | exact (Holds.f2 hw_) | exact (Holds.f3 hw_) | exact (Holds.f4 hw_) | exact (Holds.f5 hw_) | exact (Holds.f6 hw_)) (by exact rfl) ?_
      | refine VcD.skipT rfl rfl rfl ?_
      | (refine VcD.guardT rfl rfl rfl rfl rfl (fun h => ?_) (fun h => ?_) <;> first | (cases h; done) | (exfalso; simp only [decide_eq_true_eq, decide_eq_false_iff_not, Bool.not_eq_true', Bool.not_eq_false'] at h; omega) | (with_reducible have hp := of_decide_eq_true h) | (with_reducible have hp := of_decide_eq_false h) | (with_reducible have hp := ndec_t h) | (with_reducible have hp := ndec_f h) | skip))
      | (show VcD _ _ _ _ _ (.only _ _) _ _ _; first
      | (refine VcD.callF (f := F_journal_Disk_none) rfl ok_journal_Disk_none rfl rfl rfl rfl (Rets.mono (noneD_any H Holds.toW hk.some) ?_); rintro _ w ⟨rfl, H⟩; refine ⟨(by first | exact H | exact Holds.drop H | exact Holds.drop (Holds.drop H) | exact Holds.drop (Holds.swap H) | exact Holds.rdWhole H | exact Holds.rdWhole (Holds.f1 H) | exact Holds.rdWhole (Holds.f2 H) | exact Holds.rdWhole (Holds.f3 H) | exact Holds.rdWhole (Holds.f4 H) | exact Holds.rdWhole (Holds.f5 H) | exact Holds.rdWhole (Holds.f6 H) | trivial | assumption | exact RdI.rd (by assumption) H | exact RdW.rd (by assumption) H | exact RdW.rd (by assumption) (Holds.drop H) | exact RdW.rd (by assumption) (Holds.drop (Holds.drop H)) | exact RdW.rd (by assumption) (Holds.drop (Holds.drop (Holds.drop H))) | exact RdW.rd (by assumption) (Holds.drop (Holds.drop (Holds.drop (Holds.drop H)))) | exact RdW.rd (by assumption) (Holds.drop (Holds.drop (Holds.drop (Holds.drop (Holds.drop H))))) | exact RdW.rd (by assumption) (Holds.drop (Holds.drop (Holds.drop (Holds.drop (Holds.drop (Holds.drop H)))))) | (refine ⟨?_, ?_⟩ <;> first | exact Holds.rdWhole H | exact Holds.rdWhole (Holds.f1 H) | exact Holds.rdWhole (Holds.f2 H) | exact Holds.rdWhole (Holds.f3 H) | exact Holds.rdWhole (Holds.f4 H) | exact Holds.rdWhole (Holds.f5 H) | exact Holds.rdWhole (Holds.f6 H) | exact RdI.rd (by assumption) H | exact RdW.rd (by assumption) H | exact RdW.rd (by assumption) (Holds.drop H) | exact RdW.rd (by assumption) (Holds.drop (Holds.drop H)) | exact RdW.rd (by assumption) (Holds.drop (Holds.drop (Holds.drop H))) | exact RdW.rd (by assumption) (Holds.drop (Holds.drop (Holds.drop (Holds.drop H)))) | exact RdW.rd (by assumption) (Holds.drop (Holds.drop (Holds.drop (Holds.drop (Holds.drop H))))) | exact RdW.rd (by assumption) (Holds.drop (Holds.drop (Holds.drop (Holds.drop (Holds.drop (Holds.drop H)))))))), ?_⟩)
      | (refine VcD.callF (f := F_journal_Disk_none) rfl ok_journal_Disk_none rfl rfl rfl rfl (Rets.mono (noneD_any (Holds.re [4] H rfl) Holds.toW hq.some) ?_); rintro _ w ⟨rfl, H⟩; have H := Holds.re [1, 1, 1, 1] H rfl; refine ⟨(by first | exact H | exact Holds.drop H | exact Holds.drop (Holds.drop H) | exact Holds.drop (Holds.swap H) | exact Holds.rdWhole H | exact Holds.rdWhole (Holds.f1 H) | exact Holds.rdWhole (Holds.f2 H) | exact Holds.rdWhole (Holds.f3 H) | exact Holds.rdWhole (Holds.f4 H) | exact Holds.rdWhole (Holds.f5 H) | exact Holds.rdWhole (Holds.f6 H) | trivial | assumption | exact RdI.rd (by assumption) H | exact RdW.rd (by assumption) H | exact RdW.rd (by assumption) (Holds.drop H) | exact RdW.rd (by assumption) (Holds.drop (Holds.drop H)) | exact RdW.rd (by assumption) (Holds.drop (Holds.drop (Holds.drop H))) | exact RdW.rd (by assumption) (Holds.drop (Holds.drop (Holds.drop (Holds.drop H)))) | exact RdW.rd (by assumption) (Holds.drop (Holds.drop (Holds.drop (Holds.drop (Holds.drop H))))) | exact RdW.rd (by assumption) (Holds.drop (Holds.drop (Holds.drop (Holds.drop (Holds.drop (Holds.drop H)))))) | (refine ⟨?_, ?_⟩ <;> first | exact Holds.rdWhole H | exact Holds.rdWhole (Holds.f1 H) | exact Holds.rdWhole (Holds.f2 H) | exact Holds.rdWhole (Holds.f3 H) | exact Holds.rdWhole (Holds.f4 H) | exact Holds.rdWhole (Holds.f5 H) | exact Holds.rdWhole (Holds.f6 H) | exact RdI.rd (by assumption) H | exact RdW.rd (by assumption) H | exact RdW.rd (by assumption) (Holds.drop H) | exact RdW.rd (by assumption) (Holds.drop (Holds.drop H)) | exact RdW.rd (by assumption) (Holds.drop (Holds.drop (Holds.drop H))) | exact RdW.rd (by assumption) (Holds.drop (Holds.drop (Holds.drop (Holds.drop H)))) | exact RdW.rd (by assumption) (Holds.drop (Holds.drop (Holds.drop (Holds.drop (Holds.drop H))))) | exact RdW.rd (by assumption) (Holds.drop (Holds.drop (Holds.drop (Holds.drop (Holds.drop (Holds.drop H)))))))), ?_⟩)
      | (refine VcD.callF (f := F_slices_EqualFunc_byte_byte_byte_byte) rfl ok_slices_EqualFunc_byte_byte_byte_byte rfl rfl rfl rfl (Rets.mono (EqB_any H s1 s3 (fun x hx => d1 x (List.mem_append_left _ hx)) (fun x hx => d2 x (List.mem_append_left _ hx)) (by omega) hk.bl) ?_); rintro _ w ⟨rfl, H⟩; refine ⟨(by first | exact H | exact Holds.drop H | exact Holds.drop (Holds.drop H) | exact Holds.drop (Holds.swap H) | exact Holds.rdWhole H | exact Holds.rdWhole (Holds.f1 H) | exact Holds.rdWhole (Holds.f2 H) | exact Holds.rdWhole (Holds.f3 H) | exact Holds.rdWhole (Holds.f4 H) | exact Holds.rdWhole (Holds.f5 H) | exact Holds.rdWhole (Holds.f6 H) | trivial | assumption | exact RdI.rd (by assumption) H | exact RdW.rd (by assumption) H | exact RdW.rd (by assumption) (Holds.drop H) | exact RdW.rd (by assumption) (Holds.drop (Holds.drop H)) | exact RdW.rd (by assumption) (Holds.drop (Holds.drop (Holds.drop H))) | exact RdW.rd (by assumption) (Holds.drop (Holds.drop (Holds.drop (Holds.drop H)))) | exact RdW.rd (by assumption) (Holds.drop (Holds.drop (Holds.drop (Holds.drop (Holds.drop H))))) | exact RdW.rd (by assumption) (Holds.drop (Holds.drop (Holds.drop (Holds.drop (Holds.drop (Holds.drop H)))))) | (refine ⟨?_, ?_⟩ <;> first | exact Holds.rdWhole H | exact Holds.rdWhole (Holds.f1 H) | exact Holds.rdWhole (Holds.f2 H) | exact Holds.rdWhole (Holds.f3 H) | exact Holds.rdWhole (Holds.f4 H) | exact Holds.rdWhole (Holds.f5 H) | exact Holds.rdWhole (Holds.f6 H) | exact RdI.rd (by assumption) H | exact RdW.rd (by assumption) H | exact RdW.rd (by assumption) (Holds.drop H) | exact RdW.rd (by assumption) (Holds.drop (Holds.drop H)) | exact RdW.rd (by assumption) (Holds.drop (Holds.drop (Holds.drop H))) | exact RdW.rd (by assumption) (Holds.drop (Holds.drop (Holds.drop (Holds.drop H)))) | exact RdW.rd (by assumption) (Holds.drop (Holds.drop (Holds.drop (Holds.drop (Holds.drop H))))) | exact RdW.rd (by assumption) (Holds.drop (Holds.drop (Holds.drop (Holds.drop (Holds.drop (Holds.drop H)))))))), ?_⟩)
      | (refine VcD.callF (f := F_slices_EqualFunc_api_Write_api_Write_api_Write_api_Write) rfl ok_slices_EqualFunc_api_Write_api_Write_api_Write_api_Write rfl rfl rfl rfl (Rets.mono (EqW_any H s2 s4 (fun x hx => d1 x.2 (List.mem_append_right _ (List.mem_map_of_mem hx))) (fun x hx => d2 x.2 (List.mem_append_right _ (List.mem_map_of_mem hx))) (by omega) (fun x hx => (hk.wt x hx).2)) ?_); rintro _ w ⟨rfl, H⟩; refine ⟨(by first | exact H | exact Holds.drop H | exact Holds.drop (Holds.drop H) | exact Holds.drop (Holds.swap H) | exact Holds.rdWhole H | exact Holds.rdWhole (Holds.f1 H) | exact Holds.rdWhole (Holds.f2 H) | exact Holds.rdWhole (Holds.f3 H) | exact Holds.rdWhole (Holds.f4 H) | exact Holds.rdWhole (Holds.f5 H) | exact Holds.rdWhole (Holds.f6 H) | trivial | assumption | exact RdI.rd (by assumption) H | exact RdW.rd (by assumption) H | exact RdW.rd (by assumption) (Holds.drop H) | exact RdW.rd (by assumption) (Holds.drop (Holds.drop H)) | exact RdW.rd (by assumption) (Holds.drop (Holds.drop (Holds.drop H))) | exact RdW.rd (by assumption) (Holds.drop (Holds.drop (Holds.drop (Holds.drop H)))) | exact RdW.rd (by assumption) (Holds.drop (Holds.drop (Holds.drop (Holds.drop (Holds.drop H))))) | exact RdW.rd (by assumption) (Holds.drop (Holds.drop (Holds.drop (Holds.drop (Holds.drop (Holds.drop H)))))) | (refine ⟨?_, ?_⟩ <;> first | exact Holds.rdWhole H | exact Holds.rdWhole (Holds.f1 H) | exact Holds.rdWhole (Holds.f2 H) | exact Holds.rdWhole (Holds.f3 H) | exact Holds.rdWhole (Holds.f4 H) | exact Holds.rdWhole (Holds.f5 H) | exact Holds.rdWhole (Holds.f6 H) | exact RdI.rd (by assumption) H | exact RdW.rd (by assumption) H | exact RdW.rd (by assumption) (Holds.drop H) | exact RdW.rd (by assumption) (Holds.drop (Holds.drop H)) | exact RdW.rd (by assumption) (Holds.drop (Holds.drop (Holds.drop H))) | exact RdW.rd (by assumption) (Holds.drop (Holds.drop (Holds.drop (Holds.drop H)))) | exact RdW.rd (by assumption) (Holds.drop (Holds.drop (Holds.drop (Holds.drop (Holds.drop H))))) | exact RdW.rd (by assumption) (Holds.drop (Holds.drop (Holds.drop (Holds.drop (Holds.drop (Holds.drop H)))))))), ?_⟩)
      | refine VcD.skip rfl rfl rfl (by first | exact H | exact Holds.drop H | exact Holds.drop (Holds.drop H) | exact Holds.drop (Holds.swap H) | exact Holds.rdWhole H | exact Holds.rdWhole (Holds.f1 H) | exact Holds.rdWhole (Holds.f2 H) | exact Holds.rdWhole (Holds.f3 H) | exact Holds.rdWhole (Holds.f4 H) | exact Holds.rdWhole (Holds.f5 H) | exact Holds.rdWhole (Holds.f6 H) | trivial | assumption | exact RdI.rd (by assumption) H | exact RdW.rd (by assumption) H | exact RdW.rd (by assumption) (Holds.drop H) | exact RdW.rd (by assumption) (Holds.drop (Holds.drop H)) | exact RdW.rd (by assumption) (Holds.drop (Holds.drop (Holds.drop H))) | exact RdW.rd (by assumption) (Holds.drop (Holds.drop (Holds.drop (Holds.drop H)))) | exact RdW.rd (by assumption) (Holds.drop (Holds.drop (Holds.drop (Holds.drop (Holds.drop H))))) | exact RdW.rd (by assumption) (Holds.drop (Holds.drop (Holds.drop (Holds.drop (Holds.drop (Holds.drop H)))))) | (refine ⟨?_, ?_⟩ <;> first | exact Holds.rdWhole H | exact Holds.rdWhole (Holds.f1 H) | exact Holds.rdWhole (Holds.f2 H) | exact Holds.rdWhole (Holds.f3 H) | exact Holds.rdWhole (Holds.f4 H) | exact Holds.rdWhole (Holds.f5 H) | exact Holds.rdWhole (Holds.f6 H) | exact RdI.rd (by assumption) H | exact RdW.rd (by assumption) H | exact RdW.rd (by assumption) (Holds.drop H) | exact RdW.rd (by assumption) (Holds.drop (Holds.drop H)) | exact RdW.rd (by assumption) (Holds.drop (Holds.drop (Holds.drop H))) | exact RdW.rd (by assumption) (Holds.drop (Holds.drop (Holds.drop (Holds.drop H)))) | exact RdW.rd (by assumption) (Holds.drop (Holds.drop (Holds.drop (Holds.drop (Holds.drop H))))) | exact RdW.rd (by assumption) (Holds.drop (Holds.drop (Holds.drop (Holds.drop (Holds.drop (Holds.drop H)))))))) ?_
      | (refine VcD.guardO rfl rfl rfl rfl rfl (fun h => ?_) (fun h => ?_) <;> first | (cases h; done) | (exfalso; simp only [decide_eq_true_eq, decide_eq_false_iff_not, Bool.not_eq_true', Bool.not_eq_false'] at h; omega) | (with_reducible have hp := of_decide_eq_true h) | (with_reducible have hp := of_decide_eq_false h) | (with_reducible have hp := ndec_t h) | (with_reducible have hp := ndec_f h) | skip))
      | (show VcD _ _ _ _ _ (.two _ _ _ _) _ _ _; refine VcD.two ?_ ?_))
    | (show EfO _ _ _ _ _ _ _ _ _; first
      | (refine EfO.call (f := F_journal_Disk_none) rfl rfl rfl rfl (OpC.call ok_journal_Disk_none rfl) (Rets.mono (noneD_any H Holds.toW hk.some) ?_); rintro _ w ⟨rfl, H⟩; refine ⟨(by first | exact H | exact Holds.drop H | exact Holds.drop (Holds.drop H) | exact Holds.drop (Holds.swap H) | exact Holds.rdWhole H | exact Holds.rdWhole (Holds.f1 H) | exact Holds.rdWhole (Holds.f2 H) | exact Holds.rdWhole (Holds.f3 H) | exact Holds.rdWhole (Holds.f4 H) | exact Holds.rdWhole (Holds.f5 H) | exact Holds.rdWhole (Holds.f6 H) | trivial | assumption | exact RdI.rd (by assumption) H | exact RdW.rd (by assumption) H | exact RdW.rd (by assumption) (Holds.drop H) | exact RdW.rd (by assumption) (Holds.drop (Holds.drop H)) | exact RdW.rd (by assumption) (Holds.drop (Holds.drop (Holds.drop H))) | exact RdW.rd (by assumption) (Holds.drop (Holds.drop (Holds.drop (Holds.drop H)))) | exact RdW.rd (by assumption) (Holds.drop (Holds.drop (Holds.drop (Holds.drop (Holds.drop H))))) | exact RdW.rd (by assumption) (Holds.drop (Holds.drop (Holds.drop (Holds.drop (Holds.drop (Holds.drop H)))))) | (refine ⟨?_, ?_⟩ <;> first | exact Holds.rdWhole H | exact Holds.rdWhole (Holds.f1 H) | exact Holds.rdWhole (Holds.f2 H) | exact Holds.rdWhole (Holds.f3 H) | exact Holds.rdWhole (Holds.f4 H) | exact Holds.rdWhole (Holds.f5 H) | exact Holds.rdWhole (Holds.f6 H) | exact RdI.rd (by assumption) H | exact RdW.rd (by assumption) H | exact RdW.rd (by assumption) (Holds.drop H) | exact RdW.rd (by assumption) (Holds.drop (Holds.drop H)) | exact RdW.rd (by assumption) (Holds.drop (Holds.drop (Holds.drop H))) | exact RdW.rd (by assumption) (Holds.drop (Holds.drop (Holds.drop (Holds.drop H)))) | exact RdW.rd (by assumption) (Holds.drop (Holds.drop (Holds.drop (Holds.drop (Holds.drop H))))) | exact RdW.rd (by assumption) (Holds.drop (Holds.drop (Holds.drop (Holds.drop (Holds.drop (Holds.drop H)))))))), ?_⟩)
      | (refine EfO.call (f := F_journal_Disk_none) rfl rfl rfl rfl (OpC.call ok_journal_Disk_none rfl) (Rets.mono (noneD_any (Holds.re [4] H rfl) Holds.toW hq.some) ?_); rintro _ w ⟨rfl, H⟩; have H := Holds.re [1, 1, 1, 1] H rfl; refine ⟨(by first | exact H | exact Holds.drop H | exact Holds.drop (Holds.drop H) | exact Holds.drop (Holds.swap H) | exact Holds.rdWhole H | exact Holds.rdWhole (Holds.f1 H) | exact Holds.rdWhole (Holds.f2 H) | exact Holds.rdWhole (Holds.f3 H) | exact Holds.rdWhole (Holds.f4 H) | exact Holds.rdWhole (Holds.f5 H) | exact Holds.rdWhole (Holds.f6 H) | trivial | assumption | exact RdI.rd (by assumption) H | exact RdW.rd (by assumption) H | exact RdW.rd (by assumption) (Holds.drop H) | exact RdW.rd (by assumption) (Holds.drop (Holds.drop H)) | exact RdW.rd (by assumption) (Holds.drop (Holds.drop (Holds.drop H))) | exact RdW.rd (by assumption) (Holds.drop (Holds.drop (Holds.drop (Holds.drop H)))) | exact RdW.rd (by assumption) (Holds.drop (Holds.drop (Holds.drop (Holds.drop (Holds.drop H))))) | exact RdW.rd (by assumption) (Holds.drop (Holds.drop (Holds.drop (Holds.drop (Holds.drop (Holds.drop H)))))) | (refine ⟨?_, ?_⟩ <;> first | exact Holds.rdWhole H | exact Holds.rdWhole (Holds.f1 H) | exact Holds.rdWhole (Holds.f2 H) | exact Holds.rdWhole (Holds.f3 H) | exact Holds.rdWhole (Holds.f4 H) | exact Holds.rdWhole (Holds.f5 H) | exact Holds.rdWhole (Holds.f6 H) | exact RdI.rd (by assumption) H | exact RdW.rd (by assumption) H | exact RdW.rd (by assumption) (Holds.drop H) | exact RdW.rd (by assumption) (Holds.drop (Holds.drop H)) | exact RdW.rd (by assumption) (Holds.drop (Holds.drop (Holds.drop H))) | exact RdW.rd (by assumption) (Holds.drop (Holds.drop (Holds.drop (Holds.drop H)))) | exact RdW.rd (by assumption) (Holds.drop (Holds.drop (Holds.drop (Holds.drop (Holds.drop H))))) | exact RdW.rd (by assumption) (Holds.drop (Holds.drop (Holds.drop (Holds.drop (Holds.drop (Holds.drop H)))))))), ?_⟩)
      | (refine EfO.call (f := F_slices_EqualFunc_byte_byte_byte_byte) rfl rfl rfl rfl (OpC.call ok_slices_EqualFunc_byte_byte_byte_byte rfl) (Rets.mono (EqB_any H s1 s3 (fun x hx => d1 x (List.mem_append_left _ hx)) (fun x hx => d2 x (List.mem_append_left _ hx)) (by omega) hk.bl) ?_); rintro _ w ⟨rfl, H⟩; refine ⟨(by first | exact H | exact Holds.drop H | exact Holds.drop (Holds.drop H) | exact Holds.drop (Holds.swap H) | exact Holds.rdWhole H | exact Holds.rdWhole (Holds.f1 H) | exact Holds.rdWhole (Holds.f2 H) | exact Holds.rdWhole (Holds.f3 H) | exact Holds.rdWhole (Holds.f4 H) | exact Holds.rdWhole (Holds.f5 H) | exact Holds.rdWhole (Holds.f6 H) | trivial | assumption | exact RdI.rd (by assumption) H | exact RdW.rd (by assumption) H | exact RdW.rd (by assumption) (Holds.drop H) | exact RdW.rd (by assumption) (Holds.drop (Holds.drop H)) | exact RdW.rd (by assumption) (Holds.drop (Holds.drop (Holds.drop H))) | exact RdW.rd (by assumption) (Holds.drop (Holds.drop (Holds.drop (Holds.drop H)))) | exact RdW.rd (by assumption) (Holds.drop (Holds.drop (Holds.drop (Holds.drop (Holds.drop H))))) | exact RdW.rd (by assumption) (Holds.drop (Holds.drop (Holds.drop (Holds.drop (Holds.drop (Holds.drop H)))))) | (refine ⟨?_, ?_⟩ <;> first | exact Holds.rdWhole H | exact Holds.rdWhole (Holds.f1 H) | exact Holds.rdWhole (Holds.f2 H) | exact Holds.rdWhole (Holds.f3 H) | exact Holds.rdWhole (Holds.f4 H) | exact Holds.rdWhole (Holds.f5 H) | exact Holds.rdWhole (Holds.f6 H) | exact RdI.rd (by assumption) H | exact RdW.rd (by assumption) H | exact RdW.rd (by assumption) (Holds.drop H) | exact RdW.rd (by assumption) (Holds.drop (Holds.drop H)) | exact RdW.rd (by assumption) (Holds.drop (Holds.drop (Holds.drop H))) | exact RdW.rd (by assumption) (Holds.drop (Holds.drop (Holds.drop (Holds.drop H)))) | exact RdW.rd (by assumption) (Holds.drop (Holds.drop (Holds.drop (Holds.drop (Holds.drop H))))) | exact RdW.rd (by assumption) (Holds.drop (Holds.drop (Holds.drop (Holds.drop (Holds.drop (Holds.drop H)))))))), ?_⟩)
      | (refine EfO.call (f := F_slices_EqualFunc_api_Write_api_Write_api_Write_api_Write) rfl rfl rfl rfl (OpC.call ok_slices_EqualFunc_api_Write_api_Write_api_Write_api_Write rfl) (Rets.mono (EqW_any H s2 s4 (fun x hx => d1 x.2 (List.mem_append_right _ (List.mem_map_of_mem hx))) (fun x hx => d2 x.2 (List.mem_append_right _ (List.mem_map_of_mem hx))) (by omega) (fun x hx => (hk.wt x hx).2)) ?_); rintro _ w ⟨rfl, H⟩; refine ⟨(by first | exact H | exact Holds.drop H | exact Holds.drop (Holds.drop H) | exact Holds.drop (Holds.swap H) | exact Holds.rdWhole H | exact Holds.rdWhole (Holds.f1 H) | exact Holds.rdWhole (Holds.f2 H) | exact Holds.rdWhole (Holds.f3 H) | exact Holds.rdWhole (Holds.f4 H) | exact Holds.rdWhole (Holds.f5 H) | exact Holds.rdWhole (Holds.f6 H) | trivial | assumption | exact RdI.rd (by assumption) H | exact RdW.rd (by assumption) H | exact RdW.rd (by assumption) (Holds.drop H) | exact RdW.rd (by assumption) (Holds.drop (Holds.drop H)) | exact RdW.rd (by assumption) (Holds.drop (Holds.drop (Holds.drop H))) | exact RdW.rd (by assumption) (Holds.drop (Holds.drop (Holds.drop (Holds.drop H)))) | exact RdW.rd (by assumption) (Holds.drop (Holds.drop (Holds.drop (Holds.drop (Holds.drop H))))) | exact RdW.rd (by assumption) (Holds.drop (Holds.drop (Holds.drop (Holds.drop (Holds.drop (Holds.drop H)))))) | (refine ⟨?_, ?_⟩ <;> first | exact Holds.rdWhole H | exact Holds.rdWhole (Holds.f1 H) | exact Holds.rdWhole (Holds.f2 H) | exact Holds.rdWhole (Holds.f3 H) | exact Holds.rdWhole (Holds.f4 H) | exact Holds.rdWhole (Holds.f5 H) | exact Holds.rdWhole (Holds.f6 H) | exact RdI.rd (by assumption) H | exact RdW.rd (by assumption) H | exact RdW.rd (by assumption) (Holds.drop H) | exact RdW.rd (by assumption) (Holds.drop (Holds.drop H)) | exact RdW.rd (by assumption) (Holds.drop (Holds.drop (Holds.drop H))) | exact RdW.rd (by assumption) (Holds.drop (Holds.drop (Holds.drop (Holds.drop H)))) | exact RdW.rd (by assumption) (Holds.drop (Holds.drop (Holds.drop (Holds.drop (Holds.drop H))))) | exact RdW.rd (by assumption) (Holds.drop (Holds.drop (Holds.drop (Holds.drop (Holds.drop (Holds.drop H)))))))), ?_⟩))
    | (show Vc _ _ _ _ _ _; first
      | refine Vc.seq ?_
      | refine Vc.region ?_
      | refine Vc.condT rfl ?_
      | refine Vc.condF rfl ?_
      | refine Vc.ret ?_
      | refine Vc.skip ?_
      | refine Vc.block ?_
      | refine Vc.exit ?_
      | (refine Vc.drawn (id := 4) (.pure 0 (.pure 1 (.pure 2 (.pure 4 (.pure 5 (.pure 6 (.take 3 (.take 7 (.pure 8 (.pure 9 (.pure 10 (.pure 11 (.pure 12 (.pure 14 (.pure 15 (.pure 16 (.take 13 (.take 17 (.pure 18 (.pure 19 (.pure 20 (.pure 21 (.pure 22 (.pure 23 (.pure 25 (.pure 26 (.pure 27 (.take 24 (.take 28 (.only 29 (.pure 30 (.pure 31 (.pure 32 (.pure 33 (.pure 34 (.pure 36 (.pure 37 (.pure 38 (.pure 40 (.take 35 (.take 39 (.only 41 (.pure 42 (.pure 43 .done)))))))))))))))))))))))))))))))))))))))))))) (.one (fun w => Rd w a 0 (dkV P (.slice (some ⟨b1, o1, none⟩) P.bl.length cap1) (.slice A2 P.wt.length cap2)) ∧ Rd w c 0 (dkV Q (.slice (some ⟨b3, o3, none⟩) Q.bl.length cap3) (.slice A4 Q.wt.length cap4)))) mixed (by kernel_rfl) (by first | exact (Holds.drew H _) | exact Holds.drop (Holds.drew H _) | exact Holds.drop (Holds.drop (Holds.drew H _)) | exact Holds.drop (Holds.swap (Holds.drew H _)) | exact Holds.rdWhole (Holds.drew H _) | exact Holds.rdWhole (Holds.f1 (Holds.drew H _)) | exact Holds.rdWhole (Holds.f2 (Holds.drew H _)) | exact Holds.rdWhole (Holds.f3 (Holds.drew H _)) | exact Holds.rdWhole (Holds.f4 (Holds.drew H _)) | exact Holds.rdWhole (Holds.f5 (Holds.drew H _)) | exact Holds.rdWhole (Holds.f6 (Holds.drew H _)) | trivial | assumption | exact RdI.rd (by assumption) (Holds.drew H _) | exact RdW.rd (by assumption) (Holds.drew H _) | exact RdW.rd (by assumption) (Holds.drop (Holds.drew H _)) | exact RdW.rd (by assumption) (Holds.drop (Holds.drop (Holds.drew H _))) | exact RdW.rd (by assumption) (Holds.drop (Holds.drop (Holds.drop (Holds.drew H _)))) | exact RdW.rd (by assumption) (Holds.drop (Holds.drop (Holds.drop (Holds.drop (Holds.drew H _))))) | exact RdW.rd (by assumption) (Holds.drop (Holds.drop (Holds.drop (Holds.drop (Holds.drop (Holds.drew H _)))))) | exact RdW.rd (by assumption) (Holds.drop (Holds.drop (Holds.drop (Holds.drop (Holds.drop (Holds.drop (Holds.drew H _))))))) | (refine ⟨?_, ?_⟩ <;> first | exact Holds.rdWhole (Holds.drew H _) | exact Holds.rdWhole (Holds.f1 (Holds.drew H _)) | exact Holds.rdWhole (Holds.f2 (Holds.drew H _)) | exact Holds.rdWhole (Holds.f3 (Holds.drew H _)) | exact Holds.rdWhole (Holds.f4 (Holds.drew H _)) | exact Holds.rdWhole (Holds.f5 (Holds.drew H _)) | exact Holds.rdWhole (Holds.f6 (Holds.drew H _)) | exact RdI.rd (by assumption) (Holds.drew H _) | exact RdW.rd (by assumption) (Holds.drew H _) | exact RdW.rd (by assumption) (Holds.drop (Holds.drew H _)) | exact RdW.rd (by assumption) (Holds.drop (Holds.drop (Holds.drew H _))) | exact RdW.rd (by assumption) (Holds.drop (Holds.drop (Holds.drop (Holds.drew H _)))) | exact RdW.rd (by assumption) (Holds.drop (Holds.drop (Holds.drop (Holds.drop (Holds.drew H _))))) | exact RdW.rd (by assumption) (Holds.drop (Holds.drop (Holds.drop (Holds.drop (Holds.drop (Holds.drew H _)))))) | exact RdW.rd (by assumption) (Holds.drop (Holds.drop (Holds.drop (Holds.drop (Holds.drop (Holds.drop (Holds.drew H _))))))))) ?_; have H := H.drew (w.drawn + 1))
      | (refine Vc.cond rfl (fun h => ?_) (fun h => ?_) <;> first | (cases h; done) | (exfalso; simp only [decide_eq_true_eq, decide_eq_false_iff_not, Bool.not_eq_true', Bool.not_eq_false'] at h; omega) | (with_reducible have hp := of_decide_eq_true h) | (with_reducible have hp := of_decide_eq_false h) | (with_reducible have hp := ndec_t h) | (with_reducible have hp := ndec_f h) | skip))
    | (show KSeq _ _ _ _ _ _ _; first
      | refine KSeq.normal ?_
      | refine KSeq.ret ?_
      | refine KSeq.exit ?_)
    | (show KBlock _ _ _ _ _ _; first
      | refine KBlock.normal ?_
      | refine KBlock.here ?_
      | refine KBlock.on rfl ?_
      | refine KBlock.ret ?_)
    | refine KLoop.exit ?_
    | refine KLoop.ret ?_
    | refine KCut.exit ?_
    | refine KCut.ret ?_
    | (show KEnd _ _ _ _ _ _ _; first
      | refine KEnd.fin (Or.inr rfl) ⟨_, (ResL.tmp rfl ResL.nil), ?_⟩
      | refine KEnd.fin (Or.inl rfl) ⟨_, (ResL.tmp rfl ResL.nil), ?_⟩))
  all_goals (refine ⟨?_, hst _ H⟩; clear s1 s2 s3 s4 d1 d2 hst H hD)
  · rw [decide_eq_true (show P.writes = Q.writes by omega), decide_eq_true (show P.stop = Q.stop by omega), h]; simp [resVal]
  · rw [h]; simp [resVal]
  · rw [decide_eq_false hp]; simp [resVal]
  · rw [decide_eq_false (show ¬ P.writes = Q.writes by omega)]; simp [resVal]
end Go.Proofs.Ytoahfjfknljacaa.V
