/- Lists of users: which are valid, by both texts. -/
import Derived.Test.YtkmbcjpedmlhfaaVB
import Derived.Test.YtkmbcjpedmlhfaaVcOpen
namespace Go.Proofs.Ytkmbcjpedmlhfaa.V
open Go Go.Proofs.YtkmbcjpedmlhfaaV
set_option linter.unusedVariables false
set_option linter.unusedSimpArgs false
set_option maxHeartbeats 1000000
attribute [local irreducible] IntKind.wrap
variable {I : Imm} {w : World} {L : List Asn}
/-- A user: Id, Name, Secret, Groups. -/
structure Us where mk ::
  id : Int
  name : ByteArray
  sec : Int
  grp : SlD Int
instance : Inhabited Us := ⟨⟨0, .empty, 0, none, 0, []⟩⟩
def usC (u : Us) : List Value := [.int .i64 u.id, .string u.name, .int .i64 u.sec, SlD.v u.grp]
def usV (u : Us) : Value := .agg (usC u).toArray
theorem usC_len (u : Us) : (usC u).length = 4 := rfl
theorem usC_one (u : Us) : ∀ x ∈ usC u, oneC x = true := by
  intro x hx
  simp only [usC, List.mem_cons, List.not_mem_nil, or_false] at hx
  rcases hx with rfl | rfl | rfl | rfl <;> rfl
structure UsI (I : Imm) (u : Us) : Prop where
  grp : SlI I (SlD.v u.grp) 1 u.grp.2.2.length (u.grp.2.2.flatMap inC)
  name : u.name.size ≤ 140737488355328
  len : u.grp.2.2.length ≤ 140737488355328
theorem UsI.mono {I J : Imm} {u : Us} (h : UsI I u) (hl : Imm.Le I J) : UsI J u := ⟨h.grp.mono hl, h.name, h.len⟩
abbrev SlU (I : Imm) (L : List Asn) (v : Value) (l : List Us) : Prop := SlR I L v 4 l.length (l.flatMap usC)
def gOk (l : List Int) (j : Nat) : Bool := decide (1 ≤ atD l j) && (decide (j = 0) || decide (atD l (j - 1) < atD l j))
def gsOk (l : List Int) : Bool := (List.range l.length).all (gOk l)
def is31' (x : Int) : Bool := decide (0 ≤ x) && decide (x ≤ 2147483647)
def userOk (u : Us) : Bool := gsOk u.grp.2.2 && decide (1 ≤ u.id) && decide (1 ≤ u.name.size) && decide (u.name.size ≤ 31) && is31' u.sec && decide (u.grp.2.2.length ≤ 10)
def uOk (l : List Us) (i : Nat) : Bool := userOk (atD l i) && (decide (i = 0) || decide ((atD l (i - 1)).id < (atD l i).id)) && !(l.take i).any fun v => eqT (atD l i).name v.name
def usersOk (l : List Us) : Bool := (List.range l.length).all (uOk l) && decide (l.length ≤ 20)
theorem eqT_symm (a b : ByteArray) : eqT a b = eqT b a := by unfold eqT; exact decide_eq_decide.2 ⟨Eq.symm, Eq.symm⟩
theorem range_succ_all {p : Nat → Bool} {k : Nat} : (List.range (k + 1)).all p = ((List.range k).all p && p k) := by rw [List.range_succ, List.all_append]; simp
theorem range_no {p : Nat → Bool} {n k : Nat} (hk : k < n) (h : p k = false) : (List.range n).all p = false := by
  rw [List.all_eq_false]
  exact ⟨k, List.mem_range.2 hk, by simp [h]⟩
theorem withinU_any (H : Holds I w L) (n a b : Int) : Rets Try.prog F_rights_within #[.int .i64 n, .int .i64 a, .int .i64 b] w fun u w' => u = .bool (decide (a ≤ n) && decide (n ≤ b)) ∧ Holds I w' L := by
  refine ok_rights_within.rets rfl ?_
  repeat' (first
    | (show VcL _ _ _ _ _ _ _ _; first
      | refine VcL.pures tabOk rfl ?_
      | refine VcL.nil ?_
      | (show VcL _ _ _ _ (⟨_, .binOp _ _ _ _ _, _, _, _, _⟩ :: _) _ _ _; first
      | refine VcL.shl rfl rfl (by first | assumption | rfl) rfl rfl rfl ?_
      | refine VcL.shr rfl rfl (by first | assumption | rfl) rfl rfl rfl ?_
      | refine VcL.eqS tabOk rfl rfl rfl rfl rfl rfl (by kernel_rfl) (by kernel_rfl) rfl rfl (by first | exact .inl rfl | exact .inr rfl) ?_)
      | (refine VcL.guard rfl rfl rfl rfl (fun h => ?_) (fun h => ?_) <;> first | (cases h; done) | (exfalso; simp only [decide_eq_true_eq, decide_eq_false_iff_not] at h; omega) | (with_reducible have hp := of_decide_eq_true h) | (with_reducible have hp := of_decide_eq_false h) | (with_reducible have hp := ndec_t h) | (with_reducible have hp := ndec_f h) | skip))
    | (show Vc _ _ _ _ _ _; first
      | refine Vc.seq ?_
      | refine Vc.region ?_
      | refine Vc.condT rfl ?_
      | refine Vc.condF rfl ?_
      | refine Vc.ret ?_
      | refine Vc.skip ?_
      | refine Vc.block ?_
      | refine Vc.exit ?_
      | (refine Vc.cond rfl (fun h => ?_) (fun h => ?_) <;> first | (cases h; done) | (exfalso; simp only [decide_eq_true_eq, decide_eq_false_iff_not] at h; omega) | (with_reducible have hp := of_decide_eq_true h) | (with_reducible have hp := of_decide_eq_false h) | (with_reducible have hp := ndec_t h) | (with_reducible have hp := ndec_f h) | skip))
    | (show KSeq _ _ _ _ _ _ _; first
      | refine KSeq.normal ?_
      | refine KSeq.ret ?_
      | refine KSeq.exit ?_)
    | (show KBlock _ _ _ _ _ _; first
      | refine KBlock.normal ?_
      | refine KBlock.here ?_
      | refine KBlock.on rfl ?_
      | refine KBlock.ret ?_)
    | refine KLoop.exit ?_
    | refine KLoop.ret ?_
    | refine KCut.exit ?_
    | refine KCut.ret ?_
    | (show KEnd _ _ _ _ _ _ _; first
      | refine KEnd.fin (Or.inr rfl) ⟨_, (ResL.tmp rfl ResL.nil), ?_⟩
      | refine KEnd.fin (Or.inl rfl) ⟨_, (ResL.tmp rfl ResL.nil), ?_⟩))
  all_goals (refine ⟨?_, H⟩; simp_all [resVal] <;> omega)
theorem isUser_any (H : Holds I w L) (u : Us) (hu : UsI I u) : Rets Try.prog F_rights_isUser #[usV u] w fun r w' => r = .bool (userOk u) ∧ Holds I w' L := by
  obtain ⟨id, name, sec, A, cap, gs⟩ := u
  obtain ⟨hg, hnm, hgl⟩ := hu
  have hg : SlI I (.slice A gs.length cap) 1 gs.length (gs.flatMap inC) := hg
  have hgl : gs.length ≤ 140737488355328 := hgl
  show Rets Try.prog F_rights_isUser #[.agg #[.int .i64 id, .string name, .int .i64 sec, .slice A gs.length cap]] w _
  refine ok_rights_isUser.rets rfl ?_
  repeat' (first
    | (show VcL _ _ _ _ _ _ _ _; first
      | refine VcL.pures tabOk rfl ?_
      | refine VcL.nil ?_
      | (show VcL _ _ _ _ (⟨_, .load _ _, _, _, _, _⟩ :: _) _ _ _; first
      | refine VcL.load1 tabOk rfl rfl rfl rfl rfl (by first | exact Holds.cell H rfl | exact Holds.cell (Holds.f1 H) rfl | exact Holds.cell (Holds.f2 H) rfl | exact Holds.cell (Holds.f3 H) rfl | exact Holds.cell (Holds.f4 H) rfl | exact Holds.cell (Holds.f5 H) rfl | exact Holds.cell (Holds.f6 H) rfl | exact RdW.get (by assumption) rfl H | exact RdW.get0 (by assumption) rfl H | exact RdW.get (by assumption) rfl (Holds.drop H) | exact RdW.get0 (by assumption) rfl (Holds.drop H) | exact RdW.get (by assumption) rfl (Holds.drop (Holds.drop H)) | exact RdW.get0 (by assumption) rfl (Holds.drop (Holds.drop H)) | exact RdW.get (by assumption) rfl (Holds.drop (Holds.drop (Holds.drop H))) | exact RdW.get0 (by assumption) rfl (Holds.drop (Holds.drop (Holds.drop H))) | exact Holds.rowCell H (fun _ => rfl) (by first | assumption | exact atD_get (by assumption)) rfl | exact Holds.rowCell0 H (fun _ => rfl) (by first | assumption | exact atD_get (by assumption)) rfl | exact Holds.ownCell H (fun _ => rfl) (by first | assumption | exact atD_get (by assumption)) rfl | exact Holds.ownCell0 H (fun _ => rfl) (by first | assumption | exact atD_get (by assumption)) rfl | exact Holds.rowCell (Holds.f1 H) (fun _ => rfl) (by first | assumption | exact atD_get (by assumption)) rfl | exact Holds.rowCell0 (Holds.f1 H) (fun _ => rfl) (by first | assumption | exact atD_get (by assumption)) rfl | exact Holds.ownCell (Holds.f1 H) (fun _ => rfl) (by first | assumption | exact atD_get (by assumption)) rfl | exact Holds.ownCell0 (Holds.f1 H) (fun _ => rfl) (by first | assumption | exact atD_get (by assumption)) rfl | exact Holds.rowCell (Holds.f2 H) (fun _ => rfl) (by first | assumption | exact atD_get (by assumption)) rfl | exact Holds.rowCell0 (Holds.f2 H) (fun _ => rfl) (by first | assumption | exact atD_get (by assumption)) rfl | exact Holds.ownCell (Holds.f2 H) (fun _ => rfl) (by first | assumption | exact atD_get (by assumption)) rfl | exact Holds.ownCell0 (Holds.f2 H) (fun _ => rfl) (by first | assumption | exact atD_get (by assumption)) rfl | exact Holds.rowCell (Holds.f3 H) (fun _ => rfl) (by first | assumption | exact atD_get (by assumption)) rfl | exact Holds.rowCell0 (Holds.f3 H) (fun _ => rfl) (by first | assumption | exact atD_get (by assumption)) rfl | exact Holds.ownCell (Holds.f3 H) (fun _ => rfl) (by first | assumption | exact atD_get (by assumption)) rfl | exact Holds.ownCell0 (Holds.f3 H) (fun _ => rfl) (by first | assumption | exact atD_get (by assumption)) rfl | exact Holds.rowCell (Holds.f4 H) (fun _ => rfl) (by first | assumption | exact atD_get (by assumption)) rfl | exact Holds.rowCell0 (Holds.f4 H) (fun _ => rfl) (by first | assumption | exact atD_get (by assumption)) rfl | exact Holds.ownCell (Holds.f4 H) (fun _ => rfl) (by first | assumption | exact atD_get (by assumption)) rfl | exact Holds.ownCell0 (Holds.f4 H) (fun _ => rfl) (by first | assumption | exact atD_get (by assumption)) rfl | assumption) ?_
      | refine VcL.loadR tabOk rfl rfl rfl rfl rfl rfl (by first | exact RdW.rd (by assumption) H | exact RdW.rd (by assumption) (Holds.drop H) | exact RdW.rd (by assumption) (Holds.drop (Holds.drop H)) | exact RdW.rd (by assumption) (Holds.drop (Holds.drop (Holds.drop H))) | assumption) rfl ?_
      | refine VcL.loadN tabOk rfl rfl rfl rfl rfl rfl (by first | exact H | exact (Holds.f1 H) | exact (Holds.f2 H) | exact (Holds.f3 H) | exact (Holds.f4 H) | exact (Holds.f5 H) | exact (Holds.f6 H)) (by exact rfl) ?_
      | refine VcL.loadRowN0 tabOk rfl rfl rfl rfl rfl rfl H (fun _ => rfl) (by first | assumption | exact atD_get (by assumption)) (by exact rfl) (by exact rfl) (by exact rfl) ?_
      | refine VcL.loadRowN tabOk rfl rfl rfl rfl rfl rfl H (fun _ => rfl) (by first | assumption | exact atD_get (by assumption)) (by exact rfl) (by exact rfl) (by exact rfl) ?_
      | refine VcL.loadOwnN0 tabOk rfl rfl rfl rfl rfl rfl H (fun _ => rfl) (by first | assumption | exact atD_get (by assumption)) (by exact rfl) (by exact rfl) (by exact rfl) ?_
      | refine VcL.loadOwnN tabOk rfl rfl rfl rfl rfl rfl H (fun _ => rfl) (by first | assumption | exact atD_get (by assumption)) (by exact rfl) (by exact rfl) (by exact rfl) ?_
      | refine VcL.loadRowN0 tabOk rfl rfl rfl rfl rfl rfl (Holds.f1 H) (fun _ => rfl) (by first | assumption | exact atD_get (by assumption)) (by exact rfl) (by exact rfl) (by exact rfl) ?_
      | refine VcL.loadRowN tabOk rfl rfl rfl rfl rfl rfl (Holds.f1 H) (fun _ => rfl) (by first | assumption | exact atD_get (by assumption)) (by exact rfl) (by exact rfl) (by exact rfl) ?_
      | refine VcL.loadOwnN0 tabOk rfl rfl rfl rfl rfl rfl (Holds.f1 H) (fun _ => rfl) (by first | assumption | exact atD_get (by assumption)) (by exact rfl) (by exact rfl) (by exact rfl) ?_
      | refine VcL.loadOwnN tabOk rfl rfl rfl rfl rfl rfl (Holds.f1 H) (fun _ => rfl) (by first | assumption | exact atD_get (by assumption)) (by exact rfl) (by exact rfl) (by exact rfl) ?_
      | refine VcL.loadRowN0 tabOk rfl rfl rfl rfl rfl rfl (Holds.f2 H) (fun _ => rfl) (by first | assumption | exact atD_get (by assumption)) (by exact rfl) (by exact rfl) (by exact rfl) ?_
      | refine VcL.loadRowN tabOk rfl rfl rfl rfl rfl rfl (Holds.f2 H) (fun _ => rfl) (by first | assumption | exact atD_get (by assumption)) (by exact rfl) (by exact rfl) (by exact rfl) ?_
      | refine VcL.loadOwnN0 tabOk rfl rfl rfl rfl rfl rfl (Holds.f2 H) (fun _ => rfl) (by first | assumption | exact atD_get (by assumption)) (by exact rfl) (by exact rfl) (by exact rfl) ?_
      | refine VcL.loadOwnN tabOk rfl rfl rfl rfl rfl rfl (Holds.f2 H) (fun _ => rfl) (by first | assumption | exact atD_get (by assumption)) (by exact rfl) (by exact rfl) (by exact rfl) ?_
      | refine VcL.loadRowN0 tabOk rfl rfl rfl rfl rfl rfl (Holds.f3 H) (fun _ => rfl) (by first | assumption | exact atD_get (by assumption)) (by exact rfl) (by exact rfl) (by exact rfl) ?_
      | refine VcL.loadRowN tabOk rfl rfl rfl rfl rfl rfl (Holds.f3 H) (fun _ => rfl) (by first | assumption | exact atD_get (by assumption)) (by exact rfl) (by exact rfl) (by exact rfl) ?_
      | refine VcL.loadOwnN0 tabOk rfl rfl rfl rfl rfl rfl (Holds.f3 H) (fun _ => rfl) (by first | assumption | exact atD_get (by assumption)) (by exact rfl) (by exact rfl) (by exact rfl) ?_
      | refine VcL.loadOwnN tabOk rfl rfl rfl rfl rfl rfl (Holds.f3 H) (fun _ => rfl) (by first | assumption | exact atD_get (by assumption)) (by exact rfl) (by exact rfl) (by exact rfl) ?_
      | refine VcL.loadRowN0 tabOk rfl rfl rfl rfl rfl rfl (Holds.f4 H) (fun _ => rfl) (by first | assumption | exact atD_get (by assumption)) (by exact rfl) (by exact rfl) (by exact rfl) ?_
      | refine VcL.loadRowN tabOk rfl rfl rfl rfl rfl rfl (Holds.f4 H) (fun _ => rfl) (by first | assumption | exact atD_get (by assumption)) (by exact rfl) (by exact rfl) (by exact rfl) ?_
      | refine VcL.loadOwnN0 tabOk rfl rfl rfl rfl rfl rfl (Holds.f4 H) (fun _ => rfl) (by first | assumption | exact atD_get (by assumption)) (by exact rfl) (by exact rfl) (by exact rfl) ?_
      | refine VcL.loadOwnN tabOk rfl rfl rfl rfl rfl rfl (Holds.f4 H) (fun _ => rfl) (by first | assumption | exact atD_get (by assumption)) (by exact rfl) (by exact rfl) (by exact rfl) ?_)
      | (show VcL _ _ _ _ (⟨_, .binOp _ _ _ _ _, _, _, _, _⟩ :: _) _ _ _; first
      | refine VcL.shl rfl rfl (by first | assumption | rfl) rfl rfl rfl ?_
      | refine VcL.shr rfl rfl (by first | assumption | rfl) rfl rfl rfl ?_
      | refine VcL.eqS tabOk rfl rfl rfl rfl rfl rfl (by kernel_rfl) (by kernel_rfl) rfl rfl (by first | exact .inl rfl | exact .inr rfl) ?_)
      | (show VcL _ _ _ _ (⟨_, .indexAddr _ _ _, _, _, _, _⟩ :: _) _ _ _; first
      | refine VcL.indexAddr0 tabOk rfl rfl rfl rfl rfl rfl (by omega) (by omega) ?_
      | refine VcL.indexAddr tabOk rfl rfl rfl rfl rfl rfl (by omega) (by omega) ?_
      | refine VcL.indexArr0 tabOk rfl rfl rfl rfl rfl rfl (by omega) (by omega) ?_
      | refine VcL.indexArr tabOk rfl rfl rfl rfl rfl rfl (by omega) (by omega) ?_)
      | refine VcL.box H rfl rfl rfl rfl rfl (fun b w H => ?_)
      | (show VcL _ _ _ _ (⟨_, .call ⟨.value (.func F_rights_within), _, _⟩, _, _, _, _⟩ :: _) _ _ _; first
      | (refine VcL.callF ok_rights_within rfl rfl rfl rfl (Rets.mono (withinU_any H _ _ _) ?_); rintro _ w ⟨rfl, H⟩))
      | (refine VcL.guard rfl rfl rfl rfl (fun h => ?_) (fun h => ?_) <;> first | (cases h; done) | (exfalso; simp only [decide_eq_true_eq, decide_eq_false_iff_not] at h; omega) | (with_reducible have hp := of_decide_eq_true h) | (with_reducible have hp := of_decide_eq_false h) | (with_reducible have hp := ndec_t h) | (with_reducible have hp := ndec_f h) | skip))
    | (show Vc _ _ _ _ _ _; first
      | refine Vc.seq ?_
      | refine Vc.region ?_
      | refine Vc.condT rfl ?_
      | refine Vc.condF rfl ?_
      | refine Vc.ret ?_
      | refine Vc.skip ?_
      | refine Vc.block ?_
      | refine Vc.exit ?_
      | (refine Vc.cond rfl (fun h => ?_) (fun h => ?_) <;> first | (cases h; done) | (exfalso; simp only [decide_eq_true_eq, decide_eq_false_iff_not] at h; omega) | (with_reducible have hp := of_decide_eq_true h) | (with_reducible have hp := of_decide_eq_false h) | (with_reducible have hp := ndec_t h) | (with_reducible have hp := ndec_f h) | skip))
    | (show KSeq _ _ _ _ _ _ _; first
      | refine KSeq.normal ?_
      | refine KSeq.ret ?_
      | refine KSeq.exit ?_)
    | (show KBlock _ _ _ _ _ _; first
      | refine KBlock.normal ?_
      | refine KBlock.here ?_
      | refine KBlock.on rfl ?_
      | refine KBlock.ret ?_)
    | refine KLoop.exit ?_
    | refine KLoop.ret ?_
    | refine KCut.exit ?_
    | refine KCut.ret ?_
    | (show KEnd _ _ _ _ _ _ _; first
      | refine KEnd.fin (Or.inr rfl) ⟨_, (ResL.tmp rfl ResL.nil), ?_⟩
      | refine KEnd.fin (Or.inl rfl) ⟨_, (ResL.tmp rfl ResL.nil), ?_⟩))
  refine Vc.loopS [(1, _), (6, _), (7, _)] (fun k : Nat => [(8, .int .i64 k)]) (fun k w => Holds I w (blk b 37 [.int .i64 id, .string name, .int .i64 sec, .slice A gs.length cap] :: L) ∧ k ≤ gs.length ∧ (List.range k).all (gOk gs) = true) (fun k _ => gs.length - k) 0 ⟨rfl, trivial⟩ ⟨rfl, rfl, rfl, trivial⟩ ⟨H, Nat.zero_le _, rfl⟩ ?_
  rintro k w ⟨H, hk, hall⟩
  by_cases hlt : k < gs.length
  · obtain ⟨b2, o2, rfl, hr⟩ := hg.toR.at (L := blk b 37 [.int .i64 id, .string name, .int .i64 sec, .slice A gs.length cap] :: L) (by omega)
    have hx := hr.elem inC_len (atD_get hlt)
    have hy := hr.elem inC_len (atD_get (l := gs) (k := k - 1) (by omega))
    have hno : gOk gs k = false → userOk ⟨id, name, sec, some ⟨b2, o2, none⟩, cap, gs⟩ = false := fun h => by
      unfold userOk gsOk
      rw [range_no hlt h]; rfl
    have hw := fun h => wrap_pred k h (by omega)
    rcases Nat.eq_zero_or_pos k with h0 | h0
    all_goals
     repeat' (first
       | rw [hw h0]
       | (show VcL _ _ _ _ _ _ _ _; first
      | refine VcL.pures tabOk rfl ?_
      | refine VcL.nil ?_
      | (show VcL _ _ _ _ (⟨_, .load _ _, _, _, _, _⟩ :: _) _ _ _; first
      | refine VcL.load1 tabOk rfl rfl rfl rfl rfl (by first | exact Holds.cell H rfl | exact Holds.cell (Holds.f1 H) rfl | exact Holds.cell (Holds.f2 H) rfl | exact Holds.cell (Holds.f3 H) rfl | exact Holds.cell (Holds.f4 H) rfl | exact Holds.cell (Holds.f5 H) rfl | exact Holds.cell (Holds.f6 H) rfl | exact RdW.get (by assumption) rfl H | exact RdW.get0 (by assumption) rfl H | exact RdW.get (by assumption) rfl (Holds.drop H) | exact RdW.get0 (by assumption) rfl (Holds.drop H) | exact RdW.get (by assumption) rfl (Holds.drop (Holds.drop H)) | exact RdW.get0 (by assumption) rfl (Holds.drop (Holds.drop H)) | exact RdW.get (by assumption) rfl (Holds.drop (Holds.drop (Holds.drop H))) | exact RdW.get0 (by assumption) rfl (Holds.drop (Holds.drop (Holds.drop H))) | exact Holds.rowCell H (fun _ => rfl) (by first | assumption | exact atD_get (by assumption)) rfl | exact Holds.rowCell0 H (fun _ => rfl) (by first | assumption | exact atD_get (by assumption)) rfl | exact Holds.ownCell H (fun _ => rfl) (by first | assumption | exact atD_get (by assumption)) rfl | exact Holds.ownCell0 H (fun _ => rfl) (by first | assumption | exact atD_get (by assumption)) rfl | exact Holds.rowCell (Holds.f1 H) (fun _ => rfl) (by first | assumption | exact atD_get (by assumption)) rfl | exact Holds.rowCell0 (Holds.f1 H) (fun _ => rfl) (by first | assumption | exact atD_get (by assumption)) rfl | exact Holds.ownCell (Holds.f1 H) (fun _ => rfl) (by first | assumption | exact atD_get (by assumption)) rfl | exact Holds.ownCell0 (Holds.f1 H) (fun _ => rfl) (by first | assumption | exact atD_get (by assumption)) rfl | exact Holds.rowCell (Holds.f2 H) (fun _ => rfl) (by first | assumption | exact atD_get (by assumption)) rfl | exact Holds.rowCell0 (Holds.f2 H) (fun _ => rfl) (by first | assumption | exact atD_get (by assumption)) rfl | exact Holds.ownCell (Holds.f2 H) (fun _ => rfl) (by first | assumption | exact atD_get (by assumption)) rfl | exact Holds.ownCell0 (Holds.f2 H) (fun _ => rfl) (by first | assumption | exact atD_get (by assumption)) rfl | exact Holds.rowCell (Holds.f3 H) (fun _ => rfl) (by first | assumption | exact atD_get (by assumption)) rfl | exact Holds.rowCell0 (Holds.f3 H) (fun _ => rfl) (by first | assumption | exact atD_get (by assumption)) rfl | exact Holds.ownCell (Holds.f3 H) (fun _ => rfl) (by first | assumption | exact atD_get (by assumption)) rfl | exact Holds.ownCell0 (Holds.f3 H) (fun _ => rfl) (by first | assumption | exact atD_get (by assumption)) rfl | exact Holds.rowCell (Holds.f4 H) (fun _ => rfl) (by first | assumption | exact atD_get (by assumption)) rfl | exact Holds.rowCell0 (Holds.f4 H) (fun _ => rfl) (by first | assumption | exact atD_get (by assumption)) rfl | exact Holds.ownCell (Holds.f4 H) (fun _ => rfl) (by first | assumption | exact atD_get (by assumption)) rfl | exact Holds.ownCell0 (Holds.f4 H) (fun _ => rfl) (by first | assumption | exact atD_get (by assumption)) rfl | assumption) ?_
      | refine VcL.loadR tabOk rfl rfl rfl rfl rfl rfl (by first | exact RdW.rd (by assumption) H | exact RdW.rd (by assumption) (Holds.drop H) | exact RdW.rd (by assumption) (Holds.drop (Holds.drop H)) | exact RdW.rd (by assumption) (Holds.drop (Holds.drop (Holds.drop H))) | assumption) rfl ?_
      | refine VcL.loadN tabOk rfl rfl rfl rfl rfl rfl (by first | exact H | exact (Holds.f1 H) | exact (Holds.f2 H) | exact (Holds.f3 H) | exact (Holds.f4 H) | exact (Holds.f5 H) | exact (Holds.f6 H)) (by exact rfl) ?_
      | refine VcL.loadRowN0 tabOk rfl rfl rfl rfl rfl rfl H (fun _ => rfl) (by first | assumption | exact atD_get (by assumption)) (by exact rfl) (by exact rfl) (by exact rfl) ?_
      | refine VcL.loadRowN tabOk rfl rfl rfl rfl rfl rfl H (fun _ => rfl) (by first | assumption | exact atD_get (by assumption)) (by exact rfl) (by exact rfl) (by exact rfl) ?_
      | refine VcL.loadOwnN0 tabOk rfl rfl rfl rfl rfl rfl H (fun _ => rfl) (by first | assumption | exact atD_get (by assumption)) (by exact rfl) (by exact rfl) (by exact rfl) ?_
      | refine VcL.loadOwnN tabOk rfl rfl rfl rfl rfl rfl H (fun _ => rfl) (by first | assumption | exact atD_get (by assumption)) (by exact rfl) (by exact rfl) (by exact rfl) ?_
      | refine VcL.loadRowN0 tabOk rfl rfl rfl rfl rfl rfl (Holds.f1 H) (fun _ => rfl) (by first | assumption | exact atD_get (by assumption)) (by exact rfl) (by exact rfl) (by exact rfl) ?_
      | refine VcL.loadRowN tabOk rfl rfl rfl rfl rfl rfl (Holds.f1 H) (fun _ => rfl) (by first | assumption | exact atD_get (by assumption)) (by exact rfl) (by exact rfl) (by exact rfl) ?_
      | refine VcL.loadOwnN0 tabOk rfl rfl rfl rfl rfl rfl (Holds.f1 H) (fun _ => rfl) (by first | assumption | exact atD_get (by assumption)) (by exact rfl) (by exact rfl) (by exact rfl) ?_
      | refine VcL.loadOwnN tabOk rfl rfl rfl rfl rfl rfl (Holds.f1 H) (fun _ => rfl) (by first | assumption | exact atD_get (by assumption)) (by exact rfl) (by exact rfl) (by exact rfl) ?_
      | refine VcL.loadRowN0 tabOk rfl rfl rfl rfl rfl rfl (Holds.f2 H) (fun _ => rfl) (by first | assumption | exact atD_get (by assumption)) (by exact rfl) (by exact rfl) (by exact rfl) ?_
      | refine VcL.loadRowN tabOk rfl rfl rfl rfl rfl rfl (Holds.f2 H) (fun _ => rfl) (by first | assumption | exact atD_get (by assumption)) (by exact rfl) (by exact rfl) (by exact rfl) ?_
      | refine VcL.loadOwnN0 tabOk rfl rfl rfl rfl rfl rfl (Holds.f2 H) (fun _ => rfl) (by first | assumption | exact atD_get (by assumption)) (by exact rfl) (by exact rfl) (by exact rfl) ?_
      | refine VcL.loadOwnN tabOk rfl rfl rfl rfl rfl rfl (Holds.f2 H) (fun _ => rfl) (by first | assumption | exact atD_get (by assumption)) (by exact rfl) (by exact rfl) (by exact rfl) ?_
      | refine VcL.loadRowN0 tabOk rfl rfl rfl rfl rfl rfl (Holds.f3 H) (fun _ => rfl) (by first | assumption | exact atD_get (by assumption)) (by exact rfl) (by exact rfl) (by exact rfl) ?_
      | refine VcL.loadRowN tabOk rfl rfl rfl rfl rfl rfl (Holds.f3 H) (fun _ => rfl) (by first | assumption | exact atD_get (by assumption)) (by exact rfl) (by exact rfl) (by exact rfl) ?_
      | refine VcL.loadOwnN0 tabOk rfl rfl rfl rfl rfl rfl (Holds.f3 H) (fun _ => rfl) (by first | assumption | exact atD_get (by assumption)) (by exact rfl) (by exact rfl) (by exact rfl) ?_
      | refine VcL.loadOwnN tabOk rfl rfl rfl rfl rfl rfl (Holds.f3 H) (fun _ => rfl) (by first | assumption | exact atD_get (by assumption)) (by exact rfl) (by exact rfl) (by exact rfl) ?_
      | refine VcL.loadRowN0 tabOk rfl rfl rfl rfl rfl rfl (Holds.f4 H) (fun _ => rfl) (by first | assumption | exact atD_get (by assumption)) (by exact rfl) (by exact rfl) (by exact rfl) ?_
      | refine VcL.loadRowN tabOk rfl rfl rfl rfl rfl rfl (Holds.f4 H) (fun _ => rfl) (by first | assumption | exact atD_get (by assumption)) (by exact rfl) (by exact rfl) (by exact rfl) ?_
      | refine VcL.loadOwnN0 tabOk rfl rfl rfl rfl rfl rfl (Holds.f4 H) (fun _ => rfl) (by first | assumption | exact atD_get (by assumption)) (by exact rfl) (by exact rfl) (by exact rfl) ?_
      | refine VcL.loadOwnN tabOk rfl rfl rfl rfl rfl rfl (Holds.f4 H) (fun _ => rfl) (by first | assumption | exact atD_get (by assumption)) (by exact rfl) (by exact rfl) (by exact rfl) ?_)
      | (show VcL _ _ _ _ (⟨_, .binOp _ _ _ _ _, _, _, _, _⟩ :: _) _ _ _; first
      | refine VcL.shl rfl rfl (by first | assumption | rfl) rfl rfl rfl ?_
      | refine VcL.shr rfl rfl (by first | assumption | rfl) rfl rfl rfl ?_
      | refine VcL.eqS tabOk rfl rfl rfl rfl rfl rfl (by kernel_rfl) (by kernel_rfl) rfl rfl (by first | exact .inl rfl | exact .inr rfl) ?_)
      | (show VcL _ _ _ _ (⟨_, .indexAddr _ _ _, _, _, _, _⟩ :: _) _ _ _; first
      | refine VcL.indexAddr0 tabOk rfl rfl rfl rfl rfl rfl (by omega) (by omega) ?_
      | refine VcL.indexAddr tabOk rfl rfl rfl rfl rfl rfl (by omega) (by omega) ?_
      | refine VcL.indexArr0 tabOk rfl rfl rfl rfl rfl rfl (by omega) (by omega) ?_
      | refine VcL.indexArr tabOk rfl rfl rfl rfl rfl rfl (by omega) (by omega) ?_)
      | refine VcL.box H rfl rfl rfl rfl rfl (fun b w H => ?_)
      | (show VcL _ _ _ _ (⟨_, .call ⟨.value (.func F_rights_within), _, _⟩, _, _, _, _⟩ :: _) _ _ _; first
      | (refine VcL.callF ok_rights_within rfl rfl rfl rfl (Rets.mono (withinU_any H _ _ _) ?_); rintro _ w ⟨rfl, H⟩))
      | (refine VcL.guard rfl rfl rfl rfl (fun h => ?_) (fun h => ?_) <;> first | (cases h; done) | (exfalso; simp only [decide_eq_true_eq, decide_eq_false_iff_not] at h; omega) | (with_reducible have hp := of_decide_eq_true h) | (with_reducible have hp := of_decide_eq_false h) | (with_reducible have hp := ndec_t h) | (with_reducible have hp := ndec_f h) | skip))
       | (show Vc _ _ _ _ _ _; first
      | refine Vc.seq ?_
      | refine Vc.region ?_
      | refine Vc.condT rfl ?_
      | refine Vc.condF rfl ?_
      | refine Vc.ret ?_
      | refine Vc.skip ?_
      | refine Vc.block ?_
      | refine Vc.exit ?_
      | (refine Vc.cond rfl (fun h => ?_) (fun h => ?_) <;> first | (cases h; done) | (exfalso; simp only [decide_eq_true_eq, decide_eq_false_iff_not] at h; omega) | (with_reducible have hp := of_decide_eq_true h) | (with_reducible have hp := of_decide_eq_false h) | (with_reducible have hp := ndec_t h) | (with_reducible have hp := ndec_f h) | skip))
       | (show KSeq _ _ _ _ _ _ _; first
      | refine KSeq.normal ?_
      | refine KSeq.ret ?_
      | refine KSeq.exit ?_)
       | (show KBlock _ _ _ _ _ _; first
      | refine KBlock.normal ?_
      | refine KBlock.here ?_
      | refine KBlock.on rfl ?_
      | refine KBlock.ret ?_)
       | refine KLoop.exit ?_
       | refine KLoop.ret ?_
       | refine KCut.exit ?_
       | refine KCut.ret ?_
       | (show KEnd _ _ _ _ _ _ _; first
      | refine KEnd.fin (Or.inr rfl) ⟨_, (ResL.tmp rfl ResL.nil), ?_⟩
      | refine KEnd.fin (Or.inl rfl) ⟨_, (ResL.tmp rfl ResL.nil), ?_⟩))
    all_goals first
      | (refine ⟨?_, H.drop⟩
         rw [hno (by unfold gOk; clear hg H hr hx hy hno; simp_all <;> omega)]; rfl)
      | (refine KLoop.again (k + 1) ⟨got_succ rfl (by omega), trivial⟩ ⟨rfl, rfl, rfl, trivial⟩ ⟨H, by omega, ?_⟩ (by omega)
         rw [range_succ_all, hall]
         unfold gOk
         clear hg H hr hx hy hno
         simp_all <;> omega)
  ·
    have hgo : gsOk gs = true := by unfold gsOk; rw [show gs.length = k by omega]; exact hall
    repeat' (first
      | rw [hw h0]
      | (show VcL _ _ _ _ _ _ _ _; first
      | refine VcL.pures tabOk rfl ?_
      | refine VcL.nil ?_
      | (show VcL _ _ _ _ (⟨_, .load _ _, _, _, _, _⟩ :: _) _ _ _; first
      | refine VcL.load1 tabOk rfl rfl rfl rfl rfl (by first | exact Holds.cell H rfl | exact Holds.cell (Holds.f1 H) rfl | exact Holds.cell (Holds.f2 H) rfl | exact Holds.cell (Holds.f3 H) rfl | exact Holds.cell (Holds.f4 H) rfl | exact Holds.cell (Holds.f5 H) rfl | exact Holds.cell (Holds.f6 H) rfl | exact RdW.get (by assumption) rfl H | exact RdW.get0 (by assumption) rfl H | exact RdW.get (by assumption) rfl (Holds.drop H) | exact RdW.get0 (by assumption) rfl (Holds.drop H) | exact RdW.get (by assumption) rfl (Holds.drop (Holds.drop H)) | exact RdW.get0 (by assumption) rfl (Holds.drop (Holds.drop H)) | exact RdW.get (by assumption) rfl (Holds.drop (Holds.drop (Holds.drop H))) | exact RdW.get0 (by assumption) rfl (Holds.drop (Holds.drop (Holds.drop H))) | exact Holds.rowCell H (fun _ => rfl) (by first | assumption | exact atD_get (by assumption)) rfl | exact Holds.rowCell0 H (fun _ => rfl) (by first | assumption | exact atD_get (by assumption)) rfl | exact Holds.ownCell H (fun _ => rfl) (by first | assumption | exact atD_get (by assumption)) rfl | exact Holds.ownCell0 H (fun _ => rfl) (by first | assumption | exact atD_get (by assumption)) rfl | exact Holds.rowCell (Holds.f1 H) (fun _ => rfl) (by first | assumption | exact atD_get (by assumption)) rfl | exact Holds.rowCell0 (Holds.f1 H) (fun _ => rfl) (by first | assumption | exact atD_get (by assumption)) rfl | exact Holds.ownCell (Holds.f1 H) (fun _ => rfl) (by first | assumption | exact atD_get (by assumption)) rfl | exact Holds.ownCell0 (Holds.f1 H) (fun _ => rfl) (by first | assumption | exact atD_get (by assumption)) rfl | exact Holds.rowCell (Holds.f2 H) (fun _ => rfl) (by first | assumption | exact atD_get (by assumption)) rfl | exact Holds.rowCell0 (Holds.f2 H) (fun _ => rfl) (by first | assumption | exact atD_get (by assumption)) rfl | exact Holds.ownCell (Holds.f2 H) (fun _ => rfl) (by first | assumption | exact atD_get (by assumption)) rfl | exact Holds.ownCell0 (Holds.f2 H) (fun _ => rfl) (by first | assumption | exact atD_get (by assumption)) rfl | exact Holds.rowCell (Holds.f3 H) (fun _ => rfl) (by first | assumption | exact atD_get (by assumption)) rfl | exact Holds.rowCell0 (Holds.f3 H) (fun _ => rfl) (by first | assumption | exact atD_get (by assumption)) rfl | exact Holds.ownCell (Holds.f3 H) (fun _ => rfl) (by first | assumption | exact atD_get (by assumption)) rfl | exact Holds.ownCell0 (Holds.f3 H) (fun _ => rfl) (by first | assumption | exact atD_get (by assumption)) rfl | exact Holds.rowCell (Holds.f4 H) (fun _ => rfl) (by first | assumption | exact atD_get (by assumption)) rfl | exact Holds.rowCell0 (Holds.f4 H) (fun _ => rfl) (by first | assumption | exact atD_get (by assumption)) rfl | exact Holds.ownCell (Holds.f4 H) (fun _ => rfl) (by first | assumption | exact atD_get (by assumption)) rfl | exact Holds.ownCell0 (Holds.f4 H) (fun _ => rfl) (by first | assumption | exact atD_get (by assumption)) rfl | assumption) ?_
      | refine VcL.loadR tabOk rfl rfl rfl rfl rfl rfl (by first | exact RdW.rd (by assumption) H | exact RdW.rd (by assumption) (Holds.drop H) | exact RdW.rd (by assumption) (Holds.drop (Holds.drop H)) | exact RdW.rd (by assumption) (Holds.drop (Holds.drop (Holds.drop H))) | assumption) rfl ?_
      | refine VcL.loadN tabOk rfl rfl rfl rfl rfl rfl (by first | exact H | exact (Holds.f1 H) | exact (Holds.f2 H) | exact (Holds.f3 H) | exact (Holds.f4 H) | exact (Holds.f5 H) | exact (Holds.f6 H)) (by exact rfl) ?_
      | refine VcL.loadRowN0 tabOk rfl rfl rfl rfl rfl rfl H (fun _ => rfl) (by first | assumption | exact atD_get (by assumption)) (by exact rfl) (by exact rfl) (by exact rfl) ?_
      | refine VcL.loadRowN tabOk rfl rfl rfl rfl rfl rfl H (fun _ => rfl) (by first | assumption | exact atD_get (by assumption)) (by exact rfl) (by exact rfl) (by exact rfl) ?_
      | refine VcL.loadOwnN0 tabOk rfl rfl rfl rfl rfl rfl H (fun _ => rfl) (by first | assumption | exact atD_get (by assumption)) (by exact rfl) (by exact rfl) (by exact rfl) ?_
      | refine VcL.loadOwnN tabOk rfl rfl rfl rfl rfl rfl H (fun _ => rfl) (by first | assumption | exact atD_get (by assumption)) (by exact rfl) (by exact rfl) (by exact rfl) ?_
      | refine VcL.loadRowN0 tabOk rfl rfl rfl rfl rfl rfl (Holds.f1 H) (fun _ => rfl) (by first | assumption | exact atD_get (by assumption)) (by exact rfl) (by exact rfl) (by exact rfl) ?_
      | refine VcL.loadRowN tabOk rfl rfl rfl rfl rfl rfl (Holds.f1 H) (fun _ => rfl) (by first | assumption | exact atD_get (by assumption)) (by exact rfl) (by exact rfl) (by exact rfl) ?_
      | refine VcL.loadOwnN0 tabOk rfl rfl rfl rfl rfl rfl (Holds.f1 H) (fun _ => rfl) (by first | assumption | exact atD_get (by assumption)) (by exact rfl) (by exact rfl) (by exact rfl) ?_
      | refine VcL.loadOwnN tabOk rfl rfl rfl rfl rfl rfl (Holds.f1 H) (fun _ => rfl) (by first | assumption | exact atD_get (by assumption)) (by exact rfl) (by exact rfl) (by exact rfl) ?_
      | refine VcL.loadRowN0 tabOk rfl rfl rfl rfl rfl rfl (Holds.f2 H) (fun _ => rfl) (by first | assumption | exact atD_get (by assumption)) (by exact rfl) (by exact rfl) (by exact rfl) ?_
      | refine VcL.loadRowN tabOk rfl rfl rfl rfl rfl rfl (Holds.f2 H) (fun _ => rfl) (by first | assumption | exact atD_get (by assumption)) (by exact rfl) (by exact rfl) (by exact rfl) ?_
      | refine VcL.loadOwnN0 tabOk rfl rfl rfl rfl rfl rfl (Holds.f2 H) (fun _ => rfl) (by first | assumption | exact atD_get (by assumption)) (by exact rfl) (by exact rfl) (by exact rfl) ?_
      | refine VcL.loadOwnN tabOk rfl rfl rfl rfl rfl rfl (Holds.f2 H) (fun _ => rfl) (by first | assumption | exact atD_get (by assumption)) (by exact rfl) (by exact rfl) (by exact rfl) ?_
      | refine VcL.loadRowN0 tabOk rfl rfl rfl rfl rfl rfl (Holds.f3 H) (fun _ => rfl) (by first | assumption | exact atD_get (by assumption)) (by exact rfl) (by exact rfl) (by exact rfl) ?_
      | refine VcL.loadRowN tabOk rfl rfl rfl rfl rfl rfl (Holds.f3 H) (fun _ => rfl) (by first | assumption | exact atD_get (by assumption)) (by exact rfl) (by exact rfl) (by exact rfl) ?_
      | refine VcL.loadOwnN0 tabOk rfl rfl rfl rfl rfl rfl (Holds.f3 H) (fun _ => rfl) (by first | assumption | exact atD_get (by assumption)) (by exact rfl) (by exact rfl) (by exact rfl) ?_
      | refine VcL.loadOwnN tabOk rfl rfl rfl rfl rfl rfl (Holds.f3 H) (fun _ => rfl) (by first | assumption | exact atD_get (by assumption)) (by exact rfl) (by exact rfl) (by exact rfl) ?_
      | refine VcL.loadRowN0 tabOk rfl rfl rfl rfl rfl rfl (Holds.f4 H) (fun _ => rfl) (by first | assumption | exact atD_get (by assumption)) (by exact rfl) (by exact rfl) (by exact rfl) ?_
      | refine VcL.loadRowN tabOk rfl rfl rfl rfl rfl rfl (Holds.f4 H) (fun _ => rfl) (by first | assumption | exact atD_get (by assumption)) (by exact rfl) (by exact rfl) (by exact rfl) ?_
      | refine VcL.loadOwnN0 tabOk rfl rfl rfl rfl rfl rfl (Holds.f4 H) (fun _ => rfl) (by first | assumption | exact atD_get (by assumption)) (by exact rfl) (by exact rfl) (by exact rfl) ?_
      | refine VcL.loadOwnN tabOk rfl rfl rfl rfl rfl rfl (Holds.f4 H) (fun _ => rfl) (by first | assumption | exact atD_get (by assumption)) (by exact rfl) (by exact rfl) (by exact rfl) ?_)
      | (show VcL _ _ _ _ (⟨_, .binOp _ _ _ _ _, _, _, _, _⟩ :: _) _ _ _; first
      | refine VcL.shl rfl rfl (by first | assumption | rfl) rfl rfl rfl ?_
      | refine VcL.shr rfl rfl (by first | assumption | rfl) rfl rfl rfl ?_
      | refine VcL.eqS tabOk rfl rfl rfl rfl rfl rfl (by kernel_rfl) (by kernel_rfl) rfl rfl (by first | exact .inl rfl | exact .inr rfl) ?_)
      | (show VcL _ _ _ _ (⟨_, .indexAddr _ _ _, _, _, _, _⟩ :: _) _ _ _; first
      | refine VcL.indexAddr0 tabOk rfl rfl rfl rfl rfl rfl (by omega) (by omega) ?_
      | refine VcL.indexAddr tabOk rfl rfl rfl rfl rfl rfl (by omega) (by omega) ?_
      | refine VcL.indexArr0 tabOk rfl rfl rfl rfl rfl rfl (by omega) (by omega) ?_
      | refine VcL.indexArr tabOk rfl rfl rfl rfl rfl rfl (by omega) (by omega) ?_)
      | refine VcL.box H rfl rfl rfl rfl rfl (fun b w H => ?_)
      | (show VcL _ _ _ _ (⟨_, .call ⟨.value (.func F_rights_within), _, _⟩, _, _, _, _⟩ :: _) _ _ _; first
      | (refine VcL.callF ok_rights_within rfl rfl rfl rfl (Rets.mono (withinU_any H _ _ _) ?_); rintro _ w ⟨rfl, H⟩))
      | (refine VcL.guard rfl rfl rfl rfl (fun h => ?_) (fun h => ?_) <;> first | (cases h; done) | (exfalso; simp only [decide_eq_true_eq, decide_eq_false_iff_not] at h; omega) | (with_reducible have hp := of_decide_eq_true h) | (with_reducible have hp := of_decide_eq_false h) | (with_reducible have hp := ndec_t h) | (with_reducible have hp := ndec_f h) | skip))
      | (show Vc _ _ _ _ _ _; first
      | refine Vc.seq ?_
      | refine Vc.region ?_
      | refine Vc.condT rfl ?_
      | refine Vc.condF rfl ?_
      | refine Vc.ret ?_
      | refine Vc.skip ?_
      | refine Vc.block ?_
      | refine Vc.exit ?_
      | (refine Vc.cond rfl (fun h => ?_) (fun h => ?_) <;> first | (cases h; done) | (exfalso; simp only [decide_eq_true_eq, decide_eq_false_iff_not] at h; omega) | (with_reducible have hp := of_decide_eq_true h) | (with_reducible have hp := of_decide_eq_false h) | (with_reducible have hp := ndec_t h) | (with_reducible have hp := ndec_f h) | skip))
      | (show KSeq _ _ _ _ _ _ _; first
      | refine KSeq.normal ?_
      | refine KSeq.ret ?_
      | refine KSeq.exit ?_)
      | (show KBlock _ _ _ _ _ _; first
      | refine KBlock.normal ?_
      | refine KBlock.here ?_
      | refine KBlock.on rfl ?_
      | refine KBlock.ret ?_)
      | refine KLoop.exit ?_
      | refine KLoop.ret ?_
      | refine KCut.exit ?_
      | refine KCut.ret ?_
      | (show KEnd _ _ _ _ _ _ _; first
      | refine KEnd.fin (Or.inr rfl) ⟨_, (ResL.tmp rfl ResL.nil), ?_⟩
      | refine KEnd.fin (Or.inl rfl) ⟨_, (ResL.tmp rfl ResL.nil), ?_⟩))
    all_goals (refine ⟨?_, H.drop⟩; unfold userOk is31'; clear hg H; simp_all [resVal] <;> first | omega | (rw [Bool.eq_iff_iff]; simp only [Bool.and_eq_true, decide_eq_true_eq]; omega))
theorem ValidUsers1_any (H : Holds I w L) (u v : Us) (hu : u.name.size ≤ 140737488355328) (hv : v.name.size ≤ 140737488355328) {c : Nat} (hc : RdW I L c 0 (usC u)) : Rets Try.prog F_rights_ValidUsers_1 (#[] ++ [usV v].toArray ++ #[.pointer (some ⟨c, 0, none⟩)]) w fun r w' => r = .bool (eqT u.name v.name) ∧ Holds I w' L := by
  refine ok_rights_ValidUsers_1.rets rfl ?_
  repeat' (first
    | (show VcL _ _ _ _ _ _ _ _; first
      | refine VcL.pures tabOk rfl ?_
      | refine VcL.nil ?_
      | (show VcL _ _ _ _ (⟨_, .load _ _, _, _, _, _⟩ :: _) _ _ _; first
      | refine VcL.load1 tabOk rfl rfl rfl rfl rfl (by first | exact Holds.cell H rfl | exact Holds.cell (Holds.f1 H) rfl | exact Holds.cell (Holds.f2 H) rfl | exact Holds.cell (Holds.f3 H) rfl | exact Holds.cell (Holds.f4 H) rfl | exact Holds.cell (Holds.f5 H) rfl | exact Holds.cell (Holds.f6 H) rfl | exact RdW.get (by assumption) rfl H | exact RdW.get0 (by assumption) rfl H | exact RdW.get (by assumption) rfl (Holds.drop H) | exact RdW.get0 (by assumption) rfl (Holds.drop H) | exact RdW.get (by assumption) rfl (Holds.drop (Holds.drop H)) | exact RdW.get0 (by assumption) rfl (Holds.drop (Holds.drop H)) | exact RdW.get (by assumption) rfl (Holds.drop (Holds.drop (Holds.drop H))) | exact RdW.get0 (by assumption) rfl (Holds.drop (Holds.drop (Holds.drop H))) | exact Holds.rowCell H (fun _ => rfl) (by first | assumption | exact atD_get (by assumption)) rfl | exact Holds.rowCell0 H (fun _ => rfl) (by first | assumption | exact atD_get (by assumption)) rfl | exact Holds.ownCell H (fun _ => rfl) (by first | assumption | exact atD_get (by assumption)) rfl | exact Holds.ownCell0 H (fun _ => rfl) (by first | assumption | exact atD_get (by assumption)) rfl | exact Holds.rowCell (Holds.f1 H) (fun _ => rfl) (by first | assumption | exact atD_get (by assumption)) rfl | exact Holds.rowCell0 (Holds.f1 H) (fun _ => rfl) (by first | assumption | exact atD_get (by assumption)) rfl | exact Holds.ownCell (Holds.f1 H) (fun _ => rfl) (by first | assumption | exact atD_get (by assumption)) rfl | exact Holds.ownCell0 (Holds.f1 H) (fun _ => rfl) (by first | assumption | exact atD_get (by assumption)) rfl | exact Holds.rowCell (Holds.f2 H) (fun _ => rfl) (by first | assumption | exact atD_get (by assumption)) rfl | exact Holds.rowCell0 (Holds.f2 H) (fun _ => rfl) (by first | assumption | exact atD_get (by assumption)) rfl | exact Holds.ownCell (Holds.f2 H) (fun _ => rfl) (by first | assumption | exact atD_get (by assumption)) rfl | exact Holds.ownCell0 (Holds.f2 H) (fun _ => rfl) (by first | assumption | exact atD_get (by assumption)) rfl | exact Holds.rowCell (Holds.f3 H) (fun _ => rfl) (by first | assumption | exact atD_get (by assumption)) rfl | exact Holds.rowCell0 (Holds.f3 H) (fun _ => rfl) (by first | assumption | exact atD_get (by assumption)) rfl | exact Holds.ownCell (Holds.f3 H) (fun _ => rfl) (by first | assumption | exact atD_get (by assumption)) rfl | exact Holds.ownCell0 (Holds.f3 H) (fun _ => rfl) (by first | assumption | exact atD_get (by assumption)) rfl | exact Holds.rowCell (Holds.f4 H) (fun _ => rfl) (by first | assumption | exact atD_get (by assumption)) rfl | exact Holds.rowCell0 (Holds.f4 H) (fun _ => rfl) (by first | assumption | exact atD_get (by assumption)) rfl | exact Holds.ownCell (Holds.f4 H) (fun _ => rfl) (by first | assumption | exact atD_get (by assumption)) rfl | exact Holds.ownCell0 (Holds.f4 H) (fun _ => rfl) (by first | assumption | exact atD_get (by assumption)) rfl | assumption) ?_
      | refine VcL.loadR tabOk rfl rfl rfl rfl rfl rfl (by first | exact RdW.rd (by assumption) H | exact RdW.rd (by assumption) (Holds.drop H) | exact RdW.rd (by assumption) (Holds.drop (Holds.drop H)) | exact RdW.rd (by assumption) (Holds.drop (Holds.drop (Holds.drop H))) | assumption) rfl ?_
      | refine VcL.loadN tabOk rfl rfl rfl rfl rfl rfl (by first | exact H | exact (Holds.f1 H) | exact (Holds.f2 H) | exact (Holds.f3 H) | exact (Holds.f4 H) | exact (Holds.f5 H) | exact (Holds.f6 H)) (by exact rfl) ?_
      | refine VcL.loadRowN0 tabOk rfl rfl rfl rfl rfl rfl H (fun _ => rfl) (by first | assumption | exact atD_get (by assumption)) (by exact rfl) (by exact rfl) (by exact rfl) ?_
      | refine VcL.loadRowN tabOk rfl rfl rfl rfl rfl rfl H (fun _ => rfl) (by first | assumption | exact atD_get (by assumption)) (by exact rfl) (by exact rfl) (by exact rfl) ?_
      | refine VcL.loadOwnN0 tabOk rfl rfl rfl rfl rfl rfl H (fun _ => rfl) (by first | assumption | exact atD_get (by assumption)) (by exact rfl) (by exact rfl) (by exact rfl) ?_
      | refine VcL.loadOwnN tabOk rfl rfl rfl rfl rfl rfl H (fun _ => rfl) (by first | assumption | exact atD_get (by assumption)) (by exact rfl) (by exact rfl) (by exact rfl) ?_
      | refine VcL.loadRowN0 tabOk rfl rfl rfl rfl rfl rfl (Holds.f1 H) (fun _ => rfl) (by first | assumption | exact atD_get (by assumption)) (by exact rfl) (by exact rfl) (by exact rfl) ?_
      | refine VcL.loadRowN tabOk rfl rfl rfl rfl rfl rfl (Holds.f1 H) (fun _ => rfl) (by first | assumption | exact atD_get (by assumption)) (by exact rfl) (by exact rfl) (by exact rfl) ?_
      | refine VcL.loadOwnN0 tabOk rfl rfl rfl rfl rfl rfl (Holds.f1 H) (fun _ => rfl) (by first | assumption | exact atD_get (by assumption)) (by exact rfl) (by exact rfl) (by exact rfl) ?_
      | refine VcL.loadOwnN tabOk rfl rfl rfl rfl rfl rfl (Holds.f1 H) (fun _ => rfl) (by first | assumption | exact atD_get (by assumption)) (by exact rfl) (by exact rfl) (by exact rfl) ?_
      | refine VcL.loadRowN0 tabOk rfl rfl rfl rfl rfl rfl (Holds.f2 H) (fun _ => rfl) (by first | assumption | exact atD_get (by assumption)) (by exact rfl) (by exact rfl) (by exact rfl) ?_
      | refine VcL.loadRowN tabOk rfl rfl rfl rfl rfl rfl (Holds.f2 H) (fun _ => rfl) (by first | assumption | exact atD_get (by assumption)) (by exact rfl) (by exact rfl) (by exact rfl) ?_
      | refine VcL.loadOwnN0 tabOk rfl rfl rfl rfl rfl rfl (Holds.f2 H) (fun _ => rfl) (by first | assumption | exact atD_get (by assumption)) (by exact rfl) (by exact rfl) (by exact rfl) ?_
      | refine VcL.loadOwnN tabOk rfl rfl rfl rfl rfl rfl (Holds.f2 H) (fun _ => rfl) (by first | assumption | exact atD_get (by assumption)) (by exact rfl) (by exact rfl) (by exact rfl) ?_
      | refine VcL.loadRowN0 tabOk rfl rfl rfl rfl rfl rfl (Holds.f3 H) (fun _ => rfl) (by first | assumption | exact atD_get (by assumption)) (by exact rfl) (by exact rfl) (by exact rfl) ?_
      | refine VcL.loadRowN tabOk rfl rfl rfl rfl rfl rfl (Holds.f3 H) (fun _ => rfl) (by first | assumption | exact atD_get (by assumption)) (by exact rfl) (by exact rfl) (by exact rfl) ?_
      | refine VcL.loadOwnN0 tabOk rfl rfl rfl rfl rfl rfl (Holds.f3 H) (fun _ => rfl) (by first | assumption | exact atD_get (by assumption)) (by exact rfl) (by exact rfl) (by exact rfl) ?_
      | refine VcL.loadOwnN tabOk rfl rfl rfl rfl rfl rfl (Holds.f3 H) (fun _ => rfl) (by first | assumption | exact atD_get (by assumption)) (by exact rfl) (by exact rfl) (by exact rfl) ?_
      | refine VcL.loadRowN0 tabOk rfl rfl rfl rfl rfl rfl (Holds.f4 H) (fun _ => rfl) (by first | assumption | exact atD_get (by assumption)) (by exact rfl) (by exact rfl) (by exact rfl) ?_
      | refine VcL.loadRowN tabOk rfl rfl rfl rfl rfl rfl (Holds.f4 H) (fun _ => rfl) (by first | assumption | exact atD_get (by assumption)) (by exact rfl) (by exact rfl) (by exact rfl) ?_
      | refine VcL.loadOwnN0 tabOk rfl rfl rfl rfl rfl rfl (Holds.f4 H) (fun _ => rfl) (by first | assumption | exact atD_get (by assumption)) (by exact rfl) (by exact rfl) (by exact rfl) ?_
      | refine VcL.loadOwnN tabOk rfl rfl rfl rfl rfl rfl (Holds.f4 H) (fun _ => rfl) (by first | assumption | exact atD_get (by assumption)) (by exact rfl) (by exact rfl) (by exact rfl) ?_)
      | refine VcL.box H rfl rfl rfl rfl rfl (fun b w H => ?_)
      | (show VcL _ _ _ _ (⟨_, .call ⟨.value (.func F_octet_Equal), _, _⟩, _, _, _, _⟩ :: _) _ _ _; first
      | (refine VcL.callF ok_octet_Equal rfl rfl rfl rfl (Rets.mono (Equal_any H _ _ hu hv) ?_); rintro _ w ⟨rfl, H⟩))
      | (refine VcL.guard rfl rfl rfl rfl (fun h => ?_) (fun h => ?_) <;> first | (cases h; done) | (exfalso; simp only [decide_eq_true_eq, decide_eq_false_iff_not] at h; omega) | (with_reducible have hp := of_decide_eq_true h) | (with_reducible have hp := of_decide_eq_false h) | (with_reducible have hp := ndec_t h) | (with_reducible have hp := ndec_f h) | skip))
    | (show Vc _ _ _ _ _ _; first
      | refine Vc.seq ?_
      | refine Vc.region ?_
      | refine Vc.condT rfl ?_
      | refine Vc.condF rfl ?_
      | refine Vc.ret ?_
      | refine Vc.skip ?_
      | refine Vc.block ?_
      | refine Vc.exit ?_
      | (refine Vc.cond rfl (fun h => ?_) (fun h => ?_) <;> first | (cases h; done) | (exfalso; simp only [decide_eq_true_eq, decide_eq_false_iff_not] at h; omega) | (with_reducible have hp := of_decide_eq_true h) | (with_reducible have hp := of_decide_eq_false h) | (with_reducible have hp := ndec_t h) | (with_reducible have hp := ndec_f h) | skip))
    | (show KSeq _ _ _ _ _ _ _; first
      | refine KSeq.normal ?_
      | refine KSeq.ret ?_
      | refine KSeq.exit ?_)
    | (show KBlock _ _ _ _ _ _; first
      | refine KBlock.normal ?_
      | refine KBlock.here ?_
      | refine KBlock.on rfl ?_
      | refine KBlock.ret ?_)
    | refine KLoop.exit ?_
    | refine KLoop.ret ?_
    | refine KCut.exit ?_
    | refine KCut.ret ?_
    | (show KEnd _ _ _ _ _ _ _; first
      | refine KEnd.fin (Or.inr rfl) ⟨_, (ResL.tmp rfl ResL.nil), ?_⟩
      | refine KEnd.fin (Or.inl rfl) ⟨_, (ResL.tmp rfl ResL.nil), ?_⟩))
  exact ⟨rfl, H.drop⟩
theorem IndexFuncU_any (H : Holds I w L) {v : Value} {l : List Us} (hv : SlR I L v 4 l.length (l.flatMap usC)) (hl : l.length ≤ 140737488355328) {g m : Nat} {rs : List ResultVar} {c : Code} {caps : Array Value} (hf : FnOk Try.prog g m rs c) (p : Us → Bool)
    (hF : ∀ w k, k < l.length → Holds I w L → Rets Try.prog g (#[] ++ [usV (atD l k)].toArray ++ caps) w fun u w' => u = .bool (p (atD l k)) ∧ Holds I w' L) :
    Rets Try.prog F_slices_IndexFunc_api_User_api_User #[v, .func (.func g) #[] caps] w fun u w' => u = .int .i64 (idxF p l) ∧ Holds I w' L := by
  obtain ⟨A, cap, rfl, hcap⟩ := hv.form
  refine ok_slices_IndexFunc_api_User_api_User.rets rfl ?_
  repeat' (first
    | (show VcL _ _ _ _ _ _ _ _; first
      | refine VcL.pures tabOk rfl ?_
      | refine VcL.nil ?_
      | (show VcL _ _ _ _ (⟨_, .load _ _, _, _, _, _⟩ :: _) _ _ _; first
      | refine VcL.load1 tabOk rfl rfl rfl rfl rfl (by first | exact Holds.cell H rfl | exact Holds.cell (Holds.f1 H) rfl | exact Holds.cell (Holds.f2 H) rfl | exact Holds.cell (Holds.f3 H) rfl | exact Holds.cell (Holds.f4 H) rfl | exact Holds.cell (Holds.f5 H) rfl | exact Holds.cell (Holds.f6 H) rfl | exact RdW.get (by assumption) rfl H | exact RdW.get0 (by assumption) rfl H | exact RdW.get (by assumption) rfl (Holds.drop H) | exact RdW.get0 (by assumption) rfl (Holds.drop H) | exact RdW.get (by assumption) rfl (Holds.drop (Holds.drop H)) | exact RdW.get0 (by assumption) rfl (Holds.drop (Holds.drop H)) | exact RdW.get (by assumption) rfl (Holds.drop (Holds.drop (Holds.drop H))) | exact RdW.get0 (by assumption) rfl (Holds.drop (Holds.drop (Holds.drop H))) | exact Holds.rowCell H (fun _ => rfl) (by first | assumption | exact atD_get (by assumption)) rfl | exact Holds.rowCell0 H (fun _ => rfl) (by first | assumption | exact atD_get (by assumption)) rfl | exact Holds.ownCell H (fun _ => rfl) (by first | assumption | exact atD_get (by assumption)) rfl | exact Holds.ownCell0 H (fun _ => rfl) (by first | assumption | exact atD_get (by assumption)) rfl | exact Holds.rowCell (Holds.f1 H) (fun _ => rfl) (by first | assumption | exact atD_get (by assumption)) rfl | exact Holds.rowCell0 (Holds.f1 H) (fun _ => rfl) (by first | assumption | exact atD_get (by assumption)) rfl | exact Holds.ownCell (Holds.f1 H) (fun _ => rfl) (by first | assumption | exact atD_get (by assumption)) rfl | exact Holds.ownCell0 (Holds.f1 H) (fun _ => rfl) (by first | assumption | exact atD_get (by assumption)) rfl | exact Holds.rowCell (Holds.f2 H) (fun _ => rfl) (by first | assumption | exact atD_get (by assumption)) rfl | exact Holds.rowCell0 (Holds.f2 H) (fun _ => rfl) (by first | assumption | exact atD_get (by assumption)) rfl | exact Holds.ownCell (Holds.f2 H) (fun _ => rfl) (by first | assumption | exact atD_get (by assumption)) rfl | exact Holds.ownCell0 (Holds.f2 H) (fun _ => rfl) (by first | assumption | exact atD_get (by assumption)) rfl | exact Holds.rowCell (Holds.f3 H) (fun _ => rfl) (by first | assumption | exact atD_get (by assumption)) rfl | exact Holds.rowCell0 (Holds.f3 H) (fun _ => rfl) (by first | assumption | exact atD_get (by assumption)) rfl | exact Holds.ownCell (Holds.f3 H) (fun _ => rfl) (by first | assumption | exact atD_get (by assumption)) rfl | exact Holds.ownCell0 (Holds.f3 H) (fun _ => rfl) (by first | assumption | exact atD_get (by assumption)) rfl | exact Holds.rowCell (Holds.f4 H) (fun _ => rfl) (by first | assumption | exact atD_get (by assumption)) rfl | exact Holds.rowCell0 (Holds.f4 H) (fun _ => rfl) (by first | assumption | exact atD_get (by assumption)) rfl | exact Holds.ownCell (Holds.f4 H) (fun _ => rfl) (by first | assumption | exact atD_get (by assumption)) rfl | exact Holds.ownCell0 (Holds.f4 H) (fun _ => rfl) (by first | assumption | exact atD_get (by assumption)) rfl | assumption) ?_
      | refine VcL.loadR tabOk rfl rfl rfl rfl rfl rfl (by first | exact RdW.rd (by assumption) H | exact RdW.rd (by assumption) (Holds.drop H) | exact RdW.rd (by assumption) (Holds.drop (Holds.drop H)) | exact RdW.rd (by assumption) (Holds.drop (Holds.drop (Holds.drop H))) | assumption) rfl ?_
      | refine VcL.loadN tabOk rfl rfl rfl rfl rfl rfl (by first | exact H | exact (Holds.f1 H) | exact (Holds.f2 H) | exact (Holds.f3 H) | exact (Holds.f4 H) | exact (Holds.f5 H) | exact (Holds.f6 H)) (by exact rfl) ?_
      | refine VcL.loadRowN0 tabOk rfl rfl rfl rfl rfl rfl H (fun _ => rfl) (by first | assumption | exact atD_get (by assumption)) (by exact rfl) (by exact rfl) (by exact rfl) ?_
      | refine VcL.loadRowN tabOk rfl rfl rfl rfl rfl rfl H (fun _ => rfl) (by first | assumption | exact atD_get (by assumption)) (by exact rfl) (by exact rfl) (by exact rfl) ?_
      | refine VcL.loadOwnN0 tabOk rfl rfl rfl rfl rfl rfl H (fun _ => rfl) (by first | assumption | exact atD_get (by assumption)) (by exact rfl) (by exact rfl) (by exact rfl) ?_
      | refine VcL.loadOwnN tabOk rfl rfl rfl rfl rfl rfl H (fun _ => rfl) (by first | assumption | exact atD_get (by assumption)) (by exact rfl) (by exact rfl) (by exact rfl) ?_
      | refine VcL.loadRowN0 tabOk rfl rfl rfl rfl rfl rfl (Holds.f1 H) (fun _ => rfl) (by first | assumption | exact atD_get (by assumption)) (by exact rfl) (by exact rfl) (by exact rfl) ?_
      | refine VcL.loadRowN tabOk rfl rfl rfl rfl rfl rfl (Holds.f1 H) (fun _ => rfl) (by first | assumption | exact atD_get (by assumption)) (by exact rfl) (by exact rfl) (by exact rfl) ?_
      | refine VcL.loadOwnN0 tabOk rfl rfl rfl rfl rfl rfl (Holds.f1 H) (fun _ => rfl) (by first | assumption | exact atD_get (by assumption)) (by exact rfl) (by exact rfl) (by exact rfl) ?_
      | refine VcL.loadOwnN tabOk rfl rfl rfl rfl rfl rfl (Holds.f1 H) (fun _ => rfl) (by first | assumption | exact atD_get (by assumption)) (by exact rfl) (by exact rfl) (by exact rfl) ?_
      | refine VcL.loadRowN0 tabOk rfl rfl rfl rfl rfl rfl (Holds.f2 H) (fun _ => rfl) (by first | assumption | exact atD_get (by assumption)) (by exact rfl) (by exact rfl) (by exact rfl) ?_
      | refine VcL.loadRowN tabOk rfl rfl rfl rfl rfl rfl (Holds.f2 H) (fun _ => rfl) (by first | assumption | exact atD_get (by assumption)) (by exact rfl) (by exact rfl) (by exact rfl) ?_
      | refine VcL.loadOwnN0 tabOk rfl rfl rfl rfl rfl rfl (Holds.f2 H) (fun _ => rfl) (by first | assumption | exact atD_get (by assumption)) (by exact rfl) (by exact rfl) (by exact rfl) ?_
      | refine VcL.loadOwnN tabOk rfl rfl rfl rfl rfl rfl (Holds.f2 H) (fun _ => rfl) (by first | assumption | exact atD_get (by assumption)) (by exact rfl) (by exact rfl) (by exact rfl) ?_
      | refine VcL.loadRowN0 tabOk rfl rfl rfl rfl rfl rfl (Holds.f3 H) (fun _ => rfl) (by first | assumption | exact atD_get (by assumption)) (by exact rfl) (by exact rfl) (by exact rfl) ?_
      | refine VcL.loadRowN tabOk rfl rfl rfl rfl rfl rfl (Holds.f3 H) (fun _ => rfl) (by first | assumption | exact atD_get (by assumption)) (by exact rfl) (by exact rfl) (by exact rfl) ?_
      | refine VcL.loadOwnN0 tabOk rfl rfl rfl rfl rfl rfl (Holds.f3 H) (fun _ => rfl) (by first | assumption | exact atD_get (by assumption)) (by exact rfl) (by exact rfl) (by exact rfl) ?_
      | refine VcL.loadOwnN tabOk rfl rfl rfl rfl rfl rfl (Holds.f3 H) (fun _ => rfl) (by first | assumption | exact atD_get (by assumption)) (by exact rfl) (by exact rfl) (by exact rfl) ?_
      | refine VcL.loadRowN0 tabOk rfl rfl rfl rfl rfl rfl (Holds.f4 H) (fun _ => rfl) (by first | assumption | exact atD_get (by assumption)) (by exact rfl) (by exact rfl) (by exact rfl) ?_
      | refine VcL.loadRowN tabOk rfl rfl rfl rfl rfl rfl (Holds.f4 H) (fun _ => rfl) (by first | assumption | exact atD_get (by assumption)) (by exact rfl) (by exact rfl) (by exact rfl) ?_
      | refine VcL.loadOwnN0 tabOk rfl rfl rfl rfl rfl rfl (Holds.f4 H) (fun _ => rfl) (by first | assumption | exact atD_get (by assumption)) (by exact rfl) (by exact rfl) (by exact rfl) ?_
      | refine VcL.loadOwnN tabOk rfl rfl rfl rfl rfl rfl (Holds.f4 H) (fun _ => rfl) (by first | assumption | exact atD_get (by assumption)) (by exact rfl) (by exact rfl) (by exact rfl) ?_)
      | (show VcL _ _ _ _ (⟨_, .binOp _ _ _ _ _, _, _, _, _⟩ :: _) _ _ _; first
      | refine VcL.shl rfl rfl (by first | assumption | rfl) rfl rfl rfl ?_
      | refine VcL.shr rfl rfl (by first | assumption | rfl) rfl rfl rfl ?_
      | refine VcL.eqS tabOk rfl rfl rfl rfl rfl rfl (by kernel_rfl) (by kernel_rfl) rfl rfl (by first | exact .inl rfl | exact .inr rfl) ?_)
      | (show VcL _ _ _ _ (⟨_, .indexAddr _ _ _, _, _, _, _⟩ :: _) _ _ _; first
      | refine VcL.indexAddr0 tabOk rfl rfl rfl rfl rfl rfl (by omega) (by omega) ?_
      | refine VcL.indexAddr tabOk rfl rfl rfl rfl rfl rfl (by omega) (by omega) ?_
      | refine VcL.indexArr0 tabOk rfl rfl rfl rfl rfl rfl (by omega) (by omega) ?_
      | refine VcL.indexArr tabOk rfl rfl rfl rfl rfl rfl (by omega) (by omega) ?_)
      | (refine VcL.guard rfl rfl rfl rfl (fun h => ?_) (fun h => ?_) <;> first | (cases h; done) | (exfalso; simp only [decide_eq_true_eq, decide_eq_false_iff_not] at h; omega) | (with_reducible have hp := of_decide_eq_true h) | (with_reducible have hp := of_decide_eq_false h) | (with_reducible have hp := ndec_t h) | (with_reducible have hp := ndec_f h) | skip))
    | (show Vc _ _ _ _ _ _; first
      | refine Vc.seq ?_
      | refine Vc.region ?_
      | refine Vc.condT rfl ?_
      | refine Vc.condF rfl ?_
      | refine Vc.ret ?_
      | refine Vc.skip ?_
      | refine Vc.block ?_
      | refine Vc.exit ?_
      | (refine Vc.cond rfl (fun h => ?_) (fun h => ?_) <;> first | (cases h; done) | (exfalso; simp only [decide_eq_true_eq, decide_eq_false_iff_not] at h; omega) | (with_reducible have hp := of_decide_eq_true h) | (with_reducible have hp := of_decide_eq_false h) | (with_reducible have hp := ndec_t h) | (with_reducible have hp := ndec_f h) | skip))
    | (show KSeq _ _ _ _ _ _ _; first
      | refine KSeq.normal ?_
      | refine KSeq.ret ?_
      | refine KSeq.exit ?_)
    | (show KBlock _ _ _ _ _ _; first
      | refine KBlock.normal ?_
      | refine KBlock.here ?_
      | refine KBlock.on rfl ?_
      | refine KBlock.ret ?_)
    | refine KLoop.exit ?_
    | refine KLoop.ret ?_
    | refine KCut.exit ?_
    | refine KCut.ret ?_
    | (show KEnd _ _ _ _ _ _ _; first
      | refine KEnd.fin (Or.inr rfl) ⟨_, (ResL.tmp rfl ResL.nil), ?_⟩
      | refine KEnd.fin (Or.inl rfl) ⟨_, (ResL.tmp rfl ResL.nil), ?_⟩))
  refine Vc.loopS [(0, _), (1, _), (7, _)] (fun k : Nat => [(8, .int .i64 k)]) (fun k w => Holds I w L ∧ k ≤ l.length ∧ ∀ j, j < k → p (atD l j) = false) (fun k _ => l.length - k) 0 ⟨rfl, trivial⟩ ⟨rfl, rfl, rfl, trivial⟩ ⟨H, Nat.zero_le _, fun j hj => absurd hj (by omega)⟩ ?_
  rintro k w ⟨H, hk, hall⟩
  by_cases hlt : k < l.length
  · obtain ⟨b, o, rfl, hr⟩ := hv.at (by omega)
    have hx := hr.elem usC_len (atD_get hlt)
    repeat' (first
      | (show VcL _ _ _ _ _ _ _ _; first
      | refine VcL.pures tabOk rfl ?_
      | refine VcL.nil ?_
      | (show VcL _ _ _ _ (⟨_, .load _ _, _, _, _, _⟩ :: _) _ _ _; first
      | refine VcL.load1 tabOk rfl rfl rfl rfl rfl (by first | exact Holds.cell H rfl | exact Holds.cell (Holds.f1 H) rfl | exact Holds.cell (Holds.f2 H) rfl | exact Holds.cell (Holds.f3 H) rfl | exact Holds.cell (Holds.f4 H) rfl | exact Holds.cell (Holds.f5 H) rfl | exact Holds.cell (Holds.f6 H) rfl | exact RdW.get (by assumption) rfl H | exact RdW.get0 (by assumption) rfl H | exact RdW.get (by assumption) rfl (Holds.drop H) | exact RdW.get0 (by assumption) rfl (Holds.drop H) | exact RdW.get (by assumption) rfl (Holds.drop (Holds.drop H)) | exact RdW.get0 (by assumption) rfl (Holds.drop (Holds.drop H)) | exact RdW.get (by assumption) rfl (Holds.drop (Holds.drop (Holds.drop H))) | exact RdW.get0 (by assumption) rfl (Holds.drop (Holds.drop (Holds.drop H))) | exact Holds.rowCell H (fun _ => rfl) (by first | assumption | exact atD_get (by assumption)) rfl | exact Holds.rowCell0 H (fun _ => rfl) (by first | assumption | exact atD_get (by assumption)) rfl | exact Holds.ownCell H (fun _ => rfl) (by first | assumption | exact atD_get (by assumption)) rfl | exact Holds.ownCell0 H (fun _ => rfl) (by first | assumption | exact atD_get (by assumption)) rfl | exact Holds.rowCell (Holds.f1 H) (fun _ => rfl) (by first | assumption | exact atD_get (by assumption)) rfl | exact Holds.rowCell0 (Holds.f1 H) (fun _ => rfl) (by first | assumption | exact atD_get (by assumption)) rfl | exact Holds.ownCell (Holds.f1 H) (fun _ => rfl) (by first | assumption | exact atD_get (by assumption)) rfl | exact Holds.ownCell0 (Holds.f1 H) (fun _ => rfl) (by first | assumption | exact atD_get (by assumption)) rfl | exact Holds.rowCell (Holds.f2 H) (fun _ => rfl) (by first | assumption | exact atD_get (by assumption)) rfl | exact Holds.rowCell0 (Holds.f2 H) (fun _ => rfl) (by first | assumption | exact atD_get (by assumption)) rfl | exact Holds.ownCell (Holds.f2 H) (fun _ => rfl) (by first | assumption | exact atD_get (by assumption)) rfl | exact Holds.ownCell0 (Holds.f2 H) (fun _ => rfl) (by first | assumption | exact atD_get (by assumption)) rfl | exact Holds.rowCell (Holds.f3 H) (fun _ => rfl) (by first | assumption | exact atD_get (by assumption)) rfl | exact Holds.rowCell0 (Holds.f3 H) (fun _ => rfl) (by first | assumption | exact atD_get (by assumption)) rfl | exact Holds.ownCell (Holds.f3 H) (fun _ => rfl) (by first | assumption | exact atD_get (by assumption)) rfl | exact Holds.ownCell0 (Holds.f3 H) (fun _ => rfl) (by first | assumption | exact atD_get (by assumption)) rfl | exact Holds.rowCell (Holds.f4 H) (fun _ => rfl) (by first | assumption | exact atD_get (by assumption)) rfl | exact Holds.rowCell0 (Holds.f4 H) (fun _ => rfl) (by first | assumption | exact atD_get (by assumption)) rfl | exact Holds.ownCell (Holds.f4 H) (fun _ => rfl) (by first | assumption | exact atD_get (by assumption)) rfl | exact Holds.ownCell0 (Holds.f4 H) (fun _ => rfl) (by first | assumption | exact atD_get (by assumption)) rfl | assumption) ?_
      | refine VcL.loadR tabOk rfl rfl rfl rfl rfl rfl (by first | exact RdW.rd (by assumption) H | exact RdW.rd (by assumption) (Holds.drop H) | exact RdW.rd (by assumption) (Holds.drop (Holds.drop H)) | exact RdW.rd (by assumption) (Holds.drop (Holds.drop (Holds.drop H))) | assumption) rfl ?_
      | refine VcL.loadN tabOk rfl rfl rfl rfl rfl rfl (by first | exact H | exact (Holds.f1 H) | exact (Holds.f2 H) | exact (Holds.f3 H) | exact (Holds.f4 H) | exact (Holds.f5 H) | exact (Holds.f6 H)) (by exact rfl) ?_
      | refine VcL.loadRowN0 tabOk rfl rfl rfl rfl rfl rfl H (fun _ => rfl) (by first | assumption | exact atD_get (by assumption)) (by exact rfl) (by exact rfl) (by exact rfl) ?_
      | refine VcL.loadRowN tabOk rfl rfl rfl rfl rfl rfl H (fun _ => rfl) (by first | assumption | exact atD_get (by assumption)) (by exact rfl) (by exact rfl) (by exact rfl) ?_
      | refine VcL.loadOwnN0 tabOk rfl rfl rfl rfl rfl rfl H (fun _ => rfl) (by first | assumption | exact atD_get (by assumption)) (by exact rfl) (by exact rfl) (by exact rfl) ?_
      | refine VcL.loadOwnN tabOk rfl rfl rfl rfl rfl rfl H (fun _ => rfl) (by first | assumption | exact atD_get (by assumption)) (by exact rfl) (by exact rfl) (by exact rfl) ?_
      | refine VcL.loadRowN0 tabOk rfl rfl rfl rfl rfl rfl (Holds.f1 H) (fun _ => rfl) (by first | assumption | exact atD_get (by assumption)) (by exact rfl) (by exact rfl) (by exact rfl) ?_
      | refine VcL.loadRowN tabOk rfl rfl rfl rfl rfl rfl (Holds.f1 H) (fun _ => rfl) (by first | assumption | exact atD_get (by assumption)) (by exact rfl) (by exact rfl) (by exact rfl) ?_
      | refine VcL.loadOwnN0 tabOk rfl rfl rfl rfl rfl rfl (Holds.f1 H) (fun _ => rfl) (by first | assumption | exact atD_get (by assumption)) (by exact rfl) (by exact rfl) (by exact rfl) ?_
      | refine VcL.loadOwnN tabOk rfl rfl rfl rfl rfl rfl (Holds.f1 H) (fun _ => rfl) (by first | assumption | exact atD_get (by assumption)) (by exact rfl) (by exact rfl) (by exact rfl) ?_
      | refine VcL.loadRowN0 tabOk rfl rfl rfl rfl rfl rfl (Holds.f2 H) (fun _ => rfl) (by first | assumption | exact atD_get (by assumption)) (by exact rfl) (by exact rfl) (by exact rfl) ?_
      | refine VcL.loadRowN tabOk rfl rfl rfl rfl rfl rfl (Holds.f2 H) (fun _ => rfl) (by first | assumption | exact atD_get (by assumption)) (by exact rfl) (by exact rfl) (by exact rfl) ?_
      | refine VcL.loadOwnN0 tabOk rfl rfl rfl rfl rfl rfl (Holds.f2 H) (fun _ => rfl) (by first | assumption | exact atD_get (by assumption)) (by exact rfl) (by exact rfl) (by exact rfl) ?_
      | refine VcL.loadOwnN tabOk rfl rfl rfl rfl rfl rfl (Holds.f2 H) (fun _ => rfl) (by first | assumption | exact atD_get (by assumption)) (by exact rfl) (by exact rfl) (by exact rfl) ?_
      | refine VcL.loadRowN0 tabOk rfl rfl rfl rfl rfl rfl (Holds.f3 H) (fun _ => rfl) (by first | assumption | exact atD_get (by assumption)) (by exact rfl) (by exact rfl) (by exact rfl) ?_
      | refine VcL.loadRowN tabOk rfl rfl rfl rfl rfl rfl (Holds.f3 H) (fun _ => rfl) (by first | assumption | exact atD_get (by assumption)) (by exact rfl) (by exact rfl) (by exact rfl) ?_
      | refine VcL.loadOwnN0 tabOk rfl rfl rfl rfl rfl rfl (Holds.f3 H) (fun _ => rfl) (by first | assumption | exact atD_get (by assumption)) (by exact rfl) (by exact rfl) (by exact rfl) ?_
      | refine VcL.loadOwnN tabOk rfl rfl rfl rfl rfl rfl (Holds.f3 H) (fun _ => rfl) (by first | assumption | exact atD_get (by assumption)) (by exact rfl) (by exact rfl) (by exact rfl) ?_
      | refine VcL.loadRowN0 tabOk rfl rfl rfl rfl rfl rfl (Holds.f4 H) (fun _ => rfl) (by first | assumption | exact atD_get (by assumption)) (by exact rfl) (by exact rfl) (by exact rfl) ?_
      | refine VcL.loadRowN tabOk rfl rfl rfl rfl rfl rfl (Holds.f4 H) (fun _ => rfl) (by first | assumption | exact atD_get (by assumption)) (by exact rfl) (by exact rfl) (by exact rfl) ?_
      | refine VcL.loadOwnN0 tabOk rfl rfl rfl rfl rfl rfl (Holds.f4 H) (fun _ => rfl) (by first | assumption | exact atD_get (by assumption)) (by exact rfl) (by exact rfl) (by exact rfl) ?_
      | refine VcL.loadOwnN tabOk rfl rfl rfl rfl rfl rfl (Holds.f4 H) (fun _ => rfl) (by first | assumption | exact atD_get (by assumption)) (by exact rfl) (by exact rfl) (by exact rfl) ?_)
      | (show VcL _ _ _ _ (⟨_, .binOp _ _ _ _ _, _, _, _, _⟩ :: _) _ _ _; first
      | refine VcL.shl rfl rfl (by first | assumption | rfl) rfl rfl rfl ?_
      | refine VcL.shr rfl rfl (by first | assumption | rfl) rfl rfl rfl ?_
      | refine VcL.eqS tabOk rfl rfl rfl rfl rfl rfl (by kernel_rfl) (by kernel_rfl) rfl rfl (by first | exact .inl rfl | exact .inr rfl) ?_)
      | (show VcL _ _ _ _ (⟨_, .indexAddr _ _ _, _, _, _, _⟩ :: _) _ _ _; first
      | refine VcL.indexAddr0 tabOk rfl rfl rfl rfl rfl rfl (by omega) (by omega) ?_
      | refine VcL.indexAddr tabOk rfl rfl rfl rfl rfl rfl (by omega) (by omega) ?_
      | refine VcL.indexArr0 tabOk rfl rfl rfl rfl rfl rfl (by omega) (by omega) ?_
      | refine VcL.indexArr tabOk rfl rfl rfl rfl rfl rfl (by omega) (by omega) ?_)
      | (show VcL _ _ _ _ (⟨_, .call ⟨.value (.tmp _), _, _⟩, _, _, _, _⟩ :: _) _ _ _; first
      | (refine VcL.callV hf rfl rfl rfl rfl rfl (Rets.mono (hF _ k hlt H) ?_); rintro _ w ⟨rfl, H⟩))
      | (refine VcL.guard rfl rfl rfl rfl (fun h => ?_) (fun h => ?_) <;> first | (cases h; done) | (exfalso; simp only [decide_eq_true_eq, decide_eq_false_iff_not] at h; omega) | (with_reducible have hp := of_decide_eq_true h) | (with_reducible have hp := of_decide_eq_false h) | (with_reducible have hp := ndec_t h) | (with_reducible have hp := ndec_f h) | skip))
      | (show Vc _ _ _ _ _ _; first
      | refine Vc.seq ?_
      | refine Vc.region ?_
      | refine Vc.condT rfl ?_
      | refine Vc.condF rfl ?_
      | refine Vc.ret ?_
      | refine Vc.skip ?_
      | refine Vc.block ?_
      | refine Vc.exit ?_
      | (refine Vc.cond rfl (fun h => ?_) (fun h => ?_) <;> first | (cases h; done) | (exfalso; simp only [decide_eq_true_eq, decide_eq_false_iff_not] at h; omega) | (with_reducible have hp := of_decide_eq_true h) | (with_reducible have hp := of_decide_eq_false h) | (with_reducible have hp := ndec_t h) | (with_reducible have hp := ndec_f h) | skip))
      | (show KSeq _ _ _ _ _ _ _; first
      | refine KSeq.normal ?_
      | refine KSeq.ret ?_
      | refine KSeq.exit ?_)
      | (show KBlock _ _ _ _ _ _; first
      | refine KBlock.normal ?_
      | refine KBlock.here ?_
      | refine KBlock.on rfl ?_
      | refine KBlock.ret ?_)
      | refine KLoop.exit ?_
      | refine KLoop.ret ?_
      | refine KCut.exit ?_
      | refine KCut.ret ?_
      | (show KEnd _ _ _ _ _ _ _; first
      | refine KEnd.fin (Or.inr rfl) ⟨_, (ResL.tmp rfl ResL.nil), ?_⟩
      | refine KEnd.fin (Or.inl rfl) ⟨_, (ResL.tmp rfl ResL.nil), ?_⟩))
    · exact ⟨by rw [idxF_yes hlt h hall]; rfl, H⟩
    · refine KLoop.again (k + 1) ⟨got_succ rfl (by omega), trivial⟩ ⟨rfl, rfl, rfl, trivial⟩ ⟨H, hlt, fun j hj => ?_⟩ (by omega)
      rcases Nat.lt_or_ge j k with h1 | h1
      · exact hall j h1
      · obtain rfl : j = k := by omega
        exact h
  ·
    repeat' (first
      | (show VcL _ _ _ _ _ _ _ _; first
      | refine VcL.pures tabOk rfl ?_
      | refine VcL.nil ?_
      | (show VcL _ _ _ _ (⟨_, .load _ _, _, _, _, _⟩ :: _) _ _ _; first
      | refine VcL.load1 tabOk rfl rfl rfl rfl rfl (by first | exact Holds.cell H rfl | exact Holds.cell (Holds.f1 H) rfl | exact Holds.cell (Holds.f2 H) rfl | exact Holds.cell (Holds.f3 H) rfl | exact Holds.cell (Holds.f4 H) rfl | exact Holds.cell (Holds.f5 H) rfl | exact Holds.cell (Holds.f6 H) rfl | exact RdW.get (by assumption) rfl H | exact RdW.get0 (by assumption) rfl H | exact RdW.get (by assumption) rfl (Holds.drop H) | exact RdW.get0 (by assumption) rfl (Holds.drop H) | exact RdW.get (by assumption) rfl (Holds.drop (Holds.drop H)) | exact RdW.get0 (by assumption) rfl (Holds.drop (Holds.drop H)) | exact RdW.get (by assumption) rfl (Holds.drop (Holds.drop (Holds.drop H))) | exact RdW.get0 (by assumption) rfl (Holds.drop (Holds.drop (Holds.drop H))) | exact Holds.rowCell H (fun _ => rfl) (by first | assumption | exact atD_get (by assumption)) rfl | exact Holds.rowCell0 H (fun _ => rfl) (by first | assumption | exact atD_get (by assumption)) rfl | exact Holds.ownCell H (fun _ => rfl) (by first | assumption | exact atD_get (by assumption)) rfl | exact Holds.ownCell0 H (fun _ => rfl) (by first | assumption | exact atD_get (by assumption)) rfl | exact Holds.rowCell (Holds.f1 H) (fun _ => rfl) (by first | assumption | exact atD_get (by assumption)) rfl | exact Holds.rowCell0 (Holds.f1 H) (fun _ => rfl) (by first | assumption | exact atD_get (by assumption)) rfl | exact Holds.ownCell (Holds.f1 H) (fun _ => rfl) (by first | assumption | exact atD_get (by assumption)) rfl | exact Holds.ownCell0 (Holds.f1 H) (fun _ => rfl) (by first | assumption | exact atD_get (by assumption)) rfl | exact Holds.rowCell (Holds.f2 H) (fun _ => rfl) (by first | assumption | exact atD_get (by assumption)) rfl | exact Holds.rowCell0 (Holds.f2 H) (fun _ => rfl) (by first | assumption | exact atD_get (by assumption)) rfl | exact Holds.ownCell (Holds.f2 H) (fun _ => rfl) (by first | assumption | exact atD_get (by assumption)) rfl | exact Holds.ownCell0 (Holds.f2 H) (fun _ => rfl) (by first | assumption | exact atD_get (by assumption)) rfl | exact Holds.rowCell (Holds.f3 H) (fun _ => rfl) (by first | assumption | exact atD_get (by assumption)) rfl | exact Holds.rowCell0 (Holds.f3 H) (fun _ => rfl) (by first | assumption | exact atD_get (by assumption)) rfl | exact Holds.ownCell (Holds.f3 H) (fun _ => rfl) (by first | assumption | exact atD_get (by assumption)) rfl | exact Holds.ownCell0 (Holds.f3 H) (fun _ => rfl) (by first | assumption | exact atD_get (by assumption)) rfl | exact Holds.rowCell (Holds.f4 H) (fun _ => rfl) (by first | assumption | exact atD_get (by assumption)) rfl | exact Holds.rowCell0 (Holds.f4 H) (fun _ => rfl) (by first | assumption | exact atD_get (by assumption)) rfl | exact Holds.ownCell (Holds.f4 H) (fun _ => rfl) (by first | assumption | exact atD_get (by assumption)) rfl | exact Holds.ownCell0 (Holds.f4 H) (fun _ => rfl) (by first | assumption | exact atD_get (by assumption)) rfl | assumption) ?_
      | refine VcL.loadR tabOk rfl rfl rfl rfl rfl rfl (by first | exact RdW.rd (by assumption) H | exact RdW.rd (by assumption) (Holds.drop H) | exact RdW.rd (by assumption) (Holds.drop (Holds.drop H)) | exact RdW.rd (by assumption) (Holds.drop (Holds.drop (Holds.drop H))) | assumption) rfl ?_
      | refine VcL.loadN tabOk rfl rfl rfl rfl rfl rfl (by first | exact H | exact (Holds.f1 H) | exact (Holds.f2 H) | exact (Holds.f3 H) | exact (Holds.f4 H) | exact (Holds.f5 H) | exact (Holds.f6 H)) (by exact rfl) ?_
      | refine VcL.loadRowN0 tabOk rfl rfl rfl rfl rfl rfl H (fun _ => rfl) (by first | assumption | exact atD_get (by assumption)) (by exact rfl) (by exact rfl) (by exact rfl) ?_
      | refine VcL.loadRowN tabOk rfl rfl rfl rfl rfl rfl H (fun _ => rfl) (by first | assumption | exact atD_get (by assumption)) (by exact rfl) (by exact rfl) (by exact rfl) ?_
      | refine VcL.loadOwnN0 tabOk rfl rfl rfl rfl rfl rfl H (fun _ => rfl) (by first | assumption | exact atD_get (by assumption)) (by exact rfl) (by exact rfl) (by exact rfl) ?_
      | refine VcL.loadOwnN tabOk rfl rfl rfl rfl rfl rfl H (fun _ => rfl) (by first | assumption | exact atD_get (by assumption)) (by exact rfl) (by exact rfl) (by exact rfl) ?_
      | refine VcL.loadRowN0 tabOk rfl rfl rfl rfl rfl rfl (Holds.f1 H) (fun _ => rfl) (by first | assumption | exact atD_get (by assumption)) (by exact rfl) (by exact rfl) (by exact rfl) ?_
      | refine VcL.loadRowN tabOk rfl rfl rfl rfl rfl rfl (Holds.f1 H) (fun _ => rfl) (by first | assumption | exact atD_get (by assumption)) (by exact rfl) (by exact rfl) (by exact rfl) ?_
      | refine VcL.loadOwnN0 tabOk rfl rfl rfl rfl rfl rfl (Holds.f1 H) (fun _ => rfl) (by first | assumption | exact atD_get (by assumption)) (by exact rfl) (by exact rfl) (by exact rfl) ?_
      | refine VcL.loadOwnN tabOk rfl rfl rfl rfl rfl rfl (Holds.f1 H) (fun _ => rfl) (by first | assumption | exact atD_get (by assumption)) (by exact rfl) (by exact rfl) (by exact rfl) ?_
      | refine VcL.loadRowN0 tabOk rfl rfl rfl rfl rfl rfl (Holds.f2 H) (fun _ => rfl) (by first | assumption | exact atD_get (by assumption)) (by exact rfl) (by exact rfl) (by exact rfl) ?_
      | refine VcL.loadRowN tabOk rfl rfl rfl rfl rfl rfl (Holds.f2 H) (fun _ => rfl) (by first | assumption | exact atD_get (by assumption)) (by exact rfl) (by exact rfl) (by exact rfl) ?_
      | refine VcL.loadOwnN0 tabOk rfl rfl rfl rfl rfl rfl (Holds.f2 H) (fun _ => rfl) (by first | assumption | exact atD_get (by assumption)) (by exact rfl) (by exact rfl) (by exact rfl) ?_
      | refine VcL.loadOwnN tabOk rfl rfl rfl rfl rfl rfl (Holds.f2 H) (fun _ => rfl) (by first | assumption | exact atD_get (by assumption)) (by exact rfl) (by exact rfl) (by exact rfl) ?_
      | refine VcL.loadRowN0 tabOk rfl rfl rfl rfl rfl rfl (Holds.f3 H) (fun _ => rfl) (by first | assumption | exact atD_get (by assumption)) (by exact rfl) (by exact rfl) (by exact rfl) ?_
      | refine VcL.loadRowN tabOk rfl rfl rfl rfl rfl rfl (Holds.f3 H) (fun _ => rfl) (by first | assumption | exact atD_get (by assumption)) (by exact rfl) (by exact rfl) (by exact rfl) ?_
      | refine VcL.loadOwnN0 tabOk rfl rfl rfl rfl rfl rfl (Holds.f3 H) (fun _ => rfl) (by first | assumption | exact atD_get (by assumption)) (by exact rfl) (by exact rfl) (by exact rfl) ?_
      | refine VcL.loadOwnN tabOk rfl rfl rfl rfl rfl rfl (Holds.f3 H) (fun _ => rfl) (by first | assumption | exact atD_get (by assumption)) (by exact rfl) (by exact rfl) (by exact rfl) ?_
      | refine VcL.loadRowN0 tabOk rfl rfl rfl rfl rfl rfl (Holds.f4 H) (fun _ => rfl) (by first | assumption | exact atD_get (by assumption)) (by exact rfl) (by exact rfl) (by exact rfl) ?_
      | refine VcL.loadRowN tabOk rfl rfl rfl rfl rfl rfl (Holds.f4 H) (fun _ => rfl) (by first | assumption | exact atD_get (by assumption)) (by exact rfl) (by exact rfl) (by exact rfl) ?_
      | refine VcL.loadOwnN0 tabOk rfl rfl rfl rfl rfl rfl (Holds.f4 H) (fun _ => rfl) (by first | assumption | exact atD_get (by assumption)) (by exact rfl) (by exact rfl) (by exact rfl) ?_
      | refine VcL.loadOwnN tabOk rfl rfl rfl rfl rfl rfl (Holds.f4 H) (fun _ => rfl) (by first | assumption | exact atD_get (by assumption)) (by exact rfl) (by exact rfl) (by exact rfl) ?_)
      | (show VcL _ _ _ _ (⟨_, .binOp _ _ _ _ _, _, _, _, _⟩ :: _) _ _ _; first
      | refine VcL.shl rfl rfl (by first | assumption | rfl) rfl rfl rfl ?_
      | refine VcL.shr rfl rfl (by first | assumption | rfl) rfl rfl rfl ?_
      | refine VcL.eqS tabOk rfl rfl rfl rfl rfl rfl (by kernel_rfl) (by kernel_rfl) rfl rfl (by first | exact .inl rfl | exact .inr rfl) ?_)
      | (show VcL _ _ _ _ (⟨_, .indexAddr _ _ _, _, _, _, _⟩ :: _) _ _ _; first
      | refine VcL.indexAddr0 tabOk rfl rfl rfl rfl rfl rfl (by omega) (by omega) ?_
      | refine VcL.indexAddr tabOk rfl rfl rfl rfl rfl rfl (by omega) (by omega) ?_
      | refine VcL.indexArr0 tabOk rfl rfl rfl rfl rfl rfl (by omega) (by omega) ?_
      | refine VcL.indexArr tabOk rfl rfl rfl rfl rfl rfl (by omega) (by omega) ?_)
      | (show VcL _ _ _ _ (⟨_, .call ⟨.value (.tmp _), _, _⟩, _, _, _, _⟩ :: _) _ _ _; first
      | (refine VcL.callV hf rfl rfl rfl rfl rfl (Rets.mono (hF _ k hlt H) ?_); rintro _ w ⟨rfl, H⟩))
      | (refine VcL.guard rfl rfl rfl rfl (fun h => ?_) (fun h => ?_) <;> first | (cases h; done) | (exfalso; simp only [decide_eq_true_eq, decide_eq_false_iff_not] at h; omega) | (with_reducible have hp := of_decide_eq_true h) | (with_reducible have hp := of_decide_eq_false h) | (with_reducible have hp := ndec_t h) | (with_reducible have hp := ndec_f h) | skip))
      | (show Vc _ _ _ _ _ _; first
      | refine Vc.seq ?_
      | refine Vc.region ?_
      | refine Vc.condT rfl ?_
      | refine Vc.condF rfl ?_
      | refine Vc.ret ?_
      | refine Vc.skip ?_
      | refine Vc.block ?_
      | refine Vc.exit ?_
      | (refine Vc.cond rfl (fun h => ?_) (fun h => ?_) <;> first | (cases h; done) | (exfalso; simp only [decide_eq_true_eq, decide_eq_false_iff_not] at h; omega) | (with_reducible have hp := of_decide_eq_true h) | (with_reducible have hp := of_decide_eq_false h) | (with_reducible have hp := ndec_t h) | (with_reducible have hp := ndec_f h) | skip))
      | (show KSeq _ _ _ _ _ _ _; first
      | refine KSeq.normal ?_
      | refine KSeq.ret ?_
      | refine KSeq.exit ?_)
      | (show KBlock _ _ _ _ _ _; first
      | refine KBlock.normal ?_
      | refine KBlock.here ?_
      | refine KBlock.on rfl ?_
      | refine KBlock.ret ?_)
      | refine KLoop.exit ?_
      | refine KLoop.ret ?_
      | refine KCut.exit ?_
      | refine KCut.ret ?_
      | (show KEnd _ _ _ _ _ _ _; first
      | refine KEnd.fin (Or.inr rfl) ⟨_, (ResL.tmp rfl ResL.nil), ?_⟩
      | refine KEnd.fin (Or.inl rfl) ⟨_, (ResL.tmp rfl ResL.nil), ?_⟩))
    obtain rfl : k = l.length := by omega
    exact ⟨by rw [idxF_no hall]; rfl, H⟩
theorem ContainsFuncU_any (H : Holds I w L) {v : Value} {l : List Us} (hv : SlR I L v 4 l.length (l.flatMap usC)) (hl : l.length ≤ 140737488355328) {g m : Nat} {rs : List ResultVar} {c : Code} {caps : Array Value} (hf : FnOk Try.prog g m rs c) (p : Us → Bool)
    (hF : ∀ w k, k < l.length → Holds I w L → Rets Try.prog g (#[] ++ [usV (atD l k)].toArray ++ caps) w fun u w' => u = .bool (p (atD l k)) ∧ Holds I w' L) :
    Rets Try.prog F_slices_ContainsFunc_api_User_api_User #[v, .func (.func g) #[] caps] w fun u w' => u = .bool (l.any p) ∧ Holds I w' L := by
  obtain ⟨A, cap, rfl, hcap⟩ := hv.form
  refine ok_slices_ContainsFunc_api_User_api_User.rets rfl ?_
  repeat' (first
    | (show VcL _ _ _ _ _ _ _ _; first
      | refine VcL.pures tabOk rfl ?_
      | refine VcL.nil ?_
      | (show VcL _ _ _ _ (⟨_, .binOp _ _ _ _ _, _, _, _, _⟩ :: _) _ _ _; first
      | refine VcL.shl rfl rfl (by first | assumption | rfl) rfl rfl rfl ?_
      | refine VcL.shr rfl rfl (by first | assumption | rfl) rfl rfl rfl ?_
      | refine VcL.eqS tabOk rfl rfl rfl rfl rfl rfl (by kernel_rfl) (by kernel_rfl) rfl rfl (by first | exact .inl rfl | exact .inr rfl) ?_)
      | (show VcL _ _ _ _ (⟨_, .call ⟨.value (.func F_slices_IndexFunc_api_User_api_User), _, _⟩, _, _, _, _⟩ :: _) _ _ _; first
      | (refine VcL.callF ok_slices_IndexFunc_api_User_api_User rfl rfl rfl rfl (Rets.mono (IndexFuncU_any H hv hl hf p hF) ?_); rintro _ w ⟨rfl, H⟩))
      | (refine VcL.guard rfl rfl rfl rfl (fun h => ?_) (fun h => ?_) <;> first | (cases h; done) | (exfalso; simp only [decide_eq_true_eq, decide_eq_false_iff_not] at h; omega) | (with_reducible have hp := of_decide_eq_true h) | (with_reducible have hp := of_decide_eq_false h) | (with_reducible have hp := ndec_t h) | (with_reducible have hp := ndec_f h) | skip))
    | (show Vc _ _ _ _ _ _; first
      | refine Vc.seq ?_
      | refine Vc.region ?_
      | refine Vc.condT rfl ?_
      | refine Vc.condF rfl ?_
      | refine Vc.ret ?_
      | refine Vc.skip ?_
      | refine Vc.block ?_
      | refine Vc.exit ?_
      | (refine Vc.cond rfl (fun h => ?_) (fun h => ?_) <;> first | (cases h; done) | (exfalso; simp only [decide_eq_true_eq, decide_eq_false_iff_not] at h; omega) | (with_reducible have hp := of_decide_eq_true h) | (with_reducible have hp := of_decide_eq_false h) | (with_reducible have hp := ndec_t h) | (with_reducible have hp := ndec_f h) | skip))
    | (show KSeq _ _ _ _ _ _ _; first
      | refine KSeq.normal ?_
      | refine KSeq.ret ?_
      | refine KSeq.exit ?_)
    | (show KBlock _ _ _ _ _ _; first
      | refine KBlock.normal ?_
      | refine KBlock.here ?_
      | refine KBlock.on rfl ?_
      | refine KBlock.ret ?_)
    | refine KLoop.exit ?_
    | refine KLoop.ret ?_
    | refine KCut.exit ?_
    | refine KCut.ret ?_
    | (show KEnd _ _ _ _ _ _ _; first
      | refine KEnd.fin (Or.inr rfl) ⟨_, (ResL.tmp rfl ResL.nil), ?_⟩
      | refine KEnd.fin (Or.inl rfl) ⟨_, (ResL.tmp rfl ResL.nil), ?_⟩))
  exact ⟨by rw [← idxF_any]; rfl, H⟩
theorem ValidUsers_any (H : Holds I w L) {v : Value} {l : List Us} (hv : SlU I L v l) (hl : l.length ≤ 140737488355328) (hu : ∀ u ∈ l, UsI I u) : Rets Try.prog F_rights_ValidUsers #[v] w fun r w' => r = .bool (usersOk l) ∧ Holds I w' L := by
  obtain ⟨A, cap, rfl, hcap⟩ := hv.form
  refine ok_rights_ValidUsers.rets rfl ?_
  repeat' (first
    | (show VcL _ _ _ _ _ _ _ _; first
      | refine VcL.pures tabOk rfl ?_
      | refine VcL.nil ?_
      | (show VcL _ _ _ _ (⟨_, .load _ _, _, _, _, _⟩ :: _) _ _ _; first
      | refine VcL.load1 tabOk rfl rfl rfl rfl rfl (by first | exact Holds.cell H rfl | exact Holds.cell (Holds.f1 H) rfl | exact Holds.cell (Holds.f2 H) rfl | exact Holds.cell (Holds.f3 H) rfl | exact Holds.cell (Holds.f4 H) rfl | exact Holds.cell (Holds.f5 H) rfl | exact Holds.cell (Holds.f6 H) rfl | exact RdW.get (by assumption) rfl H | exact RdW.get0 (by assumption) rfl H | exact RdW.get (by assumption) rfl (Holds.drop H) | exact RdW.get0 (by assumption) rfl (Holds.drop H) | exact RdW.get (by assumption) rfl (Holds.drop (Holds.drop H)) | exact RdW.get0 (by assumption) rfl (Holds.drop (Holds.drop H)) | exact RdW.get (by assumption) rfl (Holds.drop (Holds.drop (Holds.drop H))) | exact RdW.get0 (by assumption) rfl (Holds.drop (Holds.drop (Holds.drop H))) | exact Holds.rowCell H (fun _ => rfl) (by first | assumption | exact atD_get (by assumption)) rfl | exact Holds.rowCell0 H (fun _ => rfl) (by first | assumption | exact atD_get (by assumption)) rfl | exact Holds.ownCell H (fun _ => rfl) (by first | assumption | exact atD_get (by assumption)) rfl | exact Holds.ownCell0 H (fun _ => rfl) (by first | assumption | exact atD_get (by assumption)) rfl | exact Holds.rowCell (Holds.f1 H) (fun _ => rfl) (by first | assumption | exact atD_get (by assumption)) rfl | exact Holds.rowCell0 (Holds.f1 H) (fun _ => rfl) (by first | assumption | exact atD_get (by assumption)) rfl | exact Holds.ownCell (Holds.f1 H) (fun _ => rfl) (by first | assumption | exact atD_get (by assumption)) rfl | exact Holds.ownCell0 (Holds.f1 H) (fun _ => rfl) (by first | assumption | exact atD_get (by assumption)) rfl | exact Holds.rowCell (Holds.f2 H) (fun _ => rfl) (by first | assumption | exact atD_get (by assumption)) rfl | exact Holds.rowCell0 (Holds.f2 H) (fun _ => rfl) (by first | assumption | exact atD_get (by assumption)) rfl | exact Holds.ownCell (Holds.f2 H) (fun _ => rfl) (by first | assumption | exact atD_get (by assumption)) rfl | exact Holds.ownCell0 (Holds.f2 H) (fun _ => rfl) (by first | assumption | exact atD_get (by assumption)) rfl | exact Holds.rowCell (Holds.f3 H) (fun _ => rfl) (by first | assumption | exact atD_get (by assumption)) rfl | exact Holds.rowCell0 (Holds.f3 H) (fun _ => rfl) (by first | assumption | exact atD_get (by assumption)) rfl | exact Holds.ownCell (Holds.f3 H) (fun _ => rfl) (by first | assumption | exact atD_get (by assumption)) rfl | exact Holds.ownCell0 (Holds.f3 H) (fun _ => rfl) (by first | assumption | exact atD_get (by assumption)) rfl | exact Holds.rowCell (Holds.f4 H) (fun _ => rfl) (by first | assumption | exact atD_get (by assumption)) rfl | exact Holds.rowCell0 (Holds.f4 H) (fun _ => rfl) (by first | assumption | exact atD_get (by assumption)) rfl | exact Holds.ownCell (Holds.f4 H) (fun _ => rfl) (by first | assumption | exact atD_get (by assumption)) rfl | exact Holds.ownCell0 (Holds.f4 H) (fun _ => rfl) (by first | assumption | exact atD_get (by assumption)) rfl | assumption) ?_
      | refine VcL.loadR tabOk rfl rfl rfl rfl rfl rfl (by first | exact RdW.rd (by assumption) H | exact RdW.rd (by assumption) (Holds.drop H) | exact RdW.rd (by assumption) (Holds.drop (Holds.drop H)) | exact RdW.rd (by assumption) (Holds.drop (Holds.drop (Holds.drop H))) | assumption) rfl ?_
      | refine VcL.loadN tabOk rfl rfl rfl rfl rfl rfl (by first | exact H | exact (Holds.f1 H) | exact (Holds.f2 H) | exact (Holds.f3 H) | exact (Holds.f4 H) | exact (Holds.f5 H) | exact (Holds.f6 H)) (by exact rfl) ?_
      | refine VcL.loadRowN0 tabOk rfl rfl rfl rfl rfl rfl H (fun _ => rfl) (by first | assumption | exact atD_get (by assumption)) (by exact rfl) (by exact rfl) (by exact rfl) ?_
      | refine VcL.loadRowN tabOk rfl rfl rfl rfl rfl rfl H (fun _ => rfl) (by first | assumption | exact atD_get (by assumption)) (by exact rfl) (by exact rfl) (by exact rfl) ?_
      | refine VcL.loadOwnN0 tabOk rfl rfl rfl rfl rfl rfl H (fun _ => rfl) (by first | assumption | exact atD_get (by assumption)) (by exact rfl) (by exact rfl) (by exact rfl) ?_
      | refine VcL.loadOwnN tabOk rfl rfl rfl rfl rfl rfl H (fun _ => rfl) (by first | assumption | exact atD_get (by assumption)) (by exact rfl) (by exact rfl) (by exact rfl) ?_
      | refine VcL.loadRowN0 tabOk rfl rfl rfl rfl rfl rfl (Holds.f1 H) (fun _ => rfl) (by first | assumption | exact atD_get (by assumption)) (by exact rfl) (by exact rfl) (by exact rfl) ?_
      | refine VcL.loadRowN tabOk rfl rfl rfl rfl rfl rfl (Holds.f1 H) (fun _ => rfl) (by first | assumption | exact atD_get (by assumption)) (by exact rfl) (by exact rfl) (by exact rfl) ?_
      | refine VcL.loadOwnN0 tabOk rfl rfl rfl rfl rfl rfl (Holds.f1 H) (fun _ => rfl) (by first | assumption | exact atD_get (by assumption)) (by exact rfl) (by exact rfl) (by exact rfl) ?_
      | refine VcL.loadOwnN tabOk rfl rfl rfl rfl rfl rfl (Holds.f1 H) (fun _ => rfl) (by first | assumption | exact atD_get (by assumption)) (by exact rfl) (by exact rfl) (by exact rfl) ?_
      | refine VcL.loadRowN0 tabOk rfl rfl rfl rfl rfl rfl (Holds.f2 H) (fun _ => rfl) (by first | assumption | exact atD_get (by assumption)) (by exact rfl) (by exact rfl) (by exact rfl) ?_
      | refine VcL.loadRowN tabOk rfl rfl rfl rfl rfl rfl (Holds.f2 H) (fun _ => rfl) (by first | assumption | exact atD_get (by assumption)) (by exact rfl) (by exact rfl) (by exact rfl) ?_
      | refine VcL.loadOwnN0 tabOk rfl rfl rfl rfl rfl rfl (Holds.f2 H) (fun _ => rfl) (by first | assumption | exact atD_get (by assumption)) (by exact rfl) (by exact rfl) (by exact rfl) ?_
      | refine VcL.loadOwnN tabOk rfl rfl rfl rfl rfl rfl (Holds.f2 H) (fun _ => rfl) (by first | assumption | exact atD_get (by assumption)) (by exact rfl) (by exact rfl) (by exact rfl) ?_
      | refine VcL.loadRowN0 tabOk rfl rfl rfl rfl rfl rfl (Holds.f3 H) (fun _ => rfl) (by first | assumption | exact atD_get (by assumption)) (by exact rfl) (by exact rfl) (by exact rfl) ?_
      | refine VcL.loadRowN tabOk rfl rfl rfl rfl rfl rfl (Holds.f3 H) (fun _ => rfl) (by first | assumption | exact atD_get (by assumption)) (by exact rfl) (by exact rfl) (by exact rfl) ?_
      | refine VcL.loadOwnN0 tabOk rfl rfl rfl rfl rfl rfl (Holds.f3 H) (fun _ => rfl) (by first | assumption | exact atD_get (by assumption)) (by exact rfl) (by exact rfl) (by exact rfl) ?_
      | refine VcL.loadOwnN tabOk rfl rfl rfl rfl rfl rfl (Holds.f3 H) (fun _ => rfl) (by first | assumption | exact atD_get (by assumption)) (by exact rfl) (by exact rfl) (by exact rfl) ?_
      | refine VcL.loadRowN0 tabOk rfl rfl rfl rfl rfl rfl (Holds.f4 H) (fun _ => rfl) (by first | assumption | exact atD_get (by assumption)) (by exact rfl) (by exact rfl) (by exact rfl) ?_
      | refine VcL.loadRowN tabOk rfl rfl rfl rfl rfl rfl (Holds.f4 H) (fun _ => rfl) (by first | assumption | exact atD_get (by assumption)) (by exact rfl) (by exact rfl) (by exact rfl) ?_
      | refine VcL.loadOwnN0 tabOk rfl rfl rfl rfl rfl rfl (Holds.f4 H) (fun _ => rfl) (by first | assumption | exact atD_get (by assumption)) (by exact rfl) (by exact rfl) (by exact rfl) ?_
      | refine VcL.loadOwnN tabOk rfl rfl rfl rfl rfl rfl (Holds.f4 H) (fun _ => rfl) (by first | assumption | exact atD_get (by assumption)) (by exact rfl) (by exact rfl) (by exact rfl) ?_)
      | (show VcL _ _ _ _ (⟨_, .binOp _ _ _ _ _, _, _, _, _⟩ :: _) _ _ _; first
      | refine VcL.shl rfl rfl (by first | assumption | rfl) rfl rfl rfl ?_
      | refine VcL.shr rfl rfl (by first | assumption | rfl) rfl rfl rfl ?_
      | refine VcL.eqS tabOk rfl rfl rfl rfl rfl rfl (by kernel_rfl) (by kernel_rfl) rfl rfl (by first | exact .inl rfl | exact .inr rfl) ?_)
      | (show VcL _ _ _ _ (⟨_, .indexAddr _ _ _, _, _, _, _⟩ :: _) _ _ _; first
      | refine VcL.indexAddr0 tabOk rfl rfl rfl rfl rfl rfl (by omega) (by omega) ?_
      | refine VcL.indexAddr tabOk rfl rfl rfl rfl rfl rfl (by omega) (by omega) ?_
      | refine VcL.indexArr0 tabOk rfl rfl rfl rfl rfl rfl (by omega) (by omega) ?_
      | refine VcL.indexArr tabOk rfl rfl rfl rfl rfl rfl (by omega) (by omega) ?_)
      | (show VcL _ _ _ _ (⟨_, .slice _ _ _ _ none, _, _, _, _⟩ :: _) _ _ _; first
      | refine VcL.sliceTo tabOk rfl rfl rfl rfl rfl rfl (by omega) ?_
      | refine VcL.sliceFrom tabOk rfl rfl rfl rfl rfl rfl (by omega) (by omega) (fun p_ hp_ => ?_)
      | refine VcL.sliceN tabOk rfl rfl rfl rfl rfl rfl rfl (by omega) (by omega) (fun p_ hp_ => ?_)
      | refine VcL.slice tabOk rfl rfl rfl rfl rfl rfl rfl (by omega) (by omega) (by omega) (fun p_ hp_ => ?_)
      | refine VcL.sliceNil tabOk rfl rfl rfl rfl rfl rfl rfl (by omega) (by omega) ?_)
      | refine VcL.alloc tabOk H rfl rfl rfl rfl (fun b w H => ?_)
      | (show VcL _ _ _ _ (⟨_, .store _ _ _, _, _, _, _⟩ :: _) _ _ _; first
      | refine VcL.store tabOk rfl (by first | exact H | exact (Holds.f1 H) | exact (Holds.f2 H) | exact (Holds.f3 H) | exact (Holds.f4 H) | exact (Holds.f5 H) | exact (Holds.f6 H)) rfl rfl (by exact rfl) (by exact rfl) (by exact rfl) (by exact rfl) (fun w H => ?_))
      | (refine VcL.guard rfl rfl rfl rfl (fun h => ?_) (fun h => ?_) <;> first | (cases h; done) | (exfalso; simp only [decide_eq_true_eq, decide_eq_false_iff_not] at h; omega) | (with_reducible have hp := of_decide_eq_true h) | (with_reducible have hp := of_decide_eq_false h) | (with_reducible have hp := ndec_t h) | (with_reducible have hp := ndec_f h) | skip))
    | (show VcD _ _ _ _ _ _ _ _ _; first
      | refine VcD.pures tabOk rfl ?_
      | refine VcD.done ?_
      | (show VcD _ _ _ _ _ (.pure _ _) _ _ _; first
      | refine VcD.indexAddr0 tabOk rfl rfl rfl rfl rfl rfl rfl (by omega) (by omega) ?_
      | refine VcD.indexAddr tabOk rfl rfl rfl rfl rfl rfl rfl (by omega) (by omega) ?_
      | refine VcD.indexArr0 tabOk rfl rfl rfl rfl rfl rfl rfl (by omega) (by omega) ?_
      | refine VcD.indexArr tabOk rfl rfl rfl rfl rfl rfl rfl (by omega) (by omega) ?_
      | refine VcD.shl rfl rfl rfl (by first | assumption | rfl) rfl rfl rfl ?_
      | refine VcD.shr rfl rfl rfl (by first | assumption | rfl) rfl rfl rfl ?_
      | refine VcD.eqS tabOk rfl rfl rfl rfl rfl rfl rfl (by kernel_rfl) (by kernel_rfl) rfl rfl (by first | exact .inl rfl | exact .inr rfl) ?_
      | (refine VcD.guardP rfl rfl rfl rfl rfl (fun h => ?_) (fun h => ?_) <;> first | (cases h; done) | (exfalso; simp only [decide_eq_true_eq, decide_eq_false_iff_not] at h; omega) | (with_reducible have hp := of_decide_eq_true h) | (with_reducible have hp := of_decide_eq_false h) | (with_reducible have hp := ndec_t h) | (with_reducible have hp := ndec_f h) | skip))
      | (show VcD _ _ _ _ _ (.take _ _) _ _ _; first
      | refine VcD.load1 tabOk rfl rfl rfl rfl rfl rfl (by intro w_ hw_; first | exact Holds.cell hw_ rfl | exact Holds.cell (Holds.f1 hw_) rfl | exact Holds.cell (Holds.f2 hw_) rfl | exact Holds.cell (Holds.f3 hw_) rfl | exact Holds.cell (Holds.f4 hw_) rfl | exact Holds.cell (Holds.f5 hw_) rfl | exact Holds.cell (Holds.f6 hw_) rfl | exact RdW.get (by assumption) rfl hw_ | exact RdW.get0 (by assumption) rfl hw_ | exact RdW.get (by assumption) rfl (Holds.drop hw_) | exact RdW.get0 (by assumption) rfl (Holds.drop hw_) | exact RdW.get (by assumption) rfl (Holds.drop (Holds.drop hw_)) | exact RdW.get0 (by assumption) rfl (Holds.drop (Holds.drop hw_)) | exact RdW.get (by assumption) rfl (Holds.drop (Holds.drop (Holds.drop hw_))) | exact RdW.get0 (by assumption) rfl (Holds.drop (Holds.drop (Holds.drop hw_))) | exact Holds.rowCell hw_ (fun _ => rfl) (by first | assumption | exact atD_get (by assumption)) rfl | exact Holds.rowCell0 hw_ (fun _ => rfl) (by first | assumption | exact atD_get (by assumption)) rfl | exact Holds.ownCell hw_ (fun _ => rfl) (by first | assumption | exact atD_get (by assumption)) rfl | exact Holds.ownCell0 hw_ (fun _ => rfl) (by first | assumption | exact atD_get (by assumption)) rfl | exact Holds.rowCell (Holds.f1 hw_) (fun _ => rfl) (by first | assumption | exact atD_get (by assumption)) rfl | exact Holds.rowCell0 (Holds.f1 hw_) (fun _ => rfl) (by first | assumption | exact atD_get (by assumption)) rfl | exact Holds.ownCell (Holds.f1 hw_) (fun _ => rfl) (by first | assumption | exact atD_get (by assumption)) rfl | exact Holds.ownCell0 (Holds.f1 hw_) (fun _ => rfl) (by first | assumption | exact atD_get (by assumption)) rfl | exact Holds.rowCell (Holds.f2 hw_) (fun _ => rfl) (by first | assumption | exact atD_get (by assumption)) rfl | exact Holds.rowCell0 (Holds.f2 hw_) (fun _ => rfl) (by first | assumption | exact atD_get (by assumption)) rfl | exact Holds.ownCell (Holds.f2 hw_) (fun _ => rfl) (by first | assumption | exact atD_get (by assumption)) rfl | exact Holds.ownCell0 (Holds.f2 hw_) (fun _ => rfl) (by first | assumption | exact atD_get (by assumption)) rfl | exact Holds.rowCell (Holds.f3 hw_) (fun _ => rfl) (by first | assumption | exact atD_get (by assumption)) rfl | exact Holds.rowCell0 (Holds.f3 hw_) (fun _ => rfl) (by first | assumption | exact atD_get (by assumption)) rfl | exact Holds.ownCell (Holds.f3 hw_) (fun _ => rfl) (by first | assumption | exact atD_get (by assumption)) rfl | exact Holds.ownCell0 (Holds.f3 hw_) (fun _ => rfl) (by first | assumption | exact atD_get (by assumption)) rfl | exact Holds.rowCell (Holds.f4 hw_) (fun _ => rfl) (by first | assumption | exact atD_get (by assumption)) rfl | exact Holds.rowCell0 (Holds.f4 hw_) (fun _ => rfl) (by first | assumption | exact atD_get (by assumption)) rfl | exact Holds.ownCell (Holds.f4 hw_) (fun _ => rfl) (by first | assumption | exact atD_get (by assumption)) rfl | exact Holds.ownCell0 (Holds.f4 hw_) (fun _ => rfl) (by first | assumption | exact atD_get (by assumption)) rfl | exact hw_ _ _ rfl | exact hw_ 0 _ rfl | exact hw_.1 _ _ rfl | exact hw_.1 0 _ rfl | exact hw_.2 _ _ rfl | exact hw_.2 0 _ rfl | assumption) (by exact rfl) ?_
      | refine VcD.loadR tabOk rfl rfl rfl rfl rfl rfl rfl (by intro w_ hw_; first | exact RdW.rd (by assumption) hw_ | exact RdW.rd (by assumption) (Holds.drop hw_) | exact RdW.rd (by assumption) (Holds.drop (Holds.drop hw_)) | exact RdW.rd (by assumption) (Holds.drop (Holds.drop (Holds.drop hw_))) | exact hw_.1 | exact hw_.2 | assumption) rfl ?_
      | refine VcD.loadRowN0 tabOk rfl rfl rfl rfl rfl rfl rfl (fun _ hw_ => hw_) (fun _ => rfl) (by first | assumption | exact atD_get (by assumption)) (by exact rfl) (by exact rfl) (by exact rfl) ?_
      | refine VcD.loadRowN tabOk rfl rfl rfl rfl rfl rfl rfl (fun _ hw_ => hw_) (fun _ => rfl) (by first | assumption | exact atD_get (by assumption)) (by exact rfl) (by exact rfl) (by exact rfl) ?_
      | refine VcD.loadRowN0 tabOk rfl rfl rfl rfl rfl rfl rfl (fun _ hw_ => (Holds.f1 hw_)) (fun _ => rfl) (by first | assumption | exact atD_get (by assumption)) (by exact rfl) (by exact rfl) (by exact rfl) ?_
      | refine VcD.loadRowN tabOk rfl rfl rfl rfl rfl rfl rfl (fun _ hw_ => (Holds.f1 hw_)) (fun _ => rfl) (by first | assumption | exact atD_get (by assumption)) (by exact rfl) (by exact rfl) (by exact rfl) ?_
      | refine VcD.loadRowN0 tabOk rfl rfl rfl rfl rfl rfl rfl (fun _ hw_ => (Holds.f2 hw_)) (fun _ => rfl) (by first | assumption | exact atD_get (by assumption)) (by exact rfl) (by exact rfl) (by exact rfl) ?_
      | refine VcD.loadRowN tabOk rfl rfl rfl rfl rfl rfl rfl (fun _ hw_ => (Holds.f2 hw_)) (fun _ => rfl) (by first | assumption | exact atD_get (by assumption)) (by exact rfl) (by exact rfl) (by exact rfl) ?_
      | refine VcD.loadRowN0 tabOk rfl rfl rfl rfl rfl rfl rfl (fun _ hw_ => (Holds.f3 hw_)) (fun _ => rfl) (by first | assumption | exact atD_get (by assumption)) (by exact rfl) (by exact rfl) (by exact rfl) ?_
      | refine VcD.loadRowN tabOk rfl rfl rfl rfl rfl rfl rfl (fun _ hw_ => (Holds.f3 hw_)) (fun _ => rfl) (by first | assumption | exact atD_get (by assumption)) (by exact rfl) (by exact rfl) (by exact rfl) ?_
      | refine VcD.loadRowN0 tabOk rfl rfl rfl rfl rfl rfl rfl (fun _ hw_ => (Holds.f4 hw_)) (fun _ => rfl) (by first | assumption | exact atD_get (by assumption)) (by exact rfl) (by exact rfl) (by exact rfl) ?_
      | refine VcD.loadRowN tabOk rfl rfl rfl rfl rfl rfl rfl (fun _ hw_ => (Holds.f4 hw_)) (fun _ => rfl) (by first | assumption | exact atD_get (by assumption)) (by exact rfl) (by exact rfl) (by exact rfl) ?_
      | refine VcD.loadN tabOk rfl rfl rfl rfl rfl rfl rfl (by intro w_ hw_; first | exact hw_ | exact (Holds.f1 hw_) | exact (Holds.f2 hw_) | exact (Holds.f3 hw_) | exact (Holds.f4 hw_) | exact (Holds.f5 hw_) | exact (Holds.f6 hw_)) (by exact rfl) ?_
      | refine VcD.skipT rfl rfl rfl ?_
      | (refine VcD.guardT rfl rfl rfl rfl rfl (fun h => ?_) (fun h => ?_) <;> first | (cases h; done) | (exfalso; simp only [decide_eq_true_eq, decide_eq_false_iff_not] at h; omega) | (with_reducible have hp := of_decide_eq_true h) | (with_reducible have hp := of_decide_eq_false h) | (with_reducible have hp := ndec_t h) | (with_reducible have hp := ndec_f h) | skip))
      | (show VcD _ _ _ _ _ (.only _ _) _ _ _; first
      | refine VcD.skip rfl rfl rfl (by first | exact H | exact Holds.drop H | exact Holds.drop (Holds.drop H)) ?_
      | (refine VcD.guardO rfl rfl rfl rfl rfl (fun h => ?_) (fun h => ?_) <;> first | (cases h; done) | (exfalso; simp only [decide_eq_true_eq, decide_eq_false_iff_not] at h; omega) | (with_reducible have hp := of_decide_eq_true h) | (with_reducible have hp := of_decide_eq_false h) | (with_reducible have hp := ndec_t h) | (with_reducible have hp := ndec_f h) | skip))
      | (show VcD _ _ _ _ _ (.two _ _ _ _) _ _ _; refine VcD.two ?_ ?_))
    | (show Vc _ _ _ _ _ _; first
      | refine Vc.seq ?_
      | refine Vc.region ?_
      | refine Vc.condT rfl ?_
      | refine Vc.condF rfl ?_
      | refine Vc.ret ?_
      | refine Vc.skip ?_
      | refine Vc.block ?_
      | refine Vc.exit ?_
      | refine Vc.drawnH (id := 4) H (.take 0 (.only 1 (.pure 2 (.pure 3 (.pure 4 (.pure 5 (.pure 6 (.pure 7 (.pure 9 (.pure 10 (.pure 11 (.take 8 (.pure 12 (.pure 13 (.take 14 (.pure 15 (.pure 16 (.pure 17 .done)))))))))))))))))) mixed (by kernel_rfl) (fun w H => ?_)
      | (refine Vc.cond rfl (fun h => ?_) (fun h => ?_) <;> first | (cases h; done) | (exfalso; simp only [decide_eq_true_eq, decide_eq_false_iff_not] at h; omega) | (with_reducible have hp := of_decide_eq_true h) | (with_reducible have hp := of_decide_eq_false h) | (with_reducible have hp := ndec_t h) | (with_reducible have hp := ndec_f h) | skip))
    | (show KSeq _ _ _ _ _ _ _; first
      | refine KSeq.normal ?_
      | refine KSeq.ret ?_
      | refine KSeq.exit ?_)
    | (show KBlock _ _ _ _ _ _; first
      | refine KBlock.normal ?_
      | refine KBlock.here ?_
      | refine KBlock.on rfl ?_
      | refine KBlock.ret ?_)
    | refine KLoop.exit ?_
    | refine KLoop.ret ?_
    | refine KCut.exit ?_
    | refine KCut.ret ?_
    | (show KEnd _ _ _ _ _ _ _; first
      | refine KEnd.fin (Or.inr rfl) ⟨_, (ResL.tmp rfl ResL.nil), ?_⟩
      | refine KEnd.fin (Or.inl rfl) ⟨_, (ResL.tmp rfl ResL.nil), ?_⟩))
  refine Vc.loopS [(0, _), (5, _), (6, _)] (fun k : Nat => [(7, .int .i64 k)]) (fun k w => Holds I w L ∧ k ≤ l.length ∧ (List.range k).all (uOk l) = true) (fun k _ => l.length - k) 0 ⟨rfl, trivial⟩ ⟨rfl, rfl, rfl, trivial⟩ ⟨H, Nat.zero_le _, rfl⟩ ?_
  rintro k w ⟨H, hk, hall⟩
  by_cases hlt : k < l.length
  · obtain ⟨b2, o2, rfl, hr⟩ := hv.at (by omega)
    have hx := hr.elem usC_len (atD_get hlt)
    have hy := hr.elem usC_len (atD_get (l := l) (k := k - 1) (by omega))
    have hun := hu _ (atD_mem hlt)
    have hno : uOk l k = false → usersOk l = false := fun h => by
      unfold usersOk
      rw [range_no hlt h]; rfl
    have hw := fun h => wrap_pred k h (by omega)
    have hF : ∀ (b : Nat) w j, j < (l.take k).length → Holds I w (blk b 37 (usC (atD l k)) :: L) → Rets Try.prog F_rights_ValidUsers_1 (#[] ++ [usV (atD (l.take k) j)].toArray ++ #[.pointer (some ⟨b, 0, none⟩)]) w fun u w' => u = .bool (eqT (atD l k).name (atD (l.take k) j).name) ∧ Holds I w' (blk b 37 (usC (atD l k)) :: L) := fun b w j hj H => ValidUsers1_any H _ _ hun.name (hu _ (List.mem_of_mem_take (atD_mem hj))).name Holds.toW
    have htk : SlR I L (.slice (some ⟨b2, o2, none⟩) (l.take k).length cap) 4 (l.take k).length ((l.take k).flatMap usC) := by
      have := hv.take hk
      rw [flat_take usC_len] at this
      rwa [List.length_take, Nat.min_eq_left hk]
    have hkl : (l.take k).length = k := by rw [List.length_take]; omega
    rw [hkl] at htk
    rcases Nat.eq_zero_or_pos k with h0 | h0
    all_goals
     repeat' (first
       | rw [hw h0]
       | (show VcL _ _ _ _ _ _ _ _; first
      | refine VcL.pures tabOk rfl ?_
      | refine VcL.nil ?_
      | (show VcL _ _ _ _ (⟨_, .load _ _, _, _, _, _⟩ :: _) _ _ _; first
      | refine VcL.load1 tabOk rfl rfl rfl rfl rfl (by first | exact Holds.cell H rfl | exact Holds.cell (Holds.f1 H) rfl | exact Holds.cell (Holds.f2 H) rfl | exact Holds.cell (Holds.f3 H) rfl | exact Holds.cell (Holds.f4 H) rfl | exact Holds.cell (Holds.f5 H) rfl | exact Holds.cell (Holds.f6 H) rfl | exact RdW.get (by assumption) rfl H | exact RdW.get0 (by assumption) rfl H | exact RdW.get (by assumption) rfl (Holds.drop H) | exact RdW.get0 (by assumption) rfl (Holds.drop H) | exact RdW.get (by assumption) rfl (Holds.drop (Holds.drop H)) | exact RdW.get0 (by assumption) rfl (Holds.drop (Holds.drop H)) | exact RdW.get (by assumption) rfl (Holds.drop (Holds.drop (Holds.drop H))) | exact RdW.get0 (by assumption) rfl (Holds.drop (Holds.drop (Holds.drop H))) | exact Holds.rowCell H (fun _ => rfl) (by first | assumption | exact atD_get (by assumption)) rfl | exact Holds.rowCell0 H (fun _ => rfl) (by first | assumption | exact atD_get (by assumption)) rfl | exact Holds.ownCell H (fun _ => rfl) (by first | assumption | exact atD_get (by assumption)) rfl | exact Holds.ownCell0 H (fun _ => rfl) (by first | assumption | exact atD_get (by assumption)) rfl | exact Holds.rowCell (Holds.f1 H) (fun _ => rfl) (by first | assumption | exact atD_get (by assumption)) rfl | exact Holds.rowCell0 (Holds.f1 H) (fun _ => rfl) (by first | assumption | exact atD_get (by assumption)) rfl | exact Holds.ownCell (Holds.f1 H) (fun _ => rfl) (by first | assumption | exact atD_get (by assumption)) rfl | exact Holds.ownCell0 (Holds.f1 H) (fun _ => rfl) (by first | assumption | exact atD_get (by assumption)) rfl | exact Holds.rowCell (Holds.f2 H) (fun _ => rfl) (by first | assumption | exact atD_get (by assumption)) rfl | exact Holds.rowCell0 (Holds.f2 H) (fun _ => rfl) (by first | assumption | exact atD_get (by assumption)) rfl | exact Holds.ownCell (Holds.f2 H) (fun _ => rfl) (by first | assumption | exact atD_get (by assumption)) rfl | exact Holds.ownCell0 (Holds.f2 H) (fun _ => rfl) (by first | assumption | exact atD_get (by assumption)) rfl | exact Holds.rowCell (Holds.f3 H) (fun _ => rfl) (by first | assumption | exact atD_get (by assumption)) rfl | exact Holds.rowCell0 (Holds.f3 H) (fun _ => rfl) (by first | assumption | exact atD_get (by assumption)) rfl | exact Holds.ownCell (Holds.f3 H) (fun _ => rfl) (by first | assumption | exact atD_get (by assumption)) rfl | exact Holds.ownCell0 (Holds.f3 H) (fun _ => rfl) (by first | assumption | exact atD_get (by assumption)) rfl | exact Holds.rowCell (Holds.f4 H) (fun _ => rfl) (by first | assumption | exact atD_get (by assumption)) rfl | exact Holds.rowCell0 (Holds.f4 H) (fun _ => rfl) (by first | assumption | exact atD_get (by assumption)) rfl | exact Holds.ownCell (Holds.f4 H) (fun _ => rfl) (by first | assumption | exact atD_get (by assumption)) rfl | exact Holds.ownCell0 (Holds.f4 H) (fun _ => rfl) (by first | assumption | exact atD_get (by assumption)) rfl | assumption) ?_
      | refine VcL.loadR tabOk rfl rfl rfl rfl rfl rfl (by first | exact RdW.rd (by assumption) H | exact RdW.rd (by assumption) (Holds.drop H) | exact RdW.rd (by assumption) (Holds.drop (Holds.drop H)) | exact RdW.rd (by assumption) (Holds.drop (Holds.drop (Holds.drop H))) | assumption) rfl ?_
      | refine VcL.loadN tabOk rfl rfl rfl rfl rfl rfl (by first | exact H | exact (Holds.f1 H) | exact (Holds.f2 H) | exact (Holds.f3 H) | exact (Holds.f4 H) | exact (Holds.f5 H) | exact (Holds.f6 H)) (by exact rfl) ?_
      | refine VcL.loadRowN0 tabOk rfl rfl rfl rfl rfl rfl H (fun _ => rfl) (by first | assumption | exact atD_get (by assumption)) (by exact rfl) (by exact rfl) (by exact rfl) ?_
      | refine VcL.loadRowN tabOk rfl rfl rfl rfl rfl rfl H (fun _ => rfl) (by first | assumption | exact atD_get (by assumption)) (by exact rfl) (by exact rfl) (by exact rfl) ?_
      | refine VcL.loadOwnN0 tabOk rfl rfl rfl rfl rfl rfl H (fun _ => rfl) (by first | assumption | exact atD_get (by assumption)) (by exact rfl) (by exact rfl) (by exact rfl) ?_
      | refine VcL.loadOwnN tabOk rfl rfl rfl rfl rfl rfl H (fun _ => rfl) (by first | assumption | exact atD_get (by assumption)) (by exact rfl) (by exact rfl) (by exact rfl) ?_
      | refine VcL.loadRowN0 tabOk rfl rfl rfl rfl rfl rfl (Holds.f1 H) (fun _ => rfl) (by first | assumption | exact atD_get (by assumption)) (by exact rfl) (by exact rfl) (by exact rfl) ?_
      | refine VcL.loadRowN tabOk rfl rfl rfl rfl rfl rfl (Holds.f1 H) (fun _ => rfl) (by first | assumption | exact atD_get (by assumption)) (by exact rfl) (by exact rfl) (by exact rfl) ?_
      | refine VcL.loadOwnN0 tabOk rfl rfl rfl rfl rfl rfl (Holds.f1 H) (fun _ => rfl) (by first | assumption | exact atD_get (by assumption)) (by exact rfl) (by exact rfl) (by exact rfl) ?_
      | refine VcL.loadOwnN tabOk rfl rfl rfl rfl rfl rfl (Holds.f1 H) (fun _ => rfl) (by first | assumption | exact atD_get (by assumption)) (by exact rfl) (by exact rfl) (by exact rfl) ?_
      | refine VcL.loadRowN0 tabOk rfl rfl rfl rfl rfl rfl (Holds.f2 H) (fun _ => rfl) (by first | assumption | exact atD_get (by assumption)) (by exact rfl) (by exact rfl) (by exact rfl) ?_
      | refine VcL.loadRowN tabOk rfl rfl rfl rfl rfl rfl (Holds.f2 H) (fun _ => rfl) (by first | assumption | exact atD_get (by assumption)) (by exact rfl) (by exact rfl) (by exact rfl) ?_
      | refine VcL.loadOwnN0 tabOk rfl rfl rfl rfl rfl rfl (Holds.f2 H) (fun _ => rfl) (by first | assumption | exact atD_get (by assumption)) (by exact rfl) (by exact rfl) (by exact rfl) ?_
      | refine VcL.loadOwnN tabOk rfl rfl rfl rfl rfl rfl (Holds.f2 H) (fun _ => rfl) (by first | assumption | exact atD_get (by assumption)) (by exact rfl) (by exact rfl) (by exact rfl) ?_
      | refine VcL.loadRowN0 tabOk rfl rfl rfl rfl rfl rfl (Holds.f3 H) (fun _ => rfl) (by first | assumption | exact atD_get (by assumption)) (by exact rfl) (by exact rfl) (by exact rfl) ?_
      | refine VcL.loadRowN tabOk rfl rfl rfl rfl rfl rfl (Holds.f3 H) (fun _ => rfl) (by first | assumption | exact atD_get (by assumption)) (by exact rfl) (by exact rfl) (by exact rfl) ?_
      | refine VcL.loadOwnN0 tabOk rfl rfl rfl rfl rfl rfl (Holds.f3 H) (fun _ => rfl) (by first | assumption | exact atD_get (by assumption)) (by exact rfl) (by exact rfl) (by exact rfl) ?_
      | refine VcL.loadOwnN tabOk rfl rfl rfl rfl rfl rfl (Holds.f3 H) (fun _ => rfl) (by first | assumption | exact atD_get (by assumption)) (by exact rfl) (by exact rfl) (by exact rfl) ?_
      | refine VcL.loadRowN0 tabOk rfl rfl rfl rfl rfl rfl (Holds.f4 H) (fun _ => rfl) (by first | assumption | exact atD_get (by assumption)) (by exact rfl) (by exact rfl) (by exact rfl) ?_
      | refine VcL.loadRowN tabOk rfl rfl rfl rfl rfl rfl (Holds.f4 H) (fun _ => rfl) (by first | assumption | exact atD_get (by assumption)) (by exact rfl) (by exact rfl) (by exact rfl) ?_
      | refine VcL.loadOwnN0 tabOk rfl rfl rfl rfl rfl rfl (Holds.f4 H) (fun _ => rfl) (by first | assumption | exact atD_get (by assumption)) (by exact rfl) (by exact rfl) (by exact rfl) ?_
      | refine VcL.loadOwnN tabOk rfl rfl rfl rfl rfl rfl (Holds.f4 H) (fun _ => rfl) (by first | assumption | exact atD_get (by assumption)) (by exact rfl) (by exact rfl) (by exact rfl) ?_)
      | (show VcL _ _ _ _ (⟨_, .binOp _ _ _ _ _, _, _, _, _⟩ :: _) _ _ _; first
      | refine VcL.shl rfl rfl (by first | assumption | rfl) rfl rfl rfl ?_
      | refine VcL.shr rfl rfl (by first | assumption | rfl) rfl rfl rfl ?_
      | refine VcL.eqS tabOk rfl rfl rfl rfl rfl rfl (by kernel_rfl) (by kernel_rfl) rfl rfl (by first | exact .inl rfl | exact .inr rfl) ?_)
      | (show VcL _ _ _ _ (⟨_, .indexAddr _ _ _, _, _, _, _⟩ :: _) _ _ _; first
      | refine VcL.indexAddr0 tabOk rfl rfl rfl rfl rfl rfl (by omega) (by omega) ?_
      | refine VcL.indexAddr tabOk rfl rfl rfl rfl rfl rfl (by omega) (by omega) ?_
      | refine VcL.indexArr0 tabOk rfl rfl rfl rfl rfl rfl (by omega) (by omega) ?_
      | refine VcL.indexArr tabOk rfl rfl rfl rfl rfl rfl (by omega) (by omega) ?_)
      | (show VcL _ _ _ _ (⟨_, .slice _ _ _ _ none, _, _, _, _⟩ :: _) _ _ _; first
      | refine VcL.sliceTo tabOk rfl rfl rfl rfl rfl rfl (by omega) ?_
      | refine VcL.sliceFrom tabOk rfl rfl rfl rfl rfl rfl (by omega) (by omega) (fun p_ hp_ => ?_)
      | refine VcL.sliceN tabOk rfl rfl rfl rfl rfl rfl rfl (by omega) (by omega) (fun p_ hp_ => ?_)
      | refine VcL.slice tabOk rfl rfl rfl rfl rfl rfl rfl (by omega) (by omega) (by omega) (fun p_ hp_ => ?_)
      | refine VcL.sliceNil tabOk rfl rfl rfl rfl rfl rfl rfl (by omega) (by omega) ?_)
      | refine VcL.alloc tabOk H rfl rfl rfl rfl (fun b w H => ?_)
      | (show VcL _ _ _ _ (⟨_, .store _ _ _, _, _, _, _⟩ :: _) _ _ _; first
      | refine VcL.store tabOk rfl (by first | exact H | exact (Holds.f1 H) | exact (Holds.f2 H) | exact (Holds.f3 H) | exact (Holds.f4 H) | exact (Holds.f5 H) | exact (Holds.f6 H)) rfl rfl (by exact rfl) (by exact rfl) (by exact rfl) (by exact rfl) (fun w H => ?_))
      | (show VcL _ _ _ _ (⟨_, .call ⟨.value (.func F_rights_isUser), _, _⟩, _, _, _, _⟩ :: _) _ _ _; first
      | (refine VcL.callF ok_rights_isUser rfl rfl rfl rfl (Rets.mono (isUser_any H _ hun) ?_); rintro _ w ⟨rfl, H⟩))
      | (show VcL _ _ _ _ (⟨_, .call ⟨.value (.func F_slices_ContainsFunc_api_User_api_User), _, _⟩, _, _, _, _⟩ :: _) _ _ _; first
      | (refine VcL.callF ok_slices_ContainsFunc_api_User_api_User rfl rfl rfl rfl (Rets.mono (ContainsFuncU_any H (by rw [hkl]; exact htk.up) (by omega) ok_rights_ValidUsers_1 (fun v => eqT (atD l k).name v.name) (hF _)) ?_); rintro _ w ⟨rfl, H⟩))
      | (refine VcL.guard rfl rfl rfl rfl (fun h => ?_) (fun h => ?_) <;> first | (cases h; done) | (exfalso; simp only [decide_eq_true_eq, decide_eq_false_iff_not] at h; omega) | (with_reducible have hp := of_decide_eq_true h) | (with_reducible have hp := of_decide_eq_false h) | (with_reducible have hp := ndec_t h) | (with_reducible have hp := ndec_f h) | skip))
       | (show VcD _ _ _ _ _ _ _ _ _; first
      | refine VcD.pures tabOk rfl ?_
      | refine VcD.done ?_
      | (show VcD _ _ _ _ _ (.pure _ _) _ _ _; first
      | refine VcD.indexAddr0 tabOk rfl rfl rfl rfl rfl rfl rfl (by omega) (by omega) ?_
      | refine VcD.indexAddr tabOk rfl rfl rfl rfl rfl rfl rfl (by omega) (by omega) ?_
      | refine VcD.indexArr0 tabOk rfl rfl rfl rfl rfl rfl rfl (by omega) (by omega) ?_
      | refine VcD.indexArr tabOk rfl rfl rfl rfl rfl rfl rfl (by omega) (by omega) ?_
      | refine VcD.shl rfl rfl rfl (by first | assumption | rfl) rfl rfl rfl ?_
      | refine VcD.shr rfl rfl rfl (by first | assumption | rfl) rfl rfl rfl ?_
      | refine VcD.eqS tabOk rfl rfl rfl rfl rfl rfl rfl (by kernel_rfl) (by kernel_rfl) rfl rfl (by first | exact .inl rfl | exact .inr rfl) ?_
      | (refine VcD.guardP rfl rfl rfl rfl rfl (fun h => ?_) (fun h => ?_) <;> first | (cases h; done) | (exfalso; simp only [decide_eq_true_eq, decide_eq_false_iff_not] at h; omega) | (with_reducible have hp := of_decide_eq_true h) | (with_reducible have hp := of_decide_eq_false h) | (with_reducible have hp := ndec_t h) | (with_reducible have hp := ndec_f h) | skip))
      | (show VcD _ _ _ _ _ (.take _ _) _ _ _; first
      | refine VcD.load1 tabOk rfl rfl rfl rfl rfl rfl (by intro w_ hw_; first | exact Holds.cell hw_ rfl | exact Holds.cell (Holds.f1 hw_) rfl | exact Holds.cell (Holds.f2 hw_) rfl | exact Holds.cell (Holds.f3 hw_) rfl | exact Holds.cell (Holds.f4 hw_) rfl | exact Holds.cell (Holds.f5 hw_) rfl | exact Holds.cell (Holds.f6 hw_) rfl | exact RdW.get (by assumption) rfl hw_ | exact RdW.get0 (by assumption) rfl hw_ | exact RdW.get (by assumption) rfl (Holds.drop hw_) | exact RdW.get0 (by assumption) rfl (Holds.drop hw_) | exact RdW.get (by assumption) rfl (Holds.drop (Holds.drop hw_)) | exact RdW.get0 (by assumption) rfl (Holds.drop (Holds.drop hw_)) | exact RdW.get (by assumption) rfl (Holds.drop (Holds.drop (Holds.drop hw_))) | exact RdW.get0 (by assumption) rfl (Holds.drop (Holds.drop (Holds.drop hw_))) | exact Holds.rowCell hw_ (fun _ => rfl) (by first | assumption | exact atD_get (by assumption)) rfl | exact Holds.rowCell0 hw_ (fun _ => rfl) (by first | assumption | exact atD_get (by assumption)) rfl | exact Holds.ownCell hw_ (fun _ => rfl) (by first | assumption | exact atD_get (by assumption)) rfl | exact Holds.ownCell0 hw_ (fun _ => rfl) (by first | assumption | exact atD_get (by assumption)) rfl | exact Holds.rowCell (Holds.f1 hw_) (fun _ => rfl) (by first | assumption | exact atD_get (by assumption)) rfl | exact Holds.rowCell0 (Holds.f1 hw_) (fun _ => rfl) (by first | assumption | exact atD_get (by assumption)) rfl | exact Holds.ownCell (Holds.f1 hw_) (fun _ => rfl) (by first | assumption | exact atD_get (by assumption)) rfl | exact Holds.ownCell0 (Holds.f1 hw_) (fun _ => rfl) (by first | assumption | exact atD_get (by assumption)) rfl | exact Holds.rowCell (Holds.f2 hw_) (fun _ => rfl) (by first | assumption | exact atD_get (by assumption)) rfl | exact Holds.rowCell0 (Holds.f2 hw_) (fun _ => rfl) (by first | assumption | exact atD_get (by assumption)) rfl | exact Holds.ownCell (Holds.f2 hw_) (fun _ => rfl) (by first | assumption | exact atD_get (by assumption)) rfl | exact Holds.ownCell0 (Holds.f2 hw_) (fun _ => rfl) (by first | assumption | exact atD_get (by assumption)) rfl | exact Holds.rowCell (Holds.f3 hw_) (fun _ => rfl) (by first | assumption | exact atD_get (by assumption)) rfl | exact Holds.rowCell0 (Holds.f3 hw_) (fun _ => rfl) (by first | assumption | exact atD_get (by assumption)) rfl | exact Holds.ownCell (Holds.f3 hw_) (fun _ => rfl) (by first | assumption | exact atD_get (by assumption)) rfl | exact Holds.ownCell0 (Holds.f3 hw_) (fun _ => rfl) (by first | assumption | exact atD_get (by assumption)) rfl | exact Holds.rowCell (Holds.f4 hw_) (fun _ => rfl) (by first | assumption | exact atD_get (by assumption)) rfl | exact Holds.rowCell0 (Holds.f4 hw_) (fun _ => rfl) (by first | assumption | exact atD_get (by assumption)) rfl | exact Holds.ownCell (Holds.f4 hw_) (fun _ => rfl) (by first | assumption | exact atD_get (by assumption)) rfl | exact Holds.ownCell0 (Holds.f4 hw_) (fun _ => rfl) (by first | assumption | exact atD_get (by assumption)) rfl | exact hw_ _ _ rfl | exact hw_ 0 _ rfl | exact hw_.1 _ _ rfl | exact hw_.1 0 _ rfl | exact hw_.2 _ _ rfl | exact hw_.2 0 _ rfl | assumption) (by exact rfl) ?_
      | refine VcD.loadR tabOk rfl rfl rfl rfl rfl rfl rfl (by intro w_ hw_; first | exact RdW.rd (by assumption) hw_ | exact RdW.rd (by assumption) (Holds.drop hw_) | exact RdW.rd (by assumption) (Holds.drop (Holds.drop hw_)) | exact RdW.rd (by assumption) (Holds.drop (Holds.drop (Holds.drop hw_))) | exact hw_.1 | exact hw_.2 | assumption) rfl ?_
      | refine VcD.loadRowN0 tabOk rfl rfl rfl rfl rfl rfl rfl (fun _ hw_ => hw_) (fun _ => rfl) (by first | assumption | exact atD_get (by assumption)) (by exact rfl) (by exact rfl) (by exact rfl) ?_
      | refine VcD.loadRowN tabOk rfl rfl rfl rfl rfl rfl rfl (fun _ hw_ => hw_) (fun _ => rfl) (by first | assumption | exact atD_get (by assumption)) (by exact rfl) (by exact rfl) (by exact rfl) ?_
      | refine VcD.loadRowN0 tabOk rfl rfl rfl rfl rfl rfl rfl (fun _ hw_ => (Holds.f1 hw_)) (fun _ => rfl) (by first | assumption | exact atD_get (by assumption)) (by exact rfl) (by exact rfl) (by exact rfl) ?_
      | refine VcD.loadRowN tabOk rfl rfl rfl rfl rfl rfl rfl (fun _ hw_ => (Holds.f1 hw_)) (fun _ => rfl) (by first | assumption | exact atD_get (by assumption)) (by exact rfl) (by exact rfl) (by exact rfl) ?_
      | refine VcD.loadRowN0 tabOk rfl rfl rfl rfl rfl rfl rfl (fun _ hw_ => (Holds.f2 hw_)) (fun _ => rfl) (by first | assumption | exact atD_get (by assumption)) (by exact rfl) (by exact rfl) (by exact rfl) ?_
      | refine VcD.loadRowN tabOk rfl rfl rfl rfl rfl rfl rfl (fun _ hw_ => (Holds.f2 hw_)) (fun _ => rfl) (by first | assumption | exact atD_get (by assumption)) (by exact rfl) (by exact rfl) (by exact rfl) ?_
      | refine VcD.loadRowN0 tabOk rfl rfl rfl rfl rfl rfl rfl (fun _ hw_ => (Holds.f3 hw_)) (fun _ => rfl) (by first | assumption | exact atD_get (by assumption)) (by exact rfl) (by exact rfl) (by exact rfl) ?_
      | refine VcD.loadRowN tabOk rfl rfl rfl rfl rfl rfl rfl (fun _ hw_ => (Holds.f3 hw_)) (fun _ => rfl) (by first | assumption | exact atD_get (by assumption)) (by exact rfl) (by exact rfl) (by exact rfl) ?_
      | refine VcD.loadRowN0 tabOk rfl rfl rfl rfl rfl rfl rfl (fun _ hw_ => (Holds.f4 hw_)) (fun _ => rfl) (by first | assumption | exact atD_get (by assumption)) (by exact rfl) (by exact rfl) (by exact rfl) ?_
      | refine VcD.loadRowN tabOk rfl rfl rfl rfl rfl rfl rfl (fun _ hw_ => (Holds.f4 hw_)) (fun _ => rfl) (by first | assumption | exact atD_get (by assumption)) (by exact rfl) (by exact rfl) (by exact rfl) ?_
      | refine VcD.loadN tabOk rfl rfl rfl rfl rfl rfl rfl (by intro w_ hw_; first | exact hw_ | exact (Holds.f1 hw_) | exact (Holds.f2 hw_) | exact (Holds.f3 hw_) | exact (Holds.f4 hw_) | exact (Holds.f5 hw_) | exact (Holds.f6 hw_)) (by exact rfl) ?_
      | refine VcD.skipT rfl rfl rfl ?_
      | (refine VcD.guardT rfl rfl rfl rfl rfl (fun h => ?_) (fun h => ?_) <;> first | (cases h; done) | (exfalso; simp only [decide_eq_true_eq, decide_eq_false_iff_not] at h; omega) | (with_reducible have hp := of_decide_eq_true h) | (with_reducible have hp := of_decide_eq_false h) | (with_reducible have hp := ndec_t h) | (with_reducible have hp := ndec_f h) | skip))
      | (show VcD _ _ _ _ _ (.only _ _) _ _ _; first
      | (refine VcD.callF (f := F_rights_isUser) rfl ok_rights_isUser rfl rfl rfl rfl (Rets.mono (isUser_any H _ hun) ?_); rintro _ w ⟨rfl, H⟩; refine ⟨(by first | exact H | exact Holds.drop H | exact Holds.drop (Holds.drop H)), ?_⟩)
      | (refine VcD.callF (f := F_slices_ContainsFunc_api_User_api_User) rfl ok_slices_ContainsFunc_api_User_api_User rfl rfl rfl rfl (Rets.mono (ContainsFuncU_any H (by rw [hkl]; exact htk.up) (by omega) ok_rights_ValidUsers_1 (fun v => eqT (atD l k).name v.name) (hF _)) ?_); rintro _ w ⟨rfl, H⟩; refine ⟨(by first | exact H | exact Holds.drop H | exact Holds.drop (Holds.drop H)), ?_⟩)
      | refine VcD.skip rfl rfl rfl (by first | exact H | exact Holds.drop H | exact Holds.drop (Holds.drop H)) ?_
      | (refine VcD.guardO rfl rfl rfl rfl rfl (fun h => ?_) (fun h => ?_) <;> first | (cases h; done) | (exfalso; simp only [decide_eq_true_eq, decide_eq_false_iff_not] at h; omega) | (with_reducible have hp := of_decide_eq_true h) | (with_reducible have hp := of_decide_eq_false h) | (with_reducible have hp := ndec_t h) | (with_reducible have hp := ndec_f h) | skip))
      | (show VcD _ _ _ _ _ (.two _ _ _ _) _ _ _; refine VcD.two ?_ ?_))
       | (show EfO _ _ _ _ _ _ _ _ _; first
      | (refine EfO.call (f := F_rights_isUser) rfl rfl rfl rfl (OpC.call ok_rights_isUser rfl) (Rets.mono (isUser_any H _ hun) ?_); rintro _ w ⟨rfl, H⟩; refine ⟨(by first | exact H | exact Holds.drop H | exact Holds.drop (Holds.drop H)), ?_⟩)
      | (refine EfO.call (f := F_slices_ContainsFunc_api_User_api_User) rfl rfl rfl rfl (OpC.call ok_slices_ContainsFunc_api_User_api_User rfl) (Rets.mono (ContainsFuncU_any H (by rw [hkl]; exact htk.up) (by omega) ok_rights_ValidUsers_1 (fun v => eqT (atD l k).name v.name) (hF _)) ?_); rintro _ w ⟨rfl, H⟩; refine ⟨(by first | exact H | exact Holds.drop H | exact Holds.drop (Holds.drop H)), ?_⟩))
       | (show Vc _ _ _ _ _ _; first
      | refine Vc.seq ?_
      | refine Vc.region ?_
      | refine Vc.condT rfl ?_
      | refine Vc.condF rfl ?_
      | refine Vc.ret ?_
      | refine Vc.skip ?_
      | refine Vc.block ?_
      | refine Vc.exit ?_
      | refine Vc.drawnH (id := 4) H (.take 0 (.only 1 (.pure 2 (.pure 3 (.pure 4 (.pure 5 (.pure 6 (.pure 7 (.pure 9 (.pure 10 (.pure 11 (.take 8 (.pure 12 (.pure 13 (.take 14 (.pure 15 (.pure 16 (.pure 17 .done)))))))))))))))))) mixed (by kernel_rfl) (fun w H => ?_)
      | (refine Vc.cond rfl (fun h => ?_) (fun h => ?_) <;> first | (cases h; done) | (exfalso; simp only [decide_eq_true_eq, decide_eq_false_iff_not] at h; omega) | (with_reducible have hp := of_decide_eq_true h) | (with_reducible have hp := of_decide_eq_false h) | (with_reducible have hp := ndec_t h) | (with_reducible have hp := ndec_f h) | skip))
       | (show KSeq _ _ _ _ _ _ _; first
      | refine KSeq.normal ?_
      | refine KSeq.ret ?_
      | refine KSeq.exit ?_)
       | (show KBlock _ _ _ _ _ _; first
      | refine KBlock.normal ?_
      | refine KBlock.here ?_
      | refine KBlock.on rfl ?_
      | refine KBlock.ret ?_)
       | refine KLoop.exit ?_
       | refine KLoop.ret ?_
       | refine KCut.exit ?_
       | refine KCut.ret ?_
       | (show KEnd _ _ _ _ _ _ _; first
      | refine KEnd.fin (Or.inr rfl) ⟨_, (ResL.tmp rfl ResL.nil), ?_⟩
      | refine KEnd.fin (Or.inl rfl) ⟨_, (ResL.tmp rfl ResL.nil), ?_⟩))
    all_goals first
      | (refine ⟨?_, H.drop⟩
         rw [hno (by unfold uOk; clear hr hv hx hy hun hF htk hkl hno hu H hall; simp_all <;> omega)]; rfl)
      | (refine KLoop.again (k + 1) ⟨got_succ rfl (by omega), trivial⟩ ⟨rfl, rfl, rfl, trivial⟩ ⟨H.drop, by omega, ?_⟩ (by omega)
         rw [range_succ_all, hall]
         unfold uOk
         clear hr hv hx hy hun hF htk hkl hno hu H hall
         simp_all <;> omega)
  ·
    repeat' (first
      | rw [hw h0]
      | (show VcL _ _ _ _ _ _ _ _; first
      | refine VcL.pures tabOk rfl ?_
      | refine VcL.nil ?_
      | (show VcL _ _ _ _ (⟨_, .load _ _, _, _, _, _⟩ :: _) _ _ _; first
      | refine VcL.load1 tabOk rfl rfl rfl rfl rfl (by first | exact Holds.cell H rfl | exact Holds.cell (Holds.f1 H) rfl | exact Holds.cell (Holds.f2 H) rfl | exact Holds.cell (Holds.f3 H) rfl | exact Holds.cell (Holds.f4 H) rfl | exact Holds.cell (Holds.f5 H) rfl | exact Holds.cell (Holds.f6 H) rfl | exact RdW.get (by assumption) rfl H | exact RdW.get0 (by assumption) rfl H | exact RdW.get (by assumption) rfl (Holds.drop H) | exact RdW.get0 (by assumption) rfl (Holds.drop H) | exact RdW.get (by assumption) rfl (Holds.drop (Holds.drop H)) | exact RdW.get0 (by assumption) rfl (Holds.drop (Holds.drop H)) | exact RdW.get (by assumption) rfl (Holds.drop (Holds.drop (Holds.drop H))) | exact RdW.get0 (by assumption) rfl (Holds.drop (Holds.drop (Holds.drop H))) | exact Holds.rowCell H (fun _ => rfl) (by first | assumption | exact atD_get (by assumption)) rfl | exact Holds.rowCell0 H (fun _ => rfl) (by first | assumption | exact atD_get (by assumption)) rfl | exact Holds.ownCell H (fun _ => rfl) (by first | assumption | exact atD_get (by assumption)) rfl | exact Holds.ownCell0 H (fun _ => rfl) (by first | assumption | exact atD_get (by assumption)) rfl | exact Holds.rowCell (Holds.f1 H) (fun _ => rfl) (by first | assumption | exact atD_get (by assumption)) rfl | exact Holds.rowCell0 (Holds.f1 H) (fun _ => rfl) (by first | assumption | exact atD_get (by assumption)) rfl | exact Holds.ownCell (Holds.f1 H) (fun _ => rfl) (by first | assumption | exact atD_get (by assumption)) rfl | exact Holds.ownCell0 (Holds.f1 H) (fun _ => rfl) (by first | assumption | exact atD_get (by assumption)) rfl | exact Holds.rowCell (Holds.f2 H) (fun _ => rfl) (by first | assumption | exact atD_get (by assumption)) rfl | exact Holds.rowCell0 (Holds.f2 H) (fun _ => rfl) (by first | assumption | exact atD_get (by assumption)) rfl | exact Holds.ownCell (Holds.f2 H) (fun _ => rfl) (by first | assumption | exact atD_get (by assumption)) rfl | exact Holds.ownCell0 (Holds.f2 H) (fun _ => rfl) (by first | assumption | exact atD_get (by assumption)) rfl | exact Holds.rowCell (Holds.f3 H) (fun _ => rfl) (by first | assumption | exact atD_get (by assumption)) rfl | exact Holds.rowCell0 (Holds.f3 H) (fun _ => rfl) (by first | assumption | exact atD_get (by assumption)) rfl | exact Holds.ownCell (Holds.f3 H) (fun _ => rfl) (by first | assumption | exact atD_get (by assumption)) rfl | exact Holds.ownCell0 (Holds.f3 H) (fun _ => rfl) (by first | assumption | exact atD_get (by assumption)) rfl | exact Holds.rowCell (Holds.f4 H) (fun _ => rfl) (by first | assumption | exact atD_get (by assumption)) rfl | exact Holds.rowCell0 (Holds.f4 H) (fun _ => rfl) (by first | assumption | exact atD_get (by assumption)) rfl | exact Holds.ownCell (Holds.f4 H) (fun _ => rfl) (by first | assumption | exact atD_get (by assumption)) rfl | exact Holds.ownCell0 (Holds.f4 H) (fun _ => rfl) (by first | assumption | exact atD_get (by assumption)) rfl | assumption) ?_
      | refine VcL.loadR tabOk rfl rfl rfl rfl rfl rfl (by first | exact RdW.rd (by assumption) H | exact RdW.rd (by assumption) (Holds.drop H) | exact RdW.rd (by assumption) (Holds.drop (Holds.drop H)) | exact RdW.rd (by assumption) (Holds.drop (Holds.drop (Holds.drop H))) | assumption) rfl ?_
      | refine VcL.loadN tabOk rfl rfl rfl rfl rfl rfl (by first | exact H | exact (Holds.f1 H) | exact (Holds.f2 H) | exact (Holds.f3 H) | exact (Holds.f4 H) | exact (Holds.f5 H) | exact (Holds.f6 H)) (by exact rfl) ?_
      | refine VcL.loadRowN0 tabOk rfl rfl rfl rfl rfl rfl H (fun _ => rfl) (by first | assumption | exact atD_get (by assumption)) (by exact rfl) (by exact rfl) (by exact rfl) ?_
      | refine VcL.loadRowN tabOk rfl rfl rfl rfl rfl rfl H (fun _ => rfl) (by first | assumption | exact atD_get (by assumption)) (by exact rfl) (by exact rfl) (by exact rfl) ?_
      | refine VcL.loadOwnN0 tabOk rfl rfl rfl rfl rfl rfl H (fun _ => rfl) (by first | assumption | exact atD_get (by assumption)) (by exact rfl) (by exact rfl) (by exact rfl) ?_
      | refine VcL.loadOwnN tabOk rfl rfl rfl rfl rfl rfl H (fun _ => rfl) (by first | assumption | exact atD_get (by assumption)) (by exact rfl) (by exact rfl) (by exact rfl) ?_
      | refine VcL.loadRowN0 tabOk rfl rfl rfl rfl rfl rfl (Holds.f1 H) (fun _ => rfl) (by first | assumption | exact atD_get (by assumption)) (by exact rfl) (by exact rfl) (by exact rfl) ?_
      | refine VcL.loadRowN tabOk rfl rfl rfl rfl rfl rfl (Holds.f1 H) (fun _ => rfl) (by first | assumption | exact atD_get (by assumption)) (by exact rfl) (by exact rfl) (by exact rfl) ?_
      | refine VcL.loadOwnN0 tabOk rfl rfl rfl rfl rfl rfl (Holds.f1 H) (fun _ => rfl) (by first | assumption | exact atD_get (by assumption)) (by exact rfl) (by exact rfl) (by exact rfl) ?_
      | refine VcL.loadOwnN tabOk rfl rfl rfl rfl rfl rfl (Holds.f1 H) (fun _ => rfl) (by first | assumption | exact atD_get (by assumption)) (by exact rfl) (by exact rfl) (by exact rfl) ?_
      | refine VcL.loadRowN0 tabOk rfl rfl rfl rfl rfl rfl (Holds.f2 H) (fun _ => rfl) (by first | assumption | exact atD_get (by assumption)) (by exact rfl) (by exact rfl) (by exact rfl) ?_
      | refine VcL.loadRowN tabOk rfl rfl rfl rfl rfl rfl (Holds.f2 H) (fun _ => rfl) (by first | assumption | exact atD_get (by assumption)) (by exact rfl) (by exact rfl) (by exact rfl) ?_
      | refine VcL.loadOwnN0 tabOk rfl rfl rfl rfl rfl rfl (Holds.f2 H) (fun _ => rfl) (by first | assumption | exact atD_get (by assumption)) (by exact rfl) (by exact rfl) (by exact rfl) ?_
      | refine VcL.loadOwnN tabOk rfl rfl rfl rfl rfl rfl (Holds.f2 H) (fun _ => rfl) (by first | assumption | exact atD_get (by assumption)) (by exact rfl) (by exact rfl) (by exact rfl) ?_
      | refine VcL.loadRowN0 tabOk rfl rfl rfl rfl rfl rfl (Holds.f3 H) (fun _ => rfl) (by first | assumption | exact atD_get (by assumption)) (by exact rfl) (by exact rfl) (by exact rfl) ?_
      | refine VcL.loadRowN tabOk rfl rfl rfl rfl rfl rfl (Holds.f3 H) (fun _ => rfl) (by first | assumption | exact atD_get (by assumption)) (by exact rfl) (by exact rfl) (by exact rfl) ?_
      | refine VcL.loadOwnN0 tabOk rfl rfl rfl rfl rfl rfl (Holds.f3 H) (fun _ => rfl) (by first | assumption | exact atD_get (by assumption)) (by exact rfl) (by exact rfl) (by exact rfl) ?_
      | refine VcL.loadOwnN tabOk rfl rfl rfl rfl rfl rfl (Holds.f3 H) (fun _ => rfl) (by first | assumption | exact atD_get (by assumption)) (by exact rfl) (by exact rfl) (by exact rfl) ?_
      | refine VcL.loadRowN0 tabOk rfl rfl rfl rfl rfl rfl (Holds.f4 H) (fun _ => rfl) (by first | assumption | exact atD_get (by assumption)) (by exact rfl) (by exact rfl) (by exact rfl) ?_
      | refine VcL.loadRowN tabOk rfl rfl rfl rfl rfl rfl (Holds.f4 H) (fun _ => rfl) (by first | assumption | exact atD_get (by assumption)) (by exact rfl) (by exact rfl) (by exact rfl) ?_
      | refine VcL.loadOwnN0 tabOk rfl rfl rfl rfl rfl rfl (Holds.f4 H) (fun _ => rfl) (by first | assumption | exact atD_get (by assumption)) (by exact rfl) (by exact rfl) (by exact rfl) ?_
      | refine VcL.loadOwnN tabOk rfl rfl rfl rfl rfl rfl (Holds.f4 H) (fun _ => rfl) (by first | assumption | exact atD_get (by assumption)) (by exact rfl) (by exact rfl) (by exact rfl) ?_)
      | (show VcL _ _ _ _ (⟨_, .binOp _ _ _ _ _, _, _, _, _⟩ :: _) _ _ _; first
      | refine VcL.shl rfl rfl (by first | assumption | rfl) rfl rfl rfl ?_
      | refine VcL.shr rfl rfl (by first | assumption | rfl) rfl rfl rfl ?_
      | refine VcL.eqS tabOk rfl rfl rfl rfl rfl rfl (by kernel_rfl) (by kernel_rfl) rfl rfl (by first | exact .inl rfl | exact .inr rfl) ?_)
      | (show VcL _ _ _ _ (⟨_, .indexAddr _ _ _, _, _, _, _⟩ :: _) _ _ _; first
      | refine VcL.indexAddr0 tabOk rfl rfl rfl rfl rfl rfl (by omega) (by omega) ?_
      | refine VcL.indexAddr tabOk rfl rfl rfl rfl rfl rfl (by omega) (by omega) ?_
      | refine VcL.indexArr0 tabOk rfl rfl rfl rfl rfl rfl (by omega) (by omega) ?_
      | refine VcL.indexArr tabOk rfl rfl rfl rfl rfl rfl (by omega) (by omega) ?_)
      | (show VcL _ _ _ _ (⟨_, .slice _ _ _ _ none, _, _, _, _⟩ :: _) _ _ _; first
      | refine VcL.sliceTo tabOk rfl rfl rfl rfl rfl rfl (by omega) ?_
      | refine VcL.sliceFrom tabOk rfl rfl rfl rfl rfl rfl (by omega) (by omega) (fun p_ hp_ => ?_)
      | refine VcL.sliceN tabOk rfl rfl rfl rfl rfl rfl rfl (by omega) (by omega) (fun p_ hp_ => ?_)
      | refine VcL.slice tabOk rfl rfl rfl rfl rfl rfl rfl (by omega) (by omega) (by omega) (fun p_ hp_ => ?_)
      | refine VcL.sliceNil tabOk rfl rfl rfl rfl rfl rfl rfl (by omega) (by omega) ?_)
      | refine VcL.alloc tabOk H rfl rfl rfl rfl (fun b w H => ?_)
      | (show VcL _ _ _ _ (⟨_, .store _ _ _, _, _, _, _⟩ :: _) _ _ _; first
      | refine VcL.store tabOk rfl (by first | exact H | exact (Holds.f1 H) | exact (Holds.f2 H) | exact (Holds.f3 H) | exact (Holds.f4 H) | exact (Holds.f5 H) | exact (Holds.f6 H)) rfl rfl (by exact rfl) (by exact rfl) (by exact rfl) (by exact rfl) (fun w H => ?_))
      | (show VcL _ _ _ _ (⟨_, .call ⟨.value (.func F_rights_isUser), _, _⟩, _, _, _, _⟩ :: _) _ _ _; first
      | (refine VcL.callF ok_rights_isUser rfl rfl rfl rfl (Rets.mono (isUser_any H _ hun) ?_); rintro _ w ⟨rfl, H⟩))
      | (show VcL _ _ _ _ (⟨_, .call ⟨.value (.func F_slices_ContainsFunc_api_User_api_User), _, _⟩, _, _, _, _⟩ :: _) _ _ _; first
      | (refine VcL.callF ok_slices_ContainsFunc_api_User_api_User rfl rfl rfl rfl (Rets.mono (ContainsFuncU_any H (by rw [hkl]; exact htk.up) (by omega) ok_rights_ValidUsers_1 (fun v => eqT (atD l k).name v.name) (hF _)) ?_); rintro _ w ⟨rfl, H⟩))
      | (refine VcL.guard rfl rfl rfl rfl (fun h => ?_) (fun h => ?_) <;> first | (cases h; done) | (exfalso; simp only [decide_eq_true_eq, decide_eq_false_iff_not] at h; omega) | (with_reducible have hp := of_decide_eq_true h) | (with_reducible have hp := of_decide_eq_false h) | (with_reducible have hp := ndec_t h) | (with_reducible have hp := ndec_f h) | skip))
      | (show VcD _ _ _ _ _ _ _ _ _; first
      | refine VcD.pures tabOk rfl ?_
      | refine VcD.done ?_
      | (show VcD _ _ _ _ _ (.pure _ _) _ _ _; first
      | refine VcD.indexAddr0 tabOk rfl rfl rfl rfl rfl rfl rfl (by omega) (by omega) ?_
      | refine VcD.indexAddr tabOk rfl rfl rfl rfl rfl rfl rfl (by omega) (by omega) ?_
      | refine VcD.indexArr0 tabOk rfl rfl rfl rfl rfl rfl rfl (by omega) (by omega) ?_
      | refine VcD.indexArr tabOk rfl rfl rfl rfl rfl rfl rfl (by omega) (by omega) ?_
      | refine VcD.shl rfl rfl rfl (by first | assumption | rfl) rfl rfl rfl ?_
      | refine VcD.shr rfl rfl rfl (by first | assumption | rfl) rfl rfl rfl ?_
      | refine VcD.eqS tabOk rfl rfl rfl rfl rfl rfl rfl (by kernel_rfl) (by kernel_rfl) rfl rfl (by first | exact .inl rfl | exact .inr rfl) ?_
      | (refine VcD.guardP rfl rfl rfl rfl rfl (fun h => ?_) (fun h => ?_) <;> first | (cases h; done) | (exfalso; simp only [decide_eq_true_eq, decide_eq_false_iff_not] at h; omega) | (with_reducible have hp := of_decide_eq_true h) | (with_reducible have hp := of_decide_eq_false h) | (with_reducible have hp := ndec_t h) | (with_reducible have hp := ndec_f h) | skip))
      | (show VcD _ _ _ _ _ (.take _ _) _ _ _; first
      | refine VcD.load1 tabOk rfl rfl rfl rfl rfl rfl (by intro w_ hw_; first | exact Holds.cell hw_ rfl | exact Holds.cell (Holds.f1 hw_) rfl | exact Holds.cell (Holds.f2 hw_) rfl | exact Holds.cell (Holds.f3 hw_) rfl | exact Holds.cell (Holds.f4 hw_) rfl | exact Holds.cell (Holds.f5 hw_) rfl | exact Holds.cell (Holds.f6 hw_) rfl | exact RdW.get (by assumption) rfl hw_ | exact RdW.get0 (by assumption) rfl hw_ | exact RdW.get (by assumption) rfl (Holds.drop hw_) | exact RdW.get0 (by assumption) rfl (Holds.drop hw_) | exact RdW.get (by assumption) rfl (Holds.drop (Holds.drop hw_)) | exact RdW.get0 (by assumption) rfl (Holds.drop (Holds.drop hw_)) | exact RdW.get (by assumption) rfl (Holds.drop (Holds.drop (Holds.drop hw_))) | exact RdW.get0 (by assumption) rfl (Holds.drop (Holds.drop (Holds.drop hw_))) | exact Holds.rowCell hw_ (fun _ => rfl) (by first | assumption | exact atD_get (by assumption)) rfl | exact Holds.rowCell0 hw_ (fun _ => rfl) (by first | assumption | exact atD_get (by assumption)) rfl | exact Holds.ownCell hw_ (fun _ => rfl) (by first | assumption | exact atD_get (by assumption)) rfl | exact Holds.ownCell0 hw_ (fun _ => rfl) (by first | assumption | exact atD_get (by assumption)) rfl | exact Holds.rowCell (Holds.f1 hw_) (fun _ => rfl) (by first | assumption | exact atD_get (by assumption)) rfl | exact Holds.rowCell0 (Holds.f1 hw_) (fun _ => rfl) (by first | assumption | exact atD_get (by assumption)) rfl | exact Holds.ownCell (Holds.f1 hw_) (fun _ => rfl) (by first | assumption | exact atD_get (by assumption)) rfl | exact Holds.ownCell0 (Holds.f1 hw_) (fun _ => rfl) (by first | assumption | exact atD_get (by assumption)) rfl | exact Holds.rowCell (Holds.f2 hw_) (fun _ => rfl) (by first | assumption | exact atD_get (by assumption)) rfl | exact Holds.rowCell0 (Holds.f2 hw_) (fun _ => rfl) (by first | assumption | exact atD_get (by assumption)) rfl | exact Holds.ownCell (Holds.f2 hw_) (fun _ => rfl) (by first | assumption | exact atD_get (by assumption)) rfl | exact Holds.ownCell0 (Holds.f2 hw_) (fun _ => rfl) (by first | assumption | exact atD_get (by assumption)) rfl | exact Holds.rowCell (Holds.f3 hw_) (fun _ => rfl) (by first | assumption | exact atD_get (by assumption)) rfl | exact Holds.rowCell0 (Holds.f3 hw_) (fun _ => rfl) (by first | assumption | exact atD_get (by assumption)) rfl | exact Holds.ownCell (Holds.f3 hw_) (fun _ => rfl) (by first | assumption | exact atD_get (by assumption)) rfl | exact Holds.ownCell0 (Holds.f3 hw_) (fun _ => rfl) (by first | assumption | exact atD_get (by assumption)) rfl | exact Holds.rowCell (Holds.f4 hw_) (fun _ => rfl) (by first | assumption | exact atD_get (by assumption)) rfl | exact Holds.rowCell0 (Holds.f4 hw_) (fun _ => rfl) (by first | assumption | exact atD_get (by assumption)) rfl | exact Holds.ownCell (Holds.f4 hw_) (fun _ => rfl) (by first | assumption | exact atD_get (by assumption)) rfl | exact Holds.ownCell0 (Holds.f4 hw_) (fun _ => rfl) (by first | assumption | exact atD_get (by assumption)) rfl | exact hw_ _ _ rfl | exact hw_ 0 _ rfl | exact hw_.1 _ _ rfl | exact hw_.1 0 _ rfl | exact hw_.2 _ _ rfl | exact hw_.2 0 _ rfl | assumption) (by exact rfl) ?_
      | refine VcD.loadR tabOk rfl rfl rfl rfl rfl rfl rfl (by intro w_ hw_; first | exact RdW.rd (by assumption) hw_ | exact RdW.rd (by assumption) (Holds.drop hw_) | exact RdW.rd (by assumption) (Holds.drop (Holds.drop hw_)) | exact RdW.rd (by assumption) (Holds.drop (Holds.drop (Holds.drop hw_))) | exact hw_.1 | exact hw_.2 | assumption) rfl ?_
      | refine VcD.loadRowN0 tabOk rfl rfl rfl rfl rfl rfl rfl (fun _ hw_ => hw_) (fun _ => rfl) (by first | assumption | exact atD_get (by assumption)) (by exact rfl) (by exact rfl) (by exact rfl) ?_
      | refine VcD.loadRowN tabOk rfl rfl rfl rfl rfl rfl rfl (fun _ hw_ => hw_) (fun _ => rfl) (by first | assumption | exact atD_get (by assumption)) (by exact rfl) (by exact rfl) (by exact rfl) ?_
      | refine VcD.loadRowN0 tabOk rfl rfl rfl rfl rfl rfl rfl (fun _ hw_ => (Holds.f1 hw_)) (fun _ => rfl) (by first | assumption | exact atD_get (by assumption)) (by exact rfl) (by exact rfl) (by exact rfl) ?_
      | refine VcD.loadRowN tabOk rfl rfl rfl rfl rfl rfl rfl (fun _ hw_ => (Holds.f1 hw_)) (fun _ => rfl) (by first | assumption | exact atD_get (by assumption)) (by exact rfl) (by exact rfl) (by exact rfl) ?_
      | refine VcD.loadRowN0 tabOk rfl rfl rfl rfl rfl rfl rfl (fun _ hw_ => (Holds.f2 hw_)) (fun _ => rfl) (by first | assumption | exact atD_get (by assumption)) (by exact rfl) (by exact rfl) (by exact rfl) ?_
      | refine VcD.loadRowN tabOk rfl rfl rfl rfl rfl rfl rfl (fun _ hw_ => (Holds.f2 hw_)) (fun _ => rfl) (by first | assumption | exact atD_get (by assumption)) (by exact rfl) (by exact rfl) (by exact rfl) ?_
      | refine VcD.loadRowN0 tabOk rfl rfl rfl rfl rfl rfl rfl (fun _ hw_ => (Holds.f3 hw_)) (fun _ => rfl) (by first | assumption | exact atD_get (by assumption)) (by exact rfl) (by exact rfl) (by exact rfl) ?_
      | refine VcD.loadRowN tabOk rfl rfl rfl rfl rfl rfl rfl (fun _ hw_ => (Holds.f3 hw_)) (fun _ => rfl) (by first | assumption | exact atD_get (by assumption)) (by exact rfl) (by exact rfl) (by exact rfl) ?_
      | refine VcD.loadRowN0 tabOk rfl rfl rfl rfl rfl rfl rfl (fun _ hw_ => (Holds.f4 hw_)) (fun _ => rfl) (by first | assumption | exact atD_get (by assumption)) (by exact rfl) (by exact rfl) (by exact rfl) ?_
      | refine VcD.loadRowN tabOk rfl rfl rfl rfl rfl rfl rfl (fun _ hw_ => (Holds.f4 hw_)) (fun _ => rfl) (by first | assumption | exact atD_get (by assumption)) (by exact rfl) (by exact rfl) (by exact rfl) ?_
      | refine VcD.loadN tabOk rfl rfl rfl rfl rfl rfl rfl (by intro w_ hw_; first | exact hw_ | exact (Holds.f1 hw_) | exact (Holds.f2 hw_) | exact (Holds.f3 hw_) | exact (Holds.f4 hw_) | exact (Holds.f5 hw_) | exact (Holds.f6 hw_)) (by exact rfl) ?_
      | refine VcD.skipT rfl rfl rfl ?_
      | (refine VcD.guardT rfl rfl rfl rfl rfl (fun h => ?_) (fun h => ?_) <;> first | (cases h; done) | (exfalso; simp only [decide_eq_true_eq, decide_eq_false_iff_not] at h; omega) | (with_reducible have hp := of_decide_eq_true h) | (with_reducible have hp := of_decide_eq_false h) | (with_reducible have hp := ndec_t h) | (with_reducible have hp := ndec_f h) | skip))
      | (show VcD _ _ _ _ _ (.only _ _) _ _ _; first
      | (refine VcD.callF (f := F_rights_isUser) rfl ok_rights_isUser rfl rfl rfl rfl (Rets.mono (isUser_any H _ hun) ?_); rintro _ w ⟨rfl, H⟩; refine ⟨(by first | exact H | exact Holds.drop H | exact Holds.drop (Holds.drop H)), ?_⟩)
      | (refine VcD.callF (f := F_slices_ContainsFunc_api_User_api_User) rfl ok_slices_ContainsFunc_api_User_api_User rfl rfl rfl rfl (Rets.mono (ContainsFuncU_any H (by rw [hkl]; exact htk.up) (by omega) ok_rights_ValidUsers_1 (fun v => eqT (atD l k).name v.name) (hF _)) ?_); rintro _ w ⟨rfl, H⟩; refine ⟨(by first | exact H | exact Holds.drop H | exact Holds.drop (Holds.drop H)), ?_⟩)
      | refine VcD.skip rfl rfl rfl (by first | exact H | exact Holds.drop H | exact Holds.drop (Holds.drop H)) ?_
      | (refine VcD.guardO rfl rfl rfl rfl rfl (fun h => ?_) (fun h => ?_) <;> first | (cases h; done) | (exfalso; simp only [decide_eq_true_eq, decide_eq_false_iff_not] at h; omega) | (with_reducible have hp := of_decide_eq_true h) | (with_reducible have hp := of_decide_eq_false h) | (with_reducible have hp := ndec_t h) | (with_reducible have hp := ndec_f h) | skip))
      | (show VcD _ _ _ _ _ (.two _ _ _ _) _ _ _; refine VcD.two ?_ ?_))
      | (show EfO _ _ _ _ _ _ _ _ _; first
      | (refine EfO.call (f := F_rights_isUser) rfl rfl rfl rfl (OpC.call ok_rights_isUser rfl) (Rets.mono (isUser_any H _ hun) ?_); rintro _ w ⟨rfl, H⟩; refine ⟨(by first | exact H | exact Holds.drop H | exact Holds.drop (Holds.drop H)), ?_⟩)
      | (refine EfO.call (f := F_slices_ContainsFunc_api_User_api_User) rfl rfl rfl rfl (OpC.call ok_slices_ContainsFunc_api_User_api_User rfl) (Rets.mono (ContainsFuncU_any H (by rw [hkl]; exact htk.up) (by omega) ok_rights_ValidUsers_1 (fun v => eqT (atD l k).name v.name) (hF _)) ?_); rintro _ w ⟨rfl, H⟩; refine ⟨(by first | exact H | exact Holds.drop H | exact Holds.drop (Holds.drop H)), ?_⟩))
      | (show Vc _ _ _ _ _ _; first
      | refine Vc.seq ?_
      | refine Vc.region ?_
      | refine Vc.condT rfl ?_
      | refine Vc.condF rfl ?_
      | refine Vc.ret ?_
      | refine Vc.skip ?_
      | refine Vc.block ?_
      | refine Vc.exit ?_
      | refine Vc.drawnH (id := 4) H (.take 0 (.only 1 (.pure 2 (.pure 3 (.pure 4 (.pure 5 (.pure 6 (.pure 7 (.pure 9 (.pure 10 (.pure 11 (.take 8 (.pure 12 (.pure 13 (.take 14 (.pure 15 (.pure 16 (.pure 17 .done)))))))))))))))))) mixed (by kernel_rfl) (fun w H => ?_)
      | (refine Vc.cond rfl (fun h => ?_) (fun h => ?_) <;> first | (cases h; done) | (exfalso; simp only [decide_eq_true_eq, decide_eq_false_iff_not] at h; omega) | (with_reducible have hp := of_decide_eq_true h) | (with_reducible have hp := of_decide_eq_false h) | (with_reducible have hp := ndec_t h) | (with_reducible have hp := ndec_f h) | skip))
      | (show KSeq _ _ _ _ _ _ _; first
      | refine KSeq.normal ?_
      | refine KSeq.ret ?_
      | refine KSeq.exit ?_)
      | (show KBlock _ _ _ _ _ _; first
      | refine KBlock.normal ?_
      | refine KBlock.here ?_
      | refine KBlock.on rfl ?_
      | refine KBlock.ret ?_)
      | refine KLoop.exit ?_
      | refine KLoop.ret ?_
      | refine KCut.exit ?_
      | refine KCut.ret ?_
      | (show KEnd _ _ _ _ _ _ _; first
      | refine KEnd.fin (Or.inr rfl) ⟨_, (ResL.tmp rfl ResL.nil), ?_⟩
      | refine KEnd.fin (Or.inl rfl) ⟨_, (ResL.tmp rfl ResL.nil), ?_⟩))
    refine ⟨?_, H⟩
    unfold usersOk
    rw [show l.length = k by omega, hall]
    simp [resVal]
    omega
theorem ValidUsersR_any (H : Holds I w L) {v : Value} {l : List Us} (hv : SlU I L v l) (hl : l.length ≤ 140737488355328) (hu : ∀ u ∈ l, UsI I u) : Rets Try.prog F_tithingref21_ValidUsers #[v] w fun r w' => r = .bool (usersOk l) ∧ Holds I w' L := by
  obtain ⟨A, cap, rfl, hcap⟩ := hv.form
  refine ok_tithingref21_ValidUsers.rets rfl ?_
  repeat' (first
    | (show VcL _ _ _ _ _ _ _ _; first
      | refine VcL.pures tabOk rfl ?_
      | refine VcL.nil ?_
      | (show VcL _ _ _ _ (⟨_, .load _ _, _, _, _, _⟩ :: _) _ _ _; first
      | refine VcL.load1 tabOk rfl rfl rfl rfl rfl (by first | exact Holds.cell H rfl | exact Holds.cell (Holds.f1 H) rfl | exact Holds.cell (Holds.f2 H) rfl | exact Holds.cell (Holds.f3 H) rfl | exact Holds.cell (Holds.f4 H) rfl | exact Holds.cell (Holds.f5 H) rfl | exact Holds.cell (Holds.f6 H) rfl | exact RdW.get (by assumption) rfl H | exact RdW.get0 (by assumption) rfl H | exact RdW.get (by assumption) rfl (Holds.drop H) | exact RdW.get0 (by assumption) rfl (Holds.drop H) | exact RdW.get (by assumption) rfl (Holds.drop (Holds.drop H)) | exact RdW.get0 (by assumption) rfl (Holds.drop (Holds.drop H)) | exact RdW.get (by assumption) rfl (Holds.drop (Holds.drop (Holds.drop H))) | exact RdW.get0 (by assumption) rfl (Holds.drop (Holds.drop (Holds.drop H))) | exact Holds.rowCell H (fun _ => rfl) (by first | assumption | exact atD_get (by assumption)) rfl | exact Holds.rowCell0 H (fun _ => rfl) (by first | assumption | exact atD_get (by assumption)) rfl | exact Holds.ownCell H (fun _ => rfl) (by first | assumption | exact atD_get (by assumption)) rfl | exact Holds.ownCell0 H (fun _ => rfl) (by first | assumption | exact atD_get (by assumption)) rfl | exact Holds.rowCell (Holds.f1 H) (fun _ => rfl) (by first | assumption | exact atD_get (by assumption)) rfl | exact Holds.rowCell0 (Holds.f1 H) (fun _ => rfl) (by first | assumption | exact atD_get (by assumption)) rfl | exact Holds.ownCell (Holds.f1 H) (fun _ => rfl) (by first | assumption | exact atD_get (by assumption)) rfl | exact Holds.ownCell0 (Holds.f1 H) (fun _ => rfl) (by first | assumption | exact atD_get (by assumption)) rfl | exact Holds.rowCell (Holds.f2 H) (fun _ => rfl) (by first | assumption | exact atD_get (by assumption)) rfl | exact Holds.rowCell0 (Holds.f2 H) (fun _ => rfl) (by first | assumption | exact atD_get (by assumption)) rfl | exact Holds.ownCell (Holds.f2 H) (fun _ => rfl) (by first | assumption | exact atD_get (by assumption)) rfl | exact Holds.ownCell0 (Holds.f2 H) (fun _ => rfl) (by first | assumption | exact atD_get (by assumption)) rfl | exact Holds.rowCell (Holds.f3 H) (fun _ => rfl) (by first | assumption | exact atD_get (by assumption)) rfl | exact Holds.rowCell0 (Holds.f3 H) (fun _ => rfl) (by first | assumption | exact atD_get (by assumption)) rfl | exact Holds.ownCell (Holds.f3 H) (fun _ => rfl) (by first | assumption | exact atD_get (by assumption)) rfl | exact Holds.ownCell0 (Holds.f3 H) (fun _ => rfl) (by first | assumption | exact atD_get (by assumption)) rfl | exact Holds.rowCell (Holds.f4 H) (fun _ => rfl) (by first | assumption | exact atD_get (by assumption)) rfl | exact Holds.rowCell0 (Holds.f4 H) (fun _ => rfl) (by first | assumption | exact atD_get (by assumption)) rfl | exact Holds.ownCell (Holds.f4 H) (fun _ => rfl) (by first | assumption | exact atD_get (by assumption)) rfl | exact Holds.ownCell0 (Holds.f4 H) (fun _ => rfl) (by first | assumption | exact atD_get (by assumption)) rfl | assumption) ?_
      | refine VcL.loadR tabOk rfl rfl rfl rfl rfl rfl (by first | exact RdW.rd (by assumption) H | exact RdW.rd (by assumption) (Holds.drop H) | exact RdW.rd (by assumption) (Holds.drop (Holds.drop H)) | exact RdW.rd (by assumption) (Holds.drop (Holds.drop (Holds.drop H))) | assumption) rfl ?_
      | refine VcL.loadN tabOk rfl rfl rfl rfl rfl rfl (by first | exact H | exact (Holds.f1 H) | exact (Holds.f2 H) | exact (Holds.f3 H) | exact (Holds.f4 H) | exact (Holds.f5 H) | exact (Holds.f6 H)) (by exact rfl) ?_
      | refine VcL.loadRowN0 tabOk rfl rfl rfl rfl rfl rfl H (fun _ => rfl) (by first | assumption | exact atD_get (by assumption)) (by exact rfl) (by exact rfl) (by exact rfl) ?_
      | refine VcL.loadRowN tabOk rfl rfl rfl rfl rfl rfl H (fun _ => rfl) (by first | assumption | exact atD_get (by assumption)) (by exact rfl) (by exact rfl) (by exact rfl) ?_
      | refine VcL.loadOwnN0 tabOk rfl rfl rfl rfl rfl rfl H (fun _ => rfl) (by first | assumption | exact atD_get (by assumption)) (by exact rfl) (by exact rfl) (by exact rfl) ?_
      | refine VcL.loadOwnN tabOk rfl rfl rfl rfl rfl rfl H (fun _ => rfl) (by first | assumption | exact atD_get (by assumption)) (by exact rfl) (by exact rfl) (by exact rfl) ?_
      | refine VcL.loadRowN0 tabOk rfl rfl rfl rfl rfl rfl (Holds.f1 H) (fun _ => rfl) (by first | assumption | exact atD_get (by assumption)) (by exact rfl) (by exact rfl) (by exact rfl) ?_
      | refine VcL.loadRowN tabOk rfl rfl rfl rfl rfl rfl (Holds.f1 H) (fun _ => rfl) (by first | assumption | exact atD_get (by assumption)) (by exact rfl) (by exact rfl) (by exact rfl) ?_
      | refine VcL.loadOwnN0 tabOk rfl rfl rfl rfl rfl rfl (Holds.f1 H) (fun _ => rfl) (by first | assumption | exact atD_get (by assumption)) (by exact rfl) (by exact rfl) (by exact rfl) ?_
      | refine VcL.loadOwnN tabOk rfl rfl rfl rfl rfl rfl (Holds.f1 H) (fun _ => rfl) (by first | assumption | exact atD_get (by assumption)) (by exact rfl) (by exact rfl) (by exact rfl) ?_
      | refine VcL.loadRowN0 tabOk rfl rfl rfl rfl rfl rfl (Holds.f2 H) (fun _ => rfl) (by first | assumption | exact atD_get (by assumption)) (by exact rfl) (by exact rfl) (by exact rfl) ?_
      | refine VcL.loadRowN tabOk rfl rfl rfl rfl rfl rfl (Holds.f2 H) (fun _ => rfl) (by first | assumption | exact atD_get (by assumption)) (by exact rfl) (by exact rfl) (by exact rfl) ?_
      | refine VcL.loadOwnN0 tabOk rfl rfl rfl rfl rfl rfl (Holds.f2 H) (fun _ => rfl) (by first | assumption | exact atD_get (by assumption)) (by exact rfl) (by exact rfl) (by exact rfl) ?_
      | refine VcL.loadOwnN tabOk rfl rfl rfl rfl rfl rfl (Holds.f2 H) (fun _ => rfl) (by first | assumption | exact atD_get (by assumption)) (by exact rfl) (by exact rfl) (by exact rfl) ?_
      | refine VcL.loadRowN0 tabOk rfl rfl rfl rfl rfl rfl (Holds.f3 H) (fun _ => rfl) (by first | assumption | exact atD_get (by assumption)) (by exact rfl) (by exact rfl) (by exact rfl) ?_
      | refine VcL.loadRowN tabOk rfl rfl rfl rfl rfl rfl (Holds.f3 H) (fun _ => rfl) (by first | assumption | exact atD_get (by assumption)) (by exact rfl) (by exact rfl) (by exact rfl) ?_
      | refine VcL.loadOwnN0 tabOk rfl rfl rfl rfl rfl rfl (Holds.f3 H) (fun _ => rfl) (by first | assumption | exact atD_get (by assumption)) (by exact rfl) (by exact rfl) (by exact rfl) ?_
      | refine VcL.loadOwnN tabOk rfl rfl rfl rfl rfl rfl (Holds.f3 H) (fun _ => rfl) (by first | assumption | exact atD_get (by assumption)) (by exact rfl) (by exact rfl) (by exact rfl) ?_
      | refine VcL.loadRowN0 tabOk rfl rfl rfl rfl rfl rfl (Holds.f4 H) (fun _ => rfl) (by first | assumption | exact atD_get (by assumption)) (by exact rfl) (by exact rfl) (by exact rfl) ?_
      | refine VcL.loadRowN tabOk rfl rfl rfl rfl rfl rfl (Holds.f4 H) (fun _ => rfl) (by first | assumption | exact atD_get (by assumption)) (by exact rfl) (by exact rfl) (by exact rfl) ?_
      | refine VcL.loadOwnN0 tabOk rfl rfl rfl rfl rfl rfl (Holds.f4 H) (fun _ => rfl) (by first | assumption | exact atD_get (by assumption)) (by exact rfl) (by exact rfl) (by exact rfl) ?_
      | refine VcL.loadOwnN tabOk rfl rfl rfl rfl rfl rfl (Holds.f4 H) (fun _ => rfl) (by first | assumption | exact atD_get (by assumption)) (by exact rfl) (by exact rfl) (by exact rfl) ?_)
      | (show VcL _ _ _ _ (⟨_, .binOp _ _ _ _ _, _, _, _, _⟩ :: _) _ _ _; first
      | refine VcL.shl rfl rfl (by first | assumption | rfl) rfl rfl rfl ?_
      | refine VcL.shr rfl rfl (by first | assumption | rfl) rfl rfl rfl ?_
      | refine VcL.eqS tabOk rfl rfl rfl rfl rfl rfl (by kernel_rfl) (by kernel_rfl) rfl rfl (by first | exact .inl rfl | exact .inr rfl) ?_)
      | (show VcL _ _ _ _ (⟨_, .indexAddr _ _ _, _, _, _, _⟩ :: _) _ _ _; first
      | refine VcL.indexAddr0 tabOk rfl rfl rfl rfl rfl rfl (by omega) (by omega) ?_
      | refine VcL.indexAddr tabOk rfl rfl rfl rfl rfl rfl (by omega) (by omega) ?_
      | refine VcL.indexArr0 tabOk rfl rfl rfl rfl rfl rfl (by omega) (by omega) ?_
      | refine VcL.indexArr tabOk rfl rfl rfl rfl rfl rfl (by omega) (by omega) ?_)
      | refine VcL.alloc tabOk H rfl rfl rfl rfl (fun b w H => ?_)
      | (show VcL _ _ _ _ (⟨_, .store _ _ _, _, _, _, _⟩ :: _) _ _ _; first
      | refine VcL.store tabOk rfl (by first | exact H | exact (Holds.f1 H) | exact (Holds.f2 H) | exact (Holds.f3 H) | exact (Holds.f4 H) | exact (Holds.f5 H) | exact (Holds.f6 H)) rfl rfl (by exact rfl) (by exact rfl) (by exact rfl) (by exact rfl) (fun w H => ?_))
      | (refine VcL.guard rfl rfl rfl rfl (fun h => ?_) (fun h => ?_) <;> first | (cases h; done) | (exfalso; simp only [decide_eq_true_eq, decide_eq_false_iff_not] at h; omega) | (with_reducible have hp := of_decide_eq_true h) | (with_reducible have hp := of_decide_eq_false h) | (with_reducible have hp := ndec_t h) | (with_reducible have hp := ndec_f h) | skip))
    | (show VcD _ _ _ _ _ _ _ _ _; first
      | refine VcD.pures tabOk rfl ?_
      | refine VcD.done ?_
      | (show VcD _ _ _ _ _ (.pure _ _) _ _ _; first
      | refine VcD.indexAddr0 tabOk rfl rfl rfl rfl rfl rfl rfl (by omega) (by omega) ?_
      | refine VcD.indexAddr tabOk rfl rfl rfl rfl rfl rfl rfl (by omega) (by omega) ?_
      | refine VcD.indexArr0 tabOk rfl rfl rfl rfl rfl rfl rfl (by omega) (by omega) ?_
      | refine VcD.indexArr tabOk rfl rfl rfl rfl rfl rfl rfl (by omega) (by omega) ?_
      | refine VcD.shl rfl rfl rfl (by first | assumption | rfl) rfl rfl rfl ?_
      | refine VcD.shr rfl rfl rfl (by first | assumption | rfl) rfl rfl rfl ?_
      | refine VcD.eqS tabOk rfl rfl rfl rfl rfl rfl rfl (by kernel_rfl) (by kernel_rfl) rfl rfl (by first | exact .inl rfl | exact .inr rfl) ?_
      | (refine VcD.guardP rfl rfl rfl rfl rfl (fun h => ?_) (fun h => ?_) <;> first | (cases h; done) | (exfalso; simp only [decide_eq_true_eq, decide_eq_false_iff_not] at h; omega) | (with_reducible have hp := of_decide_eq_true h) | (with_reducible have hp := of_decide_eq_false h) | (with_reducible have hp := ndec_t h) | (with_reducible have hp := ndec_f h) | skip))
      | (show VcD _ _ _ _ _ (.take _ _) _ _ _; first
      | refine VcD.load1 tabOk rfl rfl rfl rfl rfl rfl (by intro w_ hw_; first | exact Holds.cell hw_ rfl | exact Holds.cell (Holds.f1 hw_) rfl | exact Holds.cell (Holds.f2 hw_) rfl | exact Holds.cell (Holds.f3 hw_) rfl | exact Holds.cell (Holds.f4 hw_) rfl | exact Holds.cell (Holds.f5 hw_) rfl | exact Holds.cell (Holds.f6 hw_) rfl | exact RdW.get (by assumption) rfl hw_ | exact RdW.get0 (by assumption) rfl hw_ | exact RdW.get (by assumption) rfl (Holds.drop hw_) | exact RdW.get0 (by assumption) rfl (Holds.drop hw_) | exact RdW.get (by assumption) rfl (Holds.drop (Holds.drop hw_)) | exact RdW.get0 (by assumption) rfl (Holds.drop (Holds.drop hw_)) | exact RdW.get (by assumption) rfl (Holds.drop (Holds.drop (Holds.drop hw_))) | exact RdW.get0 (by assumption) rfl (Holds.drop (Holds.drop (Holds.drop hw_))) | exact Holds.rowCell hw_ (fun _ => rfl) (by first | assumption | exact atD_get (by assumption)) rfl | exact Holds.rowCell0 hw_ (fun _ => rfl) (by first | assumption | exact atD_get (by assumption)) rfl | exact Holds.ownCell hw_ (fun _ => rfl) (by first | assumption | exact atD_get (by assumption)) rfl | exact Holds.ownCell0 hw_ (fun _ => rfl) (by first | assumption | exact atD_get (by assumption)) rfl | exact Holds.rowCell (Holds.f1 hw_) (fun _ => rfl) (by first | assumption | exact atD_get (by assumption)) rfl | exact Holds.rowCell0 (Holds.f1 hw_) (fun _ => rfl) (by first | assumption | exact atD_get (by assumption)) rfl | exact Holds.ownCell (Holds.f1 hw_) (fun _ => rfl) (by first | assumption | exact atD_get (by assumption)) rfl | exact Holds.ownCell0 (Holds.f1 hw_) (fun _ => rfl) (by first | assumption | exact atD_get (by assumption)) rfl | exact Holds.rowCell (Holds.f2 hw_) (fun _ => rfl) (by first | assumption | exact atD_get (by assumption)) rfl | exact Holds.rowCell0 (Holds.f2 hw_) (fun _ => rfl) (by first | assumption | exact atD_get (by assumption)) rfl | exact Holds.ownCell (Holds.f2 hw_) (fun _ => rfl) (by first | assumption | exact atD_get (by assumption)) rfl | exact Holds.ownCell0 (Holds.f2 hw_) (fun _ => rfl) (by first | assumption | exact atD_get (by assumption)) rfl | exact Holds.rowCell (Holds.f3 hw_) (fun _ => rfl) (by first | assumption | exact atD_get (by assumption)) rfl | exact Holds.rowCell0 (Holds.f3 hw_) (fun _ => rfl) (by first | assumption | exact atD_get (by assumption)) rfl | exact Holds.ownCell (Holds.f3 hw_) (fun _ => rfl) (by first | assumption | exact atD_get (by assumption)) rfl | exact Holds.ownCell0 (Holds.f3 hw_) (fun _ => rfl) (by first | assumption | exact atD_get (by assumption)) rfl | exact Holds.rowCell (Holds.f4 hw_) (fun _ => rfl) (by first | assumption | exact atD_get (by assumption)) rfl | exact Holds.rowCell0 (Holds.f4 hw_) (fun _ => rfl) (by first | assumption | exact atD_get (by assumption)) rfl | exact Holds.ownCell (Holds.f4 hw_) (fun _ => rfl) (by first | assumption | exact atD_get (by assumption)) rfl | exact Holds.ownCell0 (Holds.f4 hw_) (fun _ => rfl) (by first | assumption | exact atD_get (by assumption)) rfl | exact hw_ _ _ rfl | exact hw_ 0 _ rfl | exact hw_.1 _ _ rfl | exact hw_.1 0 _ rfl | exact hw_.2 _ _ rfl | exact hw_.2 0 _ rfl | assumption) (by exact rfl) ?_
      | refine VcD.loadR tabOk rfl rfl rfl rfl rfl rfl rfl (by intro w_ hw_; first | exact RdW.rd (by assumption) hw_ | exact RdW.rd (by assumption) (Holds.drop hw_) | exact RdW.rd (by assumption) (Holds.drop (Holds.drop hw_)) | exact RdW.rd (by assumption) (Holds.drop (Holds.drop (Holds.drop hw_))) | exact hw_.1 | exact hw_.2 | assumption) rfl ?_
      | refine VcD.loadRowN0 tabOk rfl rfl rfl rfl rfl rfl rfl (fun _ hw_ => hw_) (fun _ => rfl) (by first | assumption | exact atD_get (by assumption)) (by exact rfl) (by exact rfl) (by exact rfl) ?_
      | refine VcD.loadRowN tabOk rfl rfl rfl rfl rfl rfl rfl (fun _ hw_ => hw_) (fun _ => rfl) (by first | assumption | exact atD_get (by assumption)) (by exact rfl) (by exact rfl) (by exact rfl) ?_
      | refine VcD.loadRowN0 tabOk rfl rfl rfl rfl rfl rfl rfl (fun _ hw_ => (Holds.f1 hw_)) (fun _ => rfl) (by first | assumption | exact atD_get (by assumption)) (by exact rfl) (by exact rfl) (by exact rfl) ?_
      | refine VcD.loadRowN tabOk rfl rfl rfl rfl rfl rfl rfl (fun _ hw_ => (Holds.f1 hw_)) (fun _ => rfl) (by first | assumption | exact atD_get (by assumption)) (by exact rfl) (by exact rfl) (by exact rfl) ?_
      | refine VcD.loadRowN0 tabOk rfl rfl rfl rfl rfl rfl rfl (fun _ hw_ => (Holds.f2 hw_)) (fun _ => rfl) (by first | assumption | exact atD_get (by assumption)) (by exact rfl) (by exact rfl) (by exact rfl) ?_
      | refine VcD.loadRowN tabOk rfl rfl rfl rfl rfl rfl rfl (fun _ hw_ => (Holds.f2 hw_)) (fun _ => rfl) (by first | assumption | exact atD_get (by assumption)) (by exact rfl) (by exact rfl) (by exact rfl) ?_
      | refine VcD.loadRowN0 tabOk rfl rfl rfl rfl rfl rfl rfl (fun _ hw_ => (Holds.f3 hw_)) (fun _ => rfl) (by first | assumption | exact atD_get (by assumption)) (by exact rfl) (by exact rfl) (by exact rfl) ?_
      | refine VcD.loadRowN tabOk rfl rfl rfl rfl rfl rfl rfl (fun _ hw_ => (Holds.f3 hw_)) (fun _ => rfl) (by first | assumption | exact atD_get (by assumption)) (by exact rfl) (by exact rfl) (by exact rfl) ?_
      | refine VcD.loadRowN0 tabOk rfl rfl rfl rfl rfl rfl rfl (fun _ hw_ => (Holds.f4 hw_)) (fun _ => rfl) (by first | assumption | exact atD_get (by assumption)) (by exact rfl) (by exact rfl) (by exact rfl) ?_
      | refine VcD.loadRowN tabOk rfl rfl rfl rfl rfl rfl rfl (fun _ hw_ => (Holds.f4 hw_)) (fun _ => rfl) (by first | assumption | exact atD_get (by assumption)) (by exact rfl) (by exact rfl) (by exact rfl) ?_
      | refine VcD.loadN tabOk rfl rfl rfl rfl rfl rfl rfl (by intro w_ hw_; first | exact hw_ | exact (Holds.f1 hw_) | exact (Holds.f2 hw_) | exact (Holds.f3 hw_) | exact (Holds.f4 hw_) | exact (Holds.f5 hw_) | exact (Holds.f6 hw_)) (by exact rfl) ?_
      | refine VcD.skipT rfl rfl rfl ?_
      | (refine VcD.guardT rfl rfl rfl rfl rfl (fun h => ?_) (fun h => ?_) <;> first | (cases h; done) | (exfalso; simp only [decide_eq_true_eq, decide_eq_false_iff_not] at h; omega) | (with_reducible have hp := of_decide_eq_true h) | (with_reducible have hp := of_decide_eq_false h) | (with_reducible have hp := ndec_t h) | (with_reducible have hp := ndec_f h) | skip))
      | (show VcD _ _ _ _ _ (.only _ _) _ _ _; first
      | refine VcD.skip rfl rfl rfl (by first | exact H | exact Holds.drop H | exact Holds.drop (Holds.drop H)) ?_
      | (refine VcD.guardO rfl rfl rfl rfl rfl (fun h => ?_) (fun h => ?_) <;> first | (cases h; done) | (exfalso; simp only [decide_eq_true_eq, decide_eq_false_iff_not] at h; omega) | (with_reducible have hp := of_decide_eq_true h) | (with_reducible have hp := of_decide_eq_false h) | (with_reducible have hp := ndec_t h) | (with_reducible have hp := ndec_f h) | skip))
      | (show VcD _ _ _ _ _ (.two _ _ _ _) _ _ _; refine VcD.two ?_ ?_))
    | (show Vc _ _ _ _ _ _; first
      | refine Vc.seq ?_
      | refine Vc.region ?_
      | refine Vc.condT rfl ?_
      | refine Vc.condF rfl ?_
      | refine Vc.ret ?_
      | refine Vc.skip ?_
      | refine Vc.block ?_
      | refine Vc.exit ?_
      | refine Vc.drawnH (id := 5) H (.pure 0 (.take 1 (.pure 2 (.pure 3 (.pure 4 (.pure 5 (.pure 6 (.pure 7 (.pure 8 (.pure 9 (.pure 13 (.pure 10 (.pure 11 (.take 12 (.take 14 (.pure 15 (.pure 16 (.pure 17 (.pure 18 (.pure 19 (.take 20 (.pure 21 (.pure 22 (.pure 23 (.pure 24 (.pure 25 (.take 26 (.pure 27 (.pure 28 (.pure 29 (.pure 30 (.pure 31 (.take 32 (.pure 33 (.pure 34 (.pure 35 (.pure 36 (.take 37 (.pure 38 (.pure 39 (.pure 40 (.pure 41 (.take 42 (.pure 43 (.pure 44 (.pure 45 .done)))))))))))))))))))))))))))))))))))))))))))))) mixed (by kernel_rfl) (fun w H => ?_)
      | refine Vc.drawnH (id := 10) H (.pure 0 (.pure 2 (.take 1 (.pure 3 (.take 4 (.pure 5 (.pure 6 (.pure 7 (.pure 8 (.pure 9 (.pure 10 (.pure 12 (.pure 13 (.pure 16 (.pure 18 (.take 11 (.pure 14 (.take 15 (.take 17 (.pure 19 (.take 20 (.pure 21 (.pure 22 (.pure 23 .done)))))))))))))))))))))))) mixed (by kernel_rfl) (fun w H => ?_)
      | refine Vc.drawnH (id := 15) H (.pure 0 (.pure 1 (.pure 5 (.pure 2 (.pure 3 (.take 4 (.take 6 (.only 7 .done)))))))) mixed (by kernel_rfl) (fun w H => ?_)
      | (refine Vc.cond rfl (fun h => ?_) (fun h => ?_) <;> first | (cases h; done) | (exfalso; simp only [decide_eq_true_eq, decide_eq_false_iff_not] at h; omega) | (with_reducible have hp := of_decide_eq_true h) | (with_reducible have hp := of_decide_eq_false h) | (with_reducible have hp := ndec_t h) | (with_reducible have hp := ndec_f h) | skip))
    | (show KSeq _ _ _ _ _ _ _; first
      | refine KSeq.normal ?_
      | refine KSeq.ret ?_
      | refine KSeq.exit ?_)
    | (show KBlock _ _ _ _ _ _; first
      | refine KBlock.normal ?_
      | refine KBlock.here ?_
      | refine KBlock.on rfl ?_
      | refine KBlock.ret ?_)
    | refine KLoop.exit ?_
    | refine KLoop.ret ?_
    | refine KCut.exit ?_
    | refine KCut.ret ?_
    | (show KEnd _ _ _ _ _ _ _; first
      | refine KEnd.fin (Or.inr rfl) ⟨_, (ResL.tmp rfl ResL.nil), ?_⟩
      | refine KEnd.fin (Or.inl rfl) ⟨_, (ResL.tmp rfl ResL.nil), ?_⟩))
  refine Vc.loopS [(0, _)] (fun k : Nat => [(3, .int .i64 k)]) (fun k w => Holds I w L ∧ k ≤ l.length ∧ (List.range k).all (uOk l) = true) (fun k _ => l.length - k) 0 ⟨rfl, trivial⟩ ⟨rfl, trivial⟩ ⟨H, Nat.zero_le _, rfl⟩ ?_
  rintro k w ⟨H, hk, hall⟩
  by_cases hlt : k < l.length
  · obtain ⟨b2, o2, rfl, hr⟩ := hv.at (by omega)
    have hx := hr.elem usC_len (atD_get hlt)
    have hy := hr.elem usC_len (atD_get (l := l) (k := k - 1) (by omega))
    have hun := hu _ (atD_mem hlt)
    have hno : uOk l k = false → usersOk l = false := fun h => by
      unfold usersOk
      rw [range_no hlt h]; rfl
    have hw := fun h => wrap_pred k h (by omega)
    obtain ⟨u, hue⟩ : ∃ u, atD l k = u := ⟨_, rfl⟩
    rw [hue] at hx hun
    obtain ⟨id, name, sec, A2, cap2, gs⟩ := u
    obtain ⟨hg, hnm, hgl⟩ := hun
    have hg : SlI I (.slice A2 gs.length cap2) 1 gs.length (gs.flatMap inC) := hg
    have hgl : gs.length ≤ 140737488355328 := hgl
    have hx : RdW I L b2 (o2 + k * 4) [.int .i64 id, .string name, .int .i64 sec, .slice A2 gs.length cap2] := hx
    have hnu : (name.size = 0 ∨ 31 < name.size ∨ sec < 0 ∨ 2147483647 < sec ∨ 10 < gs.length ∨ id < 1 ∨ gsOk gs = false) → uOk l k = false := fun h => by
      have : userOk (atD l k) = false := by
        rw [hue, ← Bool.not_eq_true]
        intro hk2
        unfold userOk is31' at hk2
        simp only [Bool.and_eq_true, decide_eq_true_eq] at hk2
        rcases h with h | h | h | h | h | h | h
        all_goals first | omega | (rw [h] at hk2; simp at hk2)
      unfold uOk
      rw [this]; rfl
    have hpv : 0 < k → id ≤ (atD l (k - 1)).id → uOk l k = false := fun h0 h1 => by
      have : (decide (k = 0) || decide ((atD l (k - 1)).id < (atD l k).id)) = false := by
        rw [hue]
        simp; omega
      unfold uOk
      rw [this]; simp
    rcases Nat.eq_zero_or_pos k with h0 | h0
    all_goals
     repeat' (first
       | rw [hw h0]
       | (show VcL _ _ _ _ _ _ _ _; first
      | refine VcL.pures tabOk rfl ?_
      | refine VcL.nil ?_
      | (show VcL _ _ _ _ (⟨_, .load _ _, _, _, _, _⟩ :: _) _ _ _; first
      | refine VcL.load1 tabOk rfl rfl rfl rfl rfl (by first | exact Holds.cell H rfl | exact Holds.cell (Holds.f1 H) rfl | exact Holds.cell (Holds.f2 H) rfl | exact Holds.cell (Holds.f3 H) rfl | exact Holds.cell (Holds.f4 H) rfl | exact Holds.cell (Holds.f5 H) rfl | exact Holds.cell (Holds.f6 H) rfl | exact RdW.get (by assumption) rfl H | exact RdW.get0 (by assumption) rfl H | exact RdW.get (by assumption) rfl (Holds.drop H) | exact RdW.get0 (by assumption) rfl (Holds.drop H) | exact RdW.get (by assumption) rfl (Holds.drop (Holds.drop H)) | exact RdW.get0 (by assumption) rfl (Holds.drop (Holds.drop H)) | exact RdW.get (by assumption) rfl (Holds.drop (Holds.drop (Holds.drop H))) | exact RdW.get0 (by assumption) rfl (Holds.drop (Holds.drop (Holds.drop H))) | exact Holds.rowCell H (fun _ => rfl) (by first | assumption | exact atD_get (by assumption)) rfl | exact Holds.rowCell0 H (fun _ => rfl) (by first | assumption | exact atD_get (by assumption)) rfl | exact Holds.ownCell H (fun _ => rfl) (by first | assumption | exact atD_get (by assumption)) rfl | exact Holds.ownCell0 H (fun _ => rfl) (by first | assumption | exact atD_get (by assumption)) rfl | exact Holds.rowCell (Holds.f1 H) (fun _ => rfl) (by first | assumption | exact atD_get (by assumption)) rfl | exact Holds.rowCell0 (Holds.f1 H) (fun _ => rfl) (by first | assumption | exact atD_get (by assumption)) rfl | exact Holds.ownCell (Holds.f1 H) (fun _ => rfl) (by first | assumption | exact atD_get (by assumption)) rfl | exact Holds.ownCell0 (Holds.f1 H) (fun _ => rfl) (by first | assumption | exact atD_get (by assumption)) rfl | exact Holds.rowCell (Holds.f2 H) (fun _ => rfl) (by first | assumption | exact atD_get (by assumption)) rfl | exact Holds.rowCell0 (Holds.f2 H) (fun _ => rfl) (by first | assumption | exact atD_get (by assumption)) rfl | exact Holds.ownCell (Holds.f2 H) (fun _ => rfl) (by first | assumption | exact atD_get (by assumption)) rfl | exact Holds.ownCell0 (Holds.f2 H) (fun _ => rfl) (by first | assumption | exact atD_get (by assumption)) rfl | exact Holds.rowCell (Holds.f3 H) (fun _ => rfl) (by first | assumption | exact atD_get (by assumption)) rfl | exact Holds.rowCell0 (Holds.f3 H) (fun _ => rfl) (by first | assumption | exact atD_get (by assumption)) rfl | exact Holds.ownCell (Holds.f3 H) (fun _ => rfl) (by first | assumption | exact atD_get (by assumption)) rfl | exact Holds.ownCell0 (Holds.f3 H) (fun _ => rfl) (by first | assumption | exact atD_get (by assumption)) rfl | exact Holds.rowCell (Holds.f4 H) (fun _ => rfl) (by first | assumption | exact atD_get (by assumption)) rfl | exact Holds.rowCell0 (Holds.f4 H) (fun _ => rfl) (by first | assumption | exact atD_get (by assumption)) rfl | exact Holds.ownCell (Holds.f4 H) (fun _ => rfl) (by first | assumption | exact atD_get (by assumption)) rfl | exact Holds.ownCell0 (Holds.f4 H) (fun _ => rfl) (by first | assumption | exact atD_get (by assumption)) rfl | assumption) ?_
      | refine VcL.loadR tabOk rfl rfl rfl rfl rfl rfl (by first | exact RdW.rd (by assumption) H | exact RdW.rd (by assumption) (Holds.drop H) | exact RdW.rd (by assumption) (Holds.drop (Holds.drop H)) | exact RdW.rd (by assumption) (Holds.drop (Holds.drop (Holds.drop H))) | assumption) rfl ?_
      | refine VcL.loadN tabOk rfl rfl rfl rfl rfl rfl (by first | exact H | exact (Holds.f1 H) | exact (Holds.f2 H) | exact (Holds.f3 H) | exact (Holds.f4 H) | exact (Holds.f5 H) | exact (Holds.f6 H)) (by exact rfl) ?_
      | refine VcL.loadRowN0 tabOk rfl rfl rfl rfl rfl rfl H (fun _ => rfl) (by first | assumption | exact atD_get (by assumption)) (by exact rfl) (by exact rfl) (by exact rfl) ?_
      | refine VcL.loadRowN tabOk rfl rfl rfl rfl rfl rfl H (fun _ => rfl) (by first | assumption | exact atD_get (by assumption)) (by exact rfl) (by exact rfl) (by exact rfl) ?_
      | refine VcL.loadOwnN0 tabOk rfl rfl rfl rfl rfl rfl H (fun _ => rfl) (by first | assumption | exact atD_get (by assumption)) (by exact rfl) (by exact rfl) (by exact rfl) ?_
      | refine VcL.loadOwnN tabOk rfl rfl rfl rfl rfl rfl H (fun _ => rfl) (by first | assumption | exact atD_get (by assumption)) (by exact rfl) (by exact rfl) (by exact rfl) ?_
      | refine VcL.loadRowN0 tabOk rfl rfl rfl rfl rfl rfl (Holds.f1 H) (fun _ => rfl) (by first | assumption | exact atD_get (by assumption)) (by exact rfl) (by exact rfl) (by exact rfl) ?_
      | refine VcL.loadRowN tabOk rfl rfl rfl rfl rfl rfl (Holds.f1 H) (fun _ => rfl) (by first | assumption | exact atD_get (by assumption)) (by exact rfl) (by exact rfl) (by exact rfl) ?_
      | refine VcL.loadOwnN0 tabOk rfl rfl rfl rfl rfl rfl (Holds.f1 H) (fun _ => rfl) (by first | assumption | exact atD_get (by assumption)) (by exact rfl) (by exact rfl) (by exact rfl) ?_
      | refine VcL.loadOwnN tabOk rfl rfl rfl rfl rfl rfl (Holds.f1 H) (fun _ => rfl) (by first | assumption | exact atD_get (by assumption)) (by exact rfl) (by exact rfl) (by exact rfl) ?_
      | refine VcL.loadRowN0 tabOk rfl rfl rfl rfl rfl rfl (Holds.f2 H) (fun _ => rfl) (by first | assumption | exact atD_get (by assumption)) (by exact rfl) (by exact rfl) (by exact rfl) ?_
      | refine VcL.loadRowN tabOk rfl rfl rfl rfl rfl rfl (Holds.f2 H) (fun _ => rfl) (by first | assumption | exact atD_get (by assumption)) (by exact rfl) (by exact rfl) (by exact rfl) ?_
      | refine VcL.loadOwnN0 tabOk rfl rfl rfl rfl rfl rfl (Holds.f2 H) (fun _ => rfl) (by first | assumption | exact atD_get (by assumption)) (by exact rfl) (by exact rfl) (by exact rfl) ?_
      | refine VcL.loadOwnN tabOk rfl rfl rfl rfl rfl rfl (Holds.f2 H) (fun _ => rfl) (by first | assumption | exact atD_get (by assumption)) (by exact rfl) (by exact rfl) (by exact rfl) ?_
      | refine VcL.loadRowN0 tabOk rfl rfl rfl rfl rfl rfl (Holds.f3 H) (fun _ => rfl) (by first | assumption | exact atD_get (by assumption)) (by exact rfl) (by exact rfl) (by exact rfl) ?_
      | refine VcL.loadRowN tabOk rfl rfl rfl rfl rfl rfl (Holds.f3 H) (fun _ => rfl) (by first | assumption | exact atD_get (by assumption)) (by exact rfl) (by exact rfl) (by exact rfl) ?_
      | refine VcL.loadOwnN0 tabOk rfl rfl rfl rfl rfl rfl (Holds.f3 H) (fun _ => rfl) (by first | assumption | exact atD_get (by assumption)) (by exact rfl) (by exact rfl) (by exact rfl) ?_
      | refine VcL.loadOwnN tabOk rfl rfl rfl rfl rfl rfl (Holds.f3 H) (fun _ => rfl) (by first | assumption | exact atD_get (by assumption)) (by exact rfl) (by exact rfl) (by exact rfl) ?_
      | refine VcL.loadRowN0 tabOk rfl rfl rfl rfl rfl rfl (Holds.f4 H) (fun _ => rfl) (by first | assumption | exact atD_get (by assumption)) (by exact rfl) (by exact rfl) (by exact rfl) ?_
      | refine VcL.loadRowN tabOk rfl rfl rfl rfl rfl rfl (Holds.f4 H) (fun _ => rfl) (by first | assumption | exact atD_get (by assumption)) (by exact rfl) (by exact rfl) (by exact rfl) ?_
      | refine VcL.loadOwnN0 tabOk rfl rfl rfl rfl rfl rfl (Holds.f4 H) (fun _ => rfl) (by first | assumption | exact atD_get (by assumption)) (by exact rfl) (by exact rfl) (by exact rfl) ?_
      | refine VcL.loadOwnN tabOk rfl rfl rfl rfl rfl rfl (Holds.f4 H) (fun _ => rfl) (by first | assumption | exact atD_get (by assumption)) (by exact rfl) (by exact rfl) (by exact rfl) ?_)
      | (show VcL _ _ _ _ (⟨_, .binOp _ _ _ _ _, _, _, _, _⟩ :: _) _ _ _; first
      | refine VcL.shl rfl rfl (by first | assumption | rfl) rfl rfl rfl ?_
      | refine VcL.shr rfl rfl (by first | assumption | rfl) rfl rfl rfl ?_
      | refine VcL.eqS tabOk rfl rfl rfl rfl rfl rfl (by kernel_rfl) (by kernel_rfl) rfl rfl (by first | exact .inl rfl | exact .inr rfl) ?_)
      | (show VcL _ _ _ _ (⟨_, .indexAddr _ _ _, _, _, _, _⟩ :: _) _ _ _; first
      | refine VcL.indexAddr0 tabOk rfl rfl rfl rfl rfl rfl (by omega) (by omega) ?_
      | refine VcL.indexAddr tabOk rfl rfl rfl rfl rfl rfl (by omega) (by omega) ?_
      | refine VcL.indexArr0 tabOk rfl rfl rfl rfl rfl rfl (by omega) (by omega) ?_
      | refine VcL.indexArr tabOk rfl rfl rfl rfl rfl rfl (by omega) (by omega) ?_)
      | refine VcL.alloc tabOk H rfl rfl rfl rfl (fun b w H => ?_)
      | (show VcL _ _ _ _ (⟨_, .store _ _ _, _, _, _, _⟩ :: _) _ _ _; first
      | refine VcL.store tabOk rfl (by first | exact H | exact (Holds.f1 H) | exact (Holds.f2 H) | exact (Holds.f3 H) | exact (Holds.f4 H) | exact (Holds.f5 H) | exact (Holds.f6 H)) rfl rfl (by exact rfl) (by exact rfl) (by exact rfl) (by exact rfl) (fun w H => ?_))
      | (refine VcL.guard rfl rfl rfl rfl (fun h => ?_) (fun h => ?_) <;> first | (cases h; done) | (exfalso; simp only [decide_eq_true_eq, decide_eq_false_iff_not] at h; omega) | (with_reducible have hp := of_decide_eq_true h) | (with_reducible have hp := of_decide_eq_false h) | (with_reducible have hp := ndec_t h) | (with_reducible have hp := ndec_f h) | skip))
       | (show VcD _ _ _ _ _ _ _ _ _; first
      | refine VcD.pures tabOk rfl ?_
      | refine VcD.done ?_
      | (show VcD _ _ _ _ _ (.pure _ _) _ _ _; first
      | refine VcD.indexAddr0 tabOk rfl rfl rfl rfl rfl rfl rfl (by omega) (by omega) ?_
      | refine VcD.indexAddr tabOk rfl rfl rfl rfl rfl rfl rfl (by omega) (by omega) ?_
      | refine VcD.indexArr0 tabOk rfl rfl rfl rfl rfl rfl rfl (by omega) (by omega) ?_
      | refine VcD.indexArr tabOk rfl rfl rfl rfl rfl rfl rfl (by omega) (by omega) ?_
      | refine VcD.shl rfl rfl rfl (by first | assumption | rfl) rfl rfl rfl ?_
      | refine VcD.shr rfl rfl rfl (by first | assumption | rfl) rfl rfl rfl ?_
      | refine VcD.eqS tabOk rfl rfl rfl rfl rfl rfl rfl (by kernel_rfl) (by kernel_rfl) rfl rfl (by first | exact .inl rfl | exact .inr rfl) ?_
      | (refine VcD.guardP rfl rfl rfl rfl rfl (fun h => ?_) (fun h => ?_) <;> first | (cases h; done) | (exfalso; simp only [decide_eq_true_eq, decide_eq_false_iff_not] at h; omega) | (with_reducible have hp := of_decide_eq_true h) | (with_reducible have hp := of_decide_eq_false h) | (with_reducible have hp := ndec_t h) | (with_reducible have hp := ndec_f h) | skip))
      | (show VcD _ _ _ _ _ (.take _ _) _ _ _; first
      | refine VcD.load1 tabOk rfl rfl rfl rfl rfl rfl (by intro w_ hw_; first | exact Holds.cell hw_ rfl | exact Holds.cell (Holds.f1 hw_) rfl | exact Holds.cell (Holds.f2 hw_) rfl | exact Holds.cell (Holds.f3 hw_) rfl | exact Holds.cell (Holds.f4 hw_) rfl | exact Holds.cell (Holds.f5 hw_) rfl | exact Holds.cell (Holds.f6 hw_) rfl | exact RdW.get (by assumption) rfl hw_ | exact RdW.get0 (by assumption) rfl hw_ | exact RdW.get (by assumption) rfl (Holds.drop hw_) | exact RdW.get0 (by assumption) rfl (Holds.drop hw_) | exact RdW.get (by assumption) rfl (Holds.drop (Holds.drop hw_)) | exact RdW.get0 (by assumption) rfl (Holds.drop (Holds.drop hw_)) | exact RdW.get (by assumption) rfl (Holds.drop (Holds.drop (Holds.drop hw_))) | exact RdW.get0 (by assumption) rfl (Holds.drop (Holds.drop (Holds.drop hw_))) | exact Holds.rowCell hw_ (fun _ => rfl) (by first | assumption | exact atD_get (by assumption)) rfl | exact Holds.rowCell0 hw_ (fun _ => rfl) (by first | assumption | exact atD_get (by assumption)) rfl | exact Holds.ownCell hw_ (fun _ => rfl) (by first | assumption | exact atD_get (by assumption)) rfl | exact Holds.ownCell0 hw_ (fun _ => rfl) (by first | assumption | exact atD_get (by assumption)) rfl | exact Holds.rowCell (Holds.f1 hw_) (fun _ => rfl) (by first | assumption | exact atD_get (by assumption)) rfl | exact Holds.rowCell0 (Holds.f1 hw_) (fun _ => rfl) (by first | assumption | exact atD_get (by assumption)) rfl | exact Holds.ownCell (Holds.f1 hw_) (fun _ => rfl) (by first | assumption | exact atD_get (by assumption)) rfl | exact Holds.ownCell0 (Holds.f1 hw_) (fun _ => rfl) (by first | assumption | exact atD_get (by assumption)) rfl | exact Holds.rowCell (Holds.f2 hw_) (fun _ => rfl) (by first | assumption | exact atD_get (by assumption)) rfl | exact Holds.rowCell0 (Holds.f2 hw_) (fun _ => rfl) (by first | assumption | exact atD_get (by assumption)) rfl | exact Holds.ownCell (Holds.f2 hw_) (fun _ => rfl) (by first | assumption | exact atD_get (by assumption)) rfl | exact Holds.ownCell0 (Holds.f2 hw_) (fun _ => rfl) (by first | assumption | exact atD_get (by assumption)) rfl | exact Holds.rowCell (Holds.f3 hw_) (fun _ => rfl) (by first | assumption | exact atD_get (by assumption)) rfl | exact Holds.rowCell0 (Holds.f3 hw_) (fun _ => rfl) (by first | assumption | exact atD_get (by assumption)) rfl | exact Holds.ownCell (Holds.f3 hw_) (fun _ => rfl) (by first | assumption | exact atD_get (by assumption)) rfl | exact Holds.ownCell0 (Holds.f3 hw_) (fun _ => rfl) (by first | assumption | exact atD_get (by assumption)) rfl | exact Holds.rowCell (Holds.f4 hw_) (fun _ => rfl) (by first | assumption | exact atD_get (by assumption)) rfl | exact Holds.rowCell0 (Holds.f4 hw_) (fun _ => rfl) (by first | assumption | exact atD_get (by assumption)) rfl | exact Holds.ownCell (Holds.f4 hw_) (fun _ => rfl) (by first | assumption | exact atD_get (by assumption)) rfl | exact Holds.ownCell0 (Holds.f4 hw_) (fun _ => rfl) (by first | assumption | exact atD_get (by assumption)) rfl | exact hw_ _ _ rfl | exact hw_ 0 _ rfl | exact hw_.1 _ _ rfl | exact hw_.1 0 _ rfl | exact hw_.2 _ _ rfl | exact hw_.2 0 _ rfl | assumption) (by exact rfl) ?_
      | refine VcD.loadR tabOk rfl rfl rfl rfl rfl rfl rfl (by intro w_ hw_; first | exact RdW.rd (by assumption) hw_ | exact RdW.rd (by assumption) (Holds.drop hw_) | exact RdW.rd (by assumption) (Holds.drop (Holds.drop hw_)) | exact RdW.rd (by assumption) (Holds.drop (Holds.drop (Holds.drop hw_))) | exact hw_.1 | exact hw_.2 | assumption) rfl ?_
      | refine VcD.loadRowN0 tabOk rfl rfl rfl rfl rfl rfl rfl (fun _ hw_ => hw_) (fun _ => rfl) (by first | assumption | exact atD_get (by assumption)) (by exact rfl) (by exact rfl) (by exact rfl) ?_
      | refine VcD.loadRowN tabOk rfl rfl rfl rfl rfl rfl rfl (fun _ hw_ => hw_) (fun _ => rfl) (by first | assumption | exact atD_get (by assumption)) (by exact rfl) (by exact rfl) (by exact rfl) ?_
      | refine VcD.loadRowN0 tabOk rfl rfl rfl rfl rfl rfl rfl (fun _ hw_ => (Holds.f1 hw_)) (fun _ => rfl) (by first | assumption | exact atD_get (by assumption)) (by exact rfl) (by exact rfl) (by exact rfl) ?_
      | refine VcD.loadRowN tabOk rfl rfl rfl rfl rfl rfl rfl (fun _ hw_ => (Holds.f1 hw_)) (fun _ => rfl) (by first | assumption | exact atD_get (by assumption)) (by exact rfl) (by exact rfl) (by exact rfl) ?_
      | refine VcD.loadRowN0 tabOk rfl rfl rfl rfl rfl rfl rfl (fun _ hw_ => (Holds.f2 hw_)) (fun _ => rfl) (by first | assumption | exact atD_get (by assumption)) (by exact rfl) (by exact rfl) (by exact rfl) ?_
      | refine VcD.loadRowN tabOk rfl rfl rfl rfl rfl rfl rfl (fun _ hw_ => (Holds.f2 hw_)) (fun _ => rfl) (by first | assumption | exact atD_get (by assumption)) (by exact rfl) (by exact rfl) (by exact rfl) ?_
      | refine VcD.loadRowN0 tabOk rfl rfl rfl rfl rfl rfl rfl (fun _ hw_ => (Holds.f3 hw_)) (fun _ => rfl) (by first | assumption | exact atD_get (by assumption)) (by exact rfl) (by exact rfl) (by exact rfl) ?_
      | refine VcD.loadRowN tabOk rfl rfl rfl rfl rfl rfl rfl (fun _ hw_ => (Holds.f3 hw_)) (fun _ => rfl) (by first | assumption | exact atD_get (by assumption)) (by exact rfl) (by exact rfl) (by exact rfl) ?_
      | refine VcD.loadRowN0 tabOk rfl rfl rfl rfl rfl rfl rfl (fun _ hw_ => (Holds.f4 hw_)) (fun _ => rfl) (by first | assumption | exact atD_get (by assumption)) (by exact rfl) (by exact rfl) (by exact rfl) ?_
      | refine VcD.loadRowN tabOk rfl rfl rfl rfl rfl rfl rfl (fun _ hw_ => (Holds.f4 hw_)) (fun _ => rfl) (by first | assumption | exact atD_get (by assumption)) (by exact rfl) (by exact rfl) (by exact rfl) ?_
      | refine VcD.loadN tabOk rfl rfl rfl rfl rfl rfl rfl (by intro w_ hw_; first | exact hw_ | exact (Holds.f1 hw_) | exact (Holds.f2 hw_) | exact (Holds.f3 hw_) | exact (Holds.f4 hw_) | exact (Holds.f5 hw_) | exact (Holds.f6 hw_)) (by exact rfl) ?_
      | refine VcD.skipT rfl rfl rfl ?_
      | (refine VcD.guardT rfl rfl rfl rfl rfl (fun h => ?_) (fun h => ?_) <;> first | (cases h; done) | (exfalso; simp only [decide_eq_true_eq, decide_eq_false_iff_not] at h; omega) | (with_reducible have hp := of_decide_eq_true h) | (with_reducible have hp := of_decide_eq_false h) | (with_reducible have hp := ndec_t h) | (with_reducible have hp := ndec_f h) | skip))
      | (show VcD _ _ _ _ _ (.only _ _) _ _ _; first
      | refine VcD.skip rfl rfl rfl (by first | exact H | exact Holds.drop H | exact Holds.drop (Holds.drop H)) ?_
      | (refine VcD.guardO rfl rfl rfl rfl rfl (fun h => ?_) (fun h => ?_) <;> first | (cases h; done) | (exfalso; simp only [decide_eq_true_eq, decide_eq_false_iff_not] at h; omega) | (with_reducible have hp := of_decide_eq_true h) | (with_reducible have hp := of_decide_eq_false h) | (with_reducible have hp := ndec_t h) | (with_reducible have hp := ndec_f h) | skip))
      | (show VcD _ _ _ _ _ (.two _ _ _ _) _ _ _; refine VcD.two ?_ ?_))
       | (show Vc _ _ _ _ _ _; first
      | refine Vc.seq ?_
      | refine Vc.region ?_
      | refine Vc.condT rfl ?_
      | refine Vc.condF rfl ?_
      | refine Vc.ret ?_
      | refine Vc.skip ?_
      | refine Vc.block ?_
      | refine Vc.exit ?_
      | refine Vc.drawnH (id := 5) H (.pure 0 (.take 1 (.pure 2 (.pure 3 (.pure 4 (.pure 5 (.pure 6 (.pure 7 (.pure 8 (.pure 9 (.pure 13 (.pure 10 (.pure 11 (.take 12 (.take 14 (.pure 15 (.pure 16 (.pure 17 (.pure 18 (.pure 19 (.take 20 (.pure 21 (.pure 22 (.pure 23 (.pure 24 (.pure 25 (.take 26 (.pure 27 (.pure 28 (.pure 29 (.pure 30 (.pure 31 (.take 32 (.pure 33 (.pure 34 (.pure 35 (.pure 36 (.take 37 (.pure 38 (.pure 39 (.pure 40 (.pure 41 (.take 42 (.pure 43 (.pure 44 (.pure 45 .done)))))))))))))))))))))))))))))))))))))))))))))) mixed (by kernel_rfl) (fun w H => ?_)
      | refine Vc.drawnH (id := 10) H (.pure 0 (.pure 2 (.take 1 (.pure 3 (.take 4 (.pure 5 (.pure 6 (.pure 7 (.pure 8 (.pure 9 (.pure 10 (.pure 12 (.pure 13 (.pure 16 (.pure 18 (.take 11 (.pure 14 (.take 15 (.take 17 (.pure 19 (.take 20 (.pure 21 (.pure 22 (.pure 23 .done)))))))))))))))))))))))) mixed (by kernel_rfl) (fun w H => ?_)
      | refine Vc.drawnH (id := 15) H (.pure 0 (.pure 1 (.pure 5 (.pure 2 (.pure 3 (.take 4 (.take 6 (.only 7 .done)))))))) mixed (by kernel_rfl) (fun w H => ?_)
      | (refine Vc.cond rfl (fun h => ?_) (fun h => ?_) <;> first | (cases h; done) | (exfalso; simp only [decide_eq_true_eq, decide_eq_false_iff_not] at h; omega) | (with_reducible have hp := of_decide_eq_true h) | (with_reducible have hp := of_decide_eq_false h) | (with_reducible have hp := ndec_t h) | (with_reducible have hp := ndec_f h) | skip))
       | (show KSeq _ _ _ _ _ _ _; first
      | refine KSeq.normal ?_
      | refine KSeq.ret ?_
      | refine KSeq.exit ?_)
       | (show KBlock _ _ _ _ _ _; first
      | refine KBlock.normal ?_
      | refine KBlock.here ?_
      | refine KBlock.on rfl ?_
      | refine KBlock.ret ?_)
       | refine KLoop.exit ?_
       | refine KLoop.ret ?_
       | refine KCut.exit ?_
       | refine KCut.ret ?_
       | (show KEnd _ _ _ _ _ _ _; first
      | refine KEnd.fin (Or.inr rfl) ⟨_, (ResL.tmp rfl ResL.nil), ?_⟩
      | refine KEnd.fin (Or.inl rfl) ⟨_, (ResL.tmp rfl ResL.nil), ?_⟩))
    all_goals first
      | (refine ⟨?_, H.drop⟩
         rw [hno (hnu (by omega))]; rfl)
      | (refine ⟨?_, H.drop⟩
         rw [hno (hpv (by omega) (by omega))]; rfl)
      | skip
    all_goals
      refine Vc.loopS [(0, _), (3, _), (4, _)] (fun j : Nat => [(5, .int .i64 j)]) (fun j w => Holds I w (blk b 37 [.int .i64 id, .string name, .int .i64 sec, .slice A2 gs.length cap2] :: L) ∧ j ≤ gs.length ∧ (List.range j).all (gOk gs) = true) (fun j _ => gs.length - j) 0 ⟨rfl, trivial⟩ ⟨rfl, rfl, rfl, trivial⟩ ⟨H, Nat.zero_le _, rfl⟩ ?_
      rintro j w ⟨H, hj, hall2⟩
      by_cases hjl : j < gs.length
      · obtain ⟨b3, o3, rfl, hr3⟩ := hg.toR.at (L := blk b 37 [.int .i64 id, .string name, .int .i64 sec, .slice A2 gs.length cap2] :: L) (by omega)
        have hx3 := hr3.elem inC_len (atD_get hjl)
        have hy3 := hr3.elem inC_len (atD_get (l := gs) (k := j - 1) (by omega))
        have hno3 : gOk gs j = false → gsOk gs = false := fun h => range_no hjl h
        have hw3 := fun h => wrap_pred j h (by omega)
        rcases Nat.eq_zero_or_pos j with h3 | h3
        all_goals
         repeat' (first
           | rw [hw h0]
           | rw [hw3 h3]
           | (show VcL _ _ _ _ _ _ _ _; first
      | refine VcL.pures tabOk rfl ?_
      | refine VcL.nil ?_
      | (show VcL _ _ _ _ (⟨_, .load _ _, _, _, _, _⟩ :: _) _ _ _; first
      | refine VcL.load1 tabOk rfl rfl rfl rfl rfl (by first | exact Holds.cell H rfl | exact Holds.cell (Holds.f1 H) rfl | exact Holds.cell (Holds.f2 H) rfl | exact Holds.cell (Holds.f3 H) rfl | exact Holds.cell (Holds.f4 H) rfl | exact Holds.cell (Holds.f5 H) rfl | exact Holds.cell (Holds.f6 H) rfl | exact RdW.get (by assumption) rfl H | exact RdW.get0 (by assumption) rfl H | exact RdW.get (by assumption) rfl (Holds.drop H) | exact RdW.get0 (by assumption) rfl (Holds.drop H) | exact RdW.get (by assumption) rfl (Holds.drop (Holds.drop H)) | exact RdW.get0 (by assumption) rfl (Holds.drop (Holds.drop H)) | exact RdW.get (by assumption) rfl (Holds.drop (Holds.drop (Holds.drop H))) | exact RdW.get0 (by assumption) rfl (Holds.drop (Holds.drop (Holds.drop H))) | exact Holds.rowCell H (fun _ => rfl) (by first | assumption | exact atD_get (by assumption)) rfl | exact Holds.rowCell0 H (fun _ => rfl) (by first | assumption | exact atD_get (by assumption)) rfl | exact Holds.ownCell H (fun _ => rfl) (by first | assumption | exact atD_get (by assumption)) rfl | exact Holds.ownCell0 H (fun _ => rfl) (by first | assumption | exact atD_get (by assumption)) rfl | exact Holds.rowCell (Holds.f1 H) (fun _ => rfl) (by first | assumption | exact atD_get (by assumption)) rfl | exact Holds.rowCell0 (Holds.f1 H) (fun _ => rfl) (by first | assumption | exact atD_get (by assumption)) rfl | exact Holds.ownCell (Holds.f1 H) (fun _ => rfl) (by first | assumption | exact atD_get (by assumption)) rfl | exact Holds.ownCell0 (Holds.f1 H) (fun _ => rfl) (by first | assumption | exact atD_get (by assumption)) rfl | exact Holds.rowCell (Holds.f2 H) (fun _ => rfl) (by first | assumption | exact atD_get (by assumption)) rfl | exact Holds.rowCell0 (Holds.f2 H) (fun _ => rfl) (by first | assumption | exact atD_get (by assumption)) rfl | exact Holds.ownCell (Holds.f2 H) (fun _ => rfl) (by first | assumption | exact atD_get (by assumption)) rfl | exact Holds.ownCell0 (Holds.f2 H) (fun _ => rfl) (by first | assumption | exact atD_get (by assumption)) rfl | exact Holds.rowCell (Holds.f3 H) (fun _ => rfl) (by first | assumption | exact atD_get (by assumption)) rfl | exact Holds.rowCell0 (Holds.f3 H) (fun _ => rfl) (by first | assumption | exact atD_get (by assumption)) rfl | exact Holds.ownCell (Holds.f3 H) (fun _ => rfl) (by first | assumption | exact atD_get (by assumption)) rfl | exact Holds.ownCell0 (Holds.f3 H) (fun _ => rfl) (by first | assumption | exact atD_get (by assumption)) rfl | exact Holds.rowCell (Holds.f4 H) (fun _ => rfl) (by first | assumption | exact atD_get (by assumption)) rfl | exact Holds.rowCell0 (Holds.f4 H) (fun _ => rfl) (by first | assumption | exact atD_get (by assumption)) rfl | exact Holds.ownCell (Holds.f4 H) (fun _ => rfl) (by first | assumption | exact atD_get (by assumption)) rfl | exact Holds.ownCell0 (Holds.f4 H) (fun _ => rfl) (by first | assumption | exact atD_get (by assumption)) rfl | assumption) ?_
      | refine VcL.loadR tabOk rfl rfl rfl rfl rfl rfl (by first | exact RdW.rd (by assumption) H | exact RdW.rd (by assumption) (Holds.drop H) | exact RdW.rd (by assumption) (Holds.drop (Holds.drop H)) | exact RdW.rd (by assumption) (Holds.drop (Holds.drop (Holds.drop H))) | assumption) rfl ?_
      | refine VcL.loadN tabOk rfl rfl rfl rfl rfl rfl (by first | exact H | exact (Holds.f1 H) | exact (Holds.f2 H) | exact (Holds.f3 H) | exact (Holds.f4 H) | exact (Holds.f5 H) | exact (Holds.f6 H)) (by exact rfl) ?_
      | refine VcL.loadRowN0 tabOk rfl rfl rfl rfl rfl rfl H (fun _ => rfl) (by first | assumption | exact atD_get (by assumption)) (by exact rfl) (by exact rfl) (by exact rfl) ?_
      | refine VcL.loadRowN tabOk rfl rfl rfl rfl rfl rfl H (fun _ => rfl) (by first | assumption | exact atD_get (by assumption)) (by exact rfl) (by exact rfl) (by exact rfl) ?_
      | refine VcL.loadOwnN0 tabOk rfl rfl rfl rfl rfl rfl H (fun _ => rfl) (by first | assumption | exact atD_get (by assumption)) (by exact rfl) (by exact rfl) (by exact rfl) ?_
      | refine VcL.loadOwnN tabOk rfl rfl rfl rfl rfl rfl H (fun _ => rfl) (by first | assumption | exact atD_get (by assumption)) (by exact rfl) (by exact rfl) (by exact rfl) ?_
      | refine VcL.loadRowN0 tabOk rfl rfl rfl rfl rfl rfl (Holds.f1 H) (fun _ => rfl) (by first | assumption | exact atD_get (by assumption)) (by exact rfl) (by exact rfl) (by exact rfl) ?_
      | refine VcL.loadRowN tabOk rfl rfl rfl rfl rfl rfl (Holds.f1 H) (fun _ => rfl) (by first | assumption | exact atD_get (by assumption)) (by exact rfl) (by exact rfl) (by exact rfl) ?_
      | refine VcL.loadOwnN0 tabOk rfl rfl rfl rfl rfl rfl (Holds.f1 H) (fun _ => rfl) (by first | assumption | exact atD_get (by assumption)) (by exact rfl) (by exact rfl) (by exact rfl) ?_
      | refine VcL.loadOwnN tabOk rfl rfl rfl rfl rfl rfl (Holds.f1 H) (fun _ => rfl) (by first | assumption | exact atD_get (by assumption)) (by exact rfl) (by exact rfl) (by exact rfl) ?_
      | refine VcL.loadRowN0 tabOk rfl rfl rfl rfl rfl rfl (Holds.f2 H) (fun _ => rfl) (by first | assumption | exact atD_get (by assumption)) (by exact rfl) (by exact rfl) (by exact rfl) ?_
      | refine VcL.loadRowN tabOk rfl rfl rfl rfl rfl rfl (Holds.f2 H) (fun _ => rfl) (by first | assumption | exact atD_get (by assumption)) (by exact rfl) (by exact rfl) (by exact rfl) ?_
      | refine VcL.loadOwnN0 tabOk rfl rfl rfl rfl rfl rfl (Holds.f2 H) (fun _ => rfl) (by first | assumption | exact atD_get (by assumption)) (by exact rfl) (by exact rfl) (by exact rfl) ?_
      | refine VcL.loadOwnN tabOk rfl rfl rfl rfl rfl rfl (Holds.f2 H) (fun _ => rfl) (by first | assumption | exact atD_get (by assumption)) (by exact rfl) (by exact rfl) (by exact rfl) ?_
      | refine VcL.loadRowN0 tabOk rfl rfl rfl rfl rfl rfl (Holds.f3 H) (fun _ => rfl) (by first | assumption | exact atD_get (by assumption)) (by exact rfl) (by exact rfl) (by exact rfl) ?_
      | refine VcL.loadRowN tabOk rfl rfl rfl rfl rfl rfl (Holds.f3 H) (fun _ => rfl) (by first | assumption | exact atD_get (by assumption)) (by exact rfl) (by exact rfl) (by exact rfl) ?_
      | refine VcL.loadOwnN0 tabOk rfl rfl rfl rfl rfl rfl (Holds.f3 H) (fun _ => rfl) (by first | assumption | exact atD_get (by assumption)) (by exact rfl) (by exact rfl) (by exact rfl) ?_
      | refine VcL.loadOwnN tabOk rfl rfl rfl rfl rfl rfl (Holds.f3 H) (fun _ => rfl) (by first | assumption | exact atD_get (by assumption)) (by exact rfl) (by exact rfl) (by exact rfl) ?_
      | refine VcL.loadRowN0 tabOk rfl rfl rfl rfl rfl rfl (Holds.f4 H) (fun _ => rfl) (by first | assumption | exact atD_get (by assumption)) (by exact rfl) (by exact rfl) (by exact rfl) ?_
      | refine VcL.loadRowN tabOk rfl rfl rfl rfl rfl rfl (Holds.f4 H) (fun _ => rfl) (by first | assumption | exact atD_get (by assumption)) (by exact rfl) (by exact rfl) (by exact rfl) ?_
      | refine VcL.loadOwnN0 tabOk rfl rfl rfl rfl rfl rfl (Holds.f4 H) (fun _ => rfl) (by first | assumption | exact atD_get (by assumption)) (by exact rfl) (by exact rfl) (by exact rfl) ?_
      | refine VcL.loadOwnN tabOk rfl rfl rfl rfl rfl rfl (Holds.f4 H) (fun _ => rfl) (by first | assumption | exact atD_get (by assumption)) (by exact rfl) (by exact rfl) (by exact rfl) ?_)
      | (show VcL _ _ _ _ (⟨_, .binOp _ _ _ _ _, _, _, _, _⟩ :: _) _ _ _; first
      | refine VcL.shl rfl rfl (by first | assumption | rfl) rfl rfl rfl ?_
      | refine VcL.shr rfl rfl (by first | assumption | rfl) rfl rfl rfl ?_
      | refine VcL.eqS tabOk rfl rfl rfl rfl rfl rfl (by kernel_rfl) (by kernel_rfl) rfl rfl (by first | exact .inl rfl | exact .inr rfl) ?_)
      | (show VcL _ _ _ _ (⟨_, .indexAddr _ _ _, _, _, _, _⟩ :: _) _ _ _; first
      | refine VcL.indexAddr0 tabOk rfl rfl rfl rfl rfl rfl (by omega) (by omega) ?_
      | refine VcL.indexAddr tabOk rfl rfl rfl rfl rfl rfl (by omega) (by omega) ?_
      | refine VcL.indexArr0 tabOk rfl rfl rfl rfl rfl rfl (by omega) (by omega) ?_
      | refine VcL.indexArr tabOk rfl rfl rfl rfl rfl rfl (by omega) (by omega) ?_)
      | refine VcL.alloc tabOk H rfl rfl rfl rfl (fun b w H => ?_)
      | (show VcL _ _ _ _ (⟨_, .store _ _ _, _, _, _, _⟩ :: _) _ _ _; first
      | refine VcL.store tabOk rfl (by first | exact H | exact (Holds.f1 H) | exact (Holds.f2 H) | exact (Holds.f3 H) | exact (Holds.f4 H) | exact (Holds.f5 H) | exact (Holds.f6 H)) rfl rfl (by exact rfl) (by exact rfl) (by exact rfl) (by exact rfl) (fun w H => ?_))
      | (refine VcL.guard rfl rfl rfl rfl (fun h => ?_) (fun h => ?_) <;> first | (cases h; done) | (exfalso; simp only [decide_eq_true_eq, decide_eq_false_iff_not] at h; omega) | (with_reducible have hp := of_decide_eq_true h) | (with_reducible have hp := of_decide_eq_false h) | (with_reducible have hp := ndec_t h) | (with_reducible have hp := ndec_f h) | skip))
           | (show VcD _ _ _ _ _ _ _ _ _; first
      | refine VcD.pures tabOk rfl ?_
      | refine VcD.done ?_
      | (show VcD _ _ _ _ _ (.pure _ _) _ _ _; first
      | refine VcD.indexAddr0 tabOk rfl rfl rfl rfl rfl rfl rfl (by omega) (by omega) ?_
      | refine VcD.indexAddr tabOk rfl rfl rfl rfl rfl rfl rfl (by omega) (by omega) ?_
      | refine VcD.indexArr0 tabOk rfl rfl rfl rfl rfl rfl rfl (by omega) (by omega) ?_
      | refine VcD.indexArr tabOk rfl rfl rfl rfl rfl rfl rfl (by omega) (by omega) ?_
      | refine VcD.shl rfl rfl rfl (by first | assumption | rfl) rfl rfl rfl ?_
      | refine VcD.shr rfl rfl rfl (by first | assumption | rfl) rfl rfl rfl ?_
      | refine VcD.eqS tabOk rfl rfl rfl rfl rfl rfl rfl (by kernel_rfl) (by kernel_rfl) rfl rfl (by first | exact .inl rfl | exact .inr rfl) ?_
      | (refine VcD.guardP rfl rfl rfl rfl rfl (fun h => ?_) (fun h => ?_) <;> first | (cases h; done) | (exfalso; simp only [decide_eq_true_eq, decide_eq_false_iff_not] at h; omega) | (with_reducible have hp := of_decide_eq_true h) | (with_reducible have hp := of_decide_eq_false h) | (with_reducible have hp := ndec_t h) | (with_reducible have hp := ndec_f h) | skip))
      | (show VcD _ _ _ _ _ (.take _ _) _ _ _; first
      | refine VcD.load1 tabOk rfl rfl rfl rfl rfl rfl (by intro w_ hw_; first | exact Holds.cell hw_ rfl | exact Holds.cell (Holds.f1 hw_) rfl | exact Holds.cell (Holds.f2 hw_) rfl | exact Holds.cell (Holds.f3 hw_) rfl | exact Holds.cell (Holds.f4 hw_) rfl | exact Holds.cell (Holds.f5 hw_) rfl | exact Holds.cell (Holds.f6 hw_) rfl | exact RdW.get (by assumption) rfl hw_ | exact RdW.get0 (by assumption) rfl hw_ | exact RdW.get (by assumption) rfl (Holds.drop hw_) | exact RdW.get0 (by assumption) rfl (Holds.drop hw_) | exact RdW.get (by assumption) rfl (Holds.drop (Holds.drop hw_)) | exact RdW.get0 (by assumption) rfl (Holds.drop (Holds.drop hw_)) | exact RdW.get (by assumption) rfl (Holds.drop (Holds.drop (Holds.drop hw_))) | exact RdW.get0 (by assumption) rfl (Holds.drop (Holds.drop (Holds.drop hw_))) | exact Holds.rowCell hw_ (fun _ => rfl) (by first | assumption | exact atD_get (by assumption)) rfl | exact Holds.rowCell0 hw_ (fun _ => rfl) (by first | assumption | exact atD_get (by assumption)) rfl | exact Holds.ownCell hw_ (fun _ => rfl) (by first | assumption | exact atD_get (by assumption)) rfl | exact Holds.ownCell0 hw_ (fun _ => rfl) (by first | assumption | exact atD_get (by assumption)) rfl | exact Holds.rowCell (Holds.f1 hw_) (fun _ => rfl) (by first | assumption | exact atD_get (by assumption)) rfl | exact Holds.rowCell0 (Holds.f1 hw_) (fun _ => rfl) (by first | assumption | exact atD_get (by assumption)) rfl | exact Holds.ownCell (Holds.f1 hw_) (fun _ => rfl) (by first | assumption | exact atD_get (by assumption)) rfl | exact Holds.ownCell0 (Holds.f1 hw_) (fun _ => rfl) (by first | assumption | exact atD_get (by assumption)) rfl | exact Holds.rowCell (Holds.f2 hw_) (fun _ => rfl) (by first | assumption | exact atD_get (by assumption)) rfl | exact Holds.rowCell0 (Holds.f2 hw_) (fun _ => rfl) (by first | assumption | exact atD_get (by assumption)) rfl | exact Holds.ownCell (Holds.f2 hw_) (fun _ => rfl) (by first | assumption | exact atD_get (by assumption)) rfl | exact Holds.ownCell0 (Holds.f2 hw_) (fun _ => rfl) (by first | assumption | exact atD_get (by assumption)) rfl | exact Holds.rowCell (Holds.f3 hw_) (fun _ => rfl) (by first | assumption | exact atD_get (by assumption)) rfl | exact Holds.rowCell0 (Holds.f3 hw_) (fun _ => rfl) (by first | assumption | exact atD_get (by assumption)) rfl | exact Holds.ownCell (Holds.f3 hw_) (fun _ => rfl) (by first | assumption | exact atD_get (by assumption)) rfl | exact Holds.ownCell0 (Holds.f3 hw_) (fun _ => rfl) (by first | assumption | exact atD_get (by assumption)) rfl | exact Holds.rowCell (Holds.f4 hw_) (fun _ => rfl) (by first | assumption | exact atD_get (by assumption)) rfl | exact Holds.rowCell0 (Holds.f4 hw_) (fun _ => rfl) (by first | assumption | exact atD_get (by assumption)) rfl | exact Holds.ownCell (Holds.f4 hw_) (fun _ => rfl) (by first | assumption | exact atD_get (by assumption)) rfl | exact Holds.ownCell0 (Holds.f4 hw_) (fun _ => rfl) (by first | assumption | exact atD_get (by assumption)) rfl | exact hw_ _ _ rfl | exact hw_ 0 _ rfl | exact hw_.1 _ _ rfl | exact hw_.1 0 _ rfl | exact hw_.2 _ _ rfl | exact hw_.2 0 _ rfl | assumption) (by exact rfl) ?_
      | refine VcD.loadR tabOk rfl rfl rfl rfl rfl rfl rfl (by intro w_ hw_; first | exact RdW.rd (by assumption) hw_ | exact RdW.rd (by assumption) (Holds.drop hw_) | exact RdW.rd (by assumption) (Holds.drop (Holds.drop hw_)) | exact RdW.rd (by assumption) (Holds.drop (Holds.drop (Holds.drop hw_))) | exact hw_.1 | exact hw_.2 | assumption) rfl ?_
      | refine VcD.loadRowN0 tabOk rfl rfl rfl rfl rfl rfl rfl (fun _ hw_ => hw_) (fun _ => rfl) (by first | assumption | exact atD_get (by assumption)) (by exact rfl) (by exact rfl) (by exact rfl) ?_
      | refine VcD.loadRowN tabOk rfl rfl rfl rfl rfl rfl rfl (fun _ hw_ => hw_) (fun _ => rfl) (by first | assumption | exact atD_get (by assumption)) (by exact rfl) (by exact rfl) (by exact rfl) ?_
      | refine VcD.loadRowN0 tabOk rfl rfl rfl rfl rfl rfl rfl (fun _ hw_ => (Holds.f1 hw_)) (fun _ => rfl) (by first | assumption | exact atD_get (by assumption)) (by exact rfl) (by exact rfl) (by exact rfl) ?_
      | refine VcD.loadRowN tabOk rfl rfl rfl rfl rfl rfl rfl (fun _ hw_ => (Holds.f1 hw_)) (fun _ => rfl) (by first | assumption | exact atD_get (by assumption)) (by exact rfl) (by exact rfl) (by exact rfl) ?_
      | refine VcD.loadRowN0 tabOk rfl rfl rfl rfl rfl rfl rfl (fun _ hw_ => (Holds.f2 hw_)) (fun _ => rfl) (by first | assumption | exact atD_get (by assumption)) (by exact rfl) (by exact rfl) (by exact rfl) ?_
      | refine VcD.loadRowN tabOk rfl rfl rfl rfl rfl rfl rfl (fun _ hw_ => (Holds.f2 hw_)) (fun _ => rfl) (by first | assumption | exact atD_get (by assumption)) (by exact rfl) (by exact rfl) (by exact rfl) ?_
      | refine VcD.loadRowN0 tabOk rfl rfl rfl rfl rfl rfl rfl (fun _ hw_ => (Holds.f3 hw_)) (fun _ => rfl) (by first | assumption | exact atD_get (by assumption)) (by exact rfl) (by exact rfl) (by exact rfl) ?_
      | refine VcD.loadRowN tabOk rfl rfl rfl rfl rfl rfl rfl (fun _ hw_ => (Holds.f3 hw_)) (fun _ => rfl) (by first | assumption | exact atD_get (by assumption)) (by exact rfl) (by exact rfl) (by exact rfl) ?_
      | refine VcD.loadRowN0 tabOk rfl rfl rfl rfl rfl rfl rfl (fun _ hw_ => (Holds.f4 hw_)) (fun _ => rfl) (by first | assumption | exact atD_get (by assumption)) (by exact rfl) (by exact rfl) (by exact rfl) ?_
      | refine VcD.loadRowN tabOk rfl rfl rfl rfl rfl rfl rfl (fun _ hw_ => (Holds.f4 hw_)) (fun _ => rfl) (by first | assumption | exact atD_get (by assumption)) (by exact rfl) (by exact rfl) (by exact rfl) ?_
      | refine VcD.loadN tabOk rfl rfl rfl rfl rfl rfl rfl (by intro w_ hw_; first | exact hw_ | exact (Holds.f1 hw_) | exact (Holds.f2 hw_) | exact (Holds.f3 hw_) | exact (Holds.f4 hw_) | exact (Holds.f5 hw_) | exact (Holds.f6 hw_)) (by exact rfl) ?_
      | refine VcD.skipT rfl rfl rfl ?_
      | (refine VcD.guardT rfl rfl rfl rfl rfl (fun h => ?_) (fun h => ?_) <;> first | (cases h; done) | (exfalso; simp only [decide_eq_true_eq, decide_eq_false_iff_not] at h; omega) | (with_reducible have hp := of_decide_eq_true h) | (with_reducible have hp := of_decide_eq_false h) | (with_reducible have hp := ndec_t h) | (with_reducible have hp := ndec_f h) | skip))
      | (show VcD _ _ _ _ _ (.only _ _) _ _ _; first
      | refine VcD.skip rfl rfl rfl (by first | exact H | exact Holds.drop H | exact Holds.drop (Holds.drop H)) ?_
      | (refine VcD.guardO rfl rfl rfl rfl rfl (fun h => ?_) (fun h => ?_) <;> first | (cases h; done) | (exfalso; simp only [decide_eq_true_eq, decide_eq_false_iff_not] at h; omega) | (with_reducible have hp := of_decide_eq_true h) | (with_reducible have hp := of_decide_eq_false h) | (with_reducible have hp := ndec_t h) | (with_reducible have hp := ndec_f h) | skip))
      | (show VcD _ _ _ _ _ (.two _ _ _ _) _ _ _; refine VcD.two ?_ ?_))
           | (show Vc _ _ _ _ _ _; first
      | refine Vc.seq ?_
      | refine Vc.region ?_
      | refine Vc.condT rfl ?_
      | refine Vc.condF rfl ?_
      | refine Vc.ret ?_
      | refine Vc.skip ?_
      | refine Vc.block ?_
      | refine Vc.exit ?_
      | refine Vc.drawnH (id := 5) H (.pure 0 (.take 1 (.pure 2 (.pure 3 (.pure 4 (.pure 5 (.pure 6 (.pure 7 (.pure 8 (.pure 9 (.pure 13 (.pure 10 (.pure 11 (.take 12 (.take 14 (.pure 15 (.pure 16 (.pure 17 (.pure 18 (.pure 19 (.take 20 (.pure 21 (.pure 22 (.pure 23 (.pure 24 (.pure 25 (.take 26 (.pure 27 (.pure 28 (.pure 29 (.pure 30 (.pure 31 (.take 32 (.pure 33 (.pure 34 (.pure 35 (.pure 36 (.take 37 (.pure 38 (.pure 39 (.pure 40 (.pure 41 (.take 42 (.pure 43 (.pure 44 (.pure 45 .done)))))))))))))))))))))))))))))))))))))))))))))) mixed (by kernel_rfl) (fun w H => ?_)
      | refine Vc.drawnH (id := 10) H (.pure 0 (.pure 2 (.take 1 (.pure 3 (.take 4 (.pure 5 (.pure 6 (.pure 7 (.pure 8 (.pure 9 (.pure 10 (.pure 12 (.pure 13 (.pure 16 (.pure 18 (.take 11 (.pure 14 (.take 15 (.take 17 (.pure 19 (.take 20 (.pure 21 (.pure 22 (.pure 23 .done)))))))))))))))))))))))) mixed (by kernel_rfl) (fun w H => ?_)
      | refine Vc.drawnH (id := 15) H (.pure 0 (.pure 1 (.pure 5 (.pure 2 (.pure 3 (.take 4 (.take 6 (.only 7 .done)))))))) mixed (by kernel_rfl) (fun w H => ?_)
      | (refine Vc.cond rfl (fun h => ?_) (fun h => ?_) <;> first | (cases h; done) | (exfalso; simp only [decide_eq_true_eq, decide_eq_false_iff_not] at h; omega) | (with_reducible have hp := of_decide_eq_true h) | (with_reducible have hp := of_decide_eq_false h) | (with_reducible have hp := ndec_t h) | (with_reducible have hp := ndec_f h) | skip))
           | (show KSeq _ _ _ _ _ _ _; first
      | refine KSeq.normal ?_
      | refine KSeq.ret ?_
      | refine KSeq.exit ?_)
           | (show KBlock _ _ _ _ _ _; first
      | refine KBlock.normal ?_
      | refine KBlock.here ?_
      | refine KBlock.on rfl ?_
      | refine KBlock.ret ?_)
           | refine KLoop.exit ?_
           | refine KLoop.ret ?_
           | refine KCut.exit ?_
           | refine KCut.ret ?_
           | (show KEnd _ _ _ _ _ _ _; first
      | refine KEnd.fin (Or.inr rfl) ⟨_, (ResL.tmp rfl ResL.nil), ?_⟩
      | refine KEnd.fin (Or.inl rfl) ⟨_, (ResL.tmp rfl ResL.nil), ?_⟩))
        all_goals first
          | (refine ⟨?_, H.drop⟩
             rw [hno (hnu (by right; right; right; right; right; right; exact hno3 (by unfold gOk; clear hr hv hx hy hg hr3 hx3 hy3 hnu hpv hno hno3 hu H hall; simp_all <;> omega)))]; rfl)
          | (refine KLoop.again (j + 1) ⟨got_succ rfl (by omega), trivial⟩ ⟨rfl, rfl, rfl, trivial⟩ ⟨H, by omega, ?_⟩ (by omega)
             rw [range_succ_all, hall2]
             unfold gOk
             clear hr hv hx hy hg hr3 hx3 hy3 hnu hpv hno hno3 hu H hall
             simp_all <;> omega)
      · have hgo : gsOk gs = true := by unfold gsOk; rw [show gs.length = j by omega]; exact hall2
        have huo : userOk (atD l k) = true := by
          rw [hue]
          unfold userOk is31'
          simp only [Bool.and_eq_true, decide_eq_true_eq]
          exact ⟨⟨⟨⟨⟨hgo, by omega⟩, by omega⟩, by omega⟩, by omega, by omega⟩, by omega⟩
        have hpo : (decide (k = 0) || decide ((atD l (k - 1)).id < (atD l k).id)) = true := by
          rw [hue]
          simp only [Bool.or_eq_true, decide_eq_true_eq]
          omega
        repeat' (first
          | rw [hw h0]
          | rw [hw3 h3]
          | (show VcL _ _ _ _ _ _ _ _; first
      | refine VcL.pures tabOk rfl ?_
      | refine VcL.nil ?_
      | (show VcL _ _ _ _ (⟨_, .load _ _, _, _, _, _⟩ :: _) _ _ _; first
      | refine VcL.load1 tabOk rfl rfl rfl rfl rfl (by first | exact Holds.cell H rfl | exact Holds.cell (Holds.f1 H) rfl | exact Holds.cell (Holds.f2 H) rfl | exact Holds.cell (Holds.f3 H) rfl | exact Holds.cell (Holds.f4 H) rfl | exact Holds.cell (Holds.f5 H) rfl | exact Holds.cell (Holds.f6 H) rfl | exact RdW.get (by assumption) rfl H | exact RdW.get0 (by assumption) rfl H | exact RdW.get (by assumption) rfl (Holds.drop H) | exact RdW.get0 (by assumption) rfl (Holds.drop H) | exact RdW.get (by assumption) rfl (Holds.drop (Holds.drop H)) | exact RdW.get0 (by assumption) rfl (Holds.drop (Holds.drop H)) | exact RdW.get (by assumption) rfl (Holds.drop (Holds.drop (Holds.drop H))) | exact RdW.get0 (by assumption) rfl (Holds.drop (Holds.drop (Holds.drop H))) | exact Holds.rowCell H (fun _ => rfl) (by first | assumption | exact atD_get (by assumption)) rfl | exact Holds.rowCell0 H (fun _ => rfl) (by first | assumption | exact atD_get (by assumption)) rfl | exact Holds.ownCell H (fun _ => rfl) (by first | assumption | exact atD_get (by assumption)) rfl | exact Holds.ownCell0 H (fun _ => rfl) (by first | assumption | exact atD_get (by assumption)) rfl | exact Holds.rowCell (Holds.f1 H) (fun _ => rfl) (by first | assumption | exact atD_get (by assumption)) rfl | exact Holds.rowCell0 (Holds.f1 H) (fun _ => rfl) (by first | assumption | exact atD_get (by assumption)) rfl | exact Holds.ownCell (Holds.f1 H) (fun _ => rfl) (by first | assumption | exact atD_get (by assumption)) rfl | exact Holds.ownCell0 (Holds.f1 H) (fun _ => rfl) (by first | assumption | exact atD_get (by assumption)) rfl | exact Holds.rowCell (Holds.f2 H) (fun _ => rfl) (by first | assumption | exact atD_get (by assumption)) rfl | exact Holds.rowCell0 (Holds.f2 H) (fun _ => rfl) (by first | assumption | exact atD_get (by assumption)) rfl | exact Holds.ownCell (Holds.f2 H) (fun _ => rfl) (by first | assumption | exact atD_get (by assumption)) rfl | exact Holds.ownCell0 (Holds.f2 H) (fun _ => rfl) (by first | assumption | exact atD_get (by assumption)) rfl | exact Holds.rowCell (Holds.f3 H) (fun _ => rfl) (by first | assumption | exact atD_get (by assumption)) rfl | exact Holds.rowCell0 (Holds.f3 H) (fun _ => rfl) (by first | assumption | exact atD_get (by assumption)) rfl | exact Holds.ownCell (Holds.f3 H) (fun _ => rfl) (by first | assumption | exact atD_get (by assumption)) rfl | exact Holds.ownCell0 (Holds.f3 H) (fun _ => rfl) (by first | assumption | exact atD_get (by assumption)) rfl | exact Holds.rowCell (Holds.f4 H) (fun _ => rfl) (by first | assumption | exact atD_get (by assumption)) rfl | exact Holds.rowCell0 (Holds.f4 H) (fun _ => rfl) (by first | assumption | exact atD_get (by assumption)) rfl | exact Holds.ownCell (Holds.f4 H) (fun _ => rfl) (by first | assumption | exact atD_get (by assumption)) rfl | exact Holds.ownCell0 (Holds.f4 H) (fun _ => rfl) (by first | assumption | exact atD_get (by assumption)) rfl | assumption) ?_
      | refine VcL.loadR tabOk rfl rfl rfl rfl rfl rfl (by first | exact RdW.rd (by assumption) H | exact RdW.rd (by assumption) (Holds.drop H) | exact RdW.rd (by assumption) (Holds.drop (Holds.drop H)) | exact RdW.rd (by assumption) (Holds.drop (Holds.drop (Holds.drop H))) | assumption) rfl ?_
      | refine VcL.loadN tabOk rfl rfl rfl rfl rfl rfl (by first | exact H | exact (Holds.f1 H) | exact (Holds.f2 H) | exact (Holds.f3 H) | exact (Holds.f4 H) | exact (Holds.f5 H) | exact (Holds.f6 H)) (by exact rfl) ?_
      | refine VcL.loadRowN0 tabOk rfl rfl rfl rfl rfl rfl H (fun _ => rfl) (by first | assumption | exact atD_get (by assumption)) (by exact rfl) (by exact rfl) (by exact rfl) ?_
      | refine VcL.loadRowN tabOk rfl rfl rfl rfl rfl rfl H (fun _ => rfl) (by first | assumption | exact atD_get (by assumption)) (by exact rfl) (by exact rfl) (by exact rfl) ?_
      | refine VcL.loadOwnN0 tabOk rfl rfl rfl rfl rfl rfl H (fun _ => rfl) (by first | assumption | exact atD_get (by assumption)) (by exact rfl) (by exact rfl) (by exact rfl) ?_
      | refine VcL.loadOwnN tabOk rfl rfl rfl rfl rfl rfl H (fun _ => rfl) (by first | assumption | exact atD_get (by assumption)) (by exact rfl) (by exact rfl) (by exact rfl) ?_
      | refine VcL.loadRowN0 tabOk rfl rfl rfl rfl rfl rfl (Holds.f1 H) (fun _ => rfl) (by first | assumption | exact atD_get (by assumption)) (by exact rfl) (by exact rfl) (by exact rfl) ?_
      | refine VcL.loadRowN tabOk rfl rfl rfl rfl rfl rfl (Holds.f1 H) (fun _ => rfl) (by first | assumption | exact atD_get (by assumption)) (by exact rfl) (by exact rfl) (by exact rfl) ?_
      | refine VcL.loadOwnN0 tabOk rfl rfl rfl rfl rfl rfl (Holds.f1 H) (fun _ => rfl) (by first | assumption | exact atD_get (by assumption)) (by exact rfl) (by exact rfl) (by exact rfl) ?_
      | refine VcL.loadOwnN tabOk rfl rfl rfl rfl rfl rfl (Holds.f1 H) (fun _ => rfl) (by first | assumption | exact atD_get (by assumption)) (by exact rfl) (by exact rfl) (by exact rfl) ?_
      | refine VcL.loadRowN0 tabOk rfl rfl rfl rfl rfl rfl (Holds.f2 H) (fun _ => rfl) (by first | assumption | exact atD_get (by assumption)) (by exact rfl) (by exact rfl) (by exact rfl) ?_
      | refine VcL.loadRowN tabOk rfl rfl rfl rfl rfl rfl (Holds.f2 H) (fun _ => rfl) (by first | assumption | exact atD_get (by assumption)) (by exact rfl) (by exact rfl) (by exact rfl) ?_
      | refine VcL.loadOwnN0 tabOk rfl rfl rfl rfl rfl rfl (Holds.f2 H) (fun _ => rfl) (by first | assumption | exact atD_get (by assumption)) (by exact rfl) (by exact rfl) (by exact rfl) ?_
      | refine VcL.loadOwnN tabOk rfl rfl rfl rfl rfl rfl (Holds.f2 H) (fun _ => rfl) (by first | assumption | exact atD_get (by assumption)) (by exact rfl) (by exact rfl) (by exact rfl) ?_
      | refine VcL.loadRowN0 tabOk rfl rfl rfl rfl rfl rfl (Holds.f3 H) (fun _ => rfl) (by first | assumption | exact atD_get (by assumption)) (by exact rfl) (by exact rfl) (by exact rfl) ?_
      | refine VcL.loadRowN tabOk rfl rfl rfl rfl rfl rfl (Holds.f3 H) (fun _ => rfl) (by first | assumption | exact atD_get (by assumption)) (by exact rfl) (by exact rfl) (by exact rfl) ?_
      | refine VcL.loadOwnN0 tabOk rfl rfl rfl rfl rfl rfl (Holds.f3 H) (fun _ => rfl) (by first | assumption | exact atD_get (by assumption)) (by exact rfl) (by exact rfl) (by exact rfl) ?_
      | refine VcL.loadOwnN tabOk rfl rfl rfl rfl rfl rfl (Holds.f3 H) (fun _ => rfl) (by first | assumption | exact atD_get (by assumption)) (by exact rfl) (by exact rfl) (by exact rfl) ?_
      | refine VcL.loadRowN0 tabOk rfl rfl rfl rfl rfl rfl (Holds.f4 H) (fun _ => rfl) (by first | assumption | exact atD_get (by assumption)) (by exact rfl) (by exact rfl) (by exact rfl) ?_
      | refine VcL.loadRowN tabOk rfl rfl rfl rfl rfl rfl (Holds.f4 H) (fun _ => rfl) (by first | assumption | exact atD_get (by assumption)) (by exact rfl) (by exact rfl) (by exact rfl) ?_
      | refine VcL.loadOwnN0 tabOk rfl rfl rfl rfl rfl rfl (Holds.f4 H) (fun _ => rfl) (by first | assumption | exact atD_get (by assumption)) (by exact rfl) (by exact rfl) (by exact rfl) ?_
      | refine VcL.loadOwnN tabOk rfl rfl rfl rfl rfl rfl (Holds.f4 H) (fun _ => rfl) (by first | assumption | exact atD_get (by assumption)) (by exact rfl) (by exact rfl) (by exact rfl) ?_)
      | (show VcL _ _ _ _ (⟨_, .binOp _ _ _ _ _, _, _, _, _⟩ :: _) _ _ _; first
      | refine VcL.shl rfl rfl (by first | assumption | rfl) rfl rfl rfl ?_
      | refine VcL.shr rfl rfl (by first | assumption | rfl) rfl rfl rfl ?_
      | refine VcL.eqS tabOk rfl rfl rfl rfl rfl rfl (by kernel_rfl) (by kernel_rfl) rfl rfl (by first | exact .inl rfl | exact .inr rfl) ?_)
      | (show VcL _ _ _ _ (⟨_, .indexAddr _ _ _, _, _, _, _⟩ :: _) _ _ _; first
      | refine VcL.indexAddr0 tabOk rfl rfl rfl rfl rfl rfl (by omega) (by omega) ?_
      | refine VcL.indexAddr tabOk rfl rfl rfl rfl rfl rfl (by omega) (by omega) ?_
      | refine VcL.indexArr0 tabOk rfl rfl rfl rfl rfl rfl (by omega) (by omega) ?_
      | refine VcL.indexArr tabOk rfl rfl rfl rfl rfl rfl (by omega) (by omega) ?_)
      | refine VcL.alloc tabOk H rfl rfl rfl rfl (fun b w H => ?_)
      | (show VcL _ _ _ _ (⟨_, .store _ _ _, _, _, _, _⟩ :: _) _ _ _; first
      | refine VcL.store tabOk rfl (by first | exact H | exact (Holds.f1 H) | exact (Holds.f2 H) | exact (Holds.f3 H) | exact (Holds.f4 H) | exact (Holds.f5 H) | exact (Holds.f6 H)) rfl rfl (by exact rfl) (by exact rfl) (by exact rfl) (by exact rfl) (fun w H => ?_))
      | (refine VcL.guard rfl rfl rfl rfl (fun h => ?_) (fun h => ?_) <;> first | (cases h; done) | (exfalso; simp only [decide_eq_true_eq, decide_eq_false_iff_not] at h; omega) | (with_reducible have hp := of_decide_eq_true h) | (with_reducible have hp := of_decide_eq_false h) | (with_reducible have hp := ndec_t h) | (with_reducible have hp := ndec_f h) | skip))
          | (show VcD _ _ _ _ _ _ _ _ _; first
      | refine VcD.pures tabOk rfl ?_
      | refine VcD.done ?_
      | (show VcD _ _ _ _ _ (.pure _ _) _ _ _; first
      | refine VcD.indexAddr0 tabOk rfl rfl rfl rfl rfl rfl rfl (by omega) (by omega) ?_
      | refine VcD.indexAddr tabOk rfl rfl rfl rfl rfl rfl rfl (by omega) (by omega) ?_
      | refine VcD.indexArr0 tabOk rfl rfl rfl rfl rfl rfl rfl (by omega) (by omega) ?_
      | refine VcD.indexArr tabOk rfl rfl rfl rfl rfl rfl rfl (by omega) (by omega) ?_
      | refine VcD.shl rfl rfl rfl (by first | assumption | rfl) rfl rfl rfl ?_
      | refine VcD.shr rfl rfl rfl (by first | assumption | rfl) rfl rfl rfl ?_
      | refine VcD.eqS tabOk rfl rfl rfl rfl rfl rfl rfl (by kernel_rfl) (by kernel_rfl) rfl rfl (by first | exact .inl rfl | exact .inr rfl) ?_
      | (refine VcD.guardP rfl rfl rfl rfl rfl (fun h => ?_) (fun h => ?_) <;> first | (cases h; done) | (exfalso; simp only [decide_eq_true_eq, decide_eq_false_iff_not] at h; omega) | (with_reducible have hp := of_decide_eq_true h) | (with_reducible have hp := of_decide_eq_false h) | (with_reducible have hp := ndec_t h) | (with_reducible have hp := ndec_f h) | skip))
      | (show VcD _ _ _ _ _ (.take _ _) _ _ _; first
      | refine VcD.load1 tabOk rfl rfl rfl rfl rfl rfl (by intro w_ hw_; first | exact Holds.cell hw_ rfl | exact Holds.cell (Holds.f1 hw_) rfl | exact Holds.cell (Holds.f2 hw_) rfl | exact Holds.cell (Holds.f3 hw_) rfl | exact Holds.cell (Holds.f4 hw_) rfl | exact Holds.cell (Holds.f5 hw_) rfl | exact Holds.cell (Holds.f6 hw_) rfl | exact RdW.get (by assumption) rfl hw_ | exact RdW.get0 (by assumption) rfl hw_ | exact RdW.get (by assumption) rfl (Holds.drop hw_) | exact RdW.get0 (by assumption) rfl (Holds.drop hw_) | exact RdW.get (by assumption) rfl (Holds.drop (Holds.drop hw_)) | exact RdW.get0 (by assumption) rfl (Holds.drop (Holds.drop hw_)) | exact RdW.get (by assumption) rfl (Holds.drop (Holds.drop (Holds.drop hw_))) | exact RdW.get0 (by assumption) rfl (Holds.drop (Holds.drop (Holds.drop hw_))) | exact Holds.rowCell hw_ (fun _ => rfl) (by first | assumption | exact atD_get (by assumption)) rfl | exact Holds.rowCell0 hw_ (fun _ => rfl) (by first | assumption | exact atD_get (by assumption)) rfl | exact Holds.ownCell hw_ (fun _ => rfl) (by first | assumption | exact atD_get (by assumption)) rfl | exact Holds.ownCell0 hw_ (fun _ => rfl) (by first | assumption | exact atD_get (by assumption)) rfl | exact Holds.rowCell (Holds.f1 hw_) (fun _ => rfl) (by first | assumption | exact atD_get (by assumption)) rfl | exact Holds.rowCell0 (Holds.f1 hw_) (fun _ => rfl) (by first | assumption | exact atD_get (by assumption)) rfl | exact Holds.ownCell (Holds.f1 hw_) (fun _ => rfl) (by first | assumption | exact atD_get (by assumption)) rfl | exact Holds.ownCell0 (Holds.f1 hw_) (fun _ => rfl) (by first | assumption | exact atD_get (by assumption)) rfl | exact Holds.rowCell (Holds.f2 hw_) (fun _ => rfl) (by first | assumption | exact atD_get (by assumption)) rfl | exact Holds.rowCell0 (Holds.f2 hw_) (fun _ => rfl) (by first | assumption | exact atD_get (by assumption)) rfl | exact Holds.ownCell (Holds.f2 hw_) (fun _ => rfl) (by first | assumption | exact atD_get (by assumption)) rfl | exact Holds.ownCell0 (Holds.f2 hw_) (fun _ => rfl) (by first | assumption | exact atD_get (by assumption)) rfl | exact Holds.rowCell (Holds.f3 hw_) (fun _ => rfl) (by first | assumption | exact atD_get (by assumption)) rfl | exact Holds.rowCell0 (Holds.f3 hw_) (fun _ => rfl) (by first | assumption | exact atD_get (by assumption)) rfl | exact Holds.ownCell (Holds.f3 hw_) (fun _ => rfl) (by first | assumption | exact atD_get (by assumption)) rfl | exact Holds.ownCell0 (Holds.f3 hw_) (fun _ => rfl) (by first | assumption | exact atD_get (by assumption)) rfl | exact Holds.rowCell (Holds.f4 hw_) (fun _ => rfl) (by first | assumption | exact atD_get (by assumption)) rfl | exact Holds.rowCell0 (Holds.f4 hw_) (fun _ => rfl) (by first | assumption | exact atD_get (by assumption)) rfl | exact Holds.ownCell (Holds.f4 hw_) (fun _ => rfl) (by first | assumption | exact atD_get (by assumption)) rfl | exact Holds.ownCell0 (Holds.f4 hw_) (fun _ => rfl) (by first | assumption | exact atD_get (by assumption)) rfl | exact hw_ _ _ rfl | exact hw_ 0 _ rfl | exact hw_.1 _ _ rfl | exact hw_.1 0 _ rfl | exact hw_.2 _ _ rfl | exact hw_.2 0 _ rfl | assumption) (by exact rfl) ?_
      | refine VcD.loadR tabOk rfl rfl rfl rfl rfl rfl rfl (by intro w_ hw_; first | exact RdW.rd (by assumption) hw_ | exact RdW.rd (by assumption) (Holds.drop hw_) | exact RdW.rd (by assumption) (Holds.drop (Holds.drop hw_)) | exact RdW.rd (by assumption) (Holds.drop (Holds.drop (Holds.drop hw_))) | exact hw_.1 | exact hw_.2 | assumption) rfl ?_
      | refine VcD.loadRowN0 tabOk rfl rfl rfl rfl rfl rfl rfl (fun _ hw_ => hw_) (fun _ => rfl) (by first | assumption | exact atD_get (by assumption)) (by exact rfl) (by exact rfl) (by exact rfl) ?_
      | refine VcD.loadRowN tabOk rfl rfl rfl rfl rfl rfl rfl (fun _ hw_ => hw_) (fun _ => rfl) (by first | assumption | exact atD_get (by assumption)) (by exact rfl) (by exact rfl) (by exact rfl) ?_
      | refine VcD.loadRowN0 tabOk rfl rfl rfl rfl rfl rfl rfl (fun _ hw_ => (Holds.f1 hw_)) (fun _ => rfl) (by first | assumption | exact atD_get (by assumption)) (by exact rfl) (by exact rfl) (by exact rfl) ?_
      | refine VcD.loadRowN tabOk rfl rfl rfl rfl rfl rfl rfl (fun _ hw_ => (Holds.f1 hw_)) (fun _ => rfl) (by first | assumption | exact atD_get (by assumption)) (by exact rfl) (by exact rfl) (by exact rfl) ?_
      | refine VcD.loadRowN0 tabOk rfl rfl rfl rfl rfl rfl rfl (fun _ hw_ => (Holds.f2 hw_)) (fun _ => rfl) (by first | assumption | exact atD_get (by assumption)) (by exact rfl) (by exact rfl) (by exact rfl) ?_
      | refine VcD.loadRowN tabOk rfl rfl rfl rfl rfl rfl rfl (fun _ hw_ => (Holds.f2 hw_)) (fun _ => rfl) (by first | assumption | exact atD_get (by assumption)) (by exact rfl) (by exact rfl) (by exact rfl) ?_
      | refine VcD.loadRowN0 tabOk rfl rfl rfl rfl rfl rfl rfl (fun _ hw_ => (Holds.f3 hw_)) (fun _ => rfl) (by first | assumption | exact atD_get (by assumption)) (by exact rfl) (by exact rfl) (by exact rfl) ?_
      | refine VcD.loadRowN tabOk rfl rfl rfl rfl rfl rfl rfl (fun _ hw_ => (Holds.f3 hw_)) (fun _ => rfl) (by first | assumption | exact atD_get (by assumption)) (by exact rfl) (by exact rfl) (by exact rfl) ?_
      | refine VcD.loadRowN0 tabOk rfl rfl rfl rfl rfl rfl rfl (fun _ hw_ => (Holds.f4 hw_)) (fun _ => rfl) (by first | assumption | exact atD_get (by assumption)) (by exact rfl) (by exact rfl) (by exact rfl) ?_
      | refine VcD.loadRowN tabOk rfl rfl rfl rfl rfl rfl rfl (fun _ hw_ => (Holds.f4 hw_)) (fun _ => rfl) (by first | assumption | exact atD_get (by assumption)) (by exact rfl) (by exact rfl) (by exact rfl) ?_
      | refine VcD.loadN tabOk rfl rfl rfl rfl rfl rfl rfl (by intro w_ hw_; first | exact hw_ | exact (Holds.f1 hw_) | exact (Holds.f2 hw_) | exact (Holds.f3 hw_) | exact (Holds.f4 hw_) | exact (Holds.f5 hw_) | exact (Holds.f6 hw_)) (by exact rfl) ?_
      | refine VcD.skipT rfl rfl rfl ?_
      | (refine VcD.guardT rfl rfl rfl rfl rfl (fun h => ?_) (fun h => ?_) <;> first | (cases h; done) | (exfalso; simp only [decide_eq_true_eq, decide_eq_false_iff_not] at h; omega) | (with_reducible have hp := of_decide_eq_true h) | (with_reducible have hp := of_decide_eq_false h) | (with_reducible have hp := ndec_t h) | (with_reducible have hp := ndec_f h) | skip))
      | (show VcD _ _ _ _ _ (.only _ _) _ _ _; first
      | refine VcD.skip rfl rfl rfl (by first | exact H | exact Holds.drop H | exact Holds.drop (Holds.drop H)) ?_
      | (refine VcD.guardO rfl rfl rfl rfl rfl (fun h => ?_) (fun h => ?_) <;> first | (cases h; done) | (exfalso; simp only [decide_eq_true_eq, decide_eq_false_iff_not] at h; omega) | (with_reducible have hp := of_decide_eq_true h) | (with_reducible have hp := of_decide_eq_false h) | (with_reducible have hp := ndec_t h) | (with_reducible have hp := ndec_f h) | skip))
      | (show VcD _ _ _ _ _ (.two _ _ _ _) _ _ _; refine VcD.two ?_ ?_))
          | (show Vc _ _ _ _ _ _; first
      | refine Vc.seq ?_
      | refine Vc.region ?_
      | refine Vc.condT rfl ?_
      | refine Vc.condF rfl ?_
      | refine Vc.ret ?_
      | refine Vc.skip ?_
      | refine Vc.block ?_
      | refine Vc.exit ?_
      | refine Vc.drawnH (id := 5) H (.pure 0 (.take 1 (.pure 2 (.pure 3 (.pure 4 (.pure 5 (.pure 6 (.pure 7 (.pure 8 (.pure 9 (.pure 13 (.pure 10 (.pure 11 (.take 12 (.take 14 (.pure 15 (.pure 16 (.pure 17 (.pure 18 (.pure 19 (.take 20 (.pure 21 (.pure 22 (.pure 23 (.pure 24 (.pure 25 (.take 26 (.pure 27 (.pure 28 (.pure 29 (.pure 30 (.pure 31 (.take 32 (.pure 33 (.pure 34 (.pure 35 (.pure 36 (.take 37 (.pure 38 (.pure 39 (.pure 40 (.pure 41 (.take 42 (.pure 43 (.pure 44 (.pure 45 .done)))))))))))))))))))))))))))))))))))))))))))))) mixed (by kernel_rfl) (fun w H => ?_)
      | refine Vc.drawnH (id := 10) H (.pure 0 (.pure 2 (.take 1 (.pure 3 (.take 4 (.pure 5 (.pure 6 (.pure 7 (.pure 8 (.pure 9 (.pure 10 (.pure 12 (.pure 13 (.pure 16 (.pure 18 (.take 11 (.pure 14 (.take 15 (.take 17 (.pure 19 (.take 20 (.pure 21 (.pure 22 (.pure 23 .done)))))))))))))))))))))))) mixed (by kernel_rfl) (fun w H => ?_)
      | refine Vc.drawnH (id := 15) H (.pure 0 (.pure 1 (.pure 5 (.pure 2 (.pure 3 (.take 4 (.take 6 (.only 7 .done)))))))) mixed (by kernel_rfl) (fun w H => ?_)
      | (refine Vc.cond rfl (fun h => ?_) (fun h => ?_) <;> first | (cases h; done) | (exfalso; simp only [decide_eq_true_eq, decide_eq_false_iff_not] at h; omega) | (with_reducible have hp := of_decide_eq_true h) | (with_reducible have hp := of_decide_eq_false h) | (with_reducible have hp := ndec_t h) | (with_reducible have hp := ndec_f h) | skip))
          | (show KSeq _ _ _ _ _ _ _; first
      | refine KSeq.normal ?_
      | refine KSeq.ret ?_
      | refine KSeq.exit ?_)
          | (show KBlock _ _ _ _ _ _; first
      | refine KBlock.normal ?_
      | refine KBlock.here ?_
      | refine KBlock.on rfl ?_
      | refine KBlock.ret ?_)
          | refine KLoop.exit ?_
          | refine KLoop.ret ?_
          | refine KCut.exit ?_
          | refine KCut.ret ?_
          | (show KEnd _ _ _ _ _ _ _; first
      | refine KEnd.fin (Or.inr rfl) ⟨_, (ResL.tmp rfl ResL.nil), ?_⟩
      | refine KEnd.fin (Or.inl rfl) ⟨_, (ResL.tmp rfl ResL.nil), ?_⟩))
        refine Vc.loopS [(0, _), (3, _), (4, _)] (fun q : Nat => [(6, .int .i64 q)]) (fun q w => Holds I w (blk b 37 [.int .i64 id, .string name, .int .i64 sec, .slice A2 gs.length cap2] :: L) ∧ q ≤ k ∧ (l.take q).any (fun v => eqT name v.name) = false) (fun q _ => k - q) 0 ⟨rfl, trivial⟩ ⟨rfl, rfl, rfl, trivial⟩ ⟨H, Nat.zero_le _, rfl⟩ ?_
        rintro q w ⟨H, hq, hall4⟩
        by_cases hql : q < k
        · have hx4 := hr.elem usC_len (atD_get (l := l) (k := q) (by omega))
          have hat := any_take (p := fun v => eqT name v.name) (l := l) (k := q) (by omega)
          have hnq := (hu _ (atD_mem (l := l) (k := q) (by omega))).name
          repeat' (first
            | rw [hw h0]
            | rw [hw3 h3]
            | (show VcL _ _ _ _ _ _ _ _; first
      | refine VcL.pures tabOk rfl ?_
      | refine VcL.nil ?_
      | (show VcL _ _ _ _ (⟨_, .load _ _, _, _, _, _⟩ :: _) _ _ _; first
      | refine VcL.load1 tabOk rfl rfl rfl rfl rfl (by first | exact Holds.cell H rfl | exact Holds.cell (Holds.f1 H) rfl | exact Holds.cell (Holds.f2 H) rfl | exact Holds.cell (Holds.f3 H) rfl | exact Holds.cell (Holds.f4 H) rfl | exact Holds.cell (Holds.f5 H) rfl | exact Holds.cell (Holds.f6 H) rfl | exact RdW.get (by assumption) rfl H | exact RdW.get0 (by assumption) rfl H | exact RdW.get (by assumption) rfl (Holds.drop H) | exact RdW.get0 (by assumption) rfl (Holds.drop H) | exact RdW.get (by assumption) rfl (Holds.drop (Holds.drop H)) | exact RdW.get0 (by assumption) rfl (Holds.drop (Holds.drop H)) | exact RdW.get (by assumption) rfl (Holds.drop (Holds.drop (Holds.drop H))) | exact RdW.get0 (by assumption) rfl (Holds.drop (Holds.drop (Holds.drop H))) | exact Holds.rowCell H (fun _ => rfl) (by first | assumption | exact atD_get (by assumption)) rfl | exact Holds.rowCell0 H (fun _ => rfl) (by first | assumption | exact atD_get (by assumption)) rfl | exact Holds.ownCell H (fun _ => rfl) (by first | assumption | exact atD_get (by assumption)) rfl | exact Holds.ownCell0 H (fun _ => rfl) (by first | assumption | exact atD_get (by assumption)) rfl | exact Holds.rowCell (Holds.f1 H) (fun _ => rfl) (by first | assumption | exact atD_get (by assumption)) rfl | exact Holds.rowCell0 (Holds.f1 H) (fun _ => rfl) (by first | assumption | exact atD_get (by assumption)) rfl | exact Holds.ownCell (Holds.f1 H) (fun _ => rfl) (by first | assumption | exact atD_get (by assumption)) rfl | exact Holds.ownCell0 (Holds.f1 H) (fun _ => rfl) (by first | assumption | exact atD_get (by assumption)) rfl | exact Holds.rowCell (Holds.f2 H) (fun _ => rfl) (by first | assumption | exact atD_get (by assumption)) rfl | exact Holds.rowCell0 (Holds.f2 H) (fun _ => rfl) (by first | assumption | exact atD_get (by assumption)) rfl | exact Holds.ownCell (Holds.f2 H) (fun _ => rfl) (by first | assumption | exact atD_get (by assumption)) rfl | exact Holds.ownCell0 (Holds.f2 H) (fun _ => rfl) (by first | assumption | exact atD_get (by assumption)) rfl | exact Holds.rowCell (Holds.f3 H) (fun _ => rfl) (by first | assumption | exact atD_get (by assumption)) rfl | exact Holds.rowCell0 (Holds.f3 H) (fun _ => rfl) (by first | assumption | exact atD_get (by assumption)) rfl | exact Holds.ownCell (Holds.f3 H) (fun _ => rfl) (by first | assumption | exact atD_get (by assumption)) rfl | exact Holds.ownCell0 (Holds.f3 H) (fun _ => rfl) (by first | assumption | exact atD_get (by assumption)) rfl | exact Holds.rowCell (Holds.f4 H) (fun _ => rfl) (by first | assumption | exact atD_get (by assumption)) rfl | exact Holds.rowCell0 (Holds.f4 H) (fun _ => rfl) (by first | assumption | exact atD_get (by assumption)) rfl | exact Holds.ownCell (Holds.f4 H) (fun _ => rfl) (by first | assumption | exact atD_get (by assumption)) rfl | exact Holds.ownCell0 (Holds.f4 H) (fun _ => rfl) (by first | assumption | exact atD_get (by assumption)) rfl | assumption) ?_
      | refine VcL.loadR tabOk rfl rfl rfl rfl rfl rfl (by first | exact RdW.rd (by assumption) H | exact RdW.rd (by assumption) (Holds.drop H) | exact RdW.rd (by assumption) (Holds.drop (Holds.drop H)) | exact RdW.rd (by assumption) (Holds.drop (Holds.drop (Holds.drop H))) | assumption) rfl ?_
      | refine VcL.loadN tabOk rfl rfl rfl rfl rfl rfl (by first | exact H | exact (Holds.f1 H) | exact (Holds.f2 H) | exact (Holds.f3 H) | exact (Holds.f4 H) | exact (Holds.f5 H) | exact (Holds.f6 H)) (by exact rfl) ?_
      | refine VcL.loadRowN0 tabOk rfl rfl rfl rfl rfl rfl H (fun _ => rfl) (by first | assumption | exact atD_get (by assumption)) (by exact rfl) (by exact rfl) (by exact rfl) ?_
      | refine VcL.loadRowN tabOk rfl rfl rfl rfl rfl rfl H (fun _ => rfl) (by first | assumption | exact atD_get (by assumption)) (by exact rfl) (by exact rfl) (by exact rfl) ?_
      | refine VcL.loadOwnN0 tabOk rfl rfl rfl rfl rfl rfl H (fun _ => rfl) (by first | assumption | exact atD_get (by assumption)) (by exact rfl) (by exact rfl) (by exact rfl) ?_
      | refine VcL.loadOwnN tabOk rfl rfl rfl rfl rfl rfl H (fun _ => rfl) (by first | assumption | exact atD_get (by assumption)) (by exact rfl) (by exact rfl) (by exact rfl) ?_
      | refine VcL.loadRowN0 tabOk rfl rfl rfl rfl rfl rfl (Holds.f1 H) (fun _ => rfl) (by first | assumption | exact atD_get (by assumption)) (by exact rfl) (by exact rfl) (by exact rfl) ?_
      | refine VcL.loadRowN tabOk rfl rfl rfl rfl rfl rfl (Holds.f1 H) (fun _ => rfl) (by first | assumption | exact atD_get (by assumption)) (by exact rfl) (by exact rfl) (by exact rfl) ?_
      | refine VcL.loadOwnN0 tabOk rfl rfl rfl rfl rfl rfl (Holds.f1 H) (fun _ => rfl) (by first | assumption | exact atD_get (by assumption)) (by exact rfl) (by exact rfl) (by exact rfl) ?_
      | refine VcL.loadOwnN tabOk rfl rfl rfl rfl rfl rfl (Holds.f1 H) (fun _ => rfl) (by first | assumption | exact atD_get (by assumption)) (by exact rfl) (by exact rfl) (by exact rfl) ?_
      | refine VcL.loadRowN0 tabOk rfl rfl rfl rfl rfl rfl (Holds.f2 H) (fun _ => rfl) (by first | assumption | exact atD_get (by assumption)) (by exact rfl) (by exact rfl) (by exact rfl) ?_
      | refine VcL.loadRowN tabOk rfl rfl rfl rfl rfl rfl (Holds.f2 H) (fun _ => rfl) (by first | assumption | exact atD_get (by assumption)) (by exact rfl) (by exact rfl) (by exact rfl) ?_
      | refine VcL.loadOwnN0 tabOk rfl rfl rfl rfl rfl rfl (Holds.f2 H) (fun _ => rfl) (by first | assumption | exact atD_get (by assumption)) (by exact rfl) (by exact rfl) (by exact rfl) ?_
      | refine VcL.loadOwnN tabOk rfl rfl rfl rfl rfl rfl (Holds.f2 H) (fun _ => rfl) (by first | assumption | exact atD_get (by assumption)) (by exact rfl) (by exact rfl) (by exact rfl) ?_
      | refine VcL.loadRowN0 tabOk rfl rfl rfl rfl rfl rfl (Holds.f3 H) (fun _ => rfl) (by first | assumption | exact atD_get (by assumption)) (by exact rfl) (by exact rfl) (by exact rfl) ?_
      | refine VcL.loadRowN tabOk rfl rfl rfl rfl rfl rfl (Holds.f3 H) (fun _ => rfl) (by first | assumption | exact atD_get (by assumption)) (by exact rfl) (by exact rfl) (by exact rfl) ?_
      | refine VcL.loadOwnN0 tabOk rfl rfl rfl rfl rfl rfl (Holds.f3 H) (fun _ => rfl) (by first | assumption | exact atD_get (by assumption)) (by exact rfl) (by exact rfl) (by exact rfl) ?_
      | refine VcL.loadOwnN tabOk rfl rfl rfl rfl rfl rfl (Holds.f3 H) (fun _ => rfl) (by first | assumption | exact atD_get (by assumption)) (by exact rfl) (by exact rfl) (by exact rfl) ?_
      | refine VcL.loadRowN0 tabOk rfl rfl rfl rfl rfl rfl (Holds.f4 H) (fun _ => rfl) (by first | assumption | exact atD_get (by assumption)) (by exact rfl) (by exact rfl) (by exact rfl) ?_
      | refine VcL.loadRowN tabOk rfl rfl rfl rfl rfl rfl (Holds.f4 H) (fun _ => rfl) (by first | assumption | exact atD_get (by assumption)) (by exact rfl) (by exact rfl) (by exact rfl) ?_
      | refine VcL.loadOwnN0 tabOk rfl rfl rfl rfl rfl rfl (Holds.f4 H) (fun _ => rfl) (by first | assumption | exact atD_get (by assumption)) (by exact rfl) (by exact rfl) (by exact rfl) ?_
      | refine VcL.loadOwnN tabOk rfl rfl rfl rfl rfl rfl (Holds.f4 H) (fun _ => rfl) (by first | assumption | exact atD_get (by assumption)) (by exact rfl) (by exact rfl) (by exact rfl) ?_)
      | (show VcL _ _ _ _ (⟨_, .binOp _ _ _ _ _, _, _, _, _⟩ :: _) _ _ _; first
      | refine VcL.shl rfl rfl (by first | assumption | rfl) rfl rfl rfl ?_
      | refine VcL.shr rfl rfl (by first | assumption | rfl) rfl rfl rfl ?_
      | refine VcL.eqS tabOk rfl rfl rfl rfl rfl rfl (by kernel_rfl) (by kernel_rfl) rfl rfl (by first | exact .inl rfl | exact .inr rfl) ?_)
      | (show VcL _ _ _ _ (⟨_, .indexAddr _ _ _, _, _, _, _⟩ :: _) _ _ _; first
      | refine VcL.indexAddr0 tabOk rfl rfl rfl rfl rfl rfl (by omega) (by omega) ?_
      | refine VcL.indexAddr tabOk rfl rfl rfl rfl rfl rfl (by omega) (by omega) ?_
      | refine VcL.indexArr0 tabOk rfl rfl rfl rfl rfl rfl (by omega) (by omega) ?_
      | refine VcL.indexArr tabOk rfl rfl rfl rfl rfl rfl (by omega) (by omega) ?_)
      | refine VcL.alloc tabOk H rfl rfl rfl rfl (fun b w H => ?_)
      | (show VcL _ _ _ _ (⟨_, .store _ _ _, _, _, _, _⟩ :: _) _ _ _; first
      | refine VcL.store tabOk rfl (by first | exact H | exact (Holds.f1 H) | exact (Holds.f2 H) | exact (Holds.f3 H) | exact (Holds.f4 H) | exact (Holds.f5 H) | exact (Holds.f6 H)) rfl rfl (by exact rfl) (by exact rfl) (by exact rfl) (by exact rfl) (fun w H => ?_))
      | (show VcL _ _ _ _ (⟨_, .call ⟨.value (.func F_tithingref01_Equal), _, _⟩, _, _, _, _⟩ :: _) _ _ _; first
      | (refine VcL.callF ok_tithingref01_Equal rfl rfl rfl rfl (Rets.mono (EqualR_any H _ _ hnq hnm) ?_); rintro _ w ⟨rfl, H⟩))
      | (refine VcL.guard rfl rfl rfl rfl (fun h => ?_) (fun h => ?_) <;> first | (cases h; done) | (exfalso; simp only [decide_eq_true_eq, decide_eq_false_iff_not] at h; omega) | (with_reducible have hp := of_decide_eq_true h) | (with_reducible have hp := of_decide_eq_false h) | (with_reducible have hp := ndec_t h) | (with_reducible have hp := ndec_f h) | skip))
            | (show VcD _ _ _ _ _ _ _ _ _; first
      | refine VcD.pures tabOk rfl ?_
      | refine VcD.done ?_
      | (show VcD _ _ _ _ _ (.pure _ _) _ _ _; first
      | refine VcD.indexAddr0 tabOk rfl rfl rfl rfl rfl rfl rfl (by omega) (by omega) ?_
      | refine VcD.indexAddr tabOk rfl rfl rfl rfl rfl rfl rfl (by omega) (by omega) ?_
      | refine VcD.indexArr0 tabOk rfl rfl rfl rfl rfl rfl rfl (by omega) (by omega) ?_
      | refine VcD.indexArr tabOk rfl rfl rfl rfl rfl rfl rfl (by omega) (by omega) ?_
      | refine VcD.shl rfl rfl rfl (by first | assumption | rfl) rfl rfl rfl ?_
      | refine VcD.shr rfl rfl rfl (by first | assumption | rfl) rfl rfl rfl ?_
      | refine VcD.eqS tabOk rfl rfl rfl rfl rfl rfl rfl (by kernel_rfl) (by kernel_rfl) rfl rfl (by first | exact .inl rfl | exact .inr rfl) ?_
      | (refine VcD.guardP rfl rfl rfl rfl rfl (fun h => ?_) (fun h => ?_) <;> first | (cases h; done) | (exfalso; simp only [decide_eq_true_eq, decide_eq_false_iff_not] at h; omega) | (with_reducible have hp := of_decide_eq_true h) | (with_reducible have hp := of_decide_eq_false h) | (with_reducible have hp := ndec_t h) | (with_reducible have hp := ndec_f h) | skip))
      | (show VcD _ _ _ _ _ (.take _ _) _ _ _; first
      | refine VcD.load1 tabOk rfl rfl rfl rfl rfl rfl (by intro w_ hw_; first | exact Holds.cell hw_ rfl | exact Holds.cell (Holds.f1 hw_) rfl | exact Holds.cell (Holds.f2 hw_) rfl | exact Holds.cell (Holds.f3 hw_) rfl | exact Holds.cell (Holds.f4 hw_) rfl | exact Holds.cell (Holds.f5 hw_) rfl | exact Holds.cell (Holds.f6 hw_) rfl | exact RdW.get (by assumption) rfl hw_ | exact RdW.get0 (by assumption) rfl hw_ | exact RdW.get (by assumption) rfl (Holds.drop hw_) | exact RdW.get0 (by assumption) rfl (Holds.drop hw_) | exact RdW.get (by assumption) rfl (Holds.drop (Holds.drop hw_)) | exact RdW.get0 (by assumption) rfl (Holds.drop (Holds.drop hw_)) | exact RdW.get (by assumption) rfl (Holds.drop (Holds.drop (Holds.drop hw_))) | exact RdW.get0 (by assumption) rfl (Holds.drop (Holds.drop (Holds.drop hw_))) | exact Holds.rowCell hw_ (fun _ => rfl) (by first | assumption | exact atD_get (by assumption)) rfl | exact Holds.rowCell0 hw_ (fun _ => rfl) (by first | assumption | exact atD_get (by assumption)) rfl | exact Holds.ownCell hw_ (fun _ => rfl) (by first | assumption | exact atD_get (by assumption)) rfl | exact Holds.ownCell0 hw_ (fun _ => rfl) (by first | assumption | exact atD_get (by assumption)) rfl | exact Holds.rowCell (Holds.f1 hw_) (fun _ => rfl) (by first | assumption | exact atD_get (by assumption)) rfl | exact Holds.rowCell0 (Holds.f1 hw_) (fun _ => rfl) (by first | assumption | exact atD_get (by assumption)) rfl | exact Holds.ownCell (Holds.f1 hw_) (fun _ => rfl) (by first | assumption | exact atD_get (by assumption)) rfl | exact Holds.ownCell0 (Holds.f1 hw_) (fun _ => rfl) (by first | assumption | exact atD_get (by assumption)) rfl | exact Holds.rowCell (Holds.f2 hw_) (fun _ => rfl) (by first | assumption | exact atD_get (by assumption)) rfl | exact Holds.rowCell0 (Holds.f2 hw_) (fun _ => rfl) (by first | assumption | exact atD_get (by assumption)) rfl | exact Holds.ownCell (Holds.f2 hw_) (fun _ => rfl) (by first | assumption | exact atD_get (by assumption)) rfl | exact Holds.ownCell0 (Holds.f2 hw_) (fun _ => rfl) (by first | assumption | exact atD_get (by assumption)) rfl | exact Holds.rowCell (Holds.f3 hw_) (fun _ => rfl) (by first | assumption | exact atD_get (by assumption)) rfl | exact Holds.rowCell0 (Holds.f3 hw_) (fun _ => rfl) (by first | assumption | exact atD_get (by assumption)) rfl | exact Holds.ownCell (Holds.f3 hw_) (fun _ => rfl) (by first | assumption | exact atD_get (by assumption)) rfl | exact Holds.ownCell0 (Holds.f3 hw_) (fun _ => rfl) (by first | assumption | exact atD_get (by assumption)) rfl | exact Holds.rowCell (Holds.f4 hw_) (fun _ => rfl) (by first | assumption | exact atD_get (by assumption)) rfl | exact Holds.rowCell0 (Holds.f4 hw_) (fun _ => rfl) (by first | assumption | exact atD_get (by assumption)) rfl | exact Holds.ownCell (Holds.f4 hw_) (fun _ => rfl) (by first | assumption | exact atD_get (by assumption)) rfl | exact Holds.ownCell0 (Holds.f4 hw_) (fun _ => rfl) (by first | assumption | exact atD_get (by assumption)) rfl | exact hw_ _ _ rfl | exact hw_ 0 _ rfl | exact hw_.1 _ _ rfl | exact hw_.1 0 _ rfl | exact hw_.2 _ _ rfl | exact hw_.2 0 _ rfl | assumption) (by exact rfl) ?_
      | refine VcD.loadR tabOk rfl rfl rfl rfl rfl rfl rfl (by intro w_ hw_; first | exact RdW.rd (by assumption) hw_ | exact RdW.rd (by assumption) (Holds.drop hw_) | exact RdW.rd (by assumption) (Holds.drop (Holds.drop hw_)) | exact RdW.rd (by assumption) (Holds.drop (Holds.drop (Holds.drop hw_))) | exact hw_.1 | exact hw_.2 | assumption) rfl ?_
      | refine VcD.loadRowN0 tabOk rfl rfl rfl rfl rfl rfl rfl (fun _ hw_ => hw_) (fun _ => rfl) (by first | assumption | exact atD_get (by assumption)) (by exact rfl) (by exact rfl) (by exact rfl) ?_
      | refine VcD.loadRowN tabOk rfl rfl rfl rfl rfl rfl rfl (fun _ hw_ => hw_) (fun _ => rfl) (by first | assumption | exact atD_get (by assumption)) (by exact rfl) (by exact rfl) (by exact rfl) ?_
      | refine VcD.loadRowN0 tabOk rfl rfl rfl rfl rfl rfl rfl (fun _ hw_ => (Holds.f1 hw_)) (fun _ => rfl) (by first | assumption | exact atD_get (by assumption)) (by exact rfl) (by exact rfl) (by exact rfl) ?_
      | refine VcD.loadRowN tabOk rfl rfl rfl rfl rfl rfl rfl (fun _ hw_ => (Holds.f1 hw_)) (fun _ => rfl) (by first | assumption | exact atD_get (by assumption)) (by exact rfl) (by exact rfl) (by exact rfl) ?_
      | refine VcD.loadRowN0 tabOk rfl rfl rfl rfl rfl rfl rfl (fun _ hw_ => (Holds.f2 hw_)) (fun _ => rfl) (by first | assumption | exact atD_get (by assumption)) (by exact rfl) (by exact rfl) (by exact rfl) ?_
      | refine VcD.loadRowN tabOk rfl rfl rfl rfl rfl rfl rfl (fun _ hw_ => (Holds.f2 hw_)) (fun _ => rfl) (by first | assumption | exact atD_get (by assumption)) (by exact rfl) (by exact rfl) (by exact rfl) ?_
      | refine VcD.loadRowN0 tabOk rfl rfl rfl rfl rfl rfl rfl (fun _ hw_ => (Holds.f3 hw_)) (fun _ => rfl) (by first | assumption | exact atD_get (by assumption)) (by exact rfl) (by exact rfl) (by exact rfl) ?_
      | refine VcD.loadRowN tabOk rfl rfl rfl rfl rfl rfl rfl (fun _ hw_ => (Holds.f3 hw_)) (fun _ => rfl) (by first | assumption | exact atD_get (by assumption)) (by exact rfl) (by exact rfl) (by exact rfl) ?_
      | refine VcD.loadRowN0 tabOk rfl rfl rfl rfl rfl rfl rfl (fun _ hw_ => (Holds.f4 hw_)) (fun _ => rfl) (by first | assumption | exact atD_get (by assumption)) (by exact rfl) (by exact rfl) (by exact rfl) ?_
      | refine VcD.loadRowN tabOk rfl rfl rfl rfl rfl rfl rfl (fun _ hw_ => (Holds.f4 hw_)) (fun _ => rfl) (by first | assumption | exact atD_get (by assumption)) (by exact rfl) (by exact rfl) (by exact rfl) ?_
      | refine VcD.loadN tabOk rfl rfl rfl rfl rfl rfl rfl (by intro w_ hw_; first | exact hw_ | exact (Holds.f1 hw_) | exact (Holds.f2 hw_) | exact (Holds.f3 hw_) | exact (Holds.f4 hw_) | exact (Holds.f5 hw_) | exact (Holds.f6 hw_)) (by exact rfl) ?_
      | refine VcD.skipT rfl rfl rfl ?_
      | (refine VcD.guardT rfl rfl rfl rfl rfl (fun h => ?_) (fun h => ?_) <;> first | (cases h; done) | (exfalso; simp only [decide_eq_true_eq, decide_eq_false_iff_not] at h; omega) | (with_reducible have hp := of_decide_eq_true h) | (with_reducible have hp := of_decide_eq_false h) | (with_reducible have hp := ndec_t h) | (with_reducible have hp := ndec_f h) | skip))
      | (show VcD _ _ _ _ _ (.only _ _) _ _ _; first
      | (refine VcD.callF (f := F_tithingref01_Equal) rfl ok_tithingref01_Equal rfl rfl rfl rfl (Rets.mono (EqualR_any H _ _ hnq hnm) ?_); rintro _ w ⟨rfl, H⟩; refine ⟨(by first | exact H | exact Holds.drop H | exact Holds.drop (Holds.drop H)), ?_⟩)
      | refine VcD.skip rfl rfl rfl (by first | exact H | exact Holds.drop H | exact Holds.drop (Holds.drop H)) ?_
      | (refine VcD.guardO rfl rfl rfl rfl rfl (fun h => ?_) (fun h => ?_) <;> first | (cases h; done) | (exfalso; simp only [decide_eq_true_eq, decide_eq_false_iff_not] at h; omega) | (with_reducible have hp := of_decide_eq_true h) | (with_reducible have hp := of_decide_eq_false h) | (with_reducible have hp := ndec_t h) | (with_reducible have hp := ndec_f h) | skip))
      | (show VcD _ _ _ _ _ (.two _ _ _ _) _ _ _; refine VcD.two ?_ ?_))
            | (show EfO _ _ _ _ _ _ _ _ _; first
      | (refine EfO.call (f := F_tithingref01_Equal) rfl rfl rfl rfl (OpC.call ok_tithingref01_Equal rfl) (Rets.mono (EqualR_any H _ _ hnq hnm) ?_); rintro _ w ⟨rfl, H⟩; refine ⟨(by first | exact H | exact Holds.drop H | exact Holds.drop (Holds.drop H)), ?_⟩))
            | (show Vc _ _ _ _ _ _; first
      | refine Vc.seq ?_
      | refine Vc.region ?_
      | refine Vc.condT rfl ?_
      | refine Vc.condF rfl ?_
      | refine Vc.ret ?_
      | refine Vc.skip ?_
      | refine Vc.block ?_
      | refine Vc.exit ?_
      | refine Vc.drawnH (id := 5) H (.pure 0 (.take 1 (.pure 2 (.pure 3 (.pure 4 (.pure 5 (.pure 6 (.pure 7 (.pure 8 (.pure 9 (.pure 13 (.pure 10 (.pure 11 (.take 12 (.take 14 (.pure 15 (.pure 16 (.pure 17 (.pure 18 (.pure 19 (.take 20 (.pure 21 (.pure 22 (.pure 23 (.pure 24 (.pure 25 (.take 26 (.pure 27 (.pure 28 (.pure 29 (.pure 30 (.pure 31 (.take 32 (.pure 33 (.pure 34 (.pure 35 (.pure 36 (.take 37 (.pure 38 (.pure 39 (.pure 40 (.pure 41 (.take 42 (.pure 43 (.pure 44 (.pure 45 .done)))))))))))))))))))))))))))))))))))))))))))))) mixed (by kernel_rfl) (fun w H => ?_)
      | refine Vc.drawnH (id := 10) H (.pure 0 (.pure 2 (.take 1 (.pure 3 (.take 4 (.pure 5 (.pure 6 (.pure 7 (.pure 8 (.pure 9 (.pure 10 (.pure 12 (.pure 13 (.pure 16 (.pure 18 (.take 11 (.pure 14 (.take 15 (.take 17 (.pure 19 (.take 20 (.pure 21 (.pure 22 (.pure 23 .done)))))))))))))))))))))))) mixed (by kernel_rfl) (fun w H => ?_)
      | refine Vc.drawnH (id := 15) H (.pure 0 (.pure 1 (.pure 5 (.pure 2 (.pure 3 (.take 4 (.take 6 (.only 7 .done)))))))) mixed (by kernel_rfl) (fun w H => ?_)
      | (refine Vc.cond rfl (fun h => ?_) (fun h => ?_) <;> first | (cases h; done) | (exfalso; simp only [decide_eq_true_eq, decide_eq_false_iff_not] at h; omega) | (with_reducible have hp := of_decide_eq_true h) | (with_reducible have hp := of_decide_eq_false h) | (with_reducible have hp := ndec_t h) | (with_reducible have hp := ndec_f h) | skip))
            | (show KSeq _ _ _ _ _ _ _; first
      | refine KSeq.normal ?_
      | refine KSeq.ret ?_
      | refine KSeq.exit ?_)
            | (show KBlock _ _ _ _ _ _; first
      | refine KBlock.normal ?_
      | refine KBlock.here ?_
      | refine KBlock.on rfl ?_
      | refine KBlock.ret ?_)
            | refine KLoop.exit ?_
            | refine KLoop.ret ?_
            | refine KCut.exit ?_
            | refine KCut.ret ?_
            | (show KEnd _ _ _ _ _ _ _; first
      | refine KEnd.fin (Or.inr rfl) ⟨_, (ResL.tmp rfl ResL.nil), ?_⟩
      | refine KEnd.fin (Or.inl rfl) ⟨_, (ResL.tmp rfl ResL.nil), ?_⟩))
          all_goals first
            | (refine ⟨?_, H.drop⟩
               have : (l.take k).any (fun v => eqT (atD l k).name v.name) = true := by
                 rw [hue]
                 rw [List.any_eq_true]
                 refine ⟨atD l q, ?_, ?_⟩
                 · rw [List.mem_take_iff_getElem]
                   exact ⟨q, by omega, by have := atD_get (l := l) (k := q) (by omega); rw [List.getElem?_eq_getElem (by omega)] at this; simpa using this⟩
                 · rw [eqT_symm]; exact h
               rw [hno (by unfold uOk; rw [this]; simp)]; rfl)
            | (refine KLoop.again (q + 1) ⟨got_succ rfl (by omega), trivial⟩ ⟨rfl, rfl, rfl, trivial⟩ ⟨H, by omega, ?_⟩ (by omega)
               rw [hat, hall4, eqT_symm, h]; rfl)
        · obtain rfl : q = k := by omega
          repeat' (first
            | rw [hw h0]
            | rw [hw3 h3]
            | (show VcL _ _ _ _ _ _ _ _; first
      | refine VcL.pures tabOk rfl ?_
      | refine VcL.nil ?_
      | (show VcL _ _ _ _ (⟨_, .load _ _, _, _, _, _⟩ :: _) _ _ _; first
      | refine VcL.load1 tabOk rfl rfl rfl rfl rfl (by first | exact Holds.cell H rfl | exact Holds.cell (Holds.f1 H) rfl | exact Holds.cell (Holds.f2 H) rfl | exact Holds.cell (Holds.f3 H) rfl | exact Holds.cell (Holds.f4 H) rfl | exact Holds.cell (Holds.f5 H) rfl | exact Holds.cell (Holds.f6 H) rfl | exact RdW.get (by assumption) rfl H | exact RdW.get0 (by assumption) rfl H | exact RdW.get (by assumption) rfl (Holds.drop H) | exact RdW.get0 (by assumption) rfl (Holds.drop H) | exact RdW.get (by assumption) rfl (Holds.drop (Holds.drop H)) | exact RdW.get0 (by assumption) rfl (Holds.drop (Holds.drop H)) | exact RdW.get (by assumption) rfl (Holds.drop (Holds.drop (Holds.drop H))) | exact RdW.get0 (by assumption) rfl (Holds.drop (Holds.drop (Holds.drop H))) | exact Holds.rowCell H (fun _ => rfl) (by first | assumption | exact atD_get (by assumption)) rfl | exact Holds.rowCell0 H (fun _ => rfl) (by first | assumption | exact atD_get (by assumption)) rfl | exact Holds.ownCell H (fun _ => rfl) (by first | assumption | exact atD_get (by assumption)) rfl | exact Holds.ownCell0 H (fun _ => rfl) (by first | assumption | exact atD_get (by assumption)) rfl | exact Holds.rowCell (Holds.f1 H) (fun _ => rfl) (by first | assumption | exact atD_get (by assumption)) rfl | exact Holds.rowCell0 (Holds.f1 H) (fun _ => rfl) (by first | assumption | exact atD_get (by assumption)) rfl | exact Holds.ownCell (Holds.f1 H) (fun _ => rfl) (by first | assumption | exact atD_get (by assumption)) rfl | exact Holds.ownCell0 (Holds.f1 H) (fun _ => rfl) (by first | assumption | exact atD_get (by assumption)) rfl | exact Holds.rowCell (Holds.f2 H) (fun _ => rfl) (by first | assumption | exact atD_get (by assumption)) rfl | exact Holds.rowCell0 (Holds.f2 H) (fun _ => rfl) (by first | assumption | exact atD_get (by assumption)) rfl | exact Holds.ownCell (Holds.f2 H) (fun _ => rfl) (by first | assumption | exact atD_get (by assumption)) rfl | exact Holds.ownCell0 (Holds.f2 H) (fun _ => rfl) (by first | assumption | exact atD_get (by assumption)) rfl | exact Holds.rowCell (Holds.f3 H) (fun _ => rfl) (by first | assumption | exact atD_get (by assumption)) rfl | exact Holds.rowCell0 (Holds.f3 H) (fun _ => rfl) (by first | assumption | exact atD_get (by assumption)) rfl | exact Holds.ownCell (Holds.f3 H) (fun _ => rfl) (by first | assumption | exact atD_get (by assumption)) rfl | exact Holds.ownCell0 (Holds.f3 H) (fun _ => rfl) (by first | assumption | exact atD_get (by assumption)) rfl | exact Holds.rowCell (Holds.f4 H) (fun _ => rfl) (by first | assumption | exact atD_get (by assumption)) rfl | exact Holds.rowCell0 (Holds.f4 H) (fun _ => rfl) (by first | assumption | exact atD_get (by assumption)) rfl | exact Holds.ownCell (Holds.f4 H) (fun _ => rfl) (by first | assumption | exact atD_get (by assumption)) rfl | exact Holds.ownCell0 (Holds.f4 H) (fun _ => rfl) (by first | assumption | exact atD_get (by assumption)) rfl | assumption) ?_
      | refine VcL.loadR tabOk rfl rfl rfl rfl rfl rfl (by first | exact RdW.rd (by assumption) H | exact RdW.rd (by assumption) (Holds.drop H) | exact RdW.rd (by assumption) (Holds.drop (Holds.drop H)) | exact RdW.rd (by assumption) (Holds.drop (Holds.drop (Holds.drop H))) | assumption) rfl ?_
      | refine VcL.loadN tabOk rfl rfl rfl rfl rfl rfl (by first | exact H | exact (Holds.f1 H) | exact (Holds.f2 H) | exact (Holds.f3 H) | exact (Holds.f4 H) | exact (Holds.f5 H) | exact (Holds.f6 H)) (by exact rfl) ?_
      | refine VcL.loadRowN0 tabOk rfl rfl rfl rfl rfl rfl H (fun _ => rfl) (by first | assumption | exact atD_get (by assumption)) (by exact rfl) (by exact rfl) (by exact rfl) ?_
      | refine VcL.loadRowN tabOk rfl rfl rfl rfl rfl rfl H (fun _ => rfl) (by first | assumption | exact atD_get (by assumption)) (by exact rfl) (by exact rfl) (by exact rfl) ?_
      | refine VcL.loadOwnN0 tabOk rfl rfl rfl rfl rfl rfl H (fun _ => rfl) (by first | assumption | exact atD_get (by assumption)) (by exact rfl) (by exact rfl) (by exact rfl) ?_
      | refine VcL.loadOwnN tabOk rfl rfl rfl rfl rfl rfl H (fun _ => rfl) (by first | assumption | exact atD_get (by assumption)) (by exact rfl) (by exact rfl) (by exact rfl) ?_
      | refine VcL.loadRowN0 tabOk rfl rfl rfl rfl rfl rfl (Holds.f1 H) (fun _ => rfl) (by first | assumption | exact atD_get (by assumption)) (by exact rfl) (by exact rfl) (by exact rfl) ?_
      | refine VcL.loadRowN tabOk rfl rfl rfl rfl rfl rfl (Holds.f1 H) (fun _ => rfl) (by first | assumption | exact atD_get (by assumption)) (by exact rfl) (by exact rfl) (by exact rfl) ?_
      | refine VcL.loadOwnN0 tabOk rfl rfl rfl rfl rfl rfl (Holds.f1 H) (fun _ => rfl) (by first | assumption | exact atD_get (by assumption)) (by exact rfl) (by exact rfl) (by exact rfl) ?_
      | refine VcL.loadOwnN tabOk rfl rfl rfl rfl rfl rfl (Holds.f1 H) (fun _ => rfl) (by first | assumption | exact atD_get (by assumption)) (by exact rfl) (by exact rfl) (by exact rfl) ?_
      | refine VcL.loadRowN0 tabOk rfl rfl rfl rfl rfl rfl (Holds.f2 H) (fun _ => rfl) (by first | assumption | exact atD_get (by assumption)) (by exact rfl) (by exact rfl) (by exact rfl) ?_
      | refine VcL.loadRowN tabOk rfl rfl rfl rfl rfl rfl (Holds.f2 H) (fun _ => rfl) (by first | assumption | exact atD_get (by assumption)) (by exact rfl) (by exact rfl) (by exact rfl) ?_
      | refine VcL.loadOwnN0 tabOk rfl rfl rfl rfl rfl rfl (Holds.f2 H) (fun _ => rfl) (by first | assumption | exact atD_get (by assumption)) (by exact rfl) (by exact rfl) (by exact rfl) ?_
      | refine VcL.loadOwnN tabOk rfl rfl rfl rfl rfl rfl (Holds.f2 H) (fun _ => rfl) (by first | assumption | exact atD_get (by assumption)) (by exact rfl) (by exact rfl) (by exact rfl) ?_
      | refine VcL.loadRowN0 tabOk rfl rfl rfl rfl rfl rfl (Holds.f3 H) (fun _ => rfl) (by first | assumption | exact atD_get (by assumption)) (by exact rfl) (by exact rfl) (by exact rfl) ?_
      | refine VcL.loadRowN tabOk rfl rfl rfl rfl rfl rfl (Holds.f3 H) (fun _ => rfl) (by first | assumption | exact atD_get (by assumption)) (by exact rfl) (by exact rfl) (by exact rfl) ?_
      | refine VcL.loadOwnN0 tabOk rfl rfl rfl rfl rfl rfl (Holds.f3 H) (fun _ => rfl) (by first | assumption | exact atD_get (by assumption)) (by exact rfl) (by exact rfl) (by exact rfl) ?_
      | refine VcL.loadOwnN tabOk rfl rfl rfl rfl rfl rfl (Holds.f3 H) (fun _ => rfl) (by first | assumption | exact atD_get (by assumption)) (by exact rfl) (by exact rfl) (by exact rfl) ?_
      | refine VcL.loadRowN0 tabOk rfl rfl rfl rfl rfl rfl (Holds.f4 H) (fun _ => rfl) (by first | assumption | exact atD_get (by assumption)) (by exact rfl) (by exact rfl) (by exact rfl) ?_
      | refine VcL.loadRowN tabOk rfl rfl rfl rfl rfl rfl (Holds.f4 H) (fun _ => rfl) (by first | assumption | exact atD_get (by assumption)) (by exact rfl) (by exact rfl) (by exact rfl) ?_
      | refine VcL.loadOwnN0 tabOk rfl rfl rfl rfl rfl rfl (Holds.f4 H) (fun _ => rfl) (by first | assumption | exact atD_get (by assumption)) (by exact rfl) (by exact rfl) (by exact rfl) ?_
      | refine VcL.loadOwnN tabOk rfl rfl rfl rfl rfl rfl (Holds.f4 H) (fun _ => rfl) (by first | assumption | exact atD_get (by assumption)) (by exact rfl) (by exact rfl) (by exact rfl) ?_)
      | (show VcL _ _ _ _ (⟨_, .binOp _ _ _ _ _, _, _, _, _⟩ :: _) _ _ _; first
      | refine VcL.shl rfl rfl (by first | assumption | rfl) rfl rfl rfl ?_
      | refine VcL.shr rfl rfl (by first | assumption | rfl) rfl rfl rfl ?_
      | refine VcL.eqS tabOk rfl rfl rfl rfl rfl rfl (by kernel_rfl) (by kernel_rfl) rfl rfl (by first | exact .inl rfl | exact .inr rfl) ?_)
      | (show VcL _ _ _ _ (⟨_, .indexAddr _ _ _, _, _, _, _⟩ :: _) _ _ _; first
      | refine VcL.indexAddr0 tabOk rfl rfl rfl rfl rfl rfl (by omega) (by omega) ?_
      | refine VcL.indexAddr tabOk rfl rfl rfl rfl rfl rfl (by omega) (by omega) ?_
      | refine VcL.indexArr0 tabOk rfl rfl rfl rfl rfl rfl (by omega) (by omega) ?_
      | refine VcL.indexArr tabOk rfl rfl rfl rfl rfl rfl (by omega) (by omega) ?_)
      | refine VcL.alloc tabOk H rfl rfl rfl rfl (fun b w H => ?_)
      | (show VcL _ _ _ _ (⟨_, .store _ _ _, _, _, _, _⟩ :: _) _ _ _; first
      | refine VcL.store tabOk rfl (by first | exact H | exact (Holds.f1 H) | exact (Holds.f2 H) | exact (Holds.f3 H) | exact (Holds.f4 H) | exact (Holds.f5 H) | exact (Holds.f6 H)) rfl rfl (by exact rfl) (by exact rfl) (by exact rfl) (by exact rfl) (fun w H => ?_))
      | (show VcL _ _ _ _ (⟨_, .call ⟨.value (.func F_tithingref01_Equal), _, _⟩, _, _, _, _⟩ :: _) _ _ _; first
      | (refine VcL.callF ok_tithingref01_Equal rfl rfl rfl rfl (Rets.mono (EqualR_any H _ _ hnq hnm) ?_); rintro _ w ⟨rfl, H⟩))
      | (refine VcL.guard rfl rfl rfl rfl (fun h => ?_) (fun h => ?_) <;> first | (cases h; done) | (exfalso; simp only [decide_eq_true_eq, decide_eq_false_iff_not] at h; omega) | (with_reducible have hp := of_decide_eq_true h) | (with_reducible have hp := of_decide_eq_false h) | (with_reducible have hp := ndec_t h) | (with_reducible have hp := ndec_f h) | skip))
            | (show VcD _ _ _ _ _ _ _ _ _; first
      | refine VcD.pures tabOk rfl ?_
      | refine VcD.done ?_
      | (show VcD _ _ _ _ _ (.pure _ _) _ _ _; first
      | refine VcD.indexAddr0 tabOk rfl rfl rfl rfl rfl rfl rfl (by omega) (by omega) ?_
      | refine VcD.indexAddr tabOk rfl rfl rfl rfl rfl rfl rfl (by omega) (by omega) ?_
      | refine VcD.indexArr0 tabOk rfl rfl rfl rfl rfl rfl rfl (by omega) (by omega) ?_
      | refine VcD.indexArr tabOk rfl rfl rfl rfl rfl rfl rfl (by omega) (by omega) ?_
      | refine VcD.shl rfl rfl rfl (by first | assumption | rfl) rfl rfl rfl ?_
      | refine VcD.shr rfl rfl rfl (by first | assumption | rfl) rfl rfl rfl ?_
      | refine VcD.eqS tabOk rfl rfl rfl rfl rfl rfl rfl (by kernel_rfl) (by kernel_rfl) rfl rfl (by first | exact .inl rfl | exact .inr rfl) ?_
      | (refine VcD.guardP rfl rfl rfl rfl rfl (fun h => ?_) (fun h => ?_) <;> first | (cases h; done) | (exfalso; simp only [decide_eq_true_eq, decide_eq_false_iff_not] at h; omega) | (with_reducible have hp := of_decide_eq_true h) | (with_reducible have hp := of_decide_eq_false h) | (with_reducible have hp := ndec_t h) | (with_reducible have hp := ndec_f h) | skip))
      | (show VcD _ _ _ _ _ (.take _ _) _ _ _; first
      | refine VcD.load1 tabOk rfl rfl rfl rfl rfl rfl (by intro w_ hw_; first | exact Holds.cell hw_ rfl | exact Holds.cell (Holds.f1 hw_) rfl | exact Holds.cell (Holds.f2 hw_) rfl | exact Holds.cell (Holds.f3 hw_) rfl | exact Holds.cell (Holds.f4 hw_) rfl | exact Holds.cell (Holds.f5 hw_) rfl | exact Holds.cell (Holds.f6 hw_) rfl | exact RdW.get (by assumption) rfl hw_ | exact RdW.get0 (by assumption) rfl hw_ | exact RdW.get (by assumption) rfl (Holds.drop hw_) | exact RdW.get0 (by assumption) rfl (Holds.drop hw_) | exact RdW.get (by assumption) rfl (Holds.drop (Holds.drop hw_)) | exact RdW.get0 (by assumption) rfl (Holds.drop (Holds.drop hw_)) | exact RdW.get (by assumption) rfl (Holds.drop (Holds.drop (Holds.drop hw_))) | exact RdW.get0 (by assumption) rfl (Holds.drop (Holds.drop (Holds.drop hw_))) | exact Holds.rowCell hw_ (fun _ => rfl) (by first | assumption | exact atD_get (by assumption)) rfl | exact Holds.rowCell0 hw_ (fun _ => rfl) (by first | assumption | exact atD_get (by assumption)) rfl | exact Holds.ownCell hw_ (fun _ => rfl) (by first | assumption | exact atD_get (by assumption)) rfl | exact Holds.ownCell0 hw_ (fun _ => rfl) (by first | assumption | exact atD_get (by assumption)) rfl | exact Holds.rowCell (Holds.f1 hw_) (fun _ => rfl) (by first | assumption | exact atD_get (by assumption)) rfl | exact Holds.rowCell0 (Holds.f1 hw_) (fun _ => rfl) (by first | assumption | exact atD_get (by assumption)) rfl | exact Holds.ownCell (Holds.f1 hw_) (fun _ => rfl) (by first | assumption | exact atD_get (by assumption)) rfl | exact Holds.ownCell0 (Holds.f1 hw_) (fun _ => rfl) (by first | assumption | exact atD_get (by assumption)) rfl | exact Holds.rowCell (Holds.f2 hw_) (fun _ => rfl) (by first | assumption | exact atD_get (by assumption)) rfl | exact Holds.rowCell0 (Holds.f2 hw_) (fun _ => rfl) (by first | assumption | exact atD_get (by assumption)) rfl | exact Holds.ownCell (Holds.f2 hw_) (fun _ => rfl) (by first | assumption | exact atD_get (by assumption)) rfl | exact Holds.ownCell0 (Holds.f2 hw_) (fun _ => rfl) (by first | assumption | exact atD_get (by assumption)) rfl | exact Holds.rowCell (Holds.f3 hw_) (fun _ => rfl) (by first | assumption | exact atD_get (by assumption)) rfl | exact Holds.rowCell0 (Holds.f3 hw_) (fun _ => rfl) (by first | assumption | exact atD_get (by assumption)) rfl | exact Holds.ownCell (Holds.f3 hw_) (fun _ => rfl) (by first | assumption | exact atD_get (by assumption)) rfl | exact Holds.ownCell0 (Holds.f3 hw_) (fun _ => rfl) (by first | assumption | exact atD_get (by assumption)) rfl | exact Holds.rowCell (Holds.f4 hw_) (fun _ => rfl) (by first | assumption | exact atD_get (by assumption)) rfl | exact Holds.rowCell0 (Holds.f4 hw_) (fun _ => rfl) (by first | assumption | exact atD_get (by assumption)) rfl | exact Holds.ownCell (Holds.f4 hw_) (fun _ => rfl) (by first | assumption | exact atD_get (by assumption)) rfl | exact Holds.ownCell0 (Holds.f4 hw_) (fun _ => rfl) (by first | assumption | exact atD_get (by assumption)) rfl | exact hw_ _ _ rfl | exact hw_ 0 _ rfl | exact hw_.1 _ _ rfl | exact hw_.1 0 _ rfl | exact hw_.2 _ _ rfl | exact hw_.2 0 _ rfl | assumption) (by exact rfl) ?_
      | refine VcD.loadR tabOk rfl rfl rfl rfl rfl rfl rfl (by intro w_ hw_; first | exact RdW.rd (by assumption) hw_ | exact RdW.rd (by assumption) (Holds.drop hw_) | exact RdW.rd (by assumption) (Holds.drop (Holds.drop hw_)) | exact RdW.rd (by assumption) (Holds.drop (Holds.drop (Holds.drop hw_))) | exact hw_.1 | exact hw_.2 | assumption) rfl ?_
      | refine VcD.loadRowN0 tabOk rfl rfl rfl rfl rfl rfl rfl (fun _ hw_ => hw_) (fun _ => rfl) (by first | assumption | exact atD_get (by assumption)) (by exact rfl) (by exact rfl) (by exact rfl) ?_
      | refine VcD.loadRowN tabOk rfl rfl rfl rfl rfl rfl rfl (fun _ hw_ => hw_) (fun _ => rfl) (by first | assumption | exact atD_get (by assumption)) (by exact rfl) (by exact rfl) (by exact rfl) ?_
      | refine VcD.loadRowN0 tabOk rfl rfl rfl rfl rfl rfl rfl (fun _ hw_ => (Holds.f1 hw_)) (fun _ => rfl) (by first | assumption | exact atD_get (by assumption)) (by exact rfl) (by exact rfl) (by exact rfl) ?_
      | refine VcD.loadRowN tabOk rfl rfl rfl rfl rfl rfl rfl (fun _ hw_ => (Holds.f1 hw_)) (fun _ => rfl) (by first | assumption | exact atD_get (by assumption)) (by exact rfl) (by exact rfl) (by exact rfl) ?_
      | refine VcD.loadRowN0 tabOk rfl rfl rfl rfl rfl rfl rfl (fun _ hw_ => (Holds.f2 hw_)) (fun _ => rfl) (by first | assumption | exact atD_get (by assumption)) (by exact rfl) (by exact rfl) (by exact rfl) ?_
      | refine VcD.loadRowN tabOk rfl rfl rfl rfl rfl rfl rfl (fun _ hw_ => (Holds.f2 hw_)) (fun _ => rfl) (by first | assumption | exact atD_get (by assumption)) (by exact rfl) (by exact rfl) (by exact rfl) ?_
      | refine VcD.loadRowN0 tabOk rfl rfl rfl rfl rfl rfl rfl (fun _ hw_ => (Holds.f3 hw_)) (fun _ => rfl) (by first | assumption | exact atD_get (by assumption)) (by exact rfl) (by exact rfl) (by exact rfl) ?_
      | refine VcD.loadRowN tabOk rfl rfl rfl rfl rfl rfl rfl (fun _ hw_ => (Holds.f3 hw_)) (fun _ => rfl) (by first | assumption | exact atD_get (by assumption)) (by exact rfl) (by exact rfl) (by exact rfl) ?_
      | refine VcD.loadRowN0 tabOk rfl rfl rfl rfl rfl rfl rfl (fun _ hw_ => (Holds.f4 hw_)) (fun _ => rfl) (by first | assumption | exact atD_get (by assumption)) (by exact rfl) (by exact rfl) (by exact rfl) ?_
      | refine VcD.loadRowN tabOk rfl rfl rfl rfl rfl rfl rfl (fun _ hw_ => (Holds.f4 hw_)) (fun _ => rfl) (by first | assumption | exact atD_get (by assumption)) (by exact rfl) (by exact rfl) (by exact rfl) ?_
      | refine VcD.loadN tabOk rfl rfl rfl rfl rfl rfl rfl (by intro w_ hw_; first | exact hw_ | exact (Holds.f1 hw_) | exact (Holds.f2 hw_) | exact (Holds.f3 hw_) | exact (Holds.f4 hw_) | exact (Holds.f5 hw_) | exact (Holds.f6 hw_)) (by exact rfl) ?_
      | refine VcD.skipT rfl rfl rfl ?_
      | (refine VcD.guardT rfl rfl rfl rfl rfl (fun h => ?_) (fun h => ?_) <;> first | (cases h; done) | (exfalso; simp only [decide_eq_true_eq, decide_eq_false_iff_not] at h; omega) | (with_reducible have hp := of_decide_eq_true h) | (with_reducible have hp := of_decide_eq_false h) | (with_reducible have hp := ndec_t h) | (with_reducible have hp := ndec_f h) | skip))
      | (show VcD _ _ _ _ _ (.only _ _) _ _ _; first
      | (refine VcD.callF (f := F_tithingref01_Equal) rfl ok_tithingref01_Equal rfl rfl rfl rfl (Rets.mono (EqualR_any H _ _ hnq hnm) ?_); rintro _ w ⟨rfl, H⟩; refine ⟨(by first | exact H | exact Holds.drop H | exact Holds.drop (Holds.drop H)), ?_⟩)
      | refine VcD.skip rfl rfl rfl (by first | exact H | exact Holds.drop H | exact Holds.drop (Holds.drop H)) ?_
      | (refine VcD.guardO rfl rfl rfl rfl rfl (fun h => ?_) (fun h => ?_) <;> first | (cases h; done) | (exfalso; simp only [decide_eq_true_eq, decide_eq_false_iff_not] at h; omega) | (with_reducible have hp := of_decide_eq_true h) | (with_reducible have hp := of_decide_eq_false h) | (with_reducible have hp := ndec_t h) | (with_reducible have hp := ndec_f h) | skip))
      | (show VcD _ _ _ _ _ (.two _ _ _ _) _ _ _; refine VcD.two ?_ ?_))
            | (show EfO _ _ _ _ _ _ _ _ _; first
      | (refine EfO.call (f := F_tithingref01_Equal) rfl rfl rfl rfl (OpC.call ok_tithingref01_Equal rfl) (Rets.mono (EqualR_any H _ _ hnq hnm) ?_); rintro _ w ⟨rfl, H⟩; refine ⟨(by first | exact H | exact Holds.drop H | exact Holds.drop (Holds.drop H)), ?_⟩))
            | (show Vc _ _ _ _ _ _; first
      | refine Vc.seq ?_
      | refine Vc.region ?_
      | refine Vc.condT rfl ?_
      | refine Vc.condF rfl ?_
      | refine Vc.ret ?_
      | refine Vc.skip ?_
      | refine Vc.block ?_
      | refine Vc.exit ?_
      | refine Vc.drawnH (id := 5) H (.pure 0 (.take 1 (.pure 2 (.pure 3 (.pure 4 (.pure 5 (.pure 6 (.pure 7 (.pure 8 (.pure 9 (.pure 13 (.pure 10 (.pure 11 (.take 12 (.take 14 (.pure 15 (.pure 16 (.pure 17 (.pure 18 (.pure 19 (.take 20 (.pure 21 (.pure 22 (.pure 23 (.pure 24 (.pure 25 (.take 26 (.pure 27 (.pure 28 (.pure 29 (.pure 30 (.pure 31 (.take 32 (.pure 33 (.pure 34 (.pure 35 (.pure 36 (.take 37 (.pure 38 (.pure 39 (.pure 40 (.pure 41 (.take 42 (.pure 43 (.pure 44 (.pure 45 .done)))))))))))))))))))))))))))))))))))))))))))))) mixed (by kernel_rfl) (fun w H => ?_)
      | refine Vc.drawnH (id := 10) H (.pure 0 (.pure 2 (.take 1 (.pure 3 (.take 4 (.pure 5 (.pure 6 (.pure 7 (.pure 8 (.pure 9 (.pure 10 (.pure 12 (.pure 13 (.pure 16 (.pure 18 (.take 11 (.pure 14 (.take 15 (.take 17 (.pure 19 (.take 20 (.pure 21 (.pure 22 (.pure 23 .done)))))))))))))))))))))))) mixed (by kernel_rfl) (fun w H => ?_)
      | refine Vc.drawnH (id := 15) H (.pure 0 (.pure 1 (.pure 5 (.pure 2 (.pure 3 (.take 4 (.take 6 (.only 7 .done)))))))) mixed (by kernel_rfl) (fun w H => ?_)
      | (refine Vc.cond rfl (fun h => ?_) (fun h => ?_) <;> first | (cases h; done) | (exfalso; simp only [decide_eq_true_eq, decide_eq_false_iff_not] at h; omega) | (with_reducible have hp := of_decide_eq_true h) | (with_reducible have hp := of_decide_eq_false h) | (with_reducible have hp := ndec_t h) | (with_reducible have hp := ndec_f h) | skip))
            | (show KSeq _ _ _ _ _ _ _; first
      | refine KSeq.normal ?_
      | refine KSeq.ret ?_
      | refine KSeq.exit ?_)
            | (show KBlock _ _ _ _ _ _; first
      | refine KBlock.normal ?_
      | refine KBlock.here ?_
      | refine KBlock.on rfl ?_
      | refine KBlock.ret ?_)
            | refine KLoop.exit ?_
            | refine KLoop.ret ?_
            | refine KCut.exit ?_
            | refine KCut.ret ?_
            | (show KEnd _ _ _ _ _ _ _; first
      | refine KEnd.fin (Or.inr rfl) ⟨_, (ResL.tmp rfl ResL.nil), ?_⟩
      | refine KEnd.fin (Or.inl rfl) ⟨_, (ResL.tmp rfl ResL.nil), ?_⟩))
          refine KLoop.again (q + 1) ⟨got_succ rfl (by omega), trivial⟩ ⟨rfl, trivial⟩ ⟨H.drop, by omega, ?_⟩ (by omega)
          rw [range_succ_all, hall]
          unfold uOk
          rw [huo, hpo, hue, hall4]
          rfl
  ·
    repeat' (first
      | rw [hw h0]
      | rw [hw3 h3]
      | (show VcL _ _ _ _ _ _ _ _; first
      | refine VcL.pures tabOk rfl ?_
      | refine VcL.nil ?_
      | (show VcL _ _ _ _ (⟨_, .load _ _, _, _, _, _⟩ :: _) _ _ _; first
      | refine VcL.load1 tabOk rfl rfl rfl rfl rfl (by first | exact Holds.cell H rfl | exact Holds.cell (Holds.f1 H) rfl | exact Holds.cell (Holds.f2 H) rfl | exact Holds.cell (Holds.f3 H) rfl | exact Holds.cell (Holds.f4 H) rfl | exact Holds.cell (Holds.f5 H) rfl | exact Holds.cell (Holds.f6 H) rfl | exact RdW.get (by assumption) rfl H | exact RdW.get0 (by assumption) rfl H | exact RdW.get (by assumption) rfl (Holds.drop H) | exact RdW.get0 (by assumption) rfl (Holds.drop H) | exact RdW.get (by assumption) rfl (Holds.drop (Holds.drop H)) | exact RdW.get0 (by assumption) rfl (Holds.drop (Holds.drop H)) | exact RdW.get (by assumption) rfl (Holds.drop (Holds.drop (Holds.drop H))) | exact RdW.get0 (by assumption) rfl (Holds.drop (Holds.drop (Holds.drop H))) | exact Holds.rowCell H (fun _ => rfl) (by first | assumption | exact atD_get (by assumption)) rfl | exact Holds.rowCell0 H (fun _ => rfl) (by first | assumption | exact atD_get (by assumption)) rfl | exact Holds.ownCell H (fun _ => rfl) (by first | assumption | exact atD_get (by assumption)) rfl | exact Holds.ownCell0 H (fun _ => rfl) (by first | assumption | exact atD_get (by assumption)) rfl | exact Holds.rowCell (Holds.f1 H) (fun _ => rfl) (by first | assumption | exact atD_get (by assumption)) rfl | exact Holds.rowCell0 (Holds.f1 H) (fun _ => rfl) (by first | assumption | exact atD_get (by assumption)) rfl | exact Holds.ownCell (Holds.f1 H) (fun _ => rfl) (by first | assumption | exact atD_get (by assumption)) rfl | exact Holds.ownCell0 (Holds.f1 H) (fun _ => rfl) (by first | assumption | exact atD_get (by assumption)) rfl | exact Holds.rowCell (Holds.f2 H) (fun _ => rfl) (by first | assumption | exact atD_get (by assumption)) rfl | exact Holds.rowCell0 (Holds.f2 H) (fun _ => rfl) (by first | assumption | exact atD_get (by assumption)) rfl | exact Holds.ownCell (Holds.f2 H) (fun _ => rfl) (by first | assumption | exact atD_get (by assumption)) rfl | exact Holds.ownCell0 (Holds.f2 H) (fun _ => rfl) (by first | assumption | exact atD_get (by assumption)) rfl | exact Holds.rowCell (Holds.f3 H) (fun _ => rfl) (by first | assumption | exact atD_get (by assumption)) rfl | exact Holds.rowCell0 (Holds.f3 H) (fun _ => rfl) (by first | assumption | exact atD_get (by assumption)) rfl | exact Holds.ownCell (Holds.f3 H) (fun _ => rfl) (by first | assumption | exact atD_get (by assumption)) rfl | exact Holds.ownCell0 (Holds.f3 H) (fun _ => rfl) (by first | assumption | exact atD_get (by assumption)) rfl | exact Holds.rowCell (Holds.f4 H) (fun _ => rfl) (by first | assumption | exact atD_get (by assumption)) rfl | exact Holds.rowCell0 (Holds.f4 H) (fun _ => rfl) (by first | assumption | exact atD_get (by assumption)) rfl | exact Holds.ownCell (Holds.f4 H) (fun _ => rfl) (by first | assumption | exact atD_get (by assumption)) rfl | exact Holds.ownCell0 (Holds.f4 H) (fun _ => rfl) (by first | assumption | exact atD_get (by assumption)) rfl | assumption) ?_
      | refine VcL.loadR tabOk rfl rfl rfl rfl rfl rfl (by first | exact RdW.rd (by assumption) H | exact RdW.rd (by assumption) (Holds.drop H) | exact RdW.rd (by assumption) (Holds.drop (Holds.drop H)) | exact RdW.rd (by assumption) (Holds.drop (Holds.drop (Holds.drop H))) | assumption) rfl ?_
      | refine VcL.loadN tabOk rfl rfl rfl rfl rfl rfl (by first | exact H | exact (Holds.f1 H) | exact (Holds.f2 H) | exact (Holds.f3 H) | exact (Holds.f4 H) | exact (Holds.f5 H) | exact (Holds.f6 H)) (by exact rfl) ?_
      | refine VcL.loadRowN0 tabOk rfl rfl rfl rfl rfl rfl H (fun _ => rfl) (by first | assumption | exact atD_get (by assumption)) (by exact rfl) (by exact rfl) (by exact rfl) ?_
      | refine VcL.loadRowN tabOk rfl rfl rfl rfl rfl rfl H (fun _ => rfl) (by first | assumption | exact atD_get (by assumption)) (by exact rfl) (by exact rfl) (by exact rfl) ?_
      | refine VcL.loadOwnN0 tabOk rfl rfl rfl rfl rfl rfl H (fun _ => rfl) (by first | assumption | exact atD_get (by assumption)) (by exact rfl) (by exact rfl) (by exact rfl) ?_
      | refine VcL.loadOwnN tabOk rfl rfl rfl rfl rfl rfl H (fun _ => rfl) (by first | assumption | exact atD_get (by assumption)) (by exact rfl) (by exact rfl) (by exact rfl) ?_
      | refine VcL.loadRowN0 tabOk rfl rfl rfl rfl rfl rfl (Holds.f1 H) (fun _ => rfl) (by first | assumption | exact atD_get (by assumption)) (by exact rfl) (by exact rfl) (by exact rfl) ?_
      | refine VcL.loadRowN tabOk rfl rfl rfl rfl rfl rfl (Holds.f1 H) (fun _ => rfl) (by first | assumption | exact atD_get (by assumption)) (by exact rfl) (by exact rfl) (by exact rfl) ?_
      | refine VcL.loadOwnN0 tabOk rfl rfl rfl rfl rfl rfl (Holds.f1 H) (fun _ => rfl) (by first | assumption | exact atD_get (by assumption)) (by exact rfl) (by exact rfl) (by exact rfl) ?_
      | refine VcL.loadOwnN tabOk rfl rfl rfl rfl rfl rfl (Holds.f1 H) (fun _ => rfl) (by first | assumption | exact atD_get (by assumption)) (by exact rfl) (by exact rfl) (by exact rfl) ?_
      | refine VcL.loadRowN0 tabOk rfl rfl rfl rfl rfl rfl (Holds.f2 H) (fun _ => rfl) (by first | assumption | exact atD_get (by assumption)) (by exact rfl) (by exact rfl) (by exact rfl) ?_
      | refine VcL.loadRowN tabOk rfl rfl rfl rfl rfl rfl (Holds.f2 H) (fun _ => rfl) (by first | assumption | exact atD_get (by assumption)) (by exact rfl) (by exact rfl) (by exact rfl) ?_
      | refine VcL.loadOwnN0 tabOk rfl rfl rfl rfl rfl rfl (Holds.f2 H) (fun _ => rfl) (by first | assumption | exact atD_get (by assumption)) (by exact rfl) (by exact rfl) (by exact rfl) ?_
      | refine VcL.loadOwnN tabOk rfl rfl rfl rfl rfl rfl (Holds.f2 H) (fun _ => rfl) (by first | assumption | exact atD_get (by assumption)) (by exact rfl) (by exact rfl) (by exact rfl) ?_
      | refine VcL.loadRowN0 tabOk rfl rfl rfl rfl rfl rfl (Holds.f3 H) (fun _ => rfl) (by first | assumption | exact atD_get (by assumption)) (by exact rfl) (by exact rfl) (by exact rfl) ?_
      | refine VcL.loadRowN tabOk rfl rfl rfl rfl rfl rfl (Holds.f3 H) (fun _ => rfl) (by first | assumption | exact atD_get (by assumption)) (by exact rfl) (by exact rfl) (by exact rfl) ?_
      | refine VcL.loadOwnN0 tabOk rfl rfl rfl rfl rfl rfl (Holds.f3 H) (fun _ => rfl) (by first | assumption | exact atD_get (by assumption)) (by exact rfl) (by exact rfl) (by exact rfl) ?_
      | refine VcL.loadOwnN tabOk rfl rfl rfl rfl rfl rfl (Holds.f3 H) (fun _ => rfl) (by first | assumption | exact atD_get (by assumption)) (by exact rfl) (by exact rfl) (by exact rfl) ?_
      | refine VcL.loadRowN0 tabOk rfl rfl rfl rfl rfl rfl (Holds.f4 H) (fun _ => rfl) (by first | assumption | exact atD_get (by assumption)) (by exact rfl) (by exact rfl) (by exact rfl) ?_
      | refine VcL.loadRowN tabOk rfl rfl rfl rfl rfl rfl (Holds.f4 H) (fun _ => rfl) (by first | assumption | exact atD_get (by assumption)) (by exact rfl) (by exact rfl) (by exact rfl) ?_
      | refine VcL.loadOwnN0 tabOk rfl rfl rfl rfl rfl rfl (Holds.f4 H) (fun _ => rfl) (by first | assumption | exact atD_get (by assumption)) (by exact rfl) (by exact rfl) (by exact rfl) ?_
      | refine VcL.loadOwnN tabOk rfl rfl rfl rfl rfl rfl (Holds.f4 H) (fun _ => rfl) (by first | assumption | exact atD_get (by assumption)) (by exact rfl) (by exact rfl) (by exact rfl) ?_)
      | (show VcL _ _ _ _ (⟨_, .binOp _ _ _ _ _, _, _, _, _⟩ :: _) _ _ _; first
      | refine VcL.shl rfl rfl (by first | assumption | rfl) rfl rfl rfl ?_
      | refine VcL.shr rfl rfl (by first | assumption | rfl) rfl rfl rfl ?_
      | refine VcL.eqS tabOk rfl rfl rfl rfl rfl rfl (by kernel_rfl) (by kernel_rfl) rfl rfl (by first | exact .inl rfl | exact .inr rfl) ?_)
      | (show VcL _ _ _ _ (⟨_, .indexAddr _ _ _, _, _, _, _⟩ :: _) _ _ _; first
      | refine VcL.indexAddr0 tabOk rfl rfl rfl rfl rfl rfl (by omega) (by omega) ?_
      | refine VcL.indexAddr tabOk rfl rfl rfl rfl rfl rfl (by omega) (by omega) ?_
      | refine VcL.indexArr0 tabOk rfl rfl rfl rfl rfl rfl (by omega) (by omega) ?_
      | refine VcL.indexArr tabOk rfl rfl rfl rfl rfl rfl (by omega) (by omega) ?_)
      | refine VcL.alloc tabOk H rfl rfl rfl rfl (fun b w H => ?_)
      | (show VcL _ _ _ _ (⟨_, .store _ _ _, _, _, _, _⟩ :: _) _ _ _; first
      | refine VcL.store tabOk rfl (by first | exact H | exact (Holds.f1 H) | exact (Holds.f2 H) | exact (Holds.f3 H) | exact (Holds.f4 H) | exact (Holds.f5 H) | exact (Holds.f6 H)) rfl rfl (by exact rfl) (by exact rfl) (by exact rfl) (by exact rfl) (fun w H => ?_))
      | (show VcL _ _ _ _ (⟨_, .call ⟨.value (.func F_tithingref01_Equal), _, _⟩, _, _, _, _⟩ :: _) _ _ _; first
      | (refine VcL.callF ok_tithingref01_Equal rfl rfl rfl rfl (Rets.mono (EqualR_any H _ _ hnq hnm) ?_); rintro _ w ⟨rfl, H⟩))
      | (refine VcL.guard rfl rfl rfl rfl (fun h => ?_) (fun h => ?_) <;> first | (cases h; done) | (exfalso; simp only [decide_eq_true_eq, decide_eq_false_iff_not] at h; omega) | (with_reducible have hp := of_decide_eq_true h) | (with_reducible have hp := of_decide_eq_false h) | (with_reducible have hp := ndec_t h) | (with_reducible have hp := ndec_f h) | skip))
      | (show VcD _ _ _ _ _ _ _ _ _; first
      | refine VcD.pures tabOk rfl ?_
      | refine VcD.done ?_
      | (show VcD _ _ _ _ _ (.pure _ _) _ _ _; first
      | refine VcD.indexAddr0 tabOk rfl rfl rfl rfl rfl rfl rfl (by omega) (by omega) ?_
      | refine VcD.indexAddr tabOk rfl rfl rfl rfl rfl rfl rfl (by omega) (by omega) ?_
      | refine VcD.indexArr0 tabOk rfl rfl rfl rfl rfl rfl rfl (by omega) (by omega) ?_
      | refine VcD.indexArr tabOk rfl rfl rfl rfl rfl rfl rfl (by omega) (by omega) ?_
      | refine VcD.shl rfl rfl rfl (by first | assumption | rfl) rfl rfl rfl ?_
      | refine VcD.shr rfl rfl rfl (by first | assumption | rfl) rfl rfl rfl ?_
      | refine VcD.eqS tabOk rfl rfl rfl rfl rfl rfl rfl (by kernel_rfl) (by kernel_rfl) rfl rfl (by first | exact .inl rfl | exact .inr rfl) ?_
      | (refine VcD.guardP rfl rfl rfl rfl rfl (fun h => ?_) (fun h => ?_) <;> first | (cases h; done) | (exfalso; simp only [decide_eq_true_eq, decide_eq_false_iff_not] at h; omega) | (with_reducible have hp := of_decide_eq_true h) | (with_reducible have hp := of_decide_eq_false h) | (with_reducible have hp := ndec_t h) | (with_reducible have hp := ndec_f h) | skip))
      | (show VcD _ _ _ _ _ (.take _ _) _ _ _; first
      | refine VcD.load1 tabOk rfl rfl rfl rfl rfl rfl (by intro w_ hw_; first | exact Holds.cell hw_ rfl | exact Holds.cell (Holds.f1 hw_) rfl | exact Holds.cell (Holds.f2 hw_) rfl | exact Holds.cell (Holds.f3 hw_) rfl | exact Holds.cell (Holds.f4 hw_) rfl | exact Holds.cell (Holds.f5 hw_) rfl | exact Holds.cell (Holds.f6 hw_) rfl | exact RdW.get (by assumption) rfl hw_ | exact RdW.get0 (by assumption) rfl hw_ | exact RdW.get (by assumption) rfl (Holds.drop hw_) | exact RdW.get0 (by assumption) rfl (Holds.drop hw_) | exact RdW.get (by assumption) rfl (Holds.drop (Holds.drop hw_)) | exact RdW.get0 (by assumption) rfl (Holds.drop (Holds.drop hw_)) | exact RdW.get (by assumption) rfl (Holds.drop (Holds.drop (Holds.drop hw_))) | exact RdW.get0 (by assumption) rfl (Holds.drop (Holds.drop (Holds.drop hw_))) | exact Holds.rowCell hw_ (fun _ => rfl) (by first | assumption | exact atD_get (by assumption)) rfl | exact Holds.rowCell0 hw_ (fun _ => rfl) (by first | assumption | exact atD_get (by assumption)) rfl | exact Holds.ownCell hw_ (fun _ => rfl) (by first | assumption | exact atD_get (by assumption)) rfl | exact Holds.ownCell0 hw_ (fun _ => rfl) (by first | assumption | exact atD_get (by assumption)) rfl | exact Holds.rowCell (Holds.f1 hw_) (fun _ => rfl) (by first | assumption | exact atD_get (by assumption)) rfl | exact Holds.rowCell0 (Holds.f1 hw_) (fun _ => rfl) (by first | assumption | exact atD_get (by assumption)) rfl | exact Holds.ownCell (Holds.f1 hw_) (fun _ => rfl) (by first | assumption | exact atD_get (by assumption)) rfl | exact Holds.ownCell0 (Holds.f1 hw_) (fun _ => rfl) (by first | assumption | exact atD_get (by assumption)) rfl | exact Holds.rowCell (Holds.f2 hw_) (fun _ => rfl) (by first | assumption | exact atD_get (by assumption)) rfl | exact Holds.rowCell0 (Holds.f2 hw_) (fun _ => rfl) (by first | assumption | exact atD_get (by assumption)) rfl | exact Holds.ownCell (Holds.f2 hw_) (fun _ => rfl) (by first | assumption | exact atD_get (by assumption)) rfl | exact Holds.ownCell0 (Holds.f2 hw_) (fun _ => rfl) (by first | assumption | exact atD_get (by assumption)) rfl | exact Holds.rowCell (Holds.f3 hw_) (fun _ => rfl) (by first | assumption | exact atD_get (by assumption)) rfl | exact Holds.rowCell0 (Holds.f3 hw_) (fun _ => rfl) (by first | assumption | exact atD_get (by assumption)) rfl | exact Holds.ownCell (Holds.f3 hw_) (fun _ => rfl) (by first | assumption | exact atD_get (by assumption)) rfl | exact Holds.ownCell0 (Holds.f3 hw_) (fun _ => rfl) (by first | assumption | exact atD_get (by assumption)) rfl | exact Holds.rowCell (Holds.f4 hw_) (fun _ => rfl) (by first | assumption | exact atD_get (by assumption)) rfl | exact Holds.rowCell0 (Holds.f4 hw_) (fun _ => rfl) (by first | assumption | exact atD_get (by assumption)) rfl | exact Holds.ownCell (Holds.f4 hw_) (fun _ => rfl) (by first | assumption | exact atD_get (by assumption)) rfl | exact Holds.ownCell0 (Holds.f4 hw_) (fun _ => rfl) (by first | assumption | exact atD_get (by assumption)) rfl | exact hw_ _ _ rfl | exact hw_ 0 _ rfl | exact hw_.1 _ _ rfl | exact hw_.1 0 _ rfl | exact hw_.2 _ _ rfl | exact hw_.2 0 _ rfl | assumption) (by exact rfl) ?_
      | refine VcD.loadR tabOk rfl rfl rfl rfl rfl rfl rfl (by intro w_ hw_; first | exact RdW.rd (by assumption) hw_ | exact RdW.rd (by assumption) (Holds.drop hw_) | exact RdW.rd (by assumption) (Holds.drop (Holds.drop hw_)) | exact RdW.rd (by assumption) (Holds.drop (Holds.drop (Holds.drop hw_))) | exact hw_.1 | exact hw_.2 | assumption) rfl ?_
      | refine VcD.loadRowN0 tabOk rfl rfl rfl rfl rfl rfl rfl (fun _ hw_ => hw_) (fun _ => rfl) (by first | assumption | exact atD_get (by assumption)) (by exact rfl) (by exact rfl) (by exact rfl) ?_
      | refine VcD.loadRowN tabOk rfl rfl rfl rfl rfl rfl rfl (fun _ hw_ => hw_) (fun _ => rfl) (by first | assumption | exact atD_get (by assumption)) (by exact rfl) (by exact rfl) (by exact rfl) ?_
      | refine VcD.loadRowN0 tabOk rfl rfl rfl rfl rfl rfl rfl (fun _ hw_ => (Holds.f1 hw_)) (fun _ => rfl) (by first | assumption | exact atD_get (by assumption)) (by exact rfl) (by exact rfl) (by exact rfl) ?_
      | refine VcD.loadRowN tabOk rfl rfl rfl rfl rfl rfl rfl (fun _ hw_ => (Holds.f1 hw_)) (fun _ => rfl) (by first | assumption | exact atD_get (by assumption)) (by exact rfl) (by exact rfl) (by exact rfl) ?_
      | refine VcD.loadRowN0 tabOk rfl rfl rfl rfl rfl rfl rfl (fun _ hw_ => (Holds.f2 hw_)) (fun _ => rfl) (by first | assumption | exact atD_get (by assumption)) (by exact rfl) (by exact rfl) (by exact rfl) ?_
      | refine VcD.loadRowN tabOk rfl rfl rfl rfl rfl rfl rfl (fun _ hw_ => (Holds.f2 hw_)) (fun _ => rfl) (by first | assumption | exact atD_get (by assumption)) (by exact rfl) (by exact rfl) (by exact rfl) ?_
      | refine VcD.loadRowN0 tabOk rfl rfl rfl rfl rfl rfl rfl (fun _ hw_ => (Holds.f3 hw_)) (fun _ => rfl) (by first | assumption | exact atD_get (by assumption)) (by exact rfl) (by exact rfl) (by exact rfl) ?_
      | refine VcD.loadRowN tabOk rfl rfl rfl rfl rfl rfl rfl (fun _ hw_ => (Holds.f3 hw_)) (fun _ => rfl) (by first | assumption | exact atD_get (by assumption)) (by exact rfl) (by exact rfl) (by exact rfl) ?_
      | refine VcD.loadRowN0 tabOk rfl rfl rfl rfl rfl rfl rfl (fun _ hw_ => (Holds.f4 hw_)) (fun _ => rfl) (by first | assumption | exact atD_get (by assumption)) (by exact rfl) (by exact rfl) (by exact rfl) ?_
      | refine VcD.loadRowN tabOk rfl rfl rfl rfl rfl rfl rfl (fun _ hw_ => (Holds.f4 hw_)) (fun _ => rfl) (by first | assumption | exact atD_get (by assumption)) (by exact rfl) (by exact rfl) (by exact rfl) ?_
      | refine VcD.loadN tabOk rfl rfl rfl rfl rfl rfl rfl (by intro w_ hw_; first | exact hw_ | exact (Holds.f1 hw_) | exact (Holds.f2 hw_) | exact (Holds.f3 hw_) | exact (Holds.f4 hw_) | exact (Holds.f5 hw_) | exact (Holds.f6 hw_)) (by exact rfl) ?_
      | refine VcD.skipT rfl rfl rfl ?_
      | (refine VcD.guardT rfl rfl rfl rfl rfl (fun h => ?_) (fun h => ?_) <;> first | (cases h; done) | (exfalso; simp only [decide_eq_true_eq, decide_eq_false_iff_not] at h; omega) | (with_reducible have hp := of_decide_eq_true h) | (with_reducible have hp := of_decide_eq_false h) | (with_reducible have hp := ndec_t h) | (with_reducible have hp := ndec_f h) | skip))
      | (show VcD _ _ _ _ _ (.only _ _) _ _ _; first
      | (refine VcD.callF (f := F_tithingref01_Equal) rfl ok_tithingref01_Equal rfl rfl rfl rfl (Rets.mono (EqualR_any H _ _ hnq hnm) ?_); rintro _ w ⟨rfl, H⟩; refine ⟨(by first | exact H | exact Holds.drop H | exact Holds.drop (Holds.drop H)), ?_⟩)
      | refine VcD.skip rfl rfl rfl (by first | exact H | exact Holds.drop H | exact Holds.drop (Holds.drop H)) ?_
      | (refine VcD.guardO rfl rfl rfl rfl rfl (fun h => ?_) (fun h => ?_) <;> first | (cases h; done) | (exfalso; simp only [decide_eq_true_eq, decide_eq_false_iff_not] at h; omega) | (with_reducible have hp := of_decide_eq_true h) | (with_reducible have hp := of_decide_eq_false h) | (with_reducible have hp := ndec_t h) | (with_reducible have hp := ndec_f h) | skip))
      | (show VcD _ _ _ _ _ (.two _ _ _ _) _ _ _; refine VcD.two ?_ ?_))
      | (show EfO _ _ _ _ _ _ _ _ _; first
      | (refine EfO.call (f := F_tithingref01_Equal) rfl rfl rfl rfl (OpC.call ok_tithingref01_Equal rfl) (Rets.mono (EqualR_any H _ _ hnq hnm) ?_); rintro _ w ⟨rfl, H⟩; refine ⟨(by first | exact H | exact Holds.drop H | exact Holds.drop (Holds.drop H)), ?_⟩))
      | (show Vc _ _ _ _ _ _; first
      | refine Vc.seq ?_
      | refine Vc.region ?_
      | refine Vc.condT rfl ?_
      | refine Vc.condF rfl ?_
      | refine Vc.ret ?_
      | refine Vc.skip ?_
      | refine Vc.block ?_
      | refine Vc.exit ?_
      | refine Vc.drawnH (id := 5) H (.pure 0 (.take 1 (.pure 2 (.pure 3 (.pure 4 (.pure 5 (.pure 6 (.pure 7 (.pure 8 (.pure 9 (.pure 13 (.pure 10 (.pure 11 (.take 12 (.take 14 (.pure 15 (.pure 16 (.pure 17 (.pure 18 (.pure 19 (.take 20 (.pure 21 (.pure 22 (.pure 23 (.pure 24 (.pure 25 (.take 26 (.pure 27 (.pure 28 (.pure 29 (.pure 30 (.pure 31 (.take 32 (.pure 33 (.pure 34 (.pure 35 (.pure 36 (.take 37 (.pure 38 (.pure 39 (.pure 40 (.pure 41 (.take 42 (.pure 43 (.pure 44 (.pure 45 .done)))))))))))))))))))))))))))))))))))))))))))))) mixed (by kernel_rfl) (fun w H => ?_)
      | refine Vc.drawnH (id := 10) H (.pure 0 (.pure 2 (.take 1 (.pure 3 (.take 4 (.pure 5 (.pure 6 (.pure 7 (.pure 8 (.pure 9 (.pure 10 (.pure 12 (.pure 13 (.pure 16 (.pure 18 (.take 11 (.pure 14 (.take 15 (.take 17 (.pure 19 (.take 20 (.pure 21 (.pure 22 (.pure 23 .done)))))))))))))))))))))))) mixed (by kernel_rfl) (fun w H => ?_)
      | refine Vc.drawnH (id := 15) H (.pure 0 (.pure 1 (.pure 5 (.pure 2 (.pure 3 (.take 4 (.take 6 (.only 7 .done)))))))) mixed (by kernel_rfl) (fun w H => ?_)
      | (refine Vc.cond rfl (fun h => ?_) (fun h => ?_) <;> first | (cases h; done) | (exfalso; simp only [decide_eq_true_eq, decide_eq_false_iff_not] at h; omega) | (with_reducible have hp := of_decide_eq_true h) | (with_reducible have hp := of_decide_eq_false h) | (with_reducible have hp := ndec_t h) | (with_reducible have hp := ndec_f h) | skip))
      | (show KSeq _ _ _ _ _ _ _; first
      | refine KSeq.normal ?_
      | refine KSeq.ret ?_
      | refine KSeq.exit ?_)
      | (show KBlock _ _ _ _ _ _; first
      | refine KBlock.normal ?_
      | refine KBlock.here ?_
      | refine KBlock.on rfl ?_
      | refine KBlock.ret ?_)
      | refine KLoop.exit ?_
      | refine KLoop.ret ?_
      | refine KCut.exit ?_
      | refine KCut.ret ?_
      | (show KEnd _ _ _ _ _ _ _; first
      | refine KEnd.fin (Or.inr rfl) ⟨_, (ResL.tmp rfl ResL.nil), ?_⟩
      | refine KEnd.fin (Or.inl rfl) ⟨_, (ResL.tmp rfl ResL.nil), ?_⟩))
    refine ⟨?_, H⟩
    unfold usersOk
    rw [show l.length = k by omega, hall]
    simp [resVal]
    omega
end Go.Proofs.Ytkmbcjpedmlhfaa.V
