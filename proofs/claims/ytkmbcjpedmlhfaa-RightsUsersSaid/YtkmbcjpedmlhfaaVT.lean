/- Rights: at the end of a way; who has a name. -/
import Derived.Test.YtkmbcjpedmlhfaaVS
namespace Go.Proofs.Ytkmbcjpedmlhfaa.V
open Go Go.Proofs.YtkmbcjpedmlhfaaV
set_option linter.unusedVariables false
set_option linter.unusedSimpArgs false
set_option maxHeartbeats 1000000
attribute [local irreducible] IntKind.wrap
variable {I : Imm} {w : World} {L : List Asn}
def askedE (l : List Us) (right : Bool) (user : Int) : Int := if usersOk l && right then (if (grpS l user).1 then 0 else 5) else 2
theorem asked_any (H : Holds I w L) {v : Value} {l : List Us} (hv : SlU I L v l) (hl : l.length ≤ 140737488355328) (hu : ∀ u ∈ l, UsI I u) (right : Bool) (user : Int) :
    Rets Try.prog F_rights_asked #[v, .bool right, .int .i64 user] w fun r w' => r = .int .i64 (askedE l right user) ∧ Holds I w' L := by
  obtain ⟨A, cap, rfl, hcap⟩ := hv.form
  refine ok_rights_asked.rets rfl ?_
  repeat' (first
    | (show VcL _ _ _ _ _ _ _ _; first
      | refine VcL.pures tabOk rfl ?_
      | refine VcL.nil ?_
      | (show VcL _ _ _ _ (⟨_, .call ⟨.value (.func F_rights_ValidUsers), _, _⟩, _, _, _, _⟩ :: _) _ _ _; (refine VcL.callF ok_rights_ValidUsers rfl rfl rfl rfl (Rets.mono (ValidUsers_any H hv hl hu) ?_); rintro _ w ⟨rfl, H⟩))
      | (show VcL _ _ _ _ (⟨_, .call ⟨.value (.func F_rights_groups), _, _⟩, _, _, _, _⟩ :: _) _ _ _; (refine VcL.callF ok_rights_groups rfl rfl rfl rfl (Rets.mono (groups_any H hv hl hu user) ?_); rintro _ w ⟨A2, cap2, rfl, hg, hgl, H⟩))
      | (refine VcL.guard rfl rfl rfl rfl (fun h => ?_) (fun h => ?_) <;> skip))
    | (show Vc _ _ _ _ _ _; first
      | refine Vc.seq ?_
      | refine Vc.region ?_
      | refine Vc.condT rfl ?_
      | refine Vc.ret ?_
      | refine Vc.skip ?_
      | (refine Vc.cond rfl (fun h => ?_) (fun h => ?_) <;> skip))
    | (show KSeq _ _ _ _ _ _ _; first
      | refine KSeq.normal ?_
      | refine KSeq.ret ?_)
    | (show KEnd _ _ _ _ _ _ _; refine KEnd.fin (Or.inr rfl) ⟨_, (ResL.tmp rfl ResL.nil), ?_⟩))
  all_goals refine ⟨?_, H⟩
  all_goals (unfold askedE; simp_all [resVal])
def orI (a b : Int) : Int := IntKind.i64.wrap ((BitVec.ofInt IntKind.i64.bits a ||| BitVec.ofInt IntKind.i64.bits b).toNat : Int)
/-- What a user has in rights. -/
def hasS (l : List Us) (user : Int) (r : Rt) : Int :=
  let o := if r.owner = 0 ∨ r.owner = user then orI r.fa r.fo else r.fa
  if (grpS l user).2.any (fun y => decide (r.group = y)) then orI o r.fg else o
theorem grp_mem {l : List Us} {user : Int} {p : Int → Bool} : (grpS l user).2.any p = (grpS l user).2.any p := rfl
theorem has_any (H : Holds I w L) {v : Value} {l : List Us} (hv : SlU I L v l) (hl : l.length ≤ 140737488355328) (hu : ∀ u ∈ l, UsI I u) (user : Int) (r : Rt) :
    Rets Try.prog F_rights_has #[v, .int .i64 user, rtV r] w fun u w' => u = .int .i64 (hasS l user r) ∧ Holds I w' L := by
  obtain ⟨A, cap, rfl, hcap⟩ := hv.form
  obtain ⟨x1, x2, x3, x4, x5, x6⟩ := r
  show Rets Try.prog F_rights_has #[_, _, .agg #[.int .i64 x1, .int .i64 x2, .int .i64 x3, .int .i64 x4, .int .i64 x5, .bool x6]] w _
  have e1 : ∀ a b, IntKind.i64.wrap ((BitVec.ofInt IntKind.i64.bits a ||| BitVec.ofInt IntKind.i64.bits b).toNat : Int) = orI a b := fun _ _ => rfl
  refine ok_rights_has.rets rfl ?_
  repeat' (first
    | (show VcL _ _ _ _ _ _ _ _; first
      | refine VcL.pures tabOk rfl ?_
      | refine VcL.nil ?_
      | (show VcL _ _ _ _ (⟨_, .load _ _, _, _, _, _⟩ :: _) _ _ _; refine VcL.load1 tabOk rfl rfl rfl rfl rfl (by exact Holds.cell H rfl) ?_)
      | refine VcL.box H rfl rfl rfl rfl rfl (fun b w H => ?_)
      | (show VcL _ _ _ _ (⟨_, .call ⟨.value (.func F_rights_groups), _, _⟩, _, _, _, _⟩ :: _) _ _ _; (refine VcL.callF ok_rights_groups rfl rfl rfl rfl (Rets.mono (groups_any H hv.up hl hu user) ?_); rintro _ w ⟨A2, cap2, rfl, hg, hgl, H⟩))
      | (show VcL _ _ _ _ (⟨_, .call ⟨.value (.func F_slices_Contains_int_int), _, _⟩, _, _, _, _⟩ :: _) _ _ _; (refine VcL.callF ok_slices_Contains_int_int rfl rfl rfl rfl (Rets.mono (ContainsI_any H (SlI.toR hg) hgl _) ?_); rintro _ w ⟨rfl, H⟩))
      | (refine VcL.guard rfl rfl rfl rfl (fun h => ?_) (fun h => ?_) <;> first | (with_reducible have hp := of_decide_eq_true h) | (with_reducible have hp := of_decide_eq_false h)))
    | (show Vc _ _ _ _ _ _; first
      | refine Vc.seq ?_
      | refine Vc.region ?_
      | refine Vc.condT rfl ?_
      | refine Vc.ret ?_
      | refine Vc.skip ?_
      | (refine Vc.cond rfl (fun h => ?_) (fun h => ?_) <;> first | (with_reducible have hp := of_decide_eq_true h) | (with_reducible have hp := of_decide_eq_false h) | skip))
    | (show KSeq _ _ _ _ _ _ _; refine KSeq.normal ?_)
    | (show KEnd _ _ _ _ _ _ _; refine KEnd.fin (Or.inr rfl) ⟨_, (ResL.tmp rfl ResL.nil), ?_⟩))
  all_goals refine ⟨?_, H.drop⟩
  all_goals (unfold hasS; simp only [h]; clear h hg; simp_all [resVal])
def hasV (l : List Us) (user : Int) (r : Rt) : Value := if askedE l (rightsOk r) user = 0 then .tuple #[.int .i64 (hasS l user r), .int .i64 0] else .tuple #[.int .i64 0, .int .i64 (askedE l (rightsOk r) user)]
theorem Has_any (H : Holds I w L) {v : Value} {l : List Us} (hv : SlU I L v l) (hl : l.length ≤ 140737488355328) (hu : ∀ u ∈ l, UsI I u) (user : Int) (r : Rt) :
    Rets Try.prog F_rights_Has #[v, .int .i64 user, rtV r] w fun u w' => u = hasV l user r ∧ Holds I w' L := by
  obtain ⟨A, cap, rfl, hcap⟩ := hv.form
  obtain ⟨x1, x2, x3, x4, x5, x6⟩ := r
  show Rets Try.prog F_rights_Has #[_, _, .agg #[.int .i64 x1, .int .i64 x2, .int .i64 x3, .int .i64 x4, .int .i64 x5, .bool x6]] w _
  refine ok_rights_Has.rets rfl ?_
  repeat' (first
    | (show VcL _ _ _ _ _ _ _ _; first
      | refine VcL.pures tabOk rfl ?_
      | refine VcL.nil ?_
      | (show VcL _ _ _ _ (⟨_, .load _ _, _, _, _, _⟩ :: _) _ _ _; refine VcL.loadN tabOk rfl rfl rfl rfl rfl rfl (by exact H) (by exact rfl) ?_)
      | refine VcL.box H rfl rfl rfl rfl rfl (fun b w H => ?_)
      | (show VcL _ _ _ _ (⟨_, .call ⟨.value (.func F_rights_Valid), _, _⟩, _, _, _, _⟩ :: _) _ _ _; (refine VcL.callF ok_rights_Valid rfl rfl rfl rfl (Rets.mono (Valid_any H ⟨x1, x2, x3, x4, x5, x6⟩) ?_); rintro _ w ⟨rfl, H⟩))
      | (show VcL _ _ _ _ (⟨_, .call ⟨.value (.func F_rights_asked), _, _⟩, _, _, _, _⟩ :: _) _ _ _; (refine VcL.callF ok_rights_asked rfl rfl rfl rfl (Rets.mono (asked_any H hv.up hl hu _ user) ?_); rintro _ w ⟨rfl, H⟩))
      | (show VcL _ _ _ _ (⟨_, .call ⟨.value (.func F_rights_has), _, _⟩, _, _, _, _⟩ :: _) _ _ _; (refine VcL.callF ok_rights_has rfl rfl rfl rfl (Rets.mono (has_any H hv.up hl hu user ⟨x1, x2, x3, x4, x5, x6⟩) ?_); rintro _ w ⟨rfl, H⟩)))
    | (show Vc _ _ _ _ _ _; first
      | refine Vc.seq ?_
      | refine Vc.region ?_
      | refine Vc.ret ?_
      | refine Vc.skip ?_
      | (refine Vc.cond rfl (fun h => ?_) (fun h => ?_) <;> first | (with_reducible have hp := ndec_t h) | (with_reducible have hp := ndec_f h)))
    | (show KSeq _ _ _ _ _ _ _; first
      | refine KSeq.normal ?_
      | refine KSeq.ret ?_)
    | (show KEnd _ _ _ _ _ _ _; refine KEnd.fin (Or.inr rfl) ⟨_, (ResL.tmp rfl (ResL.tmp rfl ResL.nil)), ?_⟩))
  all_goals refine ⟨?_, H.drop⟩
  all_goals (unfold hasV; simp_all [resVal])
theorem isWay1_any (H : Holds I w L) (r : Rt) : Rets Try.prog F_rights_isWay_1 (#[] ++ [rtV r].toArray ++ #[]) w fun u w' => u = .bool (!rightsOk r) ∧ Holds I w' L := by
  obtain ⟨x1, x2, x3, x4, x5, x6⟩ := r
  show Rets Try.prog F_rights_isWay_1 #[.agg #[.int .i64 x1, .int .i64 x2, .int .i64 x3, .int .i64 x4, .int .i64 x5, .bool x6]] w _
  refine ok_rights_isWay_1.rets rfl ?_
  repeat' (first
    | (show VcL _ _ _ _ _ _ _ _; first
      | refine VcL.pures tabOk rfl ?_
      | refine VcL.nil ?_
      | (show VcL _ _ _ _ (⟨_, .load _ _, _, _, _, _⟩ :: _) _ _ _; refine VcL.loadN tabOk rfl rfl rfl rfl rfl rfl (by exact H) (by exact rfl) ?_)
      | refine VcL.box H rfl rfl rfl rfl rfl (fun b w H => ?_)
      | (show VcL _ _ _ _ (⟨_, .call ⟨.value (.func F_rights_Valid), _, _⟩, _, _, _, _⟩ :: _) _ _ _; (refine VcL.callF ok_rights_Valid rfl rfl rfl rfl (Rets.mono (Valid_any H ⟨x1, x2, x3, x4, x5, x6⟩) ?_); rintro _ w ⟨rfl, H⟩)))
    | (show Vc _ _ _ _ _ _; first
      | refine Vc.seq ?_
      | refine Vc.region ?_
      | refine Vc.ret ?_)
    | (show KSeq _ _ _ _ _ _ _; refine KSeq.normal ?_)
    | (show KEnd _ _ _ _ _ _ _; refine KEnd.fin (Or.inr rfl) ⟨_, (ResL.tmp rfl ResL.nil), ?_⟩))
  exact ⟨rfl, H.drop⟩
def wayOk (l : List Rt) : Bool := decide (1 ≤ l.length) && decide (l.length ≤ 60) && !l.any fun r => !rightsOk r
theorem isWay_any (H : Holds I w L) {v : Value} {l : List Rt} (hv : SlR I L v 6 l.length (l.flatMap rtC)) (hl : l.length ≤ 140737488355328) :
    Rets Try.prog F_rights_isWay #[v] w fun u w' => u = .bool (wayOk l) ∧ Holds I w' L := by
  obtain ⟨A, cap, rfl, hcap⟩ := hv.form
  refine ok_rights_isWay.rets rfl ?_
  repeat' (first
    | (show VcL _ _ _ _ _ _ _ _; first
      | refine VcL.pures tabOk rfl ?_
      | refine VcL.nil ?_
      | (show VcL _ _ _ _ (⟨_, .call ⟨.value (.func F_rights_within), _, _⟩, _, _, _, _⟩ :: _) _ _ _; (refine VcL.callF ok_rights_within rfl rfl rfl rfl (Rets.mono (withinU_any H _ _ _) ?_); rintro _ w ⟨rfl, H⟩))
      | (show VcL _ _ _ _ (⟨_, .call ⟨.value (.func F_slices_ContainsFunc_api_Rights_api_Rights), _, _⟩, _, _, _, _⟩ :: _) _ _ _; (refine VcL.callF ok_slices_ContainsFunc_api_Rights_api_Rights rfl rfl rfl rfl (Rets.mono (ContainsFuncR_any H hv hl ok_rights_isWay_1 (fun r => !rightsOk r) (fun w k hk H => isWay1_any H _)) ?_); rintro _ w ⟨rfl, H⟩))
      | (refine VcL.guard rfl rfl rfl rfl (fun h => ?_) (fun h => ?_) <;> skip))
    | (show Vc _ _ _ _ _ _; first
      | refine Vc.seq ?_
      | refine Vc.region ?_
      | refine Vc.ret ?_)
    | (show KSeq _ _ _ _ _ _ _; refine KSeq.normal ?_)
    | (show KEnd _ _ _ _ _ _ _; refine KEnd.fin (Or.inr rfl) ⟨_, (ResL.tmp rfl ResL.nil), ?_⟩))
  all_goals refine ⟨?_, H⟩
  all_goals (unfold wayOk; simp_all [resVal] <;> omega)
theorem flat_take {α : Type} {enc : α → List Value} {sz : Nat} (he : ∀ x, (enc x).length = sz) {l : List α} {n : Nat} (h : n ≤ l.length) : (l.flatMap enc).take (n * sz) = (l.take n).flatMap enc := by
  have h1 : ((l.take n).flatMap enc).length = n * sz := by rw [flat_len he, List.length_take, Nat.min_eq_left h]
  have h2 : l.flatMap enc = (l.take n).flatMap enc ++ (l.drop n).flatMap enc := by rw [← List.flatMap_append, List.take_append_drop]
  rw [h2, ← h1, List.take_left]
theorem asked_way {l : List Us} {way : List Rt} {user : Int} (h : askedE l (wayOk way) user = 0) : usersOk l = true ∧ wayOk way = true ∧ (grpS l user).1 = true := by
  unfold askedE at h
  split at h
  · rename_i h1
    rw [Bool.and_eq_true] at h1
    split at h
    · rename_i h2; exact ⟨h1.1, h1.2, h2⟩
    · cases h
  · cases h
theorem way_len {way : List Rt} (h : wayOk way = true) : 1 ≤ way.length ∧ way.length ≤ 60 := by
  unfold wayOk at h
  simp only [Bool.and_eq_true, decide_eq_true_eq] at h
  exact h.1
def atS (l : List Us) (user : Int) (way : List Rt) : Int := if (List.range way.length).any (fun n => decide (1 ≤ n) && decide (IntKind.i64.wrap ((BitVec.ofInt IntKind.i64.bits (hasS l user (effS (way.take n))) &&& BitVec.ofInt IntKind.i64.bits 4).toNat : Int) = 0)) then 0 else hasS l user (effS way)
def atV (l : List Us) (user : Int) (way : List Rt) : Value := if askedE l (wayOk way) user = 0 then .tuple #[.int .i64 (atS l user way), .int .i64 0] else .tuple #[.int .i64 0, .int .i64 (askedE l (wayOk way) user)]
theorem At_any (H : Holds I w L) {v vw : Value} {l : List Us} {way : List Rt} (hv : SlU I L v l) (hl : l.length ≤ 140737488355328) (hu : ∀ u ∈ l, UsI I u) (user : Int) (hw : SlR I L vw 6 way.length (way.flatMap rtC)) (hwl : way.length ≤ 140737488355328) :
    Rets Try.prog F_rights_At #[v, .int .i64 user, vw] w fun u w' => u = atV l user way ∧ Holds I w' L := by
  obtain ⟨A, cap, rfl, hcap⟩ := hv.form
  obtain ⟨A2, cap2, rfl, hcap2⟩ := hw.form
  refine ok_rights_At.rets rfl ?_
  repeat' (first
    | (show VcL _ _ _ _ _ _ _ _; first
      | refine VcL.pures tabOk rfl ?_
      | refine VcL.nil ?_
      | (show VcL _ _ _ _ (⟨_, .call ⟨.value (.func F_rights_isWay), _, _⟩, _, _, _, _⟩ :: _) _ _ _; (refine VcL.callF ok_rights_isWay rfl rfl rfl rfl (Rets.mono (isWay_any H hw hwl) ?_); rintro _ w ⟨rfl, H⟩))
      | (show VcL _ _ _ _ (⟨_, .call ⟨.value (.func F_rights_asked), _, _⟩, _, _, _, _⟩ :: _) _ _ _; (refine VcL.callF ok_rights_asked rfl rfl rfl rfl (Rets.mono (asked_any H hv hl hu _ user) ?_); rintro _ w ⟨rfl, H⟩)))
    | (show Vc _ _ _ _ _ _; first
      | refine Vc.seq ?_
      | refine Vc.region ?_
      | refine Vc.ret ?_
      | refine Vc.skip ?_
      | refine Vc.block ?_
      | (refine Vc.cond rfl (fun h => ?_) (fun h => ?_) <;> first | (with_reducible have hp := ndec_t h) | (with_reducible have hp := ndec_f h)))
    | (show KSeq _ _ _ _ _ _ _; first
      | refine KSeq.normal ?_
      | refine KSeq.ret ?_)
    | (show KEnd _ _ _ _ _ _ _; refine KEnd.fin (Or.inr rfl) ⟨_, (ResL.tmp rfl (ResL.tmp rfl ResL.nil)), ?_⟩))
  · refine ⟨?_, H⟩
    unfold atV
    simp_all [resVal]
  have h0 : askedE l (wayOk way) user = 0 := by simp_all
  refine Vc.loopS [(0, _), (1, _), (2, _)] (fun n : Nat => [(9, .int .i64 n)]) (fun n w => Holds I w L ∧ 1 ≤ n ∧ (1 ≤ way.length → n ≤ way.length) ∧ (List.range n).any (fun n => decide (1 ≤ n) && decide (IntKind.i64.wrap ((BitVec.ofInt IntKind.i64.bits (hasS l user (effS (way.take n))) &&& BitVec.ofInt IntKind.i64.bits 4).toNat : Int) = 0)) = false) (fun n _ => way.length - n) 1 ⟨rfl, trivial⟩ ⟨rfl, rfl, rfl, trivial⟩ ⟨H, Nat.le_refl _, fun h => h, by simp⟩ ?_
  rintro n w ⟨H, hn1, hn, hall⟩
  have hw1 := way_len (asked_way h0).2.1
  have hn := hn hw1.1
  by_cases hlt : n < way.length
  · obtain ⟨b1, o1, rfl, hr1⟩ := hw.at (by omega)
    have hln : (way.take n).length = n := by rw [List.length_take]; omega
    have hwn : SlR I L (.slice (some ⟨b1, o1, none⟩) n cap2) 6 (way.take n).length ((way.take n).flatMap rtC) := by
      rw [hln, ← flat_take rtC_len hn]
      exact hw.take hn
    repeat' (first
      | (show VcL _ _ _ _ _ _ _ _; first
      | refine VcL.pures tabOk rfl ?_
      | refine VcL.nil ?_
      | (show VcL _ _ _ _ (⟨_, .slice _ _ _ _ none, _, _, _, _⟩ :: _) _ _ _; refine VcL.sliceTo tabOk rfl rfl rfl rfl rfl rfl (by omega) ?_)
      | (show VcL _ _ _ _ (⟨_, .call ⟨.value (.func F_rights_effective), _, _⟩, _, _, _, _⟩ :: _) _ _ _; (refine VcL.callF ok_rights_effective rfl rfl rfl rfl (Rets.mono (effective_any H hwn (by omega)) ?_); rintro _ w ⟨rfl, H⟩))
      | (show VcL _ _ _ _ (⟨_, .call ⟨.value (.func F_rights_has), _, _⟩, _, _, _, _⟩ :: _) _ _ _; (refine VcL.callF ok_rights_has rfl rfl rfl rfl (Rets.mono (has_any H hv hl hu user _) ?_); rintro _ w ⟨rfl, H⟩)))
      | (show Vc _ _ _ _ _ _; first
      | refine Vc.seq ?_
      | refine Vc.region ?_
      | refine Vc.ret ?_
      | refine Vc.skip ?_
      | refine Vc.block ?_
      | (refine Vc.cond rfl (fun h => ?_) (fun h => ?_) <;> first | (exfalso; simp only [decide_eq_true_eq, decide_eq_false_iff_not] at h; omega) | (with_reducible have hp := of_decide_eq_true h) | (with_reducible have hp := of_decide_eq_false h)))
      | (show KSeq _ _ _ _ _ _ _; first
      | refine KSeq.normal ?_
      | refine KSeq.ret ?_)
      | (show KBlock _ _ _ _ _ _; first
      | refine KBlock.normal ?_
      | refine KBlock.ret ?_)
      | refine KLoop.ret ?_
      | (show KEnd _ _ _ _ _ _ _; refine KEnd.fin (Or.inr rfl) ⟨_, (ResL.tmp rfl (ResL.tmp rfl ResL.nil)), ?_⟩))
    · have e1 : atS l user way = 0 := by
        unfold atS
        rw [if_pos (List.any_eq_true.2 ⟨n, List.mem_range.2 hlt, by rw [h]; simp [hn1]⟩)]
      refine ⟨?_, H⟩
      unfold atV
      rw [if_pos h0, e1]
      rfl
    · exact KLoop.again (n + 1) ⟨got_succ rfl (by omega), trivial⟩ ⟨rfl, rfl, rfl, trivial⟩ ⟨H, by omega, fun _ => hlt, by rw [List.range_succ, List.any_append, hall]; simp only [List.any_cons, List.any_nil, Bool.or_false, Bool.false_or]; rw [h]; simp⟩ (by omega)
  · obtain rfl : n = way.length := by omega
    repeat' (first
      | (show VcL _ _ _ _ _ _ _ _; first
      | refine VcL.pures tabOk rfl ?_
      | refine VcL.nil ?_
      | (show VcL _ _ _ _ (⟨_, .call ⟨.value (.func F_rights_has), _, _⟩, _, _, _, _⟩ :: _) _ _ _; (refine VcL.callF ok_rights_has rfl rfl rfl rfl (Rets.mono (has_any H hv hl hu user _) ?_); rintro _ w ⟨rfl, H⟩))
      | (show VcL _ _ _ _ (⟨_, .call ⟨.value (.func F_rights_effective), _, _⟩, _, _, _, _⟩ :: _) _ _ _; (refine VcL.callF ok_rights_effective rfl rfl rfl rfl (Rets.mono (effective_any H hw hwl) ?_); rintro _ w ⟨rfl, H⟩)))
      | (show Vc _ _ _ _ _ _; first
      | refine Vc.seq ?_
      | refine Vc.region ?_
      | refine Vc.ret ?_
      | refine Vc.exit ?_
      | (refine Vc.cond rfl (fun h => ?_) (fun h => ?_) <;> first | (exfalso; simp only [decide_eq_true_eq, decide_eq_false_iff_not] at h; omega) | (with_reducible have hp := of_decide_eq_false h)))
      | (show KSeq _ _ _ _ _ _ _; first
      | refine KSeq.normal ?_
      | refine KSeq.exit ?_)
      | (show KBlock _ _ _ _ _ _; refine KBlock.here ?_)
      | refine KLoop.exit ?_
      | (show KEnd _ _ _ _ _ _ _; refine KEnd.fin (Or.inr rfl) ⟨_, (ResL.tmp rfl (ResL.tmp rfl ResL.nil)), ?_⟩))
    have e1 : atS l user way = hasS l user (effS way) := by
      unfold atS
      rw [hall]
      rfl
    refine ⟨?_, H⟩
    unfold atV
    rw [if_pos h0, e1]
    rfl
end Go.Proofs.Ytkmbcjpedmlhfaa.V
