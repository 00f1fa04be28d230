/- Rights: what a user has. -/
import Derived.Test.YtkmbcjpedmlhfaaVR
namespace Go.Proofs.Ytkmbcjpedmlhfaa.V
open Go Go.Proofs.YtkmbcjpedmlhfaaV
set_option linter.unusedVariables false
set_option linter.unusedSimpArgs false
set_option maxHeartbeats 1000000
attribute [local irreducible] IntKind.wrap
variable {I : Imm} {w : World} {L : List Asn}
abbrev rtV (r : Rt) : Value := .agg (rtC r).toArray
theorem IndexFuncR_any (H : Holds I w L) {v : Value} {l : List Rt} (hv : SlR I L v 6 l.length (l.flatMap rtC)) (hl : l.length ≤ 140737488355328) {g m : Nat} {rs : List ResultVar} {c : Code} {caps : Array Value} (hf : FnOk Try.prog g m rs c) (p : Rt → Bool)
    (hF : ∀ w k, k < l.length → Holds I w L → Rets Try.prog g (#[] ++ [rtV (atD l k)].toArray ++ caps) w fun u w' => u = .bool (p (atD l k)) ∧ Holds I w' L) :
    Rets Try.prog F_slices_IndexFunc_api_Rights_api_Rights #[v, .func (.func g) #[] caps] w fun u w' => u = .int .i64 (idxF p l) ∧ Holds I w' L := by
  obtain ⟨A, cap, rfl, hcap⟩ := hv.form
  refine ok_slices_IndexFunc_api_Rights_api_Rights.rets rfl ?_
  repeat' (first
    | (show VcL _ _ _ _ _ _ _ _; first
      | refine VcL.pures tabOk rfl ?_
      | refine VcL.nil ?_)
    | (show Vc _ _ _ _ _ _; first
      | refine Vc.seq ?_
      | refine Vc.region ?_
      | refine Vc.block ?_)
    | (show KSeq _ _ _ _ _ _ _; refine KSeq.normal ?_))
  refine Vc.loopS [(0, _), (1, _), (7, _)] (fun k : Nat => [(8, .int .i64 k)]) (fun k w => Holds I w L ∧ k ≤ l.length ∧ ∀ j, j < k → p (atD l j) = false) (fun k _ => l.length - k) 0 ⟨rfl, trivial⟩ ⟨rfl, rfl, rfl, trivial⟩ ⟨H, Nat.zero_le _, fun j hj => absurd hj (by omega)⟩ ?_
  rintro k w ⟨H, hk, hall⟩
  by_cases hlt : k < l.length
  · obtain ⟨b, o, rfl, hr⟩ := hv.at (by omega)
    have hx := hr.elem rtC_len (atD_get hlt)
    repeat' (first
      | (show VcL _ _ _ _ _ _ _ _; first
      | refine VcL.pures tabOk rfl ?_
      | refine VcL.nil ?_
      | (show VcL _ _ _ _ (⟨_, .load _ _, _, _, _, _⟩ :: _) _ _ _; refine VcL.loadR tabOk rfl rfl rfl rfl rfl rfl (by exact RdW.rd (by assumption) H) rfl ?_)
      | (show VcL _ _ _ _ (⟨_, .indexAddr _ _ _, _, _, _, _⟩ :: _) _ _ _; refine VcL.indexAddr tabOk rfl rfl rfl rfl rfl rfl (by omega) (by omega) ?_)
      | (show VcL _ _ _ _ (⟨_, .call ⟨.value (.tmp _), _, _⟩, _, _, _, _⟩ :: _) _ _ _; (refine VcL.callV hf rfl rfl rfl rfl rfl (Rets.mono (hF _ k hlt H) ?_); rintro _ w ⟨rfl, H⟩)))
      | (show Vc _ _ _ _ _ _; first
      | refine Vc.seq ?_
      | refine Vc.region ?_
      | refine Vc.ret ?_
      | refine Vc.skip ?_
      | refine Vc.block ?_
      | (refine Vc.cond rfl (fun h => ?_) (fun h => ?_) <;> first | (exfalso; simp only [decide_eq_true_eq, decide_eq_false_iff_not] at h; omega) | (with_reducible have hp := of_decide_eq_true h) | skip))
      | (show KSeq _ _ _ _ _ _ _; first
      | refine KSeq.normal ?_
      | refine KSeq.ret ?_)
      | (show KBlock _ _ _ _ _ _; first
      | refine KBlock.normal ?_
      | refine KBlock.ret ?_)
      | refine KLoop.ret ?_
      | (show KEnd _ _ _ _ _ _ _; refine KEnd.fin (Or.inr rfl) ⟨_, (ResL.tmp rfl ResL.nil), ?_⟩))
    · exact ⟨by rw [idxF_yes hlt h hall]; rfl, H⟩
    · refine KLoop.again (k + 1) ⟨got_succ rfl (by omega), trivial⟩ ⟨rfl, rfl, rfl, trivial⟩ ⟨H, hlt, fun j hj => ?_⟩ (by omega)
      rcases Nat.lt_or_ge j k with h1 | h1
      · exact hall j h1
      · obtain rfl : j = k := by omega
        exact h
  ·
    repeat' (first
      | (show VcL _ _ _ _ _ _ _ _; first
      | refine VcL.pures tabOk rfl ?_
      | refine VcL.nil ?_)
      | (show Vc _ _ _ _ _ _; first
      | refine Vc.seq ?_
      | refine Vc.region ?_
      | refine Vc.ret ?_
      | refine Vc.exit ?_
      | (refine Vc.cond rfl (fun h => ?_) (fun h => ?_) <;> first | (exfalso; simp only [decide_eq_true_eq, decide_eq_false_iff_not] at h; omega) | (with_reducible have hp := of_decide_eq_false h)))
      | (show KSeq _ _ _ _ _ _ _; first
      | refine KSeq.normal ?_
      | refine KSeq.exit ?_)
      | (show KBlock _ _ _ _ _ _; refine KBlock.here ?_)
      | refine KLoop.exit ?_
      | (show KEnd _ _ _ _ _ _ _; refine KEnd.fin (Or.inr rfl) ⟨_, (ResL.tmp rfl ResL.nil), ?_⟩))
    obtain rfl : k = l.length := by omega
    exact ⟨by rw [idxF_no hall]; rfl, H⟩
theorem ContainsFuncR_any (H : Holds I w L) {v : Value} {l : List Rt} (hv : SlR I L v 6 l.length (l.flatMap rtC)) (hl : l.length ≤ 140737488355328) {g m : Nat} {rs : List ResultVar} {c : Code} {caps : Array Value} (hf : FnOk Try.prog g m rs c) (p : Rt → Bool)
    (hF : ∀ w k, k < l.length → Holds I w L → Rets Try.prog g (#[] ++ [rtV (atD l k)].toArray ++ caps) w fun u w' => u = .bool (p (atD l k)) ∧ Holds I w' L) :
    Rets Try.prog F_slices_ContainsFunc_api_Rights_api_Rights #[v, .func (.func g) #[] caps] w fun u w' => u = .bool (l.any p) ∧ Holds I w' L := by
  obtain ⟨A, cap, rfl, hcap⟩ := hv.form
  refine ok_slices_ContainsFunc_api_Rights_api_Rights.rets rfl ?_
  repeat' (first
    | (show VcL _ _ _ _ _ _ _ _; first
      | refine VcL.pures tabOk rfl ?_
      | refine VcL.nil ?_
      | (show VcL _ _ _ _ (⟨_, .call ⟨.value (.func F_slices_IndexFunc_api_Rights_api_Rights), _, _⟩, _, _, _, _⟩ :: _) _ _ _; (refine VcL.callF ok_slices_IndexFunc_api_Rights_api_Rights rfl rfl rfl rfl (Rets.mono (IndexFuncR_any H hv hl hf p hF) ?_); rintro _ w ⟨rfl, H⟩)))
    | (show Vc _ _ _ _ _ _; first
      | refine Vc.seq ?_
      | refine Vc.region ?_
      | refine Vc.ret ?_)
    | (show KSeq _ _ _ _ _ _ _; refine KSeq.normal ?_)
    | (show KEnd _ _ _ _ _ _ _; refine KEnd.fin (Or.inr rfl) ⟨_, (ResL.tmp rfl ResL.nil), ?_⟩))
  exact ⟨by rw [← idxF_any]; rfl, H⟩
theorem IndexI_any (H : Holds I w L) {v : Value} {l : List Int} (hv : SlR I L v 1 l.length (l.flatMap inC)) (hl : l.length ≤ 140737488355328) (x : Int) : Rets Try.prog F_slices_Index_int_int #[v, .int .i64 x] w fun u w' => u = .int .i64 (idxF (fun y => decide (x = y)) l) ∧ Holds I w' L := by
  obtain ⟨A, cap, rfl, hcap⟩ := hv.form
  refine ok_slices_Index_int_int.rets rfl ?_
  repeat' (first
    | (show VcL _ _ _ _ _ _ _ _; first
      | refine VcL.pures tabOk rfl ?_
      | refine VcL.nil ?_)
    | (show Vc _ _ _ _ _ _; first
      | refine Vc.seq ?_
      | refine Vc.region ?_
      | refine Vc.block ?_)
    | (show KSeq _ _ _ _ _ _ _; refine KSeq.normal ?_))
  refine Vc.loopS [(0, _), (1, _), (7, _)] (fun k : Nat => [(8, .int .i64 k)]) (fun k w => Holds I w L ∧ k ≤ l.length ∧ ∀ j, j < k → decide (x = atD l j) = false) (fun k _ => l.length - k) 0 ⟨rfl, trivial⟩ ⟨rfl, rfl, rfl, trivial⟩ ⟨H, Nat.zero_le _, fun j hj => absurd hj (by omega)⟩ ?_
  rintro k w ⟨H, hk, hall⟩
  by_cases hlt : k < l.length
  · obtain ⟨b, o, rfl, hr⟩ := hv.at (by omega)
    have hx := hr.elem inC_len (atD_get hlt)
    repeat' (first
      | (show VcL _ _ _ _ _ _ _ _; first
      | refine VcL.pures tabOk rfl ?_
      | refine VcL.nil ?_
      | (show VcL _ _ _ _ (⟨_, .load _ _, _, _, _, _⟩ :: _) _ _ _; refine VcL.load1 tabOk rfl rfl rfl rfl rfl (by exact RdW.get0 (by assumption) rfl H) ?_)
      | (show VcL _ _ _ _ (⟨_, .indexAddr _ _ _, _, _, _, _⟩ :: _) _ _ _; refine VcL.indexAddr tabOk rfl rfl rfl rfl rfl rfl (by omega) (by omega) ?_))
      | (show Vc _ _ _ _ _ _; first
      | refine Vc.seq ?_
      | refine Vc.region ?_
      | refine Vc.ret ?_
      | refine Vc.skip ?_
      | refine Vc.block ?_
      | (refine Vc.cond rfl (fun h => ?_) (fun h => ?_) <;> first | (exfalso; simp only [decide_eq_true_eq, decide_eq_false_iff_not] at h; omega) | (with_reducible have hp := of_decide_eq_true h) | (with_reducible have hp := of_decide_eq_false h)))
      | (show KSeq _ _ _ _ _ _ _; first
      | refine KSeq.normal ?_
      | refine KSeq.ret ?_)
      | (show KBlock _ _ _ _ _ _; first
      | refine KBlock.normal ?_
      | refine KBlock.ret ?_)
      | refine KLoop.ret ?_
      | (show KEnd _ _ _ _ _ _ _; refine KEnd.fin (Or.inr rfl) ⟨_, (ResL.tmp rfl ResL.nil), ?_⟩))
    · exact ⟨by rw [idxF_yes hlt h hall]; rfl, H⟩
    · refine KLoop.again (k + 1) ⟨got_succ rfl (by omega), trivial⟩ ⟨rfl, rfl, rfl, trivial⟩ ⟨H, hlt, fun j hj => ?_⟩ (by omega)
      rcases Nat.lt_or_ge j k with h1 | h1
      · exact hall j h1
      · obtain rfl : j = k := by omega
        exact h
  ·
    repeat' (first
      | (show VcL _ _ _ _ _ _ _ _; first
      | refine VcL.pures tabOk rfl ?_
      | refine VcL.nil ?_)
      | (show Vc _ _ _ _ _ _; first
      | refine Vc.seq ?_
      | refine Vc.region ?_
      | refine Vc.ret ?_
      | refine Vc.exit ?_
      | (refine Vc.cond rfl (fun h => ?_) (fun h => ?_) <;> first | (exfalso; simp only [decide_eq_true_eq, decide_eq_false_iff_not] at h; omega) | (with_reducible have hp := of_decide_eq_false h)))
      | (show KSeq _ _ _ _ _ _ _; first
      | refine KSeq.normal ?_
      | refine KSeq.exit ?_)
      | (show KBlock _ _ _ _ _ _; refine KBlock.here ?_)
      | refine KLoop.exit ?_
      | (show KEnd _ _ _ _ _ _ _; refine KEnd.fin (Or.inr rfl) ⟨_, (ResL.tmp rfl ResL.nil), ?_⟩))
    obtain rfl : k = l.length := by omega
    exact ⟨by rw [idxF_no hall]; rfl, H⟩
theorem ContainsI_any (H : Holds I w L) {v : Value} {l : List Int} (hv : SlR I L v 1 l.length (l.flatMap inC)) (hl : l.length ≤ 140737488355328) (x : Int) : Rets Try.prog F_slices_Contains_int_int #[v, .int .i64 x] w fun u w' => u = .bool (l.any fun y => decide (x = y)) ∧ Holds I w' L := by
  obtain ⟨A, cap, rfl, hcap⟩ := hv.form
  refine ok_slices_Contains_int_int.rets rfl ?_
  repeat' (first
    | (show VcL _ _ _ _ _ _ _ _; first
      | refine VcL.pures tabOk rfl ?_
      | refine VcL.nil ?_
      | (show VcL _ _ _ _ (⟨_, .call ⟨.value (.func F_slices_Index_int_int), _, _⟩, _, _, _, _⟩ :: _) _ _ _; (refine VcL.callF ok_slices_Index_int_int rfl rfl rfl rfl (Rets.mono (IndexI_any H hv hl x) ?_); rintro _ w ⟨rfl, H⟩)))
    | (show Vc _ _ _ _ _ _; first
      | refine Vc.seq ?_
      | refine Vc.region ?_
      | refine Vc.ret ?_)
    | (show KSeq _ _ _ _ _ _ _; refine KSeq.normal ?_)
    | (show KEnd _ _ _ _ _ _ _; refine KEnd.fin (Or.inr rfl) ⟨_, (ResL.tmp rfl ResL.nil), ?_⟩))
  exact ⟨by rw [← idxF_any]; rfl, H⟩
theorem CloneI_any (H : Holds I w L) {v : Value} {n : Nat} {cs : List Value} (hv : SlR I L v 1 n cs) (h1 : ∀ u ∈ cs, oneC u = true) (hn : n * 8 ≤ 2 ^ 46) : Rets Try.prog F_slices_Clone_int_int #[v] w fun u w' => Holds I w' (own u 3 1 n cs :: L) := by
  obtain ⟨A, cap, rfl, hcap⟩ := hv.form
  have hlen := hv.len
  cases A with
  | none =>
    refine ok_slices_Clone_int_int.rets rfl ?_
    repeat' (first
      | (show VcL _ _ _ _ _ _ _ _; first
      | refine VcL.pures tabOk rfl ?_
      | refine VcL.nil ?_)
      | (show Vc _ _ _ _ _ _; first
      | refine Vc.seq ?_
      | refine Vc.region ?_
      | refine Vc.condT rfl ?_
      | refine Vc.ret ?_)
      | (show KSeq _ _ _ _ _ _ _; first
      | refine KSeq.normal ?_
      | refine KSeq.ret ?_)
      | (show KEnd _ _ _ _ _ _ _; refine KEnd.fin (Or.inr rfl) ⟨_, (ResL.tmp rfl ResL.nil), ?_⟩))
    obtain ⟨A', cap', e, h2, h3, h4, h5⟩ := hv.out
    injection e with e1 e2 e3
    obtain ⟨rfl, _⟩ := h4 e1.symm
    have : cs = [] := by simpa using hlen
    subst this
    exact H.own_nil
  | some a =>
    refine ok_slices_Clone_int_int.rets rfl ?_
    repeat' (first
      | (refine VcL.append tabOk rfl rfl rfl rfl H (SlR.src hv (Holds.drop H)) h1 (by show (0 + n) * 8 ≤ 2 ^ 46; omega) rfl rfl rfl (fun sv w H => ?_))
      | (show VcL _ _ _ _ _ _ _ _; first
      | refine VcL.pures tabOk rfl ?_
      | refine VcL.nil ?_
      | refine VcL.buildSlice tabOk H rfl rfl rfl rfl rfl rfl (fun sv w H => ?_))
      | (show Vc _ _ _ _ _ _; first
      | refine Vc.seq ?_
      | refine Vc.region ?_
      | refine Vc.condF rfl ?_
      | refine Vc.ret ?_
      | refine Vc.skip ?_)
      | (show KSeq _ _ _ _ _ _ _; refine KSeq.normal ?_)
      | (show KEnd _ _ _ _ _ _ _; refine KEnd.fin (Or.inr rfl) ⟨_, (ResL.tmp rfl ResL.nil), ?_⟩))
    simpa [repL, resVal] using H
def bit3 (n : Int) : Bool := decide (0 ≤ n) && decide (n ≤ 7)
def rightsOk (r : Rt) : Bool := decide (0 ≤ r.owner) && decide (0 ≤ r.group) && bit3 r.fo && bit3 r.fg && bit3 r.fa
theorem Valid_any (H : Holds I w L) (r : Rt) : Rets Try.prog F_rights_Valid #[rtV r] w fun u w' => u = .bool (rightsOk r) ∧ Holds I w' L := by
  obtain ⟨x1, x2, x3, x4, x5, x6⟩ := r
  show Rets Try.prog F_rights_Valid #[.agg #[.int .i64 x1, .int .i64 x2, .int .i64 x3, .int .i64 x4, .int .i64 x5, .bool x6]] w _
  refine ok_rights_Valid.rets rfl ?_
  repeat' (first
    | (show VcL _ _ _ _ _ _ _ _; first
      | refine VcL.pures tabOk rfl ?_
      | refine VcL.nil ?_
      | (show VcL _ _ _ _ (⟨_, .load _ _, _, _, _, _⟩ :: _) _ _ _; refine VcL.load1 tabOk rfl rfl rfl rfl rfl (by exact Holds.cell H rfl) ?_)
      | refine VcL.box H rfl rfl rfl rfl rfl (fun b w H => ?_)
      | (show VcL _ _ _ _ (⟨_, .call ⟨.value (.func F_rights_within), _, _⟩, _, _, _, _⟩ :: _) _ _ _; (refine VcL.callF ok_rights_within rfl rfl rfl rfl (Rets.mono (withinU_any H _ _ _) ?_); rintro _ w ⟨rfl, H⟩))
      | (refine VcL.guard rfl rfl rfl rfl (fun h => ?_) (fun h => ?_) <;> first | (cases h; done) | (with_reducible have hp := of_decide_eq_true h) | (with_reducible have hp := of_decide_eq_false h) | skip))
    | (show Vc _ _ _ _ _ _; first
      | refine Vc.seq ?_
      | refine Vc.region ?_
      | refine Vc.ret ?_)
    | (show KSeq _ _ _ _ _ _ _; refine KSeq.normal ?_)
    | (show KEnd _ _ _ _ _ _ _; refine KEnd.fin (Or.inr rfl) ⟨_, (ResL.tmp rfl ResL.nil), ?_⟩))
  all_goals refine ⟨?_, H.drop⟩
  all_goals (unfold rightsOk bit3; simp_all [resVal] <;> (intros; omega))
theorem bits_any (H : Holds I w L) (n : Int) : Rets Try.prog F_tithingref21_bits #[.int .i64 n] w fun u w' => u = .bool (bit3 n) ∧ Holds I w' L := by
  refine ok_tithingref21_bits.rets rfl ?_
  repeat' (first
    | (show VcL _ _ _ _ _ _ _ _; first
      | refine VcL.pures tabOk rfl ?_
      | refine VcL.nil ?_
      | (refine VcL.guard rfl rfl rfl rfl (fun h => ?_) (fun h => ?_) <;> first | (with_reducible have hp := of_decide_eq_true h) | (with_reducible have hp := of_decide_eq_false h)))
    | (show Vc _ _ _ _ _ _; first
      | refine Vc.seq ?_
      | refine Vc.region ?_
      | refine Vc.ret ?_)
    | (show KSeq _ _ _ _ _ _ _; refine KSeq.normal ?_)
    | (show KEnd _ _ _ _ _ _ _; refine KEnd.fin (Or.inr rfl) ⟨_, (ResL.tmp rfl ResL.nil), ?_⟩))
  all_goals refine ⟨?_, H⟩
  all_goals (unfold bit3; simp_all [resVal] <;> (intros; omega))
theorem ValidR_any (H : Holds I w L) (r : Rt) : Rets Try.prog F_tithingref21_Valid #[rtV r] w fun u w' => u = .bool (rightsOk r) ∧ Holds I w' L := by
  obtain ⟨x1, x2, x3, x4, x5, x6⟩ := r
  show Rets Try.prog F_tithingref21_Valid #[.agg #[.int .i64 x1, .int .i64 x2, .int .i64 x3, .int .i64 x4, .int .i64 x5, .bool x6]] w _
  refine ok_tithingref21_Valid.rets rfl ?_
  repeat' (first
    | (show VcL _ _ _ _ _ _ _ _; first
      | refine VcL.pures tabOk rfl ?_
      | refine VcL.nil ?_
      | (show VcL _ _ _ _ (⟨_, .load _ _, _, _, _, _⟩ :: _) _ _ _; refine VcL.load1 tabOk rfl rfl rfl rfl rfl (by exact Holds.cell H rfl) ?_)
      | refine VcL.box H rfl rfl rfl rfl rfl (fun b w H => ?_)
      | (show VcL _ _ _ _ (⟨_, .call ⟨.value (.func F_tithingref21_bits), _, _⟩, _, _, _, _⟩ :: _) _ _ _; (refine VcL.callF ok_tithingref21_bits rfl rfl rfl rfl (Rets.mono (bits_any H _) ?_); rintro _ w ⟨rfl, H⟩))
      | (refine VcL.guard rfl rfl rfl rfl (fun h => ?_) (fun h => ?_) <;> first | (cases h; done) | (with_reducible have hp := of_decide_eq_true h) | (with_reducible have hp := of_decide_eq_false h) | skip))
    | (show Vc _ _ _ _ _ _; first
      | refine Vc.seq ?_
      | refine Vc.region ?_
      | refine Vc.ret ?_)
    | (show KSeq _ _ _ _ _ _ _; refine KSeq.normal ?_)
    | (show KEnd _ _ _ _ _ _ _; refine KEnd.fin (Or.inr rfl) ⟨_, (ResL.tmp rfl ResL.nil), ?_⟩))
  all_goals refine ⟨?_, H.drop⟩
  all_goals (unfold rightsOk; simp_all [resVal] <;> (unfold bit3 at *; simp_all <;> (intros; omega)))
/-- The groups of a user; false: there is no such user. -/
def grpS (l : List Us) (user : Int) : Bool × List Int :=
  if user = 0 then (true, []) else if idxF (fun u : Us => decide (u.id = user)) l < 0 then (false, []) else (true, (atD l (idxF (fun u : Us => decide (u.id = user)) l).toNat).grp.2.2)
theorem groups1_any (H : Holds I w L) (u : Us) (user : Int) {c : Nat} (hc : RdW I L c 0 [.int .i64 user]) : Rets Try.prog F_rights_groups_1 (#[] ++ [usV u].toArray ++ #[.pointer (some ⟨c, 0, none⟩)]) w fun r w' => r = .bool (decide (u.id = user)) ∧ Holds I w' L := by
  refine ok_rights_groups_1.rets rfl ?_
  repeat' (first
    | (show VcL _ _ _ _ _ _ _ _; first
      | refine VcL.pures tabOk rfl ?_
      | refine VcL.nil ?_
      | (show VcL _ _ _ _ (⟨_, .load _ _, _, _, _, _⟩ :: _) _ _ _; refine VcL.load1 tabOk rfl rfl rfl rfl rfl (by first | exact Holds.cell H rfl | exact RdW.get0 (by assumption) rfl (Holds.drop H)) ?_)
      | refine VcL.box H rfl rfl rfl rfl rfl (fun b w H => ?_))
    | (show Vc _ _ _ _ _ _; first
      | refine Vc.seq ?_
      | refine Vc.region ?_
      | refine Vc.ret ?_)
    | (show KSeq _ _ _ _ _ _ _; refine KSeq.normal ?_)
    | (show KEnd _ _ _ _ _ _ _; refine KEnd.fin (Or.inr rfl) ⟨_, (ResL.tmp rfl ResL.nil), ?_⟩))
  exact ⟨rfl, H.drop⟩
theorem groups_any (H : Holds I w L) {v : Value} {l : List Us} (hv : SlU I L v l) (hl : l.length ≤ 140737488355328) (hu : ∀ u ∈ l, UsI I u) (user : Int) :
    Rets Try.prog F_rights_groups #[v, .int .i64 user] w fun r w' => ∃ A cap, r = .tuple #[.slice A (grpS l user).2.length cap, .bool (grpS l user).1] ∧ SlI I (.slice A (grpS l user).2.length cap) 1 (grpS l user).2.length ((grpS l user).2.flatMap inC) ∧ (grpS l user).2.length ≤ 140737488355328 ∧ Holds I w' L := by
  obtain ⟨A, cap, rfl, hcap⟩ := hv.form
  by_cases h0 : user = 0
  · subst h0
    refine ok_rights_groups.rets rfl ?_
    repeat' (first
      | (show VcL _ _ _ _ _ _ _ _; first
      | refine VcL.pures tabOk rfl ?_
      | refine VcL.nil ?_
      | (show VcL _ _ _ _ (⟨_, .load _ _, _, _, _, _⟩ :: _) _ _ _; refine VcL.load1 tabOk rfl rfl rfl rfl rfl (by exact Holds.cell H rfl) ?_)
      | refine VcL.box H rfl rfl rfl rfl rfl (fun b w H => ?_))
      | (show Vc _ _ _ _ _ _; first
      | refine Vc.seq ?_
      | refine Vc.region ?_
      | refine Vc.condT rfl ?_
      | refine Vc.ret ?_)
      | (show KSeq _ _ _ _ _ _ _; first
      | refine KSeq.normal ?_
      | refine KSeq.ret ?_)
      | (show KEnd _ _ _ _ _ _ _; refine KEnd.fin (Or.inr rfl) ⟨_, (ResL.tmp rfl (ResL.tmp rfl ResL.nil)), ?_⟩))
    exact ⟨none, 0, rfl, SlI.nil, by show 0 ≤ _; omega, H.drop⟩
  · rcases idxF_cases (fun u : Us => decide (u.id = user)) l with ⟨hi, _⟩ | ⟨k, hk, hi, _⟩
    · have e1 : grpS l user = (false, []) := by unfold grpS; rw [if_neg h0, hi]; rfl
      refine ok_rights_groups.rets rfl ?_
      repeat' (first
        | (show VcL _ _ _ _ _ _ _ _; first
      | refine VcL.pures tabOk rfl ?_
      | refine VcL.nil ?_
      | (show VcL _ _ _ _ (⟨_, .load _ _, _, _, _, _⟩ :: _) _ _ _; refine VcL.load1 tabOk rfl rfl rfl rfl rfl (by exact Holds.cell H rfl) ?_)
      | refine VcL.box H rfl rfl rfl rfl rfl (fun b w H => ?_)
      | (show VcL _ _ _ _ (⟨_, .call ⟨.value (.func F_slices_IndexFunc_api_User_api_User), _, _⟩, _, _, _, _⟩ :: _) _ _ _; (refine VcL.callF ok_slices_IndexFunc_api_User_api_User rfl rfl rfl rfl (Rets.mono (IndexFuncU_any H hv.up hl ok_rights_groups_1 (fun u : Us => decide (u.id = user)) (fun w k hk H => groups1_any H _ user Holds.toW)) ?_); rintro _ w ⟨rfl, H⟩; rw [hi])))
        | (show Vc _ _ _ _ _ _; first
      | refine Vc.seq ?_
      | refine Vc.region ?_
      | refine Vc.condT rfl ?_
      | refine Vc.ret ?_
      | refine Vc.skip ?_
      | (refine Vc.cond rfl (fun h => ?_) (fun h => ?_) <;> first | (exfalso; simp only [decide_eq_true_eq, decide_eq_false_iff_not] at h; omega) | (with_reducible have hp := of_decide_eq_false h)))
        | (show KSeq _ _ _ _ _ _ _; first
      | refine KSeq.normal ?_
      | refine KSeq.ret ?_)
        | (show KEnd _ _ _ _ _ _ _; refine KEnd.fin (Or.inr rfl) ⟨_, (ResL.tmp rfl (ResL.tmp rfl ResL.nil)), ?_⟩))
      rw [e1]
      exact ⟨none, 0, rfl, SlI.nil, by show 0 ≤ _; omega, H.drop⟩
    · have e1 : grpS l user = (true, (atD l k).grp.2.2) := by unfold grpS; rw [if_neg h0, hi]; simp only [Int.toNat_natCast]; rw [if_neg (by omega)]
      obtain ⟨b1, o1, rfl, hr1⟩ := hv.at (by omega)
      have hr1 := (hr1.elem usC_len (atD_get hk))
      have hui := hu _ (atD_mem hk)
      generalize atD l k = u at e1 hr1 hui
      obtain ⟨id, nm, sec, A1, c1, gs⟩ := u
      have hr1 : RdW I L b1 (o1 + k * 4) [.int .i64 id, .string nm, .int .i64 sec, .slice A1 gs.length c1] := hr1
      refine ok_rights_groups.rets rfl ?_
      repeat' (first
        | (show VcL _ _ _ _ _ _ _ _; first
      | refine VcL.pures tabOk rfl ?_
      | refine VcL.nil ?_
      | (show VcL _ _ _ _ (⟨_, .load _ _, _, _, _, _⟩ :: _) _ _ _; refine VcL.load1 tabOk rfl rfl rfl rfl rfl (by first | exact Holds.cell H rfl | exact RdW.get (by assumption) rfl (Holds.drop H)) ?_)
      | (show VcL _ _ _ _ (⟨_, .indexAddr _ _ _, _, _, _, _⟩ :: _) _ _ _; refine VcL.indexAddr tabOk rfl rfl rfl rfl rfl rfl (by omega) (by omega) ?_)
      | refine VcL.box H rfl rfl rfl rfl rfl (fun b w H => ?_)
      | (show VcL _ _ _ _ (⟨_, .call ⟨.value (.func F_slices_IndexFunc_api_User_api_User), _, _⟩, _, _, _, _⟩ :: _) _ _ _; (refine VcL.callF ok_slices_IndexFunc_api_User_api_User rfl rfl rfl rfl (Rets.mono (IndexFuncU_any H hv.up hl ok_rights_groups_1 (fun u : Us => decide (u.id = user)) (fun w k hk H => groups1_any H _ user Holds.toW)) ?_); rintro _ w ⟨rfl, H⟩; rw [hi])))
        | (show Vc _ _ _ _ _ _; first
      | refine Vc.seq ?_
      | refine Vc.region ?_
      | refine Vc.condF rfl ?_
      | refine Vc.ret ?_
      | refine Vc.skip ?_
      | (refine Vc.cond rfl (fun h => ?_) (fun h => ?_) <;> first | (exfalso; simp only [decide_eq_true_eq, decide_eq_false_iff_not] at h; omega) | (with_reducible have hp := of_decide_eq_false h)))
        | (show KSeq _ _ _ _ _ _ _; refine KSeq.normal ?_)
        | (show KEnd _ _ _ _ _ _ _; refine KEnd.fin (Or.inr rfl) ⟨_, (ResL.tmp rfl (ResL.tmp rfl ResL.nil)), ?_⟩))
      rw [e1]
      exact ⟨A1, c1, rfl, hui.grp, hui.len, H.drop⟩
end Go.Proofs.Ytkmbcjpedmlhfaa.V
