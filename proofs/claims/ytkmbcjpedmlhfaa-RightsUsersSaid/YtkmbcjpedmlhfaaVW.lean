/- Rights: users, and blank rights. -/
import Derived.Test.YtkmbcjpedmlhfaaVT
namespace Go.Proofs.Ytkmbcjpedmlhfaa.V
open Go Go.Proofs.YtkmbcjpedmlhfaaV
set_option linter.unusedVariables false
set_option linter.unusedSimpArgs false
set_option maxHeartbeats 1000000
attribute [local irreducible] IntKind.wrap
variable {I : Imm} {w : World} {L : List Asn}
abbrev bareU (id : Int) (name : ByteArray) (sec : Int) : Us := ⟨id, name, sec, none, 0, []⟩
abbrev aS : ByteArray := ⟨#[97]⟩
theorem bare_all {id : Int} {name : ByteArray} {sec : Int} (h : name.size ≤ 140737488355328) : ∀ x ∈ [bareU id name sec], UsI I x := fun x hx => by
  rw [List.mem_singleton] at hx
  subst hx
  exact ⟨SlI.nil, h, by show 0 ≤ _; omega⟩
abbrev ownU (v : Value) (l : List Us) : Asn := own v 37 4 l.length (l.flatMap usC)
theorem has_one : hasV [bareU 1 aS 0] 1 ⟨1, 0, 7, 0, 4, false⟩ = .tuple #[.int .i64 7, .int .i64 0] := by
  have h : hasV [bareU 1 aS 0] 1 ⟨1, 0, 7, 0, 4, false⟩ = .tuple #[.int .i64 7, .int .i64 0] := by kernel_rfl
  exact h
theorem has_zero : hasV [bareU 1 aS 0] 0 ⟨1, 0, 7, 0, 4, false⟩ = .tuple #[.int .i64 4, .int .i64 0] := by kernel_rfl
theorem First_any (H : Holds I w L) : Rets Try.prog F_tithinglaw21_First #[] w fun u w' => u = .bool true ∧ Holds I w' L := by
  refine ok_tithinglaw21_First.rets rfl ?_
  repeat' (first
    | (show VcL _ _ _ _ _ _ _ _; first
      | refine VcL.pures tabOk rfl ?_
      | refine VcL.nil ?_
      | (show VcL _ _ _ _ (⟨_, .load _ _, _, _, _, _⟩ :: _) _ _ _; refine VcL.loadN tabOk rfl rfl rfl rfl rfl rfl (by exact H) (by exact rfl) ?_)
      | refine VcL.alloc tabOk H rfl rfl rfl rfl (fun b w H => ?_)
      | refine VcL.buildSlice tabOk H rfl rfl rfl rfl rfl rfl (fun sv w H => ?_)
      | (show VcL _ _ _ _ (⟨_, .store _ _ _, _, _, _, _⟩ :: _) _ _ _; refine VcL.store tabOk rfl (by exact H) rfl rfl (by exact rfl) (by exact rfl) (by exact rfl) (by exact rfl) (fun w H => ?_)))
    | (show Vc _ _ _ _ _ _; first
      | refine Vc.seq ?_
      | refine Vc.region ?_)
    | (show KSeq _ _ _ _ _ _ _; refine KSeq.normal ?_))
  have H : Holds I w (blk b 24 [.int .i64 1, .int .i64 0, .int .i64 7, .int .i64 0, .int .i64 4, .bool false] :: ownU sv [bareU 1 aS 0] :: L) := H
  have hvv : SlR I (blk b 24 [.int .i64 1, .int .i64 0, .int .i64 7, .int .i64 0, .int .i64 4, .bool false] :: ownU sv [bareU 1 aS 0] :: L) sv 4 1 ([bareU 1 aS 0].flatMap usC) := (Holds.own_toR H.drop).up
  repeat' (first
    | (show VcL _ _ _ _ _ _ _ _; first
      | refine VcL.pures tabOk rfl ?_
      | refine VcL.nil ?_
      | (show VcL _ _ _ _ (⟨_, .load _ _, _, _, _, _⟩ :: _) _ _ _; refine VcL.loadN tabOk rfl rfl rfl rfl rfl rfl (by exact H) (by exact rfl) ?_)
      | (show VcL _ _ _ _ (⟨_, .call ⟨.value (.func F_rights_Has), _, _⟩, _, _, _, _⟩ :: _) _ _ _; (refine VcL.callF ok_rights_Has rfl rfl rfl rfl (Rets.mono (Has_any H (l := [bareU 1 aS 0]) hvv (by decide) (bare_all (by decide)) 1 ⟨1, 0, 7, 0, 4, false⟩) ?_); rintro _ w ⟨hr, H⟩; rw [has_one] at hr; subst hr))
      | (show VcL _ _ _ _ (⟨_, .call ⟨.value (.func F_rights_Has), _, _⟩, _, _, _, _⟩ :: _) _ _ _; (refine VcL.callF ok_rights_Has rfl rfl rfl rfl (Rets.mono (Has_any H (l := [bareU 1 aS 0]) hvv (by decide) (bare_all (by decide)) 0 ⟨1, 0, 7, 0, 4, false⟩) ?_); rintro _ w ⟨hr, H⟩; rw [has_zero] at hr; subst hr))
      | (refine VcL.guard rfl rfl rfl rfl (fun h => ?_) (fun h => ?_) <;> first | (cases h; done) | (with_reducible have hp := of_decide_eq_true h)))
    | (show Vc _ _ _ _ _ _; first
      | refine Vc.seq ?_
      | refine Vc.region ?_
      | refine Vc.ret ?_)
    | (show KSeq _ _ _ _ _ _ _; refine KSeq.normal ?_)
    | (show KEnd _ _ _ _ _ _ _; refine KEnd.fin (Or.inr rfl) ⟨_, (ResL.tmp rfl ResL.nil), ?_⟩))
  all_goals exact ⟨rfl, H.drop.drop⟩
def fewS (l : List Us) (n : Nat) : Bool := (l.all fun u => decide (u.grp.2.2.length ≤ 40)) && decide (l.length ≤ 60) && decide (n ≤ 100)
theorem few_any (H : Holds I w L) {v : Value} {l : List Us} {A2 : Option Addr} {n cap2 : Nat} (hv : SlU I L v l) (hl : l.length ≤ 140737488355328) :
    Rets Try.prog F_tithinglaw21_few #[v, .slice A2 n cap2] w fun u w' => u = .bool (fewS l n) ∧ Holds I w' L := by
  obtain ⟨A, cap, rfl, hcap⟩ := hv.form
  refine ok_tithinglaw21_few.rets rfl ?_
  repeat' (first
    | (show VcL _ _ _ _ _ _ _ _; first
      | refine VcL.pures tabOk rfl ?_
      | refine VcL.nil ?_)
    | (show Vc _ _ _ _ _ _; first
      | refine Vc.seq ?_
      | refine Vc.region ?_
      | refine Vc.block ?_)
    | (show KSeq _ _ _ _ _ _ _; refine KSeq.normal ?_))
  refine Vc.loopS [(0, _), (1, _)] (fun i : Nat => [(5, .int .i64 i)]) (fun i w => Holds I w L ∧ i ≤ l.length ∧ (l.take i).all (fun u => decide (u.grp.2.2.length ≤ 40)) = true) (fun i _ => l.length - i) 0 ⟨rfl, trivial⟩ ⟨rfl, rfl, trivial⟩ ⟨H, Nat.zero_le _, by simp⟩ ?_
  rintro i w ⟨H, hi, hall⟩
  by_cases hlt : i < l.length
  · obtain ⟨b1, o1, rfl, hr1⟩ := hv.at (by omega)
    have hr1 := hr1.elem usC_len (atD_get hlt)
    have ht := all_take (p := fun u : Us => decide (u.grp.2.2.length ≤ 40)) hlt
    rw [hall, Bool.true_and] at ht
    obtain ⟨u, hue⟩ : ∃ u, atD l i = u := ⟨_, rfl⟩
    have hmem := atD_mem hlt
    rw [hue] at hr1 ht hmem
    obtain ⟨id, name, sec, A1, c1, gs⟩ := u
    have hr1 : RdW I L b1 (o1 + i * 4) [.int .i64 id, .string name, .int .i64 sec, .slice A1 gs.length c1] := hr1
    have ht : (l.take (i + 1)).all (fun u => decide (u.grp.2.2.length ≤ 40)) = decide (gs.length ≤ 40) := ht
    repeat' (first
      | (show VcL _ _ _ _ _ _ _ _; first
      | refine VcL.pures tabOk rfl ?_
      | refine VcL.nil ?_
      | (show VcL _ _ _ _ (⟨_, .load _ _, _, _, _, _⟩ :: _) _ _ _; refine VcL.load1 tabOk rfl rfl rfl rfl rfl (by exact RdW.get (by assumption) rfl H) ?_)
      | (show VcL _ _ _ _ (⟨_, .indexAddr _ _ _, _, _, _, _⟩ :: _) _ _ _; refine VcL.indexAddr tabOk rfl rfl rfl rfl rfl rfl (by omega) (by omega) ?_))
      | (show Vc _ _ _ _ _ _; first
      | refine Vc.seq ?_
      | refine Vc.region ?_
      | refine Vc.ret ?_
      | refine Vc.skip ?_
      | refine Vc.block ?_
      | (refine Vc.cond rfl (fun h => ?_) (fun h => ?_) <;> first | (exfalso; simp only [decide_eq_true_eq, decide_eq_false_iff_not] at h; omega) | (with_reducible have hp := of_decide_eq_true h) | (with_reducible have hp := of_decide_eq_false h)))
      | (show KSeq _ _ _ _ _ _ _; first
      | refine KSeq.normal ?_
      | refine KSeq.ret ?_)
      | (show KBlock _ _ _ _ _ _; first
      | refine KBlock.normal ?_
      | refine KBlock.ret ?_)
      | refine KLoop.ret ?_
      | (show KEnd _ _ _ _ _ _ _; refine KEnd.fin (Or.inr rfl) ⟨_, (ResL.tmp rfl ResL.nil), ?_⟩))
    · have hb : (l.all fun u => decide (u.grp.2.2.length ≤ 40)) = false := List.all_eq_false.2 ⟨_, hmem, by show ¬ decide (gs.length ≤ 40) = true; simp only [decide_eq_true_eq]; omega⟩
      refine ⟨?_, H⟩
      unfold fewS
      rw [hb]
      rfl
    exact KLoop.again (i + 1) ⟨got_succ rfl (by omega), trivial⟩ ⟨rfl, rfl, trivial⟩ ⟨H, hlt, by rw [ht]; simp only [decide_eq_true_eq]; omega⟩ (by omega)
  · obtain rfl : i = l.length := by omega
    rw [List.take_length] at hall
    repeat' (first
      | (show VcL _ _ _ _ _ _ _ _; first
      | refine VcL.pures tabOk rfl ?_
      | refine VcL.nil ?_
      | (refine VcL.guard rfl rfl rfl rfl (fun h => ?_) (fun h => ?_) <;> first | (with_reducible have hp := of_decide_eq_true h) | (with_reducible have hp := of_decide_eq_false h)))
      | (show Vc _ _ _ _ _ _; first
      | refine Vc.seq ?_
      | refine Vc.region ?_
      | refine Vc.ret ?_
      | refine Vc.exit ?_
      | (refine Vc.cond rfl (fun h => ?_) (fun h => ?_) <;> first | (exfalso; simp only [decide_eq_true_eq, decide_eq_false_iff_not] at h; omega) | (with_reducible have hp := of_decide_eq_false h)))
      | (show KSeq _ _ _ _ _ _ _; first
      | refine KSeq.normal ?_
      | refine KSeq.exit ?_)
      | (show KBlock _ _ _ _ _ _; refine KBlock.here ?_)
      | refine KLoop.exit ?_
      | (show KEnd _ _ _ _ _ _ _; refine KEnd.fin (Or.inr rfl) ⟨_, (ResL.tmp rfl ResL.nil), ?_⟩))
    all_goals refine ⟨?_, H⟩
    · unfold fewS
      rw [hall]
      have e1 : decide (l.length ≤ 60) = true := decide_eq_true (by omega)
      rw [e1]
      exact congrArg Value.bool (decide_eq_decide.2 (by omega))
    · unfold fewS
      rw [hall]
      have e1 : decide (l.length ≤ 60) = false := decide_eq_false (by omega)
      rw [e1]
      rfl
def toB (r : Rt) : Rt := ⟨r.owner, r.group, r.fo, r.fg, r.fa, true⟩
theorem toB_ok (r : Rt) : rightsOk (toB r) = rightsOk r := rfl
theorem way_blank (way : List Rt) : wayOk (way.map toB) = wayOk way := by
  unfold wayOk
  rw [List.length_map, List.any_map]
  rfl
theorem way_more {way : List Rt} {y : Rt} (h : wayOk way = true) (hl : way.length ≤ 50) (hy : rightsOk y = true) : wayOk (way ++ [y]) = true := by
  unfold wayOk at h ⊢
  simp only [Bool.and_eq_true, decide_eq_true_eq] at h ⊢
  rw [List.length_append, List.any_append]
  refine ⟨⟨by omega, by simp; omega⟩, ?_⟩
  have h2 := h.2
  rw [Bool.not_eq_true'] at h2 ⊢
  rw [h2]
  simp [hy]
theorem effS_blank {l : List Rt} (h : ∀ x ∈ l, x.blank = true) : effS l = fullR := by
  unfold effS
  rw [List.find?_eq_none.2]
  · rfl
  · intro x hx
    rw [h x (List.mem_reverse.1 hx)]
    decide
theorem effS_more {l : List Rt} {y : Rt} (h : y.blank = true) : effS (l ++ [y]) = effS l := by
  unfold effS
  rw [List.reverse_append]
  simp [h]
theorem effS_mem (l : List Rt) : effS l = fullR ∨ effS l ∈ l := by
  unfold effS
  cases h : l.reverse.find? (fun r => !r.blank) with
  | none => exact .inl rfl
  | some r => exact .inr (List.mem_reverse.1 (List.mem_of_find?_eq_some h))
theorem or_fin : ∀ a b : Fin 8, 0 ≤ orI (a.val : Int) (b.val : Int) ∧ orI (a.val : Int) (b.val : Int) ≤ 7 := by decide +kernel
theorem or_le {a b : Int} (ha : bit3 a = true) (hb : bit3 b = true) : bit3 (orI a b) = true := by
  unfold bit3 at ha hb ⊢
  simp only [Bool.and_eq_true, decide_eq_true_eq] at ha hb ⊢
  obtain ⟨n, rfl⟩ := Int.eq_ofNat_of_zero_le ha.1
  obtain ⟨m, rfl⟩ := Int.eq_ofNat_of_zero_le hb.1
  exact or_fin ⟨n, by omega⟩ ⟨m, by omega⟩
def and4 (a : Int) : Bool := decide (IntKind.i64.wrap ((BitVec.ofInt IntKind.i64.bits a &&& BitVec.ofInt IntKind.i64.bits 4).toNat : Int) = 0)
theorem and_fin : ∀ a : Fin 8, and4 (a.val : Int) = decide (Int.tdiv (a.val : Int) 4 = 0) := by decide +kernel
theorem and_eq {a : Int} (ha : bit3 a = true) : and4 a = decide (Int.tdiv a 4 = 0) := by
  unfold bit3 at ha
  simp only [Bool.and_eq_true, decide_eq_true_eq] at ha
  obtain ⟨n, rfl⟩ := Int.eq_ofNat_of_zero_le ha.1
  exact and_fin ⟨n, by omega⟩
theorem has_bits {l : List Us} {user : Int} {r : Rt} (h : rightsOk r = true) : bit3 (hasS l user r) = true := by
  unfold rightsOk at h
  simp only [Bool.and_eq_true] at h
  unfold hasS
  dsimp only
  split <;> split
  · exact or_le (or_le h.2 h.1.1.2) h.1.2
  · exact or_le h.2 h.1.2
  · exact or_le h.2 h.1.1.2
  · exact h.2
theorem eff_ok {way : List Rt} (h : wayOk way = true) : rightsOk (effS way) = true := by
  rcases effS_mem way with h1 | h1
  · rw [h1]; rfl
  · unfold wayOk at h
    simp only [Bool.and_eq_true, Bool.not_eq_true', List.any_eq_false] at h
    simpa using h.2 _ h1
theorem has_full (l : List Us) (user : Int) : hasS l user fullR = 7 := by
  have h : orI 7 7 = 7 := by kernel_rfl
  unfold hasS
  dsimp only
  rw [if_pos (Or.inl rfl), h]
  split
  · exact h
  · rfl
theorem at_eq (l : List Us) (user : Int) (way : List Rt) : atS l user way = if (List.range way.length).any (fun n => decide (1 ≤ n) && and4 (hasS l user (effS (way.take n)))) then 0 else hasS l user (effS way) := rfl
theorem at_blank {l : List Us} {user : Int} {way : List Rt} : atS l user (way.map toB) = 7 := by
  have hb : ∀ n, effS ((way.map toB).take n) = fullR := fun n => effS_blank fun x hx => by
    obtain ⟨y, _, rfl⟩ := List.mem_map.1 (List.mem_of_mem_take hx)
    rfl
  have h4 : and4 7 = false := by kernel_rfl
  rw [at_eq, if_neg]
  · have := hb way.length
    rw [List.take_of_length_le (by simp)] at this
    rw [this, has_full]
  · rw [Bool.not_eq_true, List.any_eq_false]
    intro n _
    rw [hb, has_full, h4]
    simp
theorem at_more {l : List Us} {user : Int} {way : List Rt} {y : Rt} (hw : wayOk way = true) (hy : y.blank = true) :
    atS l user (way ++ [y]) = if Int.tdiv (atS l user way) 4 = 0 then 0 else atS l user way := by
  have hlen := way_len hw
  have h3 := has_bits (l := l) (user := user) (eff_ok hw)
  have ht : ∀ n, n < way.length → (way ++ [y]).take n = way.take n := fun n hn => List.take_append_of_le_length (by omega)
  have hany : (List.range (way ++ [y]).length).any (fun n => decide (1 ≤ n) && and4 (hasS l user (effS ((way ++ [y]).take n)))) =
      ((List.range way.length).any (fun n => decide (1 ≤ n) && and4 (hasS l user (effS (way.take n)))) || and4 (hasS l user (effS way))) := by
    rw [List.length_append, List.length_singleton, List.range_succ, List.any_append]
    congr 1
    · apply Bool.eq_iff_iff.2
      rw [List.any_eq_true, List.any_eq_true]
      refine exists_congr fun n => and_congr_right fun hn => ?_
      rw [ht n (List.mem_range.1 hn)]
    · simp only [List.any_cons, List.any_nil, Bool.or_false]
      rw [List.take_left, decide_eq_true hlen.1, Bool.true_and]
  rw [at_eq l user (way ++ [y]), hany, effS_more hy]
  rw [at_eq l user way]
  cases ha : (List.range way.length).any (fun n => decide (1 ≤ n) && and4 (hasS l user (effS (way.take n)))) with
  | true => rfl
  | false =>
    rw [Bool.false_or, and_eq h3]
    simp only [decide_eq_true_eq]
    rfl
end Go.Proofs.Ytkmbcjpedmlhfaa.V
