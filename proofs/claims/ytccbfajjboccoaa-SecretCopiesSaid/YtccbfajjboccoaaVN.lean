/- A play: a door, its reference, the numbers. -/
import Derived.Test.YtccbfajjboccoaaVM
namespace Go.Proofs.Ytccbfajjboccoaa.V
open Go Go.Proofs.YtccbfajjboccoaaV
set_option linter.unusedVariables false
set_option linter.unusedSimpArgs false
set_option maxHeartbeats 1000000
attribute [local irreducible] IntKind.wrap
variable {I : Imm} {w : World} {L : List Asn}
theorem map_atD {l k : List Us} (h : l.map usK = k.map usK) {i : Nat} (hi : i < l.length) : usK (atD l i) = usK (atD k i) := by
  have hlen : l.length = k.length := by simpa using congrArg List.length h
  have h1 : (l.map usK)[i]? = (k.map usK)[i]? := by rw [h]
  rw [List.getElem?_map, List.getElem?_map, atD_get hi, atD_get (hlen ▸ hi)] at h1
  simpa using h1
theorem SameUsers_any (H : Holds I w L) {u v : Value} {l k : List Us} (hu : UsersI I u l) (hv : UsersI I v k) (hsm : l.map usK = k.map usK) (hl : l.length ≤ 20) :
    Rets Try.prog F_tithingref24_SameUsers #[u, v] w fun r w' => r = .bool true ∧ Holds I w' L := by
  have hlen : l.length = k.length := by simpa using congrArg List.length hsm
  have hru : SlR I L u 4 l.length (l.flatMap usC) := hu.sl.toR
  have hrv : SlR I L v 4 l.length (k.flatMap usC) := hlen ▸ hv.sl.toR
  obtain ⟨A, cap, rfl, hcap⟩ := hru.form
  obtain ⟨A', cap', rfl, hcap'⟩ := hrv.form
  refine ok_tithingref24_SameUsers.rets rfl ?_
  repeat' (first
    | (show VcL _ _ _ _ _ _ _ _; first
      | refine VcL.pures tabOk rfl ?_
      | refine VcL.nil ?_)
    | (show Vc _ _ _ _ _ _; first
      | refine Vc.seq ?_
      | refine Vc.region ?_
      | refine Vc.ret ?_
      | refine Vc.skip ?_
      | refine Vc.block ?_
      | (refine Vc.cond rfl (fun h => ?_) (fun h => ?_) <;> first | (with_reducible have hp := ndec_t h) | (with_reducible have hp := ndec_f h)))
    | (show KSeq _ _ _ _ _ _ _; first
      | refine KSeq.normal ?_
      | refine KSeq.ret ?_)
    | (show KEnd _ _ _ _ _ _; refine KEnd.mk (Or.inr rfl) ⟨_, (ResL.tmp rfl ResL.nil), ?_⟩))
  · exfalso; exact hp rfl
  refine Vc.loopS [(0, _), (1, _)] (fun i : Nat => [(5, .int .i64 i)]) (fun i w => Holds I w L ∧ i ≤ l.length) (fun i _ => l.length - i) 0 ⟨rfl, trivial⟩ ⟨rfl, rfl, trivial⟩ ⟨H, Nat.zero_le _⟩ ?_
  rintro i w ⟨H, hi⟩
  by_cases hlt : i < l.length
  · have hk := usK_eq (map_atD hsm hlt)
    have h1 := hu.ok _ (atD_mem hlt)
    have h2 := hv.ok _ (atD_mem (hlen ▸ hlt))
    obtain ⟨b1, o1, rfl, hr1⟩ := hru.at (by omega)
    obtain ⟨b2, o2, rfl, hr2⟩ := hrv.at (by omega)
    have hr1 := hr1.elem usC_len (atD_get hlt)
    have hr2 := hr2.elem usC_len (atD_get (hlen ▸ hlt))
    generalize atD l i = x at hk h1 hr1
    generalize atD k i = y at hk h2 hr2
    obtain ⟨id, name, sec, A1, c1, gs⟩ := x
    obtain ⟨id2, name2, sec2, A2, c2, gs2⟩ := y
    obtain ⟨rfl, rfl, rfl, hgs⟩ := hk
    obtain rfl : gs = gs2 := hgs
    have hg1 : SlR I L (.slice A1 gs.length c1) 1 gs.length (gs.flatMap inC) := h1.grp.toR
    have hg2 : SlR I L (.slice A2 gs.length c2) 1 gs.length (gs.flatMap inC) := h2.grp.toR
    have hr1 : RdW I L b1 (o1 + i * 4) [.int .i64 id, .string name, .int .i64 sec, .slice A1 gs.length c1] := hr1
    have hr2 : RdW I L b2 (o2 + i * 4) [.int .i64 id, .string name, .int .i64 sec, .slice A2 gs.length c2] := hr2
    have hgl : gs.length ≤ 140737488355328 := h1.len
    repeat' (first
      | (show VcL _ _ _ _ _ _ _ _; first
      | refine VcL.pures tabOk rfl ?_
      | refine VcL.nil ?_)
      | (show VcD _ _ _ _ _ _ _ _ _; first
      | refine VcD.pures tabOk rfl ?_
      | refine VcD.done ?_
      | (show VcD _ _ _ _ _ (.pure _ _) _ _ _; first
      | refine VcD.indexAddr tabOk rfl rfl rfl rfl rfl rfl rfl (by omega) (by omega) ?_
      | (refine VcD.guardP rfl rfl rfl rfl rfl (fun h => ?_) (fun h => ?_) <;> first | (cases h; done) | (exfalso; simp only [decide_eq_true_eq, decide_eq_false_iff_not] at h; omega) | (with_reducible have hp := ndec_t h) | (with_reducible have hp := ndec_f h) | skip))
      | (show VcD _ _ _ _ _ (.take _ _) _ _ _; first
      | refine VcD.load1 tabOk rfl rfl rfl rfl rfl rfl (by intro w_ hw_; first | exact RdW.get (by assumption) rfl hw_ | exact RdW.get0 (by assumption) rfl hw_) (by exact rfl) ?_
      | refine VcD.skipT rfl rfl rfl ?_))
      | (show Vc _ _ _ _ _ _; first
      | refine Vc.seq ?_
      | refine Vc.region ?_
      | refine Vc.condT rfl ?_
      | refine Vc.ret ?_
      | refine Vc.skip ?_
      | refine Vc.block ?_
      | refine Vc.drawnH (id := 6) H (.pure 0 (.pure 1 (.pure 5 (.pure 6 (.pure 2 (.pure 3 (.take 4 (.pure 7 (.pure 8 (.take 9 (.pure 10 (.pure 11 (.pure 12 (.pure 13 (.pure 17 (.pure 18 (.pure 14 (.pure 15 (.take 16 (.pure 19 (.pure 20 (.take 21 (.pure 22 (.pure 23 (.pure 24 (.pure 25 (.pure 26 (.pure 30 (.pure 31 (.pure 27 (.pure 28 (.take 29 (.pure 32 (.pure 33 (.take 34 (.pure 35 (.pure 36 (.pure 37 (.pure 38 (.pure 39 (.pure 44 (.pure 45 (.pure 40 (.pure 41 (.take 42 (.pure 43 (.pure 46 (.pure 47 (.take 48 (.pure 49 (.pure 50 (.pure 51 .done)))))))))))))))))))))))))))))))))))))))))))))))))))) mixed (by kernel_rfl) (fun w H => ?_)
      | (refine Vc.cond rfl (fun h => ?_) (fun h => ?_) <;> first | (exfalso; simp only [decide_eq_true_eq, decide_eq_false_iff_not] at h; omega) | (with_reducible have hp := of_decide_eq_true h) | (with_reducible have hp := ndec_t h) | (with_reducible have hp := ndec_f h)))
      | (show KSeq _ _ _ _ _ _ _; first
      | refine KSeq.normal ?_
      | refine KSeq.ret ?_)
      | (show KBlock _ _ _ _ _; refine KBlock.ret ?_)
      | refine KLoop.ret ?_
      | (show KEnd _ _ _ _ _ _; refine KEnd.mk (Or.inr rfl) ⟨_, (ResL.tmp rfl ResL.nil), ?_⟩))
    · exfalso; clear hru hrv hg1 hg2 hr1 hr2; simp_all
    · exfalso; exact hp rfl
    · exfalso; exact hp rfl
    refine Vc.loopS [(0, _), (1, _), (5, _)] (fun j : Nat => [(6, .int .i64 j)]) (fun j w => Holds I w L ∧ j ≤ gs.length) (fun j _ => gs.length - j) 0 ⟨rfl, trivial⟩ ⟨rfl, rfl, rfl, trivial⟩ ⟨H, Nat.zero_le _⟩ ?_
    rintro j w ⟨H, hj⟩
    by_cases hjt : j < gs.length
    · obtain ⟨b3, o3, rfl, hr3⟩ := hg1.at (by omega)
      obtain ⟨b4, o4, rfl, hr4⟩ := hg2.at (by omega)
      have hr3 := hr3.elem inC_len (atD_get hjt)
      have hr4 := hr4.elem inC_len (atD_get hjt)
      repeat' (first
        | (show VcL _ _ _ _ _ _ _ _; first
      | refine VcL.pures tabOk rfl ?_
      | refine VcL.nil ?_
      | (show VcL _ _ _ _ (⟨_, .load _ _, _, _, _, _⟩ :: _) _ _ _; refine VcL.load1 tabOk rfl rfl rfl rfl rfl (by exact RdW.get (by assumption) rfl H) ?_)
      | (show VcL _ _ _ _ (⟨_, .indexAddr _ _ _, _, _, _, _⟩ :: _) _ _ _; refine VcL.indexAddr tabOk rfl rfl rfl rfl rfl rfl (by omega) (by omega) ?_))
        | (show VcD _ _ _ _ _ _ _ _ _; first
      | refine VcD.pures tabOk rfl ?_
      | refine VcD.done ?_
      | (show VcD _ _ _ _ _ (.pure _ _) _ _ _; refine VcD.indexAddr tabOk rfl rfl rfl rfl rfl rfl rfl (by omega) (by omega) ?_)
      | (show VcD _ _ _ _ _ (.take _ _) _ _ _; refine VcD.load1 tabOk rfl rfl rfl rfl rfl rfl (by intro w_ hw_; first | exact RdW.get (by assumption) rfl hw_ | exact RdW.get0 (by assumption) rfl hw_) (by exact rfl) ?_))
        | (show Vc _ _ _ _ _ _; first
      | refine Vc.seq ?_
      | refine Vc.region ?_
      | refine Vc.ret ?_
      | refine Vc.skip ?_
      | refine Vc.block ?_
      | refine Vc.drawnH (id := 11) H (.pure 0 (.pure 1 (.pure 5 (.pure 8 (.pure 9 (.pure 13 (.pure 2 (.pure 3 (.take 4 (.pure 6 (.take 7 (.pure 10 (.pure 11 (.take 12 (.pure 14 (.take 15 (.pure 16 .done))))))))))))))))) mixed (by kernel_rfl) (fun w H => ?_)
      | (refine Vc.cond rfl (fun h => ?_) (fun h => ?_) <;> first | (exfalso; simp only [decide_eq_true_eq, decide_eq_false_iff_not] at h; omega) | (with_reducible have hp := of_decide_eq_true h) | (with_reducible have hp := ndec_t h) | (with_reducible have hp := ndec_f h)))
        | (show KSeq _ _ _ _ _ _ _; first
      | refine KSeq.normal ?_
      | refine KSeq.ret ?_)
        | (show KBlock _ _ _ _ _; first
      | refine KBlock.normal ?_
      | refine KBlock.ret ?_)
        | refine KLoop.ret ?_
        | (show KEnd _ _ _ _ _ _; refine KEnd.mk (Or.inr rfl) ⟨_, (ResL.tmp rfl ResL.nil), ?_⟩))
      · exfalso; exact hp rfl
      exact KLoop.again (j + 1) ⟨got_succ rfl (by omega), trivial⟩ ⟨rfl, rfl, rfl, trivial⟩ ⟨H, hjt⟩ (by omega)
    ·
      repeat' (first
        | (show VcL _ _ _ _ _ _ _ _; first
      | refine VcL.pures tabOk rfl ?_
      | refine VcL.nil ?_
      | (show VcL _ _ _ _ (⟨_, .load _ _, _, _, _, _⟩ :: _) _ _ _; refine VcL.load1 tabOk rfl rfl rfl rfl rfl (by exact RdW.get (by assumption) rfl H) ?_)
      | (show VcL _ _ _ _ (⟨_, .indexAddr _ _ _, _, _, _, _⟩ :: _) _ _ _; refine VcL.indexAddr tabOk rfl rfl rfl rfl rfl rfl (by omega) (by omega) ?_))
        | (show Vc _ _ _ _ _ _; first
      | refine Vc.seq ?_
      | refine Vc.region ?_
      | refine Vc.exit ?_
      | (refine Vc.cond rfl (fun h => ?_) (fun h => ?_) <;> first | (exfalso; simp only [decide_eq_true_eq, decide_eq_false_iff_not] at h; omega) | (with_reducible have hp := of_decide_eq_false h)))
        | (show KSeq _ _ _ _ _ _ _; first
      | refine KSeq.normal ?_
      | refine KSeq.exit ?_)
        | (show KBlock _ _ _ _ _; first
      | refine KBlock.normal ?_
      | refine KBlock.here ?_)
        | refine KLoop.exit ?_)
      exact KLoop.again (i + 1) ⟨got_succ rfl (by omega), trivial⟩ ⟨rfl, rfl, trivial⟩ ⟨H, hlt⟩ (by omega)
  ·
    repeat' (first
      | (show VcL _ _ _ _ _ _ _ _; first
      | refine VcL.pures tabOk rfl ?_
      | refine VcL.nil ?_)
      | (show Vc _ _ _ _ _ _; first
      | refine Vc.seq ?_
      | refine Vc.region ?_
      | refine Vc.ret ?_
      | refine Vc.exit ?_
      | (refine Vc.cond rfl (fun h => ?_) (fun h => ?_) <;> first | (exfalso; simp only [decide_eq_true_eq, decide_eq_false_iff_not] at h; omega) | (with_reducible have hp := of_decide_eq_false h)))
      | (show KSeq _ _ _ _ _ _ _; first
      | refine KSeq.normal ?_
      | refine KSeq.exit ?_)
      | (show KBlock _ _ _ _ _; refine KBlock.here ?_)
      | refine KLoop.exit ?_
      | (show KEnd _ _ _ _ _ _; refine KEnd.mk (Or.inr rfl) ⟨_, (ResL.tmp rfl ResL.nil), ?_⟩))
    exact ⟨rfl, H⟩
def bigU (u : Us) : Bool := decide (100 < u.name.size) || decide (40 < u.grp.2.2.length)
theorem LongUsers_any (H : Holds I w L) {v : Value} {l : List Us} (hv : SlU I L v l) (hl : l.length ≤ 140737488355328) :
    Rets Try.prog F_tithinglaw24_LongUsers #[v] w fun r w' => r = .bool (l.any bigU || decide (40 < l.length)) ∧ Holds I w' L := by
  obtain ⟨A, cap, rfl, hcap⟩ := hv.form
  refine ok_tithinglaw24_LongUsers.rets rfl ?_
  repeat' (first
    | (show VcL _ _ _ _ _ _ _ _; first
      | refine VcL.pures tabOk rfl ?_
      | refine VcL.nil ?_)
    | (show Vc _ _ _ _ _ _; first
      | refine Vc.seq ?_
      | refine Vc.region ?_
      | refine Vc.block ?_)
    | (show KSeq _ _ _ _ _ _ _; refine KSeq.normal ?_))
  refine Vc.loopS [(0, _)] (fun i : Nat => [(3, .int .i64 i)]) (fun i w => Holds I w L ∧ i ≤ l.length ∧ (l.take i).any bigU = false) (fun i _ => l.length - i) 0 ⟨rfl, trivial⟩ ⟨rfl, trivial⟩ ⟨H, Nat.zero_le _, by simp⟩ ?_
  rintro i w ⟨H, hi, hall⟩
  by_cases hlt : i < l.length
  · obtain ⟨b1, o1, rfl, hr1⟩ := hv.at (by omega)
    have hr1 := hr1.elem usC_len (atD_get hlt)
    have ht := any_take (p := bigU) hlt
    rw [hall, Bool.false_or] at ht
    obtain ⟨u, hue⟩ : ∃ u, atD l i = u := ⟨_, rfl⟩
    have hmem := atD_mem hlt
    rw [hue] at hr1 ht hmem
    obtain ⟨id, name, sec, A1, c1, gs⟩ := u
    have hr1 : RdW I L b1 (o1 + i * 4) [.int .i64 id, .string name, .int .i64 sec, .slice A1 gs.length c1] := hr1
    have ht : (l.take (i + 1)).any bigU = (decide (100 < name.size) || decide (40 < gs.length)) := ht
    repeat' (first
      | (show VcL _ _ _ _ _ _ _ _; first
      | refine VcL.pures tabOk rfl ?_
      | refine VcL.nil ?_
      | (show VcL _ _ _ _ (⟨_, .load _ _, _, _, _, _⟩ :: _) _ _ _; refine VcL.load1 tabOk rfl rfl rfl rfl rfl (by exact RdW.get (by assumption) rfl H) ?_)
      | (show VcL _ _ _ _ (⟨_, .indexAddr _ _ _, _, _, _, _⟩ :: _) _ _ _; refine VcL.indexAddr tabOk rfl rfl rfl rfl rfl rfl (by omega) (by omega) ?_)
      | (refine VcL.guard rfl rfl rfl rfl (fun h => ?_) (fun h => ?_) <;> first | (with_reducible have hp := of_decide_eq_true h) | (with_reducible have hp := of_decide_eq_false h)))
      | (show Vc _ _ _ _ _ _; first
      | refine Vc.seq ?_
      | refine Vc.region ?_
      | refine Vc.condT rfl ?_
      | refine Vc.ret ?_
      | refine Vc.skip ?_
      | refine Vc.block ?_
      | (refine Vc.cond rfl (fun h => ?_) (fun h => ?_) <;> first | (exfalso; simp only [decide_eq_true_eq, decide_eq_false_iff_not] at h; omega) | (with_reducible have hp := of_decide_eq_true h) | (with_reducible have hp := of_decide_eq_false h)))
      | (show KSeq _ _ _ _ _ _ _; first
      | refine KSeq.normal ?_
      | refine KSeq.ret ?_)
      | (show KBlock _ _ _ _ _; first
      | refine KBlock.normal ?_
      | refine KBlock.ret ?_)
      | refine KLoop.ret ?_
      | (show KEnd _ _ _ _ _ _; refine KEnd.mk (Or.inr rfl) ⟨_, (ResL.tmp rfl ResL.nil), ?_⟩))
    · have hb : l.any bigU = true := List.any_eq_true.2 ⟨_, hmem, by show (decide (100 < name.size) || decide (40 < gs.length)) = true; simp only [Bool.or_eq_true, decide_eq_true_eq]; omega⟩
      rw [hb]
      exact ⟨rfl, H⟩
    · have hb : l.any bigU = true := List.any_eq_true.2 ⟨_, hmem, by show (decide (100 < name.size) || decide (40 < gs.length)) = true; simp only [Bool.or_eq_true, decide_eq_true_eq]; omega⟩
      rw [hb]
      exact ⟨rfl, H⟩
    exact KLoop.again (i + 1) ⟨got_succ rfl (by omega), trivial⟩ ⟨rfl, trivial⟩ ⟨H, hlt, by rw [ht]; simp only [Bool.or_eq_false_iff, decide_eq_false_iff_not]; omega⟩ (by omega)
  ·
    repeat' (first
      | (show VcL _ _ _ _ _ _ _ _; first
      | refine VcL.pures tabOk rfl ?_
      | refine VcL.nil ?_)
      | (show Vc _ _ _ _ _ _; first
      | refine Vc.seq ?_
      | refine Vc.region ?_
      | refine Vc.ret ?_
      | refine Vc.exit ?_
      | (refine Vc.cond rfl (fun h => ?_) (fun h => ?_) <;> first | (exfalso; simp only [decide_eq_true_eq, decide_eq_false_iff_not] at h; omega) | (with_reducible have hp := of_decide_eq_false h)))
      | (show KSeq _ _ _ _ _ _ _; first
      | refine KSeq.normal ?_
      | refine KSeq.exit ?_)
      | (show KBlock _ _ _ _ _; refine KBlock.here ?_)
      | refine KLoop.exit ?_
      | (show KEnd _ _ _ _ _ _; refine KEnd.mk (Or.inr rfl) ⟨_, (ResL.tmp rfl ResL.nil), ?_⟩))
    obtain rfl : i = l.length := by omega
    rw [List.take_length] at hall
    rw [hall]
    refine ⟨?_, H⟩
    rw [Bool.false_or]
    exact congrArg Value.bool (decide_eq_decide.2 (by omega))
/-- A deed. -/
structure Ac where mk ::
  deed : Int
  off : Int
  other : Int
  name : ByteArray
instance : Inhabited Ac := ⟨⟨0, 0, 0, .empty⟩⟩
def acC (a : Ac) : List Value := [.int .i64 a.deed, .int .i64 a.off, .int .i64 a.other, .string a.name]
theorem acC_len (a : Ac) : (acC a).length = 4 := rfl
def bigA (a : Ac) : Bool := decide (100 < a.name.size)
theorem long_any (H : Holds I w L) {v : Value} {l : List Ac} (hv : SlR I L v 4 l.length (l.flatMap acC)) (hl : l.length ≤ 140737488355328) :
    Rets Try.prog F_tithinglaw24_long #[v] w fun r w' => r = .bool (l.any bigA || decide (200 < l.length)) ∧ Holds I w' L := by
  obtain ⟨A, cap, rfl, hcap⟩ := hv.form
  refine ok_tithinglaw24_long.rets rfl ?_
  repeat' (first
    | (show VcL _ _ _ _ _ _ _ _; first
      | refine VcL.pures tabOk rfl ?_
      | refine VcL.nil ?_)
    | (show Vc _ _ _ _ _ _; first
      | refine Vc.seq ?_
      | refine Vc.region ?_
      | refine Vc.block ?_)
    | (show KSeq _ _ _ _ _ _ _; refine KSeq.normal ?_))
  refine Vc.loopS [(0, _)] (fun i : Nat => [(3, .int .i64 i)]) (fun i w => Holds I w L ∧ i ≤ l.length ∧ (l.take i).any bigA = false) (fun i _ => l.length - i) 0 ⟨rfl, trivial⟩ ⟨rfl, trivial⟩ ⟨H, Nat.zero_le _, by simp⟩ ?_
  rintro i w ⟨H, hi, hall⟩
  by_cases hlt : i < l.length
  · obtain ⟨b1, o1, rfl, hr1⟩ := hv.at (by omega)
    have hr1 := hr1.elem acC_len (atD_get hlt)
    have ht := any_take (p := bigA) hlt
    rw [hall, Bool.false_or] at ht
    obtain ⟨u, hue⟩ : ∃ u, atD l i = u := ⟨_, rfl⟩
    have hmem := atD_mem hlt
    rw [hue] at hr1 ht hmem
    obtain ⟨x1, x2, x3, name⟩ := u
    have hr1 : RdW I L b1 (o1 + i * 4) [.int .i64 x1, .int .i64 x2, .int .i64 x3, .string name] := hr1
    have ht : (l.take (i + 1)).any bigA = decide (100 < name.size) := ht
    repeat' (first
      | (show VcL _ _ _ _ _ _ _ _; first
      | refine VcL.pures tabOk rfl ?_
      | refine VcL.nil ?_
      | (show VcL _ _ _ _ (⟨_, .load _ _, _, _, _, _⟩ :: _) _ _ _; refine VcL.load1 tabOk rfl rfl rfl rfl rfl (by exact RdW.get (by assumption) rfl H) ?_)
      | (show VcL _ _ _ _ (⟨_, .indexAddr _ _ _, _, _, _, _⟩ :: _) _ _ _; refine VcL.indexAddr tabOk rfl rfl rfl rfl rfl rfl (by omega) (by omega) ?_))
      | (show Vc _ _ _ _ _ _; first
      | refine Vc.seq ?_
      | refine Vc.region ?_
      | refine Vc.ret ?_
      | refine Vc.skip ?_
      | refine Vc.block ?_
      | (refine Vc.cond rfl (fun h => ?_) (fun h => ?_) <;> first | (exfalso; simp only [decide_eq_true_eq, decide_eq_false_iff_not] at h; omega) | (with_reducible have hp := of_decide_eq_true h) | (with_reducible have hp := of_decide_eq_false h)))
      | (show KSeq _ _ _ _ _ _ _; first
      | refine KSeq.normal ?_
      | refine KSeq.ret ?_)
      | (show KBlock _ _ _ _ _; first
      | refine KBlock.normal ?_
      | refine KBlock.ret ?_)
      | refine KLoop.ret ?_
      | (show KEnd _ _ _ _ _ _; refine KEnd.mk (Or.inr rfl) ⟨_, (ResL.tmp rfl ResL.nil), ?_⟩))
    · have hb : l.any bigA = true := List.any_eq_true.2 ⟨_, hmem, by show decide (100 < name.size) = true; simp only [decide_eq_true_eq]; omega⟩
      rw [hb]
      exact ⟨rfl, H⟩
    exact KLoop.again (i + 1) ⟨got_succ rfl (by omega), trivial⟩ ⟨rfl, trivial⟩ ⟨H, hlt, by rw [ht]; simp only [Bool.or_eq_false_iff, decide_eq_false_iff_not]; omega⟩ (by omega)
  ·
    repeat' (first
      | (show VcL _ _ _ _ _ _ _ _; first
      | refine VcL.pures tabOk rfl ?_
      | refine VcL.nil ?_)
      | (show Vc _ _ _ _ _ _; first
      | refine Vc.seq ?_
      | refine Vc.region ?_
      | refine Vc.ret ?_
      | refine Vc.exit ?_
      | (refine Vc.cond rfl (fun h => ?_) (fun h => ?_) <;> first | (exfalso; simp only [decide_eq_true_eq, decide_eq_false_iff_not] at h; omega) | (with_reducible have hp := of_decide_eq_false h)))
      | (show KSeq _ _ _ _ _ _ _; first
      | refine KSeq.normal ?_
      | refine KSeq.exit ?_)
      | (show KBlock _ _ _ _ _; refine KBlock.here ?_)
      | refine KLoop.exit ?_
      | (show KEnd _ _ _ _ _ _; refine KEnd.mk (Or.inr rfl) ⟨_, (ResL.tmp rfl ResL.nil), ?_⟩))
    obtain rfl : i = l.length := by omega
    rw [List.take_length] at hall
    rw [hall]
    refine ⟨?_, H⟩
    rw [Bool.false_or]
    exact congrArg Value.bool (decide_eq_decide.2 (by omega))
end Go.Proofs.Ytccbfajjboccoaa.V
