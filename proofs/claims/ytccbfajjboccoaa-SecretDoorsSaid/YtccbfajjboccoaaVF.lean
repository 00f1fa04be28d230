/- The laws of one door: ciphers, entries. -/
import Derived.Test.YtccbfajjboccoaaVE
namespace Go.Proofs.Ytccbfajjboccoaa.V
open Go Go.Proofs.YtccbfajjboccoaaV
set_option linter.unusedVariables false
set_option linter.unusedSimpArgs false
set_option maxHeartbeats 1000000
attribute [local irreducible] IntKind.wrap
variable {I : Imm} {w : World} {L : List Asn}
abbrev annS : ByteArray := ⟨#[97, 110, 110]⟩
theorem eqT_refl (a : ByteArray) : eqT a a = true := by unfold eqT; simp
theorem newVis_one {u : Us} {vis : List Vs} (h : NewVis I [u] vis) : ∃ v, vis = [v] ∧ usK v.user = usK u ∧ v.given = false ∧ v.num = 0 ∧ v.tries = 0 := by
  have := h.same
  cases vis with
  | nil => simp at this
  | cons v r =>
    cases r with
    | nil => simp at this; exact ⟨v, rfl, this.1, this.2.1, this.2.2.1, this.2.2.2⟩
    | cons _ _ => simp at this
theorem place_one {s a : Nat} {v : Vs} {name : ByteArray} (h : hasN name v = true) : placeD (Dr.mk s a [v]) name = 0 := by
  unfold placeD idxF
  simp [List.findIdx?_cons, h]
theorem ask_one {s a : Nat} {v : Vs} {name : ByteArray} (h : hasN name v = true) (ht : v.tries < 5) : askS (Dr.mk s a [v]) name = (Dr.mk s (a + 1) [vGive v (cphN (a % 2 ^ 32) s)], ((cphN (a % 2 ^ 32) s : Nat) : Int), (0 : Int)) := by
  unfold askS
  rw [place_one h]
  simp only [Int.toNat_zero]
  rw [if_neg (by simp [atD]; omega)]
  rfl
theorem ask_over {s a : Nat} {v : Vs} {name : ByteArray} (h : hasN name v = true) (ht : 5 ≤ v.tries) : askS (Dr.mk s a [v]) name = (Dr.mk s a [v], 0, 240) := by
  unfold askS
  rw [place_one h]
  simp only [Int.toNat_zero]
  rw [if_pos (by right; simpa [atD] using ht)]
theorem enter_not {s a : Nat} {v : Vs} {name : ByteArray} {x : Int} (h : hasN name v = true) (ht : 5 ≤ v.tries ∨ v.given = false) : enterS (Dr.mk s a [v]) name x = (Dr.mk s a [v], none) := by
  unfold enterS
  rw [place_one h]
  simp only [Int.toNat_zero]
  rw [if_pos (by right; simpa [atD] using ht)]
theorem enter_wrong {s a : Nat} {v : Vs} {name : ByteArray} {x : Int} (h : hasN name v = true) (ht : v.tries < 5) (hg : v.given = true) (hx : x ≠ cphV v.num v.user.sec) : enterS (Dr.mk s a [v]) name x = (Dr.mk s a [vFail v], none) := by
  unfold enterS
  rw [place_one h]
  simp only [Int.toNat_zero]
  rw [if_neg (by simp [atD, hg]; omega), if_pos (by simpa [atD] using hx)]
  rfl
theorem enter_right {s a : Nat} {v : Vs} {name : ByteArray} {x : Int} (h : hasN name v = true) (ht : v.tries < 5) (hg : v.given = true) (hx : x = cphV v.num v.user.sec) : enterS (Dr.mk s a [v]) name x = (Dr.mk s a [vDone v], some 0) := by
  unfold enterS
  rw [place_one h]
  simp only [Int.toNat_zero]
  rw [if_neg (by simp [atD, hg]; omega), if_neg (by simpa [atD] using hx)]
  rfl
theorem tries_one {s a : Nat} {v : Vs} {name : ByteArray} (h : hasN name v = true) : triesS (Dr.mk s a [v]) name = (v.tries : Int) := by
  unfold triesS
  rw [place_one h]
  rfl
theorem doorOk_new {s : Nat} {l : List Us} {vis : List Vs} (hs : s < 2 ^ 32) (hl : l.length ≤ 20) (h : NewVis I l vis) : DrOk I ⟨s, 0, vis⟩ := by
  refine ⟨hs, ?_, h.ok⟩
  have := congrArg List.length h.same
  simp at this
  show vis.length ≤ 20
  omega
/-- A user of no groups. -/
abbrev bareU (id : Int) (name : ByteArray) (sec : Int) : Us := ⟨id, name, sec, none, 0, []⟩
theorem bareU_ok {id : Int} {name : ByteArray} {sec : Int} (h : name.size ≤ 140737488355328) : UsI I (bareU id name sec) := ⟨SlI.nil, h, by show 0 ≤ _; omega⟩
theorem bare_all {id : Int} {name : ByteArray} {sec : Int} (h : name.size ≤ 140737488355328) : ∀ x ∈ [bareU id name sec], UsI I x := fun x hx => by
  rw [List.mem_singleton] at hx
  subst hx
  exact bareU_ok h
theorem users_one {id : Int} {name : ByteArray} {sec : Int} (h1 : 1 ≤ id) (h2 : 1 ≤ name.size) (h3 : name.size ≤ 31) (h4 : is31' sec = true) : usersOk [bareU id name sec] = true := by
  have : userOk (bareU id name sec) = true := by
    unfold userOk gsOk
    simp [h1, h2, h3, h4]
  unfold usersOk uOk
  simp [this, atD]
theorem Awake_any (H : Holds I w L) : Rets Try.prog F_tithinglaw24_Awake #[] w fun u w' => u = .bool true ∧ Holds I w' L := by
  have hok : (usersOk [bareU 1 annS 5] && is32 3) = true := by rw [users_one (by decide) (by decide) (by decide) (by decide)]; rfl
  have hgo : Rets Try.prog F_tithinglaw24_Awake #[] w fun u w' => ∃ J, u = .bool true ∧ Imm.Le I J ∧ Holds J w' L := by
    refine ok_tithinglaw24_Awake.rets rfl ?_
    repeat' (first
      | (show VcL _ _ _ _ _ _ _ _; first
      | refine VcL.pures tabOk rfl ?_
      | refine VcL.nil ?_
      | refine VcL.buildSlice tabOk H rfl rfl rfl rfl rfl rfl (fun sv w H => ?_))
      | (show Vc _ _ _ _ _ _; first
      | refine Vc.seq ?_
      | refine Vc.region ?_)
      | (show KSeq _ _ _ _ _ _ _; refine KSeq.normal ?_))
    have H : Holds I w (ownU sv [bareU 1 annS 5] :: L) := H
    repeat' (first
      | (show VcL _ _ _ _ _ _ _ _; first
      | refine VcL.pures tabOk rfl ?_
      | refine VcL.nil ?_
      | (show VcL _ _ _ _ (⟨_, .call ⟨.value (.func F_secret_New), _, _⟩, _, _, _, _⟩ :: _) _ _ _; (refine VcL.callF ok_secret_New rfl rfl rfl rfl (Rets.mono (New_any (l := [bareU 1 annS 5]) H (Holds.own_toR H) (by show 1 ≤ _; omega) (bare_all (by decide)) 3 hok) ?_); rintro _ w ⟨J, d, vis, hJ, rfl, hvis, H⟩; obtain ⟨v, rfl, hu, hg, hn, ht⟩ := newVis_one hvis; have hD := doorOk_new (s := 3) (by decide) (by decide) hvis)))
      | (show Vc _ _ _ _ _ _; first
      | refine Vc.seq ?_
      | refine Vc.region ?_
      | refine Vc.condF rfl ?_
      | refine Vc.skip ?_)
      | (show KSeq _ _ _ _ _ _ _; refine KSeq.normal ?_))
    have hnm : hasN annS v = true := by
      unfold hasN
      have : v.user.name = annS := congrArg (fun p => p.2.1) hu
      rw [this]; exact eqT_refl _
    have he := enter_not (s := (3 : Int).toNat) (a := 0) (x := 1) hnm (.inr hg)
    have htr := tries_one (s := (3 : Int).toNat) (a := 0) hnm
    repeat' (first
      | (show VcL _ _ _ _ _ _ _ _; first
      | refine VcL.pures tabOk rfl ?_
      | refine VcL.nil ?_
      | (show VcL _ _ _ _ (⟨_, .call ⟨.value (.func F_secret_Door_Enter), _, _⟩, _, _, _, _⟩ :: _) _ _ _; (refine VcL.callF ok_secret_Door_Enter rfl rfl rfl rfl (Rets.mono (EnterP_any H hD annS (by decide) 1) ?_); rintro _ w ⟨rfl, H⟩; rw [he] at H; rw [he]))
      | (show VcL _ _ _ _ (⟨_, .call ⟨.value (.func F_secret_Door_Tries), _, _⟩, _, _, _, _⟩ :: _) _ _ _; (refine VcL.callF ok_secret_Door_Tries rfl rfl rfl rfl (Rets.mono (TriesP_any H hD annS (by decide)) ?_); rintro _ w ⟨rfl, H⟩; rw [htr, ht]))
      | (refine VcL.guard rfl rfl rfl rfl (fun h => ?_) (fun h => ?_) <;> first | (cases h; done) | (with_reducible have hp := of_decide_eq_true h)))
      | (show Vc _ _ _ _ _ _; first
      | refine Vc.seq ?_
      | refine Vc.region ?_
      | refine Vc.ret ?_)
      | (show KSeq _ _ _ _ _ _ _; refine KSeq.normal ?_)
      | (show KEnd _ _ _ _ _ _; refine KEnd.mk (Or.inr rfl) ⟨_, (ResL.tmp rfl ResL.nil), ?_⟩))
    exact ⟨J, rfl, hJ, H.drop.drop⟩
  exact hgo.mono fun u w' ⟨J, h1, h2, h3⟩ => ⟨h1, h3.less h2⟩
theorem cipA_form (ok : Bool) (x k : Int) : ∃ a e, cipA ok x k = .tuple #[.int .i64 a, .int .i64 e] := by unfold cipA; split <;> exact ⟨_, _, rfl⟩
theorem SecretCiphers_any (H : Holds I w L) (x k : Int) : Rets Try.prog F_tithinglaw24_SecretCiphers #[.int .i64 x, .int .i64 k] w fun u w' => u = .bool true ∧ Holds I w' L := by
  obtain ⟨a1, e1, h1⟩ := cipA_form (is32 x && is32 k) x k
  obtain ⟨a2, e2, h2⟩ := cipA_form (is32 x && is31 k) x k
  obtain ⟨a3, e3, h3⟩ := cipA_form (is32 x && is31 k) x (turnK k)
  refine ok_tithinglaw24_SecretCiphers.rets rfl ?_
  repeat' (first
    | (show VcL _ _ _ _ _ _ _ _; first
      | refine VcL.pures tabOk rfl ?_
      | refine VcL.nil ?_
      | (show VcL _ _ _ _ (⟨_, .call ⟨.value (.func F_secret_Cipher), _, _⟩, _, _, _, _⟩ :: _) _ _ _; (refine VcL.callF ok_secret_Cipher rfl rfl rfl rfl (Rets.mono (CipherP_any H x k) ?_); rintro _ w ⟨rfl, H⟩; rw [h1]))
      | (show VcL _ _ _ _ (⟨_, .call ⟨.value (.func F_tithingref24_Cipher), _, _⟩, _, _, _, _⟩ :: _) _ _ _; (refine VcL.callF ok_tithingref24_Cipher rfl rfl rfl rfl (Rets.mono (CipherR_any H x k) ?_); rintro _ w ⟨rfl, H⟩; rw [h1]))
      | (show VcL _ _ _ _ (⟨_, .call ⟨.value (.func F_secret_Answer), _, _⟩, _, _, _, _⟩ :: _) _ _ _; (refine VcL.callF ok_secret_Answer rfl rfl rfl rfl (Rets.mono (AnswerP_any H x k) ?_); rintro _ w ⟨rfl, H⟩; rw [h2]))
      | (show VcL _ _ _ _ (⟨_, .call ⟨.value (.func F_tithingref24_Answer), _, _⟩, _, _, _, _⟩ :: _) _ _ _; (refine VcL.callF ok_tithingref24_Answer rfl rfl rfl rfl (Rets.mono (AnswerR_any H x k) ?_); rintro _ w ⟨rfl, H⟩; rw [h2]))
      | (show VcL _ _ _ _ (⟨_, .call ⟨.value (.func F_secret_Back), _, _⟩, _, _, _, _⟩ :: _) _ _ _; (refine VcL.callF ok_secret_Back rfl rfl rfl rfl (Rets.mono (BackP_any H x k) ?_); rintro _ w ⟨rfl, H⟩; rw [h3]))
      | (show VcL _ _ _ _ (⟨_, .call ⟨.value (.func F_tithingref24_Back), _, _⟩, _, _, _, _⟩ :: _) _ _ _; (refine VcL.callF ok_tithingref24_Back rfl rfl rfl rfl (Rets.mono (BackR_any H x k) ?_); rintro _ w ⟨rfl, H⟩; rw [h3]))
      | (show VcL _ _ _ _ (⟨_, .call ⟨.value (.func F_tithinglaw24_Awake), _, _⟩, _, _, _, _⟩ :: _) _ _ _; (refine VcL.callF ok_tithinglaw24_Awake rfl rfl rfl rfl (Rets.mono (Awake_any H) ?_); rintro _ w ⟨rfl, H⟩))
      | (refine VcL.guard rfl rfl rfl rfl (fun h => ?_) (fun h => ?_) <;> first | (cases h; done) | (exfalso; simp only [decide_eq_true_eq, decide_eq_false_iff_not] at h; omega) | (with_reducible have hp := of_decide_eq_true h) | (with_reducible have hp := of_decide_eq_false h) | (with_reducible have hp := ndec_t h) | (with_reducible have hp := ndec_f h)))
    | (show Vc _ _ _ _ _ _; first
      | refine Vc.seq ?_
      | refine Vc.region ?_
      | refine Vc.condT rfl ?_
      | refine Vc.ret ?_
      | refine Vc.skip ?_
      | (refine Vc.cond rfl (fun h => ?_) (fun h => ?_) <;> first | (with_reducible have hp := ndec_t h) | (with_reducible have hp := ndec_f h)))
    | (show KSeq _ _ _ _ _ _ _; first
      | refine KSeq.normal ?_
      | refine KSeq.ret ?_)
    | (show KEnd _ _ _ _ _ _; refine KEnd.mk (Or.inr rfl) ⟨_, (ResL.tmp rfl ResL.nil), ?_⟩))
  all_goals first
    | exact ⟨rfl, H⟩
    | (exfalso; simp_all; done)
/-- A nil door, or a zero one. -/
structure Nod (I : Imm) (L : List Asn) (dv : Value) : Prop where
  out : (dv = .pointer none) ∨ ∃ c, dv = ptr c ∧ RdW I L c 0 [.bool false, .int .i64 0, .int .i64 0, .slice none 0 0]
theorem nod_any {dv : Value} (H : Holds I w L) (h : Nod I L dv) : Rets Try.prog F_secret_Door_none #[dv] w fun u w' => u = .bool true ∧ Holds I w' L := by
  rcases h.out with rfl | ⟨c, rfl, hc⟩
  · exact noneNil_any H
  · exact noneD_any H hc
theorem AskN_any {dv : Value} (H : Holds I w L) (h : Nod I L dv) (name : ByteArray) : Rets Try.prog F_secret_Door_Ask #[dv, .string name] w fun u w' => u = .tuple #[.int .i64 0, .int .i64 7] ∧ Holds I w' L := by
  refine ok_secret_Door_Ask.rets rfl ?_
  repeat' (first
    | (show VcL _ _ _ _ _ _ _ _; first
      | refine VcL.pures tabOk rfl ?_
      | refine VcL.nil ?_
      | (show VcL _ _ _ _ (⟨_, .call ⟨.value (.func F_secret_Door_none), _, _⟩, _, _, _, _⟩ :: _) _ _ _; (refine VcL.callF ok_secret_Door_none rfl rfl rfl rfl (Rets.mono (nod_any H h) ?_); rintro _ w ⟨rfl, H⟩)))
    | (show Vc _ _ _ _ _ _; first
      | refine Vc.seq ?_
      | refine Vc.region ?_
      | refine Vc.condT rfl ?_
      | refine Vc.ret ?_)
    | (show KSeq _ _ _ _ _ _ _; first
      | refine KSeq.normal ?_
      | refine KSeq.ret ?_)
    | (show KEnd _ _ _ _ _ _; refine KEnd.mk (Or.inr rfl) ⟨_, (ResL.tmp rfl (ResL.tmp rfl ResL.nil)), ?_⟩))
  exact ⟨rfl, H⟩
theorem EnterN_any {dv : Value} (H : Holds I w L) (h : Nod I L dv) (name : ByteArray) (n : Int) : Rets Try.prog F_secret_Door_Enter #[dv, .string name, .int .i64 n] w fun u w' => u = .tuple #[.int .i64 0, .int .i64 7] ∧ Holds I w' L := by
  refine ok_secret_Door_Enter.rets rfl ?_
  repeat' (first
    | (show VcL _ _ _ _ _ _ _ _; first
      | refine VcL.pures tabOk rfl ?_
      | refine VcL.nil ?_
      | (show VcL _ _ _ _ (⟨_, .call ⟨.value (.func F_secret_Door_none), _, _⟩, _, _, _, _⟩ :: _) _ _ _; (refine VcL.callF ok_secret_Door_none rfl rfl rfl rfl (Rets.mono (nod_any H h) ?_); rintro _ w ⟨rfl, H⟩)))
    | (show Vc _ _ _ _ _ _; first
      | refine Vc.seq ?_
      | refine Vc.region ?_
      | refine Vc.condT rfl ?_
      | refine Vc.ret ?_)
    | (show KSeq _ _ _ _ _ _ _; first
      | refine KSeq.normal ?_
      | refine KSeq.ret ?_)
    | (show KEnd _ _ _ _ _ _; refine KEnd.mk (Or.inr rfl) ⟨_, (ResL.tmp rfl (ResL.tmp rfl ResL.nil)), ?_⟩))
  exact ⟨rfl, H⟩
theorem EnterBothN_any {dv : Value} (H : Holds I w L) (h : Nod I L dv) (name : ByteArray) (n m : Int) : Rets Try.prog F_secret_Door_EnterBoth #[dv, .string name, .int .i64 n, .int .i64 m] w fun u w' => u = .tuple #[.int .i64 0, .int .i64 0, .int .i64 7] ∧ Holds I w' L := by
  refine ok_secret_Door_EnterBoth.rets rfl ?_
  repeat' (first
    | (show VcL _ _ _ _ _ _ _ _; first
      | refine VcL.pures tabOk rfl ?_
      | refine VcL.nil ?_
      | (show VcL _ _ _ _ (⟨_, .call ⟨.value (.func F_secret_Door_none), _, _⟩, _, _, _, _⟩ :: _) _ _ _; (refine VcL.callF ok_secret_Door_none rfl rfl rfl rfl (Rets.mono (nod_any H h) ?_); rintro _ w ⟨rfl, H⟩)))
    | (show Vc _ _ _ _ _ _; first
      | refine Vc.seq ?_
      | refine Vc.region ?_
      | refine Vc.condT rfl ?_
      | refine Vc.ret ?_
      | refine Vc.block ?_)
    | (show KSeq _ _ _ _ _ _ _; first
      | refine KSeq.normal ?_
      | refine KSeq.ret ?_)
    | (show KBlock _ _ _ _ _; refine KBlock.ret ?_)
    | (show KEnd _ _ _ _ _ _; refine KEnd.mk (Or.inr rfl) ⟨_, (ResL.tmp rfl (ResL.tmp rfl (ResL.tmp rfl ResL.nil))), ?_⟩))
  exact ⟨rfl, H⟩
theorem ChangeN_any {dv : Value} (H : Holds I w L) (h : Nod I L dv) (name : ByteArray) (n m : Int) : Rets Try.prog F_secret_Door_Change #[dv, .string name, .int .i64 n, .int .i64 m] w fun u w' => u = .int .i64 7 ∧ Holds I w' L := by
  refine ok_secret_Door_Change.rets rfl ?_
  repeat' (first
    | (show VcL _ _ _ _ _ _ _ _; first
      | refine VcL.pures tabOk rfl ?_
      | refine VcL.nil ?_
      | (show VcL _ _ _ _ (⟨_, .call ⟨.value (.func F_secret_Door_none), _, _⟩, _, _, _, _⟩ :: _) _ _ _; (refine VcL.callF ok_secret_Door_none rfl rfl rfl rfl (Rets.mono (nod_any H h) ?_); rintro _ w ⟨rfl, H⟩)))
    | (show Vc _ _ _ _ _ _; first
      | refine Vc.seq ?_
      | refine Vc.region ?_
      | refine Vc.condT rfl ?_
      | refine Vc.ret ?_
      | refine Vc.block ?_)
    | (show KSeq _ _ _ _ _ _ _; first
      | refine KSeq.normal ?_
      | refine KSeq.ret ?_)
    | (show KBlock _ _ _ _ _; refine KBlock.ret ?_)
    | (show KEnd _ _ _ _ _ _; refine KEnd.mk (Or.inr rfl) ⟨_, (ResL.tmp rfl ResL.nil), ?_⟩))
  exact ⟨rfl, H⟩
theorem TriesN_any {dv : Value} (H : Holds I w L) (h : Nod I L dv) (name : ByteArray) : Rets Try.prog F_secret_Door_Tries #[dv, .string name] w fun u w' => u = .int .i64 0 ∧ Holds I w' L := by
  refine ok_secret_Door_Tries.rets rfl ?_
  repeat' (first
    | (show VcL _ _ _ _ _ _ _ _; first
      | refine VcL.pures tabOk rfl ?_
      | refine VcL.nil ?_
      | (show VcL _ _ _ _ (⟨_, .call ⟨.value (.func F_secret_Door_none), _, _⟩, _, _, _, _⟩ :: _) _ _ _; (refine VcL.callF ok_secret_Door_none rfl rfl rfl rfl (Rets.mono (nod_any H h) ?_); rintro _ w ⟨rfl, H⟩)))
    | (show Vc _ _ _ _ _ _; first
      | refine Vc.seq ?_
      | refine Vc.region ?_
      | refine Vc.condT rfl ?_
      | refine Vc.ret ?_)
    | (show KSeq _ _ _ _ _ _ _; first
      | refine KSeq.normal ?_
      | refine KSeq.ret ?_)
    | (show KEnd _ _ _ _ _ _; refine KEnd.mk (Or.inr rfl) ⟨_, (ResL.tmp rfl ResL.nil), ?_⟩))
  exact ⟨rfl, H⟩
theorem UsersN_any {dv : Value} (H : Holds I w L) (h : Nod I L dv) : Rets Try.prog F_secret_Door_Users #[dv] w fun u w' => u = .slice none 0 0 ∧ Holds I w' L := by
  refine ok_secret_Door_Users.rets rfl ?_
  repeat' (first
    | (show VcL _ _ _ _ _ _ _ _; first
      | refine VcL.pures tabOk rfl ?_
      | refine VcL.nil ?_
      | (show VcL _ _ _ _ (⟨_, .call ⟨.value (.func F_secret_Door_none), _, _⟩, _, _, _, _⟩ :: _) _ _ _; (refine VcL.callF ok_secret_Door_none rfl rfl rfl rfl (Rets.mono (nod_any H h) ?_); rintro _ w ⟨rfl, H⟩)))
    | (show Vc _ _ _ _ _ _; first
      | refine Vc.seq ?_
      | refine Vc.region ?_
      | refine Vc.condT rfl ?_
      | refine Vc.ret ?_)
    | (show KSeq _ _ _ _ _ _ _; first
      | refine KSeq.normal ?_
      | refine KSeq.ret ?_)
    | (show KEnd _ _ _ _ _ _; refine KEnd.mk (Or.inr rfl) ⟨_, (ResL.tmp rfl ResL.nil), ?_⟩))
  exact ⟨rfl, H⟩
theorem CopyN_any {dv : Value} (H : Holds I w L) (h : Nod I L dv) : Rets Try.prog F_secret_Door_Copy #[dv] w fun u w' => u = .pointer none ∧ Holds I w' L := by
  refine ok_secret_Door_Copy.rets rfl ?_
  repeat' (first
    | (show VcL _ _ _ _ _ _ _ _; first
      | refine VcL.pures tabOk rfl ?_
      | refine VcL.nil ?_
      | (show VcL _ _ _ _ (⟨_, .call ⟨.value (.func F_secret_Door_none), _, _⟩, _, _, _, _⟩ :: _) _ _ _; (refine VcL.callF ok_secret_Door_none rfl rfl rfl rfl (Rets.mono (nod_any H h) ?_); rintro _ w ⟨rfl, H⟩)))
    | (show Vc _ _ _ _ _ _; first
      | refine Vc.seq ?_
      | refine Vc.region ?_
      | refine Vc.condT rfl ?_
      | refine Vc.ret ?_)
    | (show KSeq _ _ _ _ _ _ _; first
      | refine KSeq.normal ?_
      | refine KSeq.ret ?_)
    | (show KEnd _ _ _ _ _ _; refine KEnd.mk (Or.inr rfl) ⟨_, (ResL.tmp rfl ResL.nil), ?_⟩))
  exact ⟨rfl, H⟩
theorem SecretNils_any (H : Holds I w L) (name : ByteArray) (n : Int) : Rets Try.prog F_tithinglaw24_SecretNils #[.string name, .int .i64 n] w fun u w' => u = .bool true ∧ Holds I w' L := by
  refine ok_tithinglaw24_SecretNils.rets rfl ?_
  repeat' (first
    | (show VcL _ _ _ _ _ _ _ _; first
      | refine VcL.pures tabOk rfl ?_
      | refine VcL.nil ?_
      | refine VcL.box H rfl rfl rfl rfl rfl (fun b w H => ?_)
      | refine VcL.buildSlice tabOk H rfl rfl rfl rfl rfl rfl (fun sv w H => ?_)
      | (show VcL _ _ _ _ (⟨_, .call ⟨.value (.func F_tithinglaw24_Awake), _, _⟩, _, _, _, _⟩ :: _) _ _ _; (refine VcL.callF ok_tithinglaw24_Awake rfl rfl rfl rfl (Rets.mono (Awake_any H) ?_); rintro _ w ⟨rfl, H⟩)))
    | (show Vc _ _ _ _ _ _; first
      | refine Vc.seq ?_
      | refine Vc.region ?_
      | refine Vc.ret ?_
      | refine Vc.skip ?_
      | refine Vc.block ?_
      | (refine Vc.cond rfl (fun h => ?_) (fun h => ?_) <;> first | (with_reducible have hp := of_decide_eq_true h) | (with_reducible have hp := of_decide_eq_false h)))
    | (show KSeq _ _ _ _ _ _ _; first
      | refine KSeq.normal ?_
      | refine KSeq.ret ?_)
    | (show KEnd _ _ _ _ _ _; refine KEnd.mk (Or.inr rfl) ⟨_, (ResL.tmp rfl ResL.nil), ?_⟩))
  · exact ⟨rfl, H⟩
  obtain ⟨_, A, cap, rfl⟩ := H.own_len
  refine Vc.loopS [(0, _), (1, _), (5, _)] (fun k : Nat => [(6, .int .i64 k)]) (fun k w => k ≤ 2 ∧ Holds I w (own (.slice A 2 cap) 29 1 2 [.pointer none, ptr b] :: blk b 61 [.bool false, .int .i64 0, .int .i64 0, .slice none 0 0] :: L)) (fun k _ => 2 - k) 0 ⟨rfl, trivial⟩ ⟨rfl, rfl, rfl, trivial⟩ ⟨by omega, H⟩ ?_
  rintro k w ⟨hk, H⟩
  by_cases hlt : k < 2
  · obtain ⟨b2, o2, rfl, hr⟩ := (Holds.own_toR H).at (by omega)
    have hx : ∃ dv, RdW I (own (.slice (some ⟨b2, o2, none⟩) 2 cap) 29 1 2 [.pointer none, ptr b] :: blk b 61 [.bool false, .int .i64 0, .int .i64 0, .slice none 0 0] :: L) b2 (o2 + k * 1) [dv] ∧ Nod I (own (.slice (some ⟨b2, o2, none⟩) 2 cap) 29 1 2 [.pointer none, ptr b] :: blk b 61 [.bool false, .int .i64 0, .int .i64 0, .slice none 0 0] :: L) dv := by
      rcases (show k = 0 ∨ k = 1 by omega) with rfl | rfl
      · exact ⟨.pointer none, hr.one (k := 0) rfl, ⟨.inl rfl⟩⟩
      · exact ⟨ptr b, hr.one (k := 1) rfl, ⟨.inr ⟨b, rfl, Holds.toW.up⟩⟩⟩
    obtain ⟨dv, hx, hnod⟩ := hx
    repeat' (first
      | (show VcL _ _ _ _ _ _ _ _; first
      | refine VcL.pures tabOk rfl ?_
      | refine VcL.nil ?_
      | (show VcL _ _ _ _ (⟨_, .load _ _, _, _, _, _⟩ :: _) _ _ _; refine VcL.load1 tabOk rfl rfl rfl rfl rfl (by exact RdW.get0 (by assumption) rfl H) ?_)
      | (show VcL _ _ _ _ (⟨_, .indexAddr _ _ _, _, _, _, _⟩ :: _) _ _ _; refine VcL.indexAddr tabOk rfl rfl rfl rfl rfl rfl (by omega) (by omega) ?_)
      | (show VcL _ _ _ _ (⟨_, .call ⟨.value (.func F_secret_Door_Ask), _, _⟩, _, _, _, _⟩ :: _) _ _ _; (refine VcL.callF ok_secret_Door_Ask rfl rfl rfl rfl (Rets.mono (AskN_any H hnod name) ?_); rintro _ w ⟨rfl, H⟩))
      | (show VcL _ _ _ _ (⟨_, .call ⟨.value (.func F_secret_Door_Enter), _, _⟩, _, _, _, _⟩ :: _) _ _ _; (refine VcL.callF ok_secret_Door_Enter rfl rfl rfl rfl (Rets.mono (EnterN_any H hnod name n) ?_); rintro _ w ⟨rfl, H⟩))
      | (show VcL _ _ _ _ (⟨_, .call ⟨.value (.func F_secret_Door_EnterBoth), _, _⟩, _, _, _, _⟩ :: _) _ _ _; (refine VcL.callF ok_secret_Door_EnterBoth rfl rfl rfl rfl (Rets.mono (EnterBothN_any H hnod name n n) ?_); rintro _ w ⟨rfl, H⟩))
      | (show VcL _ _ _ _ (⟨_, .call ⟨.value (.func F_secret_Door_Change), _, _⟩, _, _, _, _⟩ :: _) _ _ _; (refine VcL.callF ok_secret_Door_Change rfl rfl rfl rfl (Rets.mono (ChangeN_any H hnod name n n) ?_); rintro _ w ⟨rfl, H⟩))
      | (show VcL _ _ _ _ (⟨_, .call ⟨.value (.func F_secret_Door_Tries), _, _⟩, _, _, _, _⟩ :: _) _ _ _; (refine VcL.callF ok_secret_Door_Tries rfl rfl rfl rfl (Rets.mono (TriesN_any H hnod name) ?_); rintro _ w ⟨rfl, H⟩))
      | (show VcL _ _ _ _ (⟨_, .call ⟨.value (.func F_secret_Door_Users), _, _⟩, _, _, _, _⟩ :: _) _ _ _; (refine VcL.callF ok_secret_Door_Users rfl rfl rfl rfl (Rets.mono (UsersN_any H hnod) ?_); rintro _ w ⟨rfl, H⟩))
      | (show VcL _ _ _ _ (⟨_, .call ⟨.value (.func F_secret_Door_Copy), _, _⟩, _, _, _, _⟩ :: _) _ _ _; (refine VcL.callF ok_secret_Door_Copy rfl rfl rfl rfl (Rets.mono (CopyN_any H hnod) ?_); rintro _ w ⟨rfl, H⟩))
      | (refine VcL.guard rfl rfl rfl rfl (fun h => ?_) (fun h => ?_) <;> first | (cases h; done) | (with_reducible have hp := ndec_f h)))
      | (show Vc _ _ _ _ _ _; first
      | refine Vc.seq ?_
      | refine Vc.region ?_
      | refine Vc.condF rfl ?_
      | refine Vc.skip ?_
      | refine Vc.block ?_
      | (refine Vc.cond rfl (fun h => ?_) (fun h => ?_) <;> first | (exfalso; simp only [decide_eq_true_eq, decide_eq_false_iff_not] at h; omega) | (with_reducible have hp := of_decide_eq_true h)))
      | (show KSeq _ _ _ _ _ _ _; refine KSeq.normal ?_)
      | (show KBlock _ _ _ _ _; refine KBlock.normal ?_))
    exact KLoop.again (k + 1) ⟨got_succ rfl (by omega), trivial⟩ ⟨rfl, rfl, rfl, trivial⟩ ⟨hlt, H⟩ (by omega)
  ·
    repeat' (first
      | (show VcL _ _ _ _ _ _ _ _; first
      | refine VcL.pures tabOk rfl ?_
      | refine VcL.nil ?_
      | (show VcL _ _ _ _ (⟨_, .call ⟨.value (.func F_tithinglaw24_Awake), _, _⟩, _, _, _, _⟩ :: _) _ _ _; (refine VcL.callF ok_tithinglaw24_Awake rfl rfl rfl rfl (Rets.mono (Awake_any H) ?_); rintro _ w ⟨rfl, H⟩)))
      | (show Vc _ _ _ _ _ _; first
      | refine Vc.seq ?_
      | refine Vc.region ?_
      | refine Vc.ret ?_
      | refine Vc.exit ?_
      | (refine Vc.cond rfl (fun h => ?_) (fun h => ?_) <;> first | (exfalso; simp only [decide_eq_true_eq, decide_eq_false_iff_not] at h; omega) | (with_reducible have hp := of_decide_eq_false h)))
      | (show KSeq _ _ _ _ _ _ _; first
      | refine KSeq.normal ?_
      | refine KSeq.exit ?_)
      | (show KBlock _ _ _ _ _; refine KBlock.here ?_)
      | refine KLoop.exit ?_
      | (show KEnd _ _ _ _ _ _; refine KEnd.mk (Or.inr rfl) ⟨_, (ResL.tmp rfl ResL.nil), ?_⟩))
    exact ⟨rfl, H.drop.drop⟩
end Go.Proofs.Ytccbfajjboccoaa.V
