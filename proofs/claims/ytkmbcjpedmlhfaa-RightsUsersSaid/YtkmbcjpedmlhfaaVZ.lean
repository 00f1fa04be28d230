/- Who has a name. -/
import Derived.Test.YtkmbcjpedmlhfaaVX
namespace Go.Proofs.Ytkmbcjpedmlhfaa.V
open Go Go.Proofs.YtkmbcjpedmlhfaaV
set_option linter.unusedVariables false
set_option linter.unusedSimpArgs false
set_option maxHeartbeats 1000000
attribute [local irreducible] IntKind.wrap
variable {I : Imm} {w : World} {L : List Asn}
theorem Find1_any (H : Holds I w L) (u : Us) (name : ByteArray) (hu : u.name.size ≤ 140737488355328) (hn : name.size ≤ 140737488355328) {c : Nat} (hc : RdW I L c 0 [.string name]) : Rets Try.prog F_rights_Find_1 (#[] ++ [usV u].toArray ++ #[.pointer (some ⟨c, 0, none⟩)]) w fun r w' => r = .bool (eqT u.name name) ∧ Holds I w' L := by
  refine ok_rights_Find_1.rets rfl ?_
  repeat' (first
    | (show VcL _ _ _ _ _ _ _ _; first
      | refine VcL.pures tabOk rfl ?_
      | refine VcL.nil ?_
      | (show VcL _ _ _ _ (⟨_, .load _ _, _, _, _, _⟩ :: _) _ _ _; refine VcL.load1 tabOk rfl rfl rfl rfl rfl (by first | exact Holds.cell H rfl | exact RdW.get0 (by assumption) rfl (Holds.drop H)) ?_)
      | refine VcL.box H rfl rfl rfl rfl rfl (fun b w H => ?_)
      | (show VcL _ _ _ _ (⟨_, .call ⟨.value (.func F_octet_Equal), _, _⟩, _, _, _, _⟩ :: _) _ _ _; (refine VcL.callF ok_octet_Equal rfl rfl rfl rfl (Rets.mono (Equal_any H _ _ hu hn) ?_); rintro _ w ⟨rfl, H⟩)))
    | (show Vc _ _ _ _ _ _; first
      | refine Vc.seq ?_
      | refine Vc.region ?_
      | refine Vc.ret ?_)
    | (show KSeq _ _ _ _ _ _ _; refine KSeq.normal ?_)
    | (show KEnd _ _ _ _ _ _ _; refine KEnd.fin (Or.inr rfl) ⟨_, (ResL.tmp rfl ResL.nil), ?_⟩))
  exact ⟨rfl, H.drop⟩
theorem usersOk_at {l : List Us} (h : usersOk l = true) {k : Nat} (hk : k < l.length) : userOk (atD l k) = true := by
  unfold usersOk at h
  rw [Bool.and_eq_true, List.all_eq_true] at h
  have := h.1 k (List.mem_range.2 hk)
  unfold uOk at this
  simp only [Bool.and_eq_true] at this
  exact this.1.1
def findI (l : List Us) (name : ByteArray) : Int := idxF (fun u : Us => eqT u.name name) l
abbrev noU : Us := ⟨0, .empty, 0, none, 0, []⟩
def uK (u : Us) : Int × ByteArray × Int × List Int := (u.id, u.name, u.sec, u.grp.2.2)
/-- Who is found, and the error. -/
def findS (l : List Us) (name : ByteArray) : (Int × ByteArray × Int × List Int) × Int :=
  if usersOk l then (if findI l name < 0 then (uK noU, 5) else (uK (atD l (findI l name).toNat), 0)) else (uK noU, 2)
theorem Find_any (H : Holds I w L) {v : Value} {l : List Us} (hv : SlU I L v l) (hl : l.length ≤ 140737488355328) (hu : ∀ u ∈ l, UsI I u) (name : ByteArray) (hn : name.size ≤ 140737488355328) :
    Rets Try.prog F_rights_Find #[v, .string name] w fun r w' => ∃ J u, Imm.Le I J ∧ r = .tuple #[usV u, .int .i64 (findS l name).2] ∧ UsI J u ∧ uK u = (findS l name).1 ∧ Holds J w' L := by
  obtain ⟨A, cap, rfl, hcap⟩ := hv.form
  refine ok_rights_Find.rets rfl ?_
  repeat' (first
    | (show VcL _ _ _ _ _ _ _ _; first
      | refine VcL.pures tabOk rfl ?_
      | refine VcL.nil ?_
      | refine VcL.box H rfl rfl rfl rfl rfl (fun b w H => ?_)
      | refine VcL.alloc tabOk H rfl rfl rfl rfl (fun b w H => ?_)
      | (show VcL _ _ _ _ (⟨_, .store _ _ _, _, _, _, _⟩ :: _) _ _ _; refine VcL.store tabOk rfl (by first | exact H | exact (Holds.f1 H)) rfl rfl (by exact rfl) (by exact rfl) (by exact rfl) (by exact rfl) (fun w H => ?_))
      | (show VcL _ _ _ _ (⟨_, .call ⟨.value (.func F_rights_ValidUsers), _, _⟩, _, _, _, _⟩ :: _) _ _ _; (refine VcL.callF ok_rights_ValidUsers rfl rfl rfl rfl (Rets.mono (ValidUsers_any H hv.up.up hl hu) ?_); rintro _ w ⟨rfl, H⟩))
      | (show VcL _ _ _ _ (⟨_, .call ⟨.value (.func F_slices_IndexFunc_api_User_api_User), _, _⟩, _, _, _, _⟩ :: _) _ _ _; (refine VcL.callF ok_slices_IndexFunc_api_User_api_User rfl rfl rfl rfl (Rets.mono (IndexFuncU_any (Holds.f1 H) hv.up.up hl ok_rights_Find_1 (fun u : Us => eqT u.name name) (fun w k hk H => Find1_any H _ name (hu _ (atD_mem hk)).name hn Holds.toW)) ?_); rintro _ w ⟨rfl, H⟩)))
    | (show Vc _ _ _ _ _ _; first
      | refine Vc.seq ?_
      | refine Vc.region ?_
      | refine Vc.ret ?_
      | refine Vc.skip ?_
      | (refine Vc.cond rfl (fun h => ?_) (fun h => ?_) <;> first | (with_reducible have hp := of_decide_eq_true h) | (with_reducible have hp := of_decide_eq_false h) | skip))
    | (show KSeq _ _ _ _ _ _ _; first
      | refine KSeq.normal ?_
      | refine KSeq.ret ?_)
    | (show KEnd _ _ _ _ _ _ _; refine KEnd.fin (Or.inr rfl) ⟨_, (ResL.cell rfl (LoadV.aggH tabOk rfl rfl (by exact H) (by exact rfl)) (ResL.tmp rfl ResL.nil)), ?_⟩))
  · have hus : usersOk l = false := by simp_all
    have e1 : findS l name = (uK noU, 2) := by unfold findS; rw [hus]; rfl
    rw [e1]
    exact ⟨I, noU, Imm.Le.rfl' I, rfl, ⟨SlI.nil, by show 0 ≤ _; omega, by show 0 ≤ _; omega⟩, rfl, H.drop.drop⟩
  · have hus : usersOk l = true := by simp_all
    have e1 : findS l name = (uK noU, 5) := by unfold findS findI; rw [hus, if_pos rfl, if_pos (by simpa using h)]
    rw [e1]
    exact ⟨I, noU, Imm.Le.rfl' I, rfl, ⟨SlI.nil, by show 0 ≤ _; omega, by show 0 ≤ _; omega⟩, rfl, H.drop.drop⟩
  have hus : usersOk l = true := by simp_all
  rcases idxF_cases (fun u : Us => eqT u.name name) l with ⟨hi, _⟩ | ⟨k, hk, hi, _⟩
  · exfalso; rw [hi] at h; simp at h
  have e1 : findS l name = (uK (atD l k), 0) := by unfold findS findI; rw [hus, if_pos rfl, hi, if_neg (by omega)]; rfl
  rw [hi, e1]
  obtain ⟨b1, o1, rfl, hr1⟩ := hv.at (by omega)
  have hr1 := (hr1.elem usC_len (atD_get hk))
  have hui := hu _ (atD_mem hk)
  obtain ⟨u, hue⟩ : ∃ u, atD l k = u := ⟨_, rfl⟩
  have huok := usersOk_at hus hk
  rw [hue] at hr1 hui huok
  rw [hue]
  obtain ⟨id, nm, sec, A1, c1, gs⟩ := u
  have hr1 : RdW I L b1 (o1 + k * 4) [.int .i64 id, .string nm, .int .i64 sec, .slice A1 gs.length c1] := hr1
  have hgl : gs.length ≤ 10 := by unfold userOk at huok; simp only [Bool.and_eq_true, decide_eq_true_eq] at huok; exact huok.2
  have hg : SlI I (.slice A1 gs.length c1) 1 gs.length (gs.flatMap inC) := hui.grp
  repeat' (first
    | (show VcL _ _ _ _ _ _ _ _; first
      | refine VcL.pures tabOk rfl ?_
      | refine VcL.nil ?_
      | (show VcL _ _ _ _ (⟨_, .load _ _, _, _, _, _⟩ :: _) _ _ _; first
      | refine VcL.load1 tabOk rfl rfl rfl rfl rfl (by first | exact Holds.cell H rfl | exact RdW.get0 (by assumption) rfl (Holds.drop (Holds.drop H))) ?_
      | refine VcL.loadR tabOk rfl rfl rfl rfl rfl rfl (by exact RdW.rd (by assumption) (Holds.drop (Holds.drop H))) rfl ?_
      | refine VcL.loadN tabOk rfl rfl rfl rfl rfl rfl (by exact H) (by exact rfl) ?_)
      | (show VcL _ _ _ _ (⟨_, .indexAddr _ _ _, _, _, _, _⟩ :: _) _ _ _; refine VcL.indexAddr tabOk rfl rfl rfl rfl rfl rfl (by omega) (by omega) ?_)
      | refine VcL.alloc tabOk H rfl rfl rfl rfl (fun b w H => ?_)
      | (show VcL _ _ _ _ (⟨_, .store _ _ _, _, _, _, _⟩ :: _) _ _ _; refine VcL.store tabOk rfl (by first | exact H | exact (Holds.f1 H) | exact (Holds.f3 H)) rfl rfl (by exact rfl) (by exact rfl) (by exact rfl) (by exact rfl) (fun w H => ?_))
      | (show VcL _ _ _ _ (⟨_, .call ⟨.value (.func F_slices_Clone_int_int), _, _⟩, _, _, _, _⟩ :: _) _ _ _; (refine VcL.callF ok_slices_Clone_int_int rfl rfl rfl rfl (Rets.mono (CloneI_any H hg.toR (in_one gs) (by omega)) ?_); rintro _ w H; obtain ⟨_, A4, c4, rfl⟩ := Holds.own_len H)))
    | (show Vc _ _ _ _ _ _; first
      | refine Vc.seq ?_
      | refine Vc.region ?_
      | refine Vc.ret ?_)
    | (show KSeq _ _ _ _ _ _ _; refine KSeq.normal ?_)
    | (show KEnd _ _ _ _ _ _ _; refine KEnd.fin (Or.inr rfl) ⟨_, (ResL.cell rfl (LoadV.aggH tabOk rfl rfl (by exact H) (by exact rfl)) (ResL.tmp rfl ResL.nil)), ?_⟩))
  obtain ⟨J, hJ, H, hg2⟩ := Holds.freezeOwn (v := .slice A4 gs.length c4) (e := 3) (sz := 1) (n := gs.length) (cs := gs.flatMap inC) (by first | exact H | exact Holds.f1 H | exact Holds.f2 H | exact Holds.f3 H)
  exact ⟨J, ⟨id, nm, sec, A4, c4, gs⟩, hJ, rfl, ⟨hg2, hui.name, hui.len⟩, rfl, H.drop.drop.drop⟩
theorem FindR_any (H : Holds I w L) {v : Value} {l : List Us} (hv : SlU I L v l) (hl : l.length ≤ 140737488355328) (hu : ∀ u ∈ l, UsI I u) (name : ByteArray) (hn : name.size ≤ 140737488355328) :
    Rets Try.prog F_tithingref21_Find #[v, .string name] w fun r w' => ∃ u, r = .tuple #[usV u, .int .i64 (findS l name).2] ∧ UsI I u ∧ uK u = (findS l name).1 ∧ Holds I w' L := by
  obtain ⟨A, cap, rfl, hcap⟩ := hv.form
  refine ok_tithingref21_Find.rets rfl ?_
  repeat' (first
    | (show VcL _ _ _ _ _ _ _ _; first
      | refine VcL.pures tabOk rfl ?_
      | refine VcL.nil ?_
      | refine VcL.alloc tabOk H rfl rfl rfl rfl (fun b w H => ?_)
      | (show VcL _ _ _ _ (⟨_, .store _ _ _, _, _, _, _⟩ :: _) _ _ _; refine VcL.store tabOk rfl (by exact H) rfl rfl (by exact rfl) (by exact rfl) (by exact rfl) (by exact rfl) (fun w H => ?_))
      | (show VcL _ _ _ _ (⟨_, .call ⟨.value (.func F_tithingref21_ValidUsers), _, _⟩, _, _, _, _⟩ :: _) _ _ _; (refine VcL.callF ok_tithingref21_ValidUsers rfl rfl rfl rfl (Rets.mono (ValidUsersR_any H hv.up hl hu) ?_); rintro _ w ⟨rfl, H⟩)))
    | (show Vc _ _ _ _ _ _; first
      | refine Vc.seq ?_
      | refine Vc.region ?_
      | refine Vc.ret ?_
      | refine Vc.skip ?_
      | refine Vc.block ?_
      | (refine Vc.cond rfl (fun h => ?_) (fun h => ?_) <;> skip))
    | (show KSeq _ _ _ _ _ _ _; first
      | refine KSeq.normal ?_
      | refine KSeq.ret ?_)
    | (show KEnd _ _ _ _ _ _ _; refine KEnd.fin (Or.inr rfl) ⟨_, (ResL.cell rfl (LoadV.aggH tabOk rfl rfl (by exact H) (by exact rfl)) (ResL.tmp rfl ResL.nil)), ?_⟩))
  · have hus : usersOk l = false := by simp_all
    have e1 : findS l name = (uK noU, 2) := by unfold findS; rw [hus]; rfl
    rw [e1]
    exact ⟨noU, rfl, ⟨SlI.nil, by show 0 ≤ _; omega, by show 0 ≤ _; omega⟩, rfl, H.drop⟩
  have hus : usersOk l = true := by simp_all
  refine Vc.loopS [(0, _), (1, _), (4, _)] (fun k : Nat => [(6, .int .i64 k)]) (fun k w => Holds I w (blk b 37 (usC noU) :: L) ∧ k ≤ l.length ∧ ∀ j, j < k → eqT (atD l j).name name = false) (fun k _ => l.length - k) 0 ⟨rfl, trivial⟩ ⟨rfl, rfl, rfl, trivial⟩ ⟨H, Nat.zero_le _, fun j hj => absurd hj (by omega)⟩ ?_
  rintro k w ⟨H, hk, hall⟩
  have H : Holds I w (blk b 37 [.int .i64 0, .string .empty, .int .i64 0, .slice none 0 0] :: L) := H
  by_cases hlt : k < l.length
  · obtain ⟨b1, o1, rfl, hr1⟩ := hv.at (by omega)
    have hr1 := (hr1.elem usC_len (atD_get hlt))
    have hui := hu _ (atD_mem hlt)
    obtain ⟨u, hue⟩ : ∃ u, atD l k = u := ⟨_, rfl⟩
    have hyes : eqT u.name name = true → findS l name = (uK u, 0) := fun h => by
      unfold findS findI
      rw [hus, if_pos rfl, idxF_yes hlt (by rw [hue]; exact h) hall, if_neg (by omega), Int.toNat_natCast, hue]
    have hno : eqT u.name name = false → ∀ j, j < k + 1 → eqT (atD l j).name name = false := fun h j hj => by
      rcases Nat.lt_or_ge j k with h1 | h1
      · exact hall j h1
      · obtain rfl : j = k := by omega
        rw [hue]; exact h
    rw [hue] at hr1 hui
    obtain ⟨id, nm, sec, A1, c1, gs⟩ := u
    have hr1 : RdW I L b1 (o1 + k * 4) [.int .i64 id, .string nm, .int .i64 sec, .slice A1 gs.length c1] := hr1
    repeat' (first
      | (show VcL _ _ _ _ _ _ _ _; first
      | refine VcL.pures tabOk rfl ?_
      | refine VcL.nil ?_
      | (show VcL _ _ _ _ (⟨_, .load _ _, _, _, _, _⟩ :: _) _ _ _; first
      | refine VcL.load1 tabOk rfl rfl rfl rfl rfl (by first | exact RdW.get (by assumption) rfl (Holds.drop H) | exact RdW.get0 (by assumption) rfl (Holds.drop H)) ?_
      | refine VcL.loadR tabOk rfl rfl rfl rfl rfl rfl (by exact RdW.rd (by assumption) (Holds.drop H)) rfl ?_)
      | (show VcL _ _ _ _ (⟨_, .indexAddr _ _ _, _, _, _, _⟩ :: _) _ _ _; refine VcL.indexAddr tabOk rfl rfl rfl rfl rfl rfl (by omega) (by omega) ?_)
      | (show VcL _ _ _ _ (⟨_, .store _ _ _, _, _, _, _⟩ :: _) _ _ _; refine VcL.store tabOk rfl (by exact H) rfl rfl (by exact rfl) (by exact rfl) (by exact rfl) (by exact rfl) (fun w H => ?_))
      | (show VcL _ _ _ _ (⟨_, .call ⟨.value (.func F_tithingref01_Equal), _, _⟩, _, _, _, _⟩ :: _) _ _ _; (refine VcL.callF ok_tithingref01_Equal rfl rfl rfl rfl (Rets.mono (EqualR_any H _ _ hui.name hn) ?_); rintro _ w ⟨rfl, H⟩)))
      | (show Vc _ _ _ _ _ _; first
      | refine Vc.seq ?_
      | refine Vc.region ?_
      | refine Vc.ret ?_
      | refine Vc.skip ?_
      | refine Vc.block ?_
      | (refine Vc.cond rfl (fun h => ?_) (fun h => ?_) <;> first | (exfalso; simp only [decide_eq_true_eq, decide_eq_false_iff_not] at h; omega) | (with_reducible have hp := of_decide_eq_true h) | skip))
      | (show KSeq _ _ _ _ _ _ _; first
      | refine KSeq.normal ?_
      | refine KSeq.ret ?_)
      | (show KBlock _ _ _ _ _ _; first
      | refine KBlock.normal ?_
      | refine KBlock.ret ?_)
      | refine KLoop.ret ?_
      | (show KEnd _ _ _ _ _ _ _; refine KEnd.fin (Or.inr rfl) ⟨_, (ResL.cell rfl (LoadV.aggH tabOk rfl rfl (by exact H) (by exact rfl)) (ResL.tmp rfl ResL.nil)), ?_⟩))
    · rw [hyes h]
      exact ⟨⟨id, nm, sec, A1, c1, gs⟩, rfl, hui, rfl, H.drop⟩
    · exact KLoop.again (k + 1) ⟨got_succ rfl (by omega), trivial⟩ ⟨rfl, rfl, rfl, trivial⟩ ⟨H, hlt, hno h⟩ (by omega)
  ·
    repeat' (first
      | (show VcL _ _ _ _ _ _ _ _; first
      | refine VcL.pures tabOk rfl ?_
      | refine VcL.nil ?_
      | (show VcL _ _ _ _ (⟨_, .store _ _ _, _, _, _, _⟩ :: _) _ _ _; refine VcL.store tabOk rfl (by exact H) rfl rfl (by exact rfl) (by exact rfl) (by exact rfl) (by exact rfl) (fun w H => ?_)))
      | (show Vc _ _ _ _ _ _; first
      | refine Vc.seq ?_
      | refine Vc.region ?_
      | refine Vc.ret ?_
      | refine Vc.exit ?_
      | (refine Vc.cond rfl (fun h => ?_) (fun h => ?_) <;> first | (exfalso; simp only [decide_eq_true_eq, decide_eq_false_iff_not] at h; omega) | (with_reducible have hp := of_decide_eq_false h)))
      | (show KSeq _ _ _ _ _ _ _; first
      | refine KSeq.normal ?_
      | refine KSeq.exit ?_)
      | (show KBlock _ _ _ _ _ _; refine KBlock.here ?_)
      | refine KLoop.exit ?_
      | (show KEnd _ _ _ _ _ _ _; refine KEnd.fin (Or.inr rfl) ⟨_, (ResL.cell rfl (LoadV.aggH tabOk rfl rfl (by exact H) (by exact rfl)) (ResL.tmp rfl ResL.nil)), ?_⟩))
    obtain rfl : k = l.length := by omega
    have e1 : findS l name = (uK noU, 5) := by unfold findS findI; rw [hus, if_pos rfl, idxF_no hall, if_pos (by omega)]
    rw [e1]
    exact ⟨noU, rfl, ⟨SlI.nil, by show 0 ≤ _; omega, by show 0 ≤ _; omega⟩, rfl, H.drop⟩
theorem same_any (H : Holds I w L) {u v : Us} (hu : UsI I u) (hv : UsI I v) (hk : uK u = uK v) : Rets Try.prog F_tithinglaw21_same #[usV u, usV v] w fun r w' => r = .bool true ∧ Holds I w' L := by
  obtain ⟨id, nm, sec, A1, c1, gs⟩ := u
  obtain ⟨id2, nm2, sec2, A2, c2, gs2⟩ := v
  unfold uK at hk
  injection hk with k1 hk
  injection hk with k2 hk
  injection hk with k3 k4
  dsimp only at k1 k2 k3 k4
  subst k1; subst k2; subst k3; subst k4
  have hg1 : SlR I L (.slice A1 gs.length c1) 1 gs.length (gs.flatMap inC) := hu.grp.toR
  have hg2 : SlR I L (.slice A2 gs.length c2) 1 gs.length (gs.flatMap inC) := hv.grp.toR
  have hgl : gs.length ≤ 140737488355328 := hu.len
  show Rets Try.prog F_tithinglaw21_same #[.agg #[.int .i64 id, .string nm, .int .i64 sec, .slice A1 gs.length c1], .agg #[.int .i64 id, .string nm, .int .i64 sec, .slice A2 gs.length c2]] w _
  refine ok_tithinglaw21_same.rets rfl ?_
  repeat' (first
    | (show VcL _ _ _ _ _ _ _ _; first
      | refine VcL.pures tabOk rfl ?_
      | refine VcL.nil ?_
      | (show VcL _ _ _ _ (⟨_, .load _ _, _, _, _, _⟩ :: _) _ _ _; refine VcL.load1 tabOk rfl rfl rfl rfl rfl (by first | exact Holds.cell H rfl | exact Holds.cell (Holds.f1 H) rfl) ?_)
      | refine VcL.box H rfl rfl rfl rfl rfl (fun b w H => ?_)
      | (refine VcL.guard rfl rfl rfl rfl (fun h => ?_) (fun h => ?_) <;> first | (cases h; done) | (exfalso; simp only [decide_eq_true_eq, decide_eq_false_iff_not] at h; omega) | (with_reducible have hp := ndec_t h) | (with_reducible have hp := ndec_f h) | skip))
    | (show Vc _ _ _ _ _ _; first
      | refine Vc.seq ?_
      | refine Vc.region ?_
      | refine Vc.condT rfl ?_
      | refine Vc.ret ?_
      | refine Vc.skip ?_
      | refine Vc.block ?_
      | (refine Vc.cond rfl (fun h => ?_) (fun h => ?_) <;> first | (with_reducible have hp := ndec_t h) | (with_reducible have hp := ndec_f h)))
    | (show KSeq _ _ _ _ _ _ _; first
      | refine KSeq.normal ?_
      | refine KSeq.ret ?_)
    | (show KEnd _ _ _ _ _ _ _; refine KEnd.fin (Or.inr rfl) ⟨_, (ResL.tmp rfl ResL.nil), ?_⟩))
  all_goals try (exfalso; simp_all; done)
  refine Vc.loopS [(2, _), (3, _)] (fun j : Nat => [(5, .int .i64 j)]) (fun j w => Holds I w (blk b 37 [.int .i64 id, .string nm, .int .i64 sec, .slice A2 gs.length c2] :: blk _ 37 [.int .i64 id, .string nm, .int .i64 sec, .slice A1 gs.length c1] :: L) ∧ j ≤ gs.length) (fun j _ => gs.length - j) 0 ⟨rfl, trivial⟩ ⟨rfl, rfl, trivial⟩ ⟨H, Nat.zero_le _⟩ ?_
  rintro j w ⟨H, hj⟩
  by_cases hjt : j < gs.length
  · obtain ⟨b3, o3, rfl, hr3⟩ := hg1.at (by omega)
    obtain ⟨b4, o4, rfl, hr4⟩ := hg2.at (by omega)
    have hr3 := hr3.elem inC_len (atD_get hjt)
    have hr4 := hr4.elem inC_len (atD_get hjt)
    repeat' (first
      | (show VcL _ _ _ _ _ _ _ _; first
      | refine VcL.pures tabOk rfl ?_
      | refine VcL.nil ?_
      | (show VcL _ _ _ _ (⟨_, .load _ _, _, _, _, _⟩ :: _) _ _ _; refine VcL.load1 tabOk rfl rfl rfl rfl rfl (by exact Holds.cell (Holds.f1 H) rfl) ?_))
      | (show VcD _ _ _ _ _ _ _ _ _; first
      | refine VcD.pures tabOk rfl ?_
      | refine VcD.done ?_
      | (show VcD _ _ _ _ _ (.pure _ _) _ _ _; refine VcD.indexAddr tabOk rfl rfl rfl rfl rfl rfl rfl (by omega) (by omega) ?_)
      | (show VcD _ _ _ _ _ (.take _ _) _ _ _; refine VcD.load1 tabOk rfl rfl rfl rfl rfl rfl (by intro w_ hw_; first | exact Holds.cell hw_ rfl | exact Holds.cell (Holds.f1 hw_) rfl | exact RdW.get0 (by assumption) rfl (Holds.drop (Holds.drop hw_))) (by exact rfl) ?_))
      | (show Vc _ _ _ _ _ _; first
      | refine Vc.seq ?_
      | refine Vc.region ?_
      | refine Vc.ret ?_
      | refine Vc.skip ?_
      | refine Vc.block ?_
      | refine Vc.drawnH (id := 6) H (.pure 0 (.pure 2 (.pure 5 (.pure 7 (.take 1 (.pure 3 (.take 4 (.take 6 (.pure 8 (.take 9 (.pure 10 .done))))))))))) mixed (by kernel_rfl) (fun w H => ?_)
      | (refine Vc.cond rfl (fun h => ?_) (fun h => ?_) <;> first | (exfalso; simp only [decide_eq_true_eq, decide_eq_false_iff_not] at h; omega) | (with_reducible have hp := of_decide_eq_true h) | (with_reducible have hp := ndec_t h) | (with_reducible have hp := ndec_f h)))
      | (show KSeq _ _ _ _ _ _ _; first
      | refine KSeq.normal ?_
      | refine KSeq.ret ?_)
      | (show KBlock _ _ _ _ _ _; first
      | refine KBlock.normal ?_
      | refine KBlock.ret ?_)
      | refine KLoop.ret ?_
      | (show KEnd _ _ _ _ _ _ _; refine KEnd.fin (Or.inr rfl) ⟨_, (ResL.tmp rfl ResL.nil), ?_⟩))
    · exfalso; exact hp rfl
    exact KLoop.again (j + 1) ⟨got_succ rfl (by omega), trivial⟩ ⟨rfl, rfl, trivial⟩ ⟨H, hjt⟩ (by omega)
  ·
    repeat' (first
      | (show VcL _ _ _ _ _ _ _ _; first
      | refine VcL.pures tabOk rfl ?_
      | refine VcL.nil ?_
      | (show VcL _ _ _ _ (⟨_, .load _ _, _, _, _, _⟩ :: _) _ _ _; refine VcL.load1 tabOk rfl rfl rfl rfl rfl (by exact Holds.cell (Holds.f1 H) rfl) ?_))
      | (show Vc _ _ _ _ _ _; first
      | refine Vc.seq ?_
      | refine Vc.region ?_
      | refine Vc.ret ?_
      | refine Vc.exit ?_
      | (refine Vc.cond rfl (fun h => ?_) (fun h => ?_) <;> first | (exfalso; simp only [decide_eq_true_eq, decide_eq_false_iff_not] at h; omega) | (with_reducible have hp := of_decide_eq_false h)))
      | (show KSeq _ _ _ _ _ _ _; first
      | refine KSeq.normal ?_
      | refine KSeq.exit ?_)
      | (show KBlock _ _ _ _ _ _; refine KBlock.here ?_)
      | refine KLoop.exit ?_
      | (show KEnd _ _ _ _ _ _ _; refine KEnd.fin (Or.inr rfl) ⟨_, (ResL.tmp rfl ResL.nil), ?_⟩))
    exact ⟨rfl, H.drop.drop⟩
theorem usV_form (u : Us) : usV u = .agg #[.int .i64 u.id, .string u.name, .int .i64 u.sec, SlD.v u.grp] := rfl
theorem RightsUsers_any (H : Holds I w L) {v : Value} {l : List Us} (hv : SlI I v 4 l.length (l.flatMap usC)) (hl : l.length ≤ 140737488355328) (hu : ∀ u ∈ l, UsI I u) (r : Rt) (name : ByteArray) (hn : name.size ≤ 140737488355328) :
    Rets Try.prog F_tithinglaw21_RightsUsers #[v, rtV r, .string name] w fun u w' => u = .bool true ∧ Holds I w' L := by
  obtain ⟨A, cap, rfl, hcap⟩ := hv.form
  obtain ⟨x1, x2, x3, x4, x5, x6⟩ := r
  show Rets Try.prog F_tithinglaw21_RightsUsers #[_, .agg #[.int .i64 x1, .int .i64 x2, .int .i64 x3, .int .i64 x4, .int .i64 x5, .bool x6], _] w _
  have hret : Rets Try.prog F_tithinglaw21_RightsUsers #[.slice A l.length cap, .agg #[.int .i64 x1, .int .i64 x2, .int .i64 x3, .int .i64 x4, .int .i64 x5, .bool x6], .string name] w fun u w' => ∃ J, u = .bool true ∧ Imm.Le I J ∧ Holds J w' L := by
    refine ok_tithinglaw21_RightsUsers.rets rfl ?_
    repeat' (first
      | (show VcL _ _ _ _ _ _ _ _; first
      | refine VcL.pures tabOk rfl ?_
      | refine VcL.nil ?_
      | refine VcL.box H rfl rfl rfl rfl rfl (fun b w H => ?_)
      | refine VcL.alloc tabOk H rfl rfl rfl rfl (fun b w H => ?_)
      | (show VcL _ _ _ _ (⟨_, .store _ _ _, _, _, _, _⟩ :: _) _ _ _; refine VcL.store tabOk rfl (by exact H) rfl rfl (by exact rfl) (by exact rfl) (by exact rfl) (by exact rfl) (fun w H => ?_))
      | (show VcL _ _ _ _ (⟨_, .call ⟨.value (.func F_tithinglaw21_few), _, _⟩, _, _, _, _⟩ :: _) _ _ _; (refine VcL.callF ok_tithinglaw21_few rfl rfl rfl rfl (Rets.mono (few_any H hv.toR hl) ?_); rintro _ w ⟨rfl, H⟩))
      | (show VcL _ _ _ _ (⟨_, .call ⟨.value (.func F_tithinglaw21_First), _, _⟩, _, _, _, _⟩ :: _) _ _ _; (refine VcL.callF ok_tithinglaw21_First rfl rfl rfl rfl (Rets.mono (First_any H) ?_); rintro _ w ⟨rfl, H⟩))
      | (show VcL _ _ _ _ (⟨_, .call ⟨.value (.func F_rights_Find), _, _⟩, _, _, _, _⟩ :: _) _ _ _; (refine VcL.callF ok_rights_Find rfl rfl rfl rfl (Rets.mono (Find_any H hv.toR hl hu name hn) ?_); rintro _ w ⟨J, ⟨i1, n1, s1, A1, c1, g1⟩, hJ, rfl, hu1, hk1, H⟩))
      | (show VcL _ _ _ _ (⟨_, .call ⟨.value (.func F_tithingref21_Find), _, _⟩, _, _, _, _⟩ :: _) _ _ _; (refine VcL.callF ok_tithingref21_Find rfl rfl rfl rfl (Rets.mono (FindR_any H (hv.mono hJ).toR hl (fun u hx => (hu u hx).mono hJ) name hn) ?_); rintro _ w ⟨⟨i2, n2, s2, A2, c2, g2⟩, rfl, hu2, hk2, H⟩)))
      | (show VcD _ _ _ _ _ _ _ _ _; refine VcD.pures tabOk rfl ?_)
      | (show Vc _ _ _ _ _ _; first
      | refine Vc.seq ?_
      | refine Vc.region ?_
      | refine Vc.ret ?_
      | refine Vc.skip ?_
      | refine Vc.drawnH (id := 5) H (.pure 0 (.pure 2 (.only 1 (.only 3 (.pure 4 (.pure 5 (.take 6 (.take 8 (.only 7 (.only 9 (.pure 10 (.pure 11 (.pure 12 (.take 13 (.take 14 (.only 15 (.pure 16 (.pure 17 (.pure 18 (.pure 19 (.pure 20 (.pure 21 (.pure 22 (.only 23 (.pure 24 (.pure 25 .done)))))))))))))))))))))))))) mixed (by kernel_rfl) (fun w H => ?_)
      | (refine Vc.cond rfl (fun h => ?_) (fun h => ?_) <;> skip))
      | (show KSeq _ _ _ _ _ _ _; first
      | refine KSeq.normal ?_
      | refine KSeq.ret ?_)
      | (show KEnd _ _ _ _ _ _ _; refine KEnd.fin (Or.inr rfl) ⟨_, (ResL.tmp rfl ResL.nil), ?_⟩))
    · exact ⟨I, rfl, Imm.Le.rfl' I, H.drop⟩
    have H : Holds J w (blk b 37 [.int .i64 i2, .string n2, .int .i64 s2, .slice A2 g2.length c2] :: blk _ 37 [.int .i64 i1, .string n1, .int .i64 s1, .slice A1 g1.length c1] :: blk _ 24 [.int .i64 x1, .int .i64 x2, .int .i64 x3, .int .i64 x4, .int .i64 x5, .bool x6] :: L) := H
    have huJ : ∀ u ∈ l, UsI J u := fun u hx => (hu u hx).mono hJ
    have hvJ := hv.mono hJ
    repeat' (first
      | (show VcD _ _ _ _ _ _ _ _ _; first
      | refine VcD.pures tabOk rfl ?_
      | refine VcD.done ?_
      | (show VcD _ _ _ _ _ (.pure _ _) _ _ _; (refine VcD.guardP rfl rfl rfl rfl rfl (fun h => ?_) (fun h => ?_) <;> first | (cases h; done) | skip))
      | (show VcD _ _ _ _ _ (.take _ _) _ _ _; first
      | refine VcD.loadN tabOk rfl rfl rfl rfl rfl rfl rfl (by intro w_ hw_; first | exact hw_ | exact (Holds.f1 hw_) | exact (Holds.f2 hw_)) (by exact rfl) ?_
      | refine VcD.skipT rfl rfl rfl ?_
      | (refine VcD.guardT rfl rfl rfl rfl rfl (fun h => ?_) (fun h => ?_) <;> first | (cases h; done) | (with_reducible have hp := of_decide_eq_true h) | (with_reducible have hp := of_decide_eq_false h) | skip))
      | (show VcD _ _ _ _ _ (.only _ _) _ _ _; first
      | (refine VcD.callF (f := F_tithinglaw21_First) rfl ok_tithinglaw21_First rfl rfl rfl rfl (Rets.mono (First_any H) ?_); rintro _ w ⟨rfl, H⟩; refine ⟨(by exact H), ?_⟩)
      | (refine VcD.callF (f := F_rights_ValidUsers) rfl ok_rights_ValidUsers rfl rfl rfl rfl (Rets.mono (ValidUsers_any H hvJ.toR hl huJ) ?_); rintro _ w ⟨rfl, H⟩; refine ⟨(by exact H), ?_⟩)
      | (refine VcD.callF (f := F_tithingref21_ValidUsers) rfl ok_tithingref21_ValidUsers rfl rfl rfl rfl (Rets.mono (ValidUsersR_any H hvJ.toR hl huJ) ?_); rintro _ w ⟨rfl, H⟩; refine ⟨(by exact H), ?_⟩)
      | (refine VcD.callF (f := F_rights_Valid) rfl ok_rights_Valid rfl rfl rfl rfl (Rets.mono (Valid_any H ⟨x1, x2, x3, x4, x5, x6⟩) ?_); rintro _ w ⟨rfl, H⟩; refine ⟨(by exact H), ?_⟩)
      | (refine VcD.callF (f := F_tithingref21_Valid) rfl ok_tithingref21_Valid rfl rfl rfl rfl (Rets.mono (ValidR_any H ⟨x1, x2, x3, x4, x5, x6⟩) ?_); rintro _ w ⟨rfl, H⟩; refine ⟨(by exact H), ?_⟩)
      | (refine VcD.callF (f := F_tithinglaw21_same) rfl ok_tithinglaw21_same rfl rfl rfl rfl (Rets.mono (same_any (u := ⟨i1, n1, s1, A1, c1, g1⟩) (v := ⟨i2, n2, s2, A2, c2, g2⟩) H hu1 hu2 (hk1.trans hk2.symm)) ?_); rintro _ w ⟨rfl, H⟩; refine ⟨(by exact H), ?_⟩)
      | refine VcD.skip rfl rfl rfl (by exact H) ?_
      | (refine VcD.guardO rfl rfl rfl rfl rfl (fun h => ?_) (fun h => ?_) <;> first | (cases h; done) | (with_reducible have hp := of_decide_eq_true h) | (with_reducible have hp := of_decide_eq_false h) | skip)))
      | (show Vc _ _ _ _ _ _; refine Vc.ret ?_)
      | (show KSeq _ _ _ _ _ _ _; refine KSeq.normal ?_)
      | (show KEnd _ _ _ _ _ _ _; refine KEnd.fin (Or.inr rfl) ⟨_, (ResL.tmp rfl ResL.nil), ?_⟩))
    all_goals first
      | exact ⟨J, rfl, hJ, H.drop.drop.drop⟩
      | (exfalso; simp at h; done)
      | (exfalso; exact hp rfl)
      | (exfalso; clear H hv hvJ hu huJ hu1 hu2 hk1 hk2; simp_all; done)
  exact hret.mono fun u w' ⟨J, h1, h2, h3⟩ => ⟨h1, h3.less h2⟩
end Go.Proofs.Ytkmbcjpedmlhfaa.V
