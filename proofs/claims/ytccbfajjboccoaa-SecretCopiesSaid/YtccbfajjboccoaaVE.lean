/- A door's users, its copy, a new one. -/
import Derived.Test.YtccbfajjboccoaaVD
namespace Go.Proofs.Ytccbfajjboccoaa.V
open Go Go.Proofs.YtccbfajjboccoaaV
set_option linter.unusedVariables false
set_option linter.unusedSimpArgs false
set_option maxHeartbeats 1000000
attribute [local irreducible] IntKind.wrap
variable {I : Imm} {w : World} {L : List Asn}
theorem CloneI_any (H : Holds I w L) {v : Value} {n : Nat} {cs : List Value} (hv : SlR I L v 1 n cs) (h1 : ∀ u ∈ cs, oneC u = true) (hn : n * 8 ≤ 2 ^ 46) : Rets Try.prog F_slices_Clone_int_int #[v] w fun u w' => Holds I w' (own u 3 1 n cs :: L) := by
  obtain ⟨A, cap, rfl, hcap⟩ := hv.form
  have hlen := hv.len
  cases A with
  | none =>
    refine ok_slices_Clone_int_int.rets rfl ?_
    repeat' (first
      | (show VcL _ _ _ _ _ _ _ _; first
      | refine VcL.pures tabOk rfl ?_
      | refine VcL.nil ?_)
      | (show Vc _ _ _ _ _ _; first
      | refine Vc.seq ?_
      | refine Vc.region ?_
      | refine Vc.condT rfl ?_
      | refine Vc.ret ?_)
      | (show KSeq _ _ _ _ _ _ _; first
      | refine KSeq.normal ?_
      | refine KSeq.ret ?_)
      | (show KEnd _ _ _ _ _ _; refine KEnd.mk (Or.inr rfl) ⟨_, (ResL.tmp rfl ResL.nil), ?_⟩))
    obtain ⟨A', cap', e, h2, h3, h4, h5⟩ := hv.out
    injection e with e1 e2 e3
    obtain ⟨rfl, _⟩ := h4 e1.symm
    have : cs = [] := by simpa using hlen
    subst this
    exact H.own_nil
  | some a =>
    refine ok_slices_Clone_int_int.rets rfl ?_
    repeat' (first
      | (refine VcL.append tabOk rfl rfl rfl rfl H (SlR.src hv (Holds.drop H)) h1 (by show (0 + n) * 8 ≤ 2 ^ 46; omega) rfl rfl rfl (fun sv w H => ?_))
      | (show VcL _ _ _ _ _ _ _ _; first
      | refine VcL.pures tabOk rfl ?_
      | refine VcL.nil ?_
      | refine VcL.buildSlice tabOk H rfl rfl rfl rfl rfl rfl (fun sv w H => ?_))
      | (show Vc _ _ _ _ _ _; first
      | refine Vc.seq ?_
      | refine Vc.region ?_
      | refine Vc.condF rfl ?_
      | refine Vc.ret ?_
      | refine Vc.skip ?_)
      | (show KSeq _ _ _ _ _ _ _; refine KSeq.normal ?_)
      | (show KEnd _ _ _ _ _ _; refine KEnd.mk (Or.inr rfl) ⟨_, (ResL.tmp rfl ResL.nil), ?_⟩))
    simpa [repL, resVal] using H
theorem CloneV_any (H : Holds I w L) {v : Value} {n : Nat} {cs : List Value} (hv : SlR I L v 7 n cs) (h1 : ∀ u ∈ cs, oneC u = true) (hn : n * 80 ≤ 2 ^ 46) : Rets Try.prog F_slices_Clone_secret_visitor_secret_visitor #[v] w fun u w' => Holds I w' (own u 71 7 n cs :: L) := by
  obtain ⟨A, cap, rfl, hcap⟩ := hv.form
  have hlen := hv.len
  cases A with
  | none =>
    refine ok_slices_Clone_secret_visitor_secret_visitor.rets rfl ?_
    repeat' (first
      | (show VcL _ _ _ _ _ _ _ _; first
      | refine VcL.pures tabOk rfl ?_
      | refine VcL.nil ?_)
      | (show Vc _ _ _ _ _ _; first
      | refine Vc.seq ?_
      | refine Vc.region ?_
      | refine Vc.condT rfl ?_
      | refine Vc.ret ?_)
      | (show KSeq _ _ _ _ _ _ _; first
      | refine KSeq.normal ?_
      | refine KSeq.ret ?_)
      | (show KEnd _ _ _ _ _ _; refine KEnd.mk (Or.inr rfl) ⟨_, (ResL.tmp rfl ResL.nil), ?_⟩))
    obtain ⟨A', cap', e, h2, h3, h4, h5⟩ := hv.out
    injection e with e1 e2 e3
    obtain ⟨rfl, _⟩ := h4 e1.symm
    have : cs = [] := by simpa using hlen
    subst this
    exact H.own_nil
  | some a =>
    refine ok_slices_Clone_secret_visitor_secret_visitor.rets rfl ?_
    repeat' (first
      | (refine VcL.append tabOk rfl rfl rfl rfl H (SlR.src hv (Holds.drop H)) h1 (by show (0 + n) * 80 ≤ 2 ^ 46; omega) rfl rfl rfl (fun sv w H => ?_))
      | (show VcL _ _ _ _ _ _ _ _; first
      | refine VcL.pures tabOk rfl ?_
      | refine VcL.nil ?_
      | refine VcL.buildSlice tabOk H rfl rfl rfl rfl rfl rfl (fun sv w H => ?_))
      | (show Vc _ _ _ _ _ _; first
      | refine Vc.seq ?_
      | refine Vc.region ?_
      | refine Vc.condF rfl ?_
      | refine Vc.ret ?_
      | refine Vc.skip ?_)
      | (show KSeq _ _ _ _ _ _ _; refine KSeq.normal ?_)
      | (show KEnd _ _ _ _ _ _; refine KEnd.mk (Or.inr rfl) ⟨_, (ResL.tmp rfl ResL.nil), ?_⟩))
    simpa [repL, resVal] using H
/-- What a user is, wherever the groups lie. -/
def usK (u : Us) : Int × ByteArray × Int × List Int := (u.id, u.name, u.sec, u.grp.2.2)
abbrev ownU (v : Value) (l : List Us) : Asn := own v 34 4 l.length (l.flatMap usC)
theorem own_pushU {v : Value} {l : List Us} {x : Us} (H : Holds I w (own v 34 4 (l.length + 1) (l.flatMap usC ++ usC x) :: L)) : Holds I w (ownU v (l ++ [x]) :: L) := by
  unfold ownU
  rw [List.length_append, List.flatMap_append]
  simpa using H
theorem own_pushV {v : Value} {l : List Vs} {x : Vs} (H : Holds I w (own v 71 7 (l.length + 1) (l.flatMap vsC ++ vsC x) :: L)) : Holds I w (own v 71 7 (l ++ [x]).length ((l ++ [x]).flatMap vsC) :: L) := by
  rw [List.length_append, List.flatMap_append]
  simpa using H
/-- Users that are read, never changed. -/
structure UsersI (I : Imm) (u : Value) (l : List Us) : Prop where
  sl : SlI I u 4 l.length (l.flatMap usC)
  ok : ∀ x ∈ l, UsI I x
theorem UsersI.mono {I J : Imm} {u : Value} {l : List Us} (h : UsersI I u l) (hl : Imm.Le I J) : UsersI J u l := ⟨h.sl.mono hl, fun x hx => (h.ok x hx).mono hl⟩
theorem UsersP_any {d : Nat} {D : Dr} (H : Holds I w (doorA d D :: L)) (hD : DrOk I D) :
    Rets Try.prog F_secret_Door_Users #[ptr d] w fun u w' => ∃ J l, Imm.Le I J ∧ UsersI J u l ∧ l.map usK = D.vis.map (fun v => usK v.user) ∧ Holds J w' (doorA d D :: L) := by
  rcases door_open H with ⟨hnil, HB⟩ | ⟨vb, pre, post, cap, h1, h2, HB⟩
  · clear H
    have H := HB
    refine ok_secret_Door_Users.rets rfl ?_
    repeat' (first
      | (show VcL _ _ _ _ _ _ _ _; first
      | refine VcL.pures tabOk rfl ?_
      | refine VcL.nil ?_
      | (show VcL _ _ _ _ (⟨_, .load _ _, _, _, _, _⟩ :: _) _ _ _; refine VcL.load1 tabOk rfl rfl rfl rfl rfl (by exact Holds.cell H rfl) ?_)
      | (show VcL _ _ _ _ (⟨_, .call ⟨.value (.func F_secret_Door_none), _, _⟩, _, _, _, _⟩ :: _) _ _ _; (refine VcL.callF ok_secret_Door_none rfl rfl rfl rfl (Rets.mono (noneD_any H Holds.toW) ?_); rintro _ w ⟨rfl, H⟩)))
      | (show Vc _ _ _ _ _ _; first
      | refine Vc.seq ?_
      | refine Vc.region ?_
      | refine Vc.condF rfl ?_
      | refine Vc.skip ?_
      | refine Vc.block ?_)
      | (show KSeq _ _ _ _ _ _ _; refine KSeq.normal ?_))
    refine Vc.loopS [(12, _), (13, _)] (fun k : Nat => [(3, .slice none 0 0), (14, .int .i64 k)]) (fun k w => Holds I w (blk d 61 (drV D (.slice none 0 0)) :: L) ∧ k = 0) (fun k _ => 0) 0 ⟨rfl, rfl, trivial⟩ ⟨rfl, rfl, trivial⟩ ⟨H, rfl⟩ ?_
    rintro k w ⟨H, rfl⟩
    repeat' (first
      | (show VcL _ _ _ _ _ _ _ _; first
      | refine VcL.pures tabOk rfl ?_
      | refine VcL.nil ?_)
      | (show Vc _ _ _ _ _ _; first
      | refine Vc.seq ?_
      | refine Vc.region ?_
      | refine Vc.condF rfl ?_
      | refine Vc.ret ?_
      | refine Vc.exit ?_)
      | (show KSeq _ _ _ _ _ _ _; first
      | refine KSeq.normal ?_
      | refine KSeq.exit ?_)
      | (show KBlock _ _ _ _ _; refine KBlock.here ?_)
      | refine KLoop.exit ?_
      | (show KEnd _ _ _ _ _ _; refine KEnd.mk (Or.inr rfl) ⟨_, (ResL.tmp rfl ResL.nil), ?_⟩))
    exact ⟨I, [], Imm.Le.rfl' I, ⟨SlI.nil, by simp⟩, by rw [hnil]; rfl, door_nil hnil H⟩
  · clear H
    have H := HB
    refine ok_secret_Door_Users.rets rfl ?_
    repeat' (first
      | (show VcL _ _ _ _ _ _ _ _; first
      | refine VcL.pures tabOk rfl ?_
      | refine VcL.nil ?_
      | (show VcL _ _ _ _ (⟨_, .load _ _, _, _, _, _⟩ :: _) _ _ _; refine VcL.load1 tabOk rfl rfl rfl rfl rfl (by exact Holds.cell H rfl) ?_)
      | (show VcL _ _ _ _ (⟨_, .call ⟨.value (.func F_secret_Door_none), _, _⟩, _, _, _, _⟩ :: _) _ _ _; (refine VcL.callF ok_secret_Door_none rfl rfl rfl rfl (Rets.mono (noneD_any H Holds.toW) ?_); rintro _ w ⟨rfl, H⟩)))
      | (show Vc _ _ _ _ _ _; first
      | refine Vc.seq ?_
      | refine Vc.region ?_
      | refine Vc.condF rfl ?_
      | refine Vc.skip ?_
      | refine Vc.block ?_)
      | (show KSeq _ _ _ _ _ _ _; refine KSeq.normal ?_))
    refine Vc.loopS [(12, _), (13, _)] (fun q : Nat × Value => [(3, q.2), (14, .int .i64 q.1)]) (fun q w => q.1 ≤ D.vis.length ∧ ∃ J l, Imm.Le I J ∧ l.map usK = (D.vis.take q.1).map (fun v => usK v.user) ∧ (∀ x ∈ l, UsI J x) ∧ Holds J w (ownU q.2 l :: blk d 61 (drV D (.slice (some ⟨vb, pre.length, none⟩) D.vis.length cap)) :: viB vb pre D.vis post :: L)) (fun q _ => D.vis.length - q.1) (0, .slice none 0 0) ⟨rfl, rfl, trivial⟩ ⟨rfl, rfl, trivial⟩ ⟨Nat.zero_le _, I, [], Imm.Le.rfl' I, rfl, by simp, H.own_nil⟩ ?_
    rintro ⟨k, ov⟩ w ⟨hk, J, l, hJ, hl, hok, H⟩
    dsimp only at hk hl H
    have hll : l.length = k := by have := congrArg List.length hl; simp at this; omega
    by_cases hlt : k < D.vis.length
    · obtain ⟨v, hv⟩ : ∃ v, atD D.vis k = v := ⟨_, rfl⟩
      have hrow : D.vis[k]? = some v := by rw [← hv]; exact atD_get hlt
      have hvk := hD.vis _ (atD_mem hlt)
      rw [hv] at hvk
      obtain ⟨⟨id, name, sec, A, cp, gs⟩, gv, num, tr⟩ := v
      have hg : SlI J (.slice A gs.length cp) 1 gs.length (gs.flatMap inC) := hvk.user.grp.mono hJ
      have hgl : gs.length ≤ 10 := hvk.few
      have hlen := hD.len
      repeat' (first
        | (refine VcL.append tabOk rfl rfl rfl rfl (Holds.f3 H) (Holds.own_src H) (usC_one ⟨id, name, sec, A2, cp2, gs⟩) (by show (_ + 1) * 56 ≤ _; omega) rfl rfl rfl (fun v_ w H => ?_); have H := own_pushU (x := ⟨id, name, sec, A2, cp2, gs⟩) H)
        | (show VcL _ _ _ _ _ _ _ _; first
      | refine VcL.pures tabOk rfl ?_
      | refine VcL.nil ?_
      | (show VcL _ _ _ _ (⟨_, .load _ _, _, _, _, _⟩ :: _) _ _ _; first
      | refine VcL.load1 tabOk rfl rfl rfl rfl rfl (by first | exact Holds.cell H rfl | exact Holds.rowCell0 (Holds.f2 H) (fun _ => rfl) (by assumption) rfl) ?_
      | refine VcL.loadN tabOk rfl rfl rfl rfl rfl rfl (by first | exact H | exact (Holds.f2 H)) (by exact rfl) ?_
      | refine VcL.loadRowN0 tabOk rfl rfl rfl rfl rfl rfl (Holds.f2 H) (fun _ => rfl) (by assumption) (by exact rfl) (by exact rfl) (by exact rfl) ?_)
      | (show VcL _ _ _ _ (⟨_, .indexAddr _ _ _, _, _, _, _⟩ :: _) _ _ _; refine VcL.indexAddr tabOk rfl rfl rfl rfl rfl rfl (by omega) (by omega) ?_)
      | refine VcL.alloc tabOk H rfl rfl rfl rfl (fun b w H => ?_)
      | refine VcL.buildSlice tabOk H rfl rfl rfl rfl rfl rfl (fun sv w H => ?_)
      | (show VcL _ _ _ _ (⟨_, .store _ _ _, _, _, _, _⟩ :: _) _ _ _; refine VcL.store tabOk rfl (by exact H) rfl rfl (by exact rfl) (by exact rfl) (by exact rfl) (by exact rfl) (fun w H => ?_))
      | (show VcL _ _ _ _ (⟨_, .call ⟨.value (.func F_slices_Clone_int_int), _, _⟩, _, _, _, _⟩ :: _) _ _ _; (refine VcL.callF ok_slices_Clone_int_int rfl rfl rfl rfl (Rets.mono (CloneI_any H hg.toR (in_one gs) (by omega)) ?_); rintro _ w H; obtain ⟨_, A2, cp2, rfl⟩ := Holds.own_len H; obtain ⟨J2, hJ2, H, hg2⟩ := Holds.freezeOwn H)))
        | (show Vc _ _ _ _ _ _; first
      | refine Vc.seq ?_
      | refine Vc.region ?_
      | refine Vc.skip ?_
      | refine Vc.block ?_
      | (refine Vc.cond rfl (fun h => ?_) (fun h => ?_) <;> first | (exfalso; simp only [decide_eq_true_eq, decide_eq_false_iff_not] at h; omega) | (with_reducible have hp := of_decide_eq_true h)))
        | (show KSeq _ _ _ _ _ _ _; refine KSeq.normal ?_)
        | (show KBlock _ _ _ _ _; refine KBlock.normal ?_))
      have H := (((H.swap.drop).swap.drop).swap.drop)
      refine KLoop.again (k + 1, v_) ⟨rfl, got_succ rfl (by omega), trivial⟩ ⟨rfl, rfl, trivial⟩ ⟨hlt, J2, l ++ [⟨id, name, sec, A2, cp2, gs⟩], hJ.trans hJ2, ?_, fun x hx => ?_, H⟩ (by dsimp only; omega)
      · rw [List.map_append, hl, take_atD hlt, List.map_append, hv]
        rfl
      · rcases List.mem_append.1 hx with hx | hx
        · exact (hok x hx).mono hJ2
        · obtain rfl : x = ⟨id, name, sec, A2, cp2, gs⟩ := by simpa using hx
          exact ⟨hg2, hvk.user.name, by show gs.length ≤ _; omega⟩
    ·
      repeat' (first
        | (show VcL _ _ _ _ _ _ _ _; first
      | refine VcL.pures tabOk rfl ?_
      | refine VcL.nil ?_)
        | (show Vc _ _ _ _ _ _; first
      | refine Vc.seq ?_
      | refine Vc.region ?_
      | refine Vc.ret ?_
      | refine Vc.exit ?_
      | (refine Vc.cond rfl (fun h => ?_) (fun h => ?_) <;> first | (exfalso; simp only [decide_eq_true_eq, decide_eq_false_iff_not] at h; omega) | (with_reducible have hp := of_decide_eq_false h)))
        | (show KSeq _ _ _ _ _ _ _; first
      | refine KSeq.normal ?_
      | refine KSeq.exit ?_)
        | (show KBlock _ _ _ _ _; refine KBlock.here ?_)
        | refine KLoop.exit ?_
        | (show KEnd _ _ _ _ _ _; refine KEnd.mk (Or.inr rfl) ⟨_, (ResL.tmp rfl ResL.nil), ?_⟩))
      obtain rfl : k = D.vis.length := by omega
      obtain ⟨J2, hJ2, H, hs⟩ := H.freezeOwn
      rw [List.take_length] at hl
      exact ⟨J2, l, hJ.trans hJ2, ⟨hs, fun x hx => (hok x hx).mono hJ2⟩, hl, door_close rfl h1 h2 H⟩
theorem CopyP_any {d : Nat} {D : Dr} (H : Holds I w (doorA d D :: L)) (hD : DrOk I D) :
    Rets Try.prog F_secret_Door_Copy #[ptr d] w fun u w' => ∃ c, u = ptr c ∧ Holds I w' (doorA c D :: doorA d D :: L) := by
  have hlen := hD.len
  rcases door_open H with ⟨hnil, HB⟩ | ⟨vb, pre, post, cap, h1, h2, HB⟩
  · clear H
    have H := HB
    refine ok_secret_Door_Copy.rets rfl ?_
    repeat' (first
      | (show VcL _ _ _ _ _ _ _ _; first
      | refine VcL.pures tabOk rfl ?_
      | refine VcL.nil ?_
      | (show VcL _ _ _ _ (⟨_, .load _ _, _, _, _, _⟩ :: _) _ _ _; first
      | refine VcL.load1 tabOk rfl rfl rfl rfl rfl (by first | exact Holds.cell H rfl | exact Holds.cell (Holds.f1 H) rfl) ?_
      | refine VcL.loadN tabOk rfl rfl rfl rfl rfl rfl (by exact H) (by exact rfl) ?_)
      | refine VcL.alloc tabOk H rfl rfl rfl rfl (fun b w H => ?_)
      | (show VcL _ _ _ _ (⟨_, .store _ _ _, _, _, _, _⟩ :: _) _ _ _; refine VcL.store tabOk rfl (by first | exact H | exact (Holds.f1 H)) rfl rfl (by exact rfl) (by exact rfl) (by exact rfl) (by exact rfl) (fun w H => ?_))
      | (show VcL _ _ _ _ (⟨_, .call ⟨.value (.func F_secret_Door_none), _, _⟩, _, _, _, _⟩ :: _) _ _ _; (refine VcL.callF ok_secret_Door_none rfl rfl rfl rfl (Rets.mono (noneD_any H Holds.toW) ?_); rintro _ w ⟨rfl, H⟩))
      | (show VcL _ _ _ _ (⟨_, .call ⟨.value (.func F_slices_Clone_secret_visitor_secret_visitor), _, _⟩, _, _, _, _⟩ :: _) _ _ _; (refine VcL.callF ok_slices_Clone_secret_visitor_secret_visitor rfl rfl rfl rfl (Rets.mono (CloneV_any H SlI.nil.toR (by simp) (by omega)) ?_); rintro _ w H; obtain ⟨_, A2, cp2, rfl⟩ := Holds.own_len H)))
      | (show Vc _ _ _ _ _ _; first
      | refine Vc.seq ?_
      | refine Vc.region ?_
      | refine Vc.condF rfl ?_
      | refine Vc.ret ?_
      | refine Vc.skip ?_)
      | (show KSeq _ _ _ _ _ _ _; refine KSeq.normal ?_)
      | (show KEnd _ _ _ _ _ _; refine KEnd.mk (Or.inr rfl) ⟨_, (ResL.tmp rfl ResL.nil), ?_⟩))
    have H2 := (door_nil hnil H.f2).f2.f2
    exact ⟨_, rfl, door_own.2 ⟨_, by rw [hnil]; exact H2⟩⟩
  · clear H
    have H := HB
    refine ok_secret_Door_Copy.rets rfl ?_
    repeat' (first
      | (show VcL _ _ _ _ _ _ _ _; first
      | refine VcL.pures tabOk rfl ?_
      | refine VcL.nil ?_
      | (show VcL _ _ _ _ (⟨_, .load _ _, _, _, _, _⟩ :: _) _ _ _; first
      | refine VcL.load1 tabOk rfl rfl rfl rfl rfl (by first | exact Holds.cell H rfl | exact Holds.cell (Holds.f1 H) rfl) ?_
      | refine VcL.loadN tabOk rfl rfl rfl rfl rfl rfl (by exact H) (by exact rfl) ?_)
      | refine VcL.alloc tabOk H rfl rfl rfl rfl (fun b w H => ?_)
      | (show VcL _ _ _ _ (⟨_, .store _ _ _, _, _, _, _⟩ :: _) _ _ _; refine VcL.store tabOk rfl (by first | exact H | exact (Holds.f1 H)) rfl rfl (by exact rfl) (by exact rfl) (by exact rfl) (by exact rfl) (fun w H => ?_))
      | (show VcL _ _ _ _ (⟨_, .call ⟨.value (.func F_secret_Door_none), _, _⟩, _, _, _, _⟩ :: _) _ _ _; (refine VcL.callF ok_secret_Door_none rfl rfl rfl rfl (Rets.mono (noneD_any H Holds.toW) ?_); rintro _ w ⟨rfl, H⟩))
      | (show VcL _ _ _ _ (⟨_, .call ⟨.value (.func F_slices_Clone_secret_visitor_secret_visitor), _, _⟩, _, _, _, _⟩ :: _) _ _ _; (refine VcL.callF ok_slices_Clone_secret_visitor_secret_visitor rfl rfl rfl rfl (Rets.mono (CloneV_any H (Holds.toRow vsC_len h1).up (by intro u hu; obtain ⟨x, _, hx⟩ := List.mem_flatMap.1 hu; exact vsC_one x u hx) (by omega)) ?_); rintro _ w H; obtain ⟨_, A2, cp2, rfl⟩ := Holds.own_len H)))
      | (show Vc _ _ _ _ _ _; first
      | refine Vc.seq ?_
      | refine Vc.region ?_
      | refine Vc.condF rfl ?_
      | refine Vc.ret ?_
      | refine Vc.skip ?_)
      | (show KSeq _ _ _ _ _ _ _; refine KSeq.normal ?_)
      | (show KEnd _ _ _ _ _ _; refine KEnd.mk (Or.inr rfl) ⟨_, (ResL.tmp rfl ResL.nil), ?_⟩))
    exact ⟨_, rfl, door_own.2 ⟨_, (door_close rfl h1 h2 H.f2.f3.swap).f2.f2⟩⟩
/-- Visitors that have not tried yet, of some users. -/
structure NewVis (I : Imm) (l : List Us) (vis : List Vs) : Prop where
  same : vis.map (fun v => (usK v.user, v.given, v.num, v.tries)) = l.map fun u => (usK u, false, 0, 0)
  ok : ∀ v ∈ vis, VsOk I v
theorem usersOk_at {l : List Us} (h : usersOk l = true) {k : Nat} (hk : k < l.length) : userOk (atD l k) = true := by
  unfold usersOk at h
  rw [Bool.and_eq_true, List.all_eq_true] at h
  have := h.1 k (List.mem_range.2 hk)
  unfold uOk at this
  simp only [Bool.and_eq_true] at this
  exact this.1.1
theorem usersOk_len {l : List Us} (h : usersOk l = true) : l.length ≤ 20 := by
  unfold usersOk at h
  rw [Bool.and_eq_true, decide_eq_true_eq] at h
  exact h.2
theorem New_bad (H : Holds I w L) {v : Value} {l : List Us} (hv : SlU I L v l) (hl : l.length ≤ 140737488355328) (hu : ∀ u ∈ l, UsI I u) (seed : Int) (hb : (usersOk l && is32 seed) = false) :
    Rets Try.prog F_secret_New #[v, .int .i64 seed] w fun u w' => u = .tuple #[.pointer none, .int .i64 2] ∧ Holds I w' L := by
  obtain ⟨A, cap, rfl, hcap⟩ := hv.form
  rcases Bool.and_eq_false_iff.1 hb with hb2 | hb2
  ·
    refine ok_secret_New.rets rfl ?_
    repeat' (first
      | rw [hb2]
      | (show VcL _ _ _ _ _ _ _ _; first
      | refine VcL.pures tabOk rfl ?_
      | refine VcL.nil ?_
      | (show VcL _ _ _ _ (⟨_, .call ⟨.value (.func F_rights_ValidUsers), _, _⟩, _, _, _, _⟩ :: _) _ _ _; (refine VcL.callF ok_rights_ValidUsers rfl rfl rfl rfl (Rets.mono (ValidUsers_any H hv hl hu) ?_); rintro _ w ⟨rfl, H⟩))
      | (refine VcL.guard rfl rfl rfl rfl (fun h => ?_) (fun h => ?_) <;> first | (cases h; done) | skip))
      | (show Vc _ _ _ _ _ _; first
      | refine Vc.seq ?_
      | refine Vc.region ?_
      | refine Vc.condT rfl ?_
      | refine Vc.ret ?_)
      | (show KSeq _ _ _ _ _ _ _; first
      | refine KSeq.normal ?_
      | refine KSeq.ret ?_)
      | (show KEnd _ _ _ _ _ _; refine KEnd.mk (Or.inr rfl) ⟨_, (ResL.tmp rfl (ResL.tmp rfl ResL.nil)), ?_⟩))
    exact ⟨rfl, H⟩
  · have hb2 : (decide (0 ≤ seed) && decide (seed ≤ 4294967295)) = false := hb2
    refine ok_secret_New.rets rfl ?_
    repeat' (first
      | rw [hb2]
      | (show VcL _ _ _ _ _ _ _ _; first
      | refine VcL.pures tabOk rfl ?_
      | refine VcL.nil ?_
      | (show VcL _ _ _ _ (⟨_, .call ⟨.value (.func F_rights_ValidUsers), _, _⟩, _, _, _, _⟩ :: _) _ _ _; (refine VcL.callF ok_rights_ValidUsers rfl rfl rfl rfl (Rets.mono (ValidUsers_any H hv hl hu) ?_); rintro _ w ⟨rfl, H⟩))
      | (show VcL _ _ _ _ (⟨_, .call ⟨.value (.func F_secret_within), _, _⟩, _, _, _, _⟩ :: _) _ _ _; (refine VcL.callF ok_secret_within rfl rfl rfl rfl (Rets.mono (withinS_any H _ _ _) ?_); rintro _ w ⟨rfl, H⟩))
      | (refine VcL.guard rfl rfl rfl rfl (fun h => ?_) (fun h => ?_) <;> skip))
      | (show Vc _ _ _ _ _ _; first
      | refine Vc.seq ?_
      | refine Vc.region ?_
      | refine Vc.condT rfl ?_
      | refine Vc.ret ?_)
      | (show KSeq _ _ _ _ _ _ _; first
      | refine KSeq.normal ?_
      | refine KSeq.ret ?_)
      | (show KEnd _ _ _ _ _ _; refine KEnd.mk (Or.inr rfl) ⟨_, (ResL.tmp rfl (ResL.tmp rfl ResL.nil)), ?_⟩))
    all_goals exact ⟨rfl, H⟩
theorem New_any (H : Holds I w L) {v : Value} {l : List Us} (hv : SlU I L v l) (hl : l.length ≤ 140737488355328) (hu : ∀ u ∈ l, UsI I u) (seed : Int) (hb : (usersOk l && is32 seed) = true) :
    Rets Try.prog F_secret_New #[v, .int .i64 seed] w fun u w' => ∃ J d vis, Imm.Le I J ∧ u = .tuple #[ptr d, .int .i64 0] ∧ NewVis J l vis ∧ Holds J w' (doorA d ⟨seed.toNat, 0, vis⟩ :: L) := by
  rw [Bool.and_eq_true] at hb
  obtain ⟨n, rfl, hn⟩ := is32_nat hb.2
  have hlen := usersOk_len hb.1
  obtain ⟨A, cap, rfl, hcap⟩ := hv.form
  refine ok_secret_New.rets rfl ?_
  repeat' (first
    | (show VcL _ _ _ _ _ _ _ _; first
      | refine VcL.pures tabOk rfl ?_
      | refine VcL.nil ?_
      | refine VcL.box H rfl rfl rfl rfl rfl (fun b w H => ?_)
      | (show VcL _ _ _ _ (⟨_, .call ⟨.value (.func F_rights_ValidUsers), _, _⟩, _, _, _, _⟩ :: _) _ _ _; (refine VcL.callF ok_rights_ValidUsers rfl rfl rfl rfl (Rets.mono (ValidUsers_any H hv hl hu) ?_); rintro _ w ⟨rfl, H⟩))
      | (show VcL _ _ _ _ (⟨_, .call ⟨.value (.func F_secret_within), _, _⟩, _, _, _, _⟩ :: _) _ _ _; (refine VcL.callF ok_secret_within rfl rfl rfl rfl (Rets.mono (withinS_any H _ _ _) ?_); rintro _ w ⟨rfl, H⟩))
      | (refine VcL.guard rfl rfl rfl rfl (fun h => ?_) (fun h => ?_) <;> skip))
    | (show Vc _ _ _ _ _ _; first
      | refine Vc.seq ?_
      | refine Vc.region ?_
      | refine Vc.condT rfl ?_
      | refine Vc.ret ?_
      | refine Vc.skip ?_
      | refine Vc.block ?_
      | (refine Vc.cond rfl (fun h => ?_) (fun h => ?_) <;> skip))
    | (show KSeq _ _ _ _ _ _ _; first
      | refine KSeq.normal ?_
      | refine KSeq.ret ?_)
    | (show KEnd _ _ _ _ _ _; refine KEnd.mk (Or.inr rfl) ⟨_, (ResL.tmp rfl (ResL.tmp rfl ResL.nil)), ?_⟩))
  · exfalso; simp_all
  · exfalso; simp_all; omega
  obtain ⟨d, rfl⟩ : ∃ d, d = b := ⟨b, rfl⟩
  have hNew0 : ∀ (l : List Us), l = [] → NewVis I l [] := fun l h => by subst h; exact ⟨rfl, by simp⟩
  refine Vc.loopS [(6, _), (20, _), (21, _)] (fun k : Nat => [(22, .int .i64 k)]) (fun k w => k ≤ l.length ∧ ∃ J vis vv, Imm.Le I J ∧ NewVis J (l.take k) vis ∧ Holds J w (blk d 61 [.bool true, .int .i64 (n : Int), .int .i64 0, vv] :: own vv 71 7 vis.length (vis.flatMap vsC) :: L)) (fun k _ => l.length - k) 0 ⟨rfl, trivial⟩ ⟨rfl, rfl, rfl, trivial⟩ ⟨Nat.zero_le _, I, [], .slice none 0 0, Imm.Le.rfl' I, hNew0 _ rfl, (H.own_nil).swap⟩ ?_
  rintro k w ⟨hk, J, vis, vv, hJ, hnew, H⟩
  have hvl : vis.length = k := by have := congrArg List.length hnew.same; simp at this; omega
  by_cases hlt : k < l.length
  · obtain ⟨u, hue⟩ : ∃ u, atD l k = u := ⟨_, rfl⟩
    have huok := usersOk_at hb.1 hlt
    have hui := hu _ (atD_mem hlt)
    obtain ⟨b2, o2, rfl, hr⟩ := hv.at (by omega)
    have hr := (hr.mono hJ).elem usC_len (atD_get hlt)
    rw [hue] at huok hui hr
    obtain ⟨id, name, sec, A, cp, gs⟩ := u
    have hg : SlI J (.slice A gs.length cp) 1 gs.length (gs.flatMap inC) := hui.grp.mono hJ
    have hr : RdW J L b2 (o2 + k * 4) [.int .i64 id, .string name, .int .i64 sec, .slice A gs.length cp] := hr
    have hgl : gs.length ≤ 10 := by unfold userOk at huok; simp only [Bool.and_eq_true, decide_eq_true_eq] at huok; exact huok.2
    have hsec : is31' sec = true := by unfold userOk at huok; simp only [Bool.and_eq_true] at huok; exact huok.1.2
    have hone : ∀ x ∈ vsC ⟨⟨id, name, sec, A, cp, gs⟩, false, 0, 0⟩, oneC x = true := vsC_one _
    obtain ⟨_, vA, vcap, rfl⟩ := Holds.own_len H.swap
    have hone2 : ∀ A2 cp2, ∀ x ∈ vsC ⟨⟨id, name, sec, A2, cp2, gs⟩, false, 0, 0⟩, oneC x = true := fun _ _ => vsC_one _
    repeat' (first
      | (refine VcD.append tabOk rfl rfl rfl rfl rfl (Holds.f3 H) (Src.slice rfl (Holds.pt_rd H)) (hone2 A2 cp2) (by show (_ + 1) * 80 ≤ _; omega) rfl rfl rfl (fun v_ w H => ⟨Holds.rdWhole (Holds.f2 H), ?_⟩); obtain ⟨_, A3, cp3, rfl⟩ := Holds.own_len H)
      | (show VcL _ _ _ _ _ _ _ _; first
      | refine VcL.pures tabOk rfl ?_
      | refine VcL.nil ?_
      | (show VcL _ _ _ _ (⟨_, .load _ _, _, _, _, _⟩ :: _) _ _ _; first
      | refine VcL.load1 tabOk rfl rfl rfl rfl rfl (by first | exact Holds.cell H rfl | exact RdW.get0 (by assumption) rfl (Holds.drop (Holds.drop H))) ?_
      | refine VcL.loadR tabOk rfl rfl rfl rfl rfl rfl (by exact RdW.rd (by assumption) (Holds.drop (Holds.drop H))) rfl ?_)
      | (show VcL _ _ _ _ (⟨_, .indexAddr _ _ _, _, _, _, _⟩ :: _) _ _ _; refine VcL.indexAddr tabOk rfl rfl rfl rfl rfl rfl (by omega) (by omega) ?_)
      | refine VcL.alloc tabOk H rfl rfl rfl rfl (fun b w H => ?_)
      | (show VcL _ _ _ _ (⟨_, .store _ _ _, _, _, _, _⟩ :: _) _ _ _; refine VcL.store tabOk rfl (by exact H) rfl rfl (by exact rfl) (by exact rfl) (by exact rfl) (by exact rfl) (fun w H => ?_))
      | (show VcL _ _ _ _ (⟨_, .call ⟨.value (.func F_slices_Clone_int_int), _, _⟩, _, _, _, _⟩ :: _) _ _ _; (refine VcL.callF ok_slices_Clone_int_int rfl rfl rfl rfl (Rets.mono (CloneI_any H hg.toR (in_one gs) (by omega)) ?_); rintro _ w H; obtain ⟨_, A2, cp2, rfl⟩ := Holds.own_len H; obtain ⟨J2, hJ2, H, hg2⟩ := Holds.freezeOwn H)))
      | (show VcD _ _ _ _ _ _ _ _ _; first
      | refine VcD.pures tabOk rfl ?_
      | refine VcD.done ?_
      | (show VcD _ _ _ _ _ (.take _ _) _ _ _; refine VcD.loadR tabOk rfl rfl rfl rfl rfl rfl rfl (by intro w_ hw_; assumption) rfl ?_)
      | (show VcD _ _ _ _ _ (.only _ _) _ _ _; first
      | (refine VcD.eff rfl rfl rfl rfl (OpE.buildSliceP tabOk H rfl rfl rfl rfl) ?_; rintro _ w ⟨b_, rfl, H⟩; refine ⟨(by exact Holds.rdWhole (Holds.f1 H)), ?_⟩)
      | refine VcD.load1O tabOk rfl rfl rfl rfl rfl rfl (by exact Holds.cell (Holds.f2 H) rfl) (by exact Holds.rdWhole (Holds.f1 H)) ?_
      | (refine VcD.eff rfl rfl rfl rfl (OpE.store tabOk (by exact (Holds.f3 H)) rfl rfl rfl (by exact rfl) (by exact rfl) (by exact rfl) (by exact rfl)) ?_; rintro _ w ⟨_, H⟩; refine ⟨(by exact Holds.rdWhole (Holds.f3 H)), ?_⟩))
      | (show VcD _ _ _ _ _ (.two _ _ _ _) _ _ _; refine VcD.two ?_ ?_))
      | (show EfO _ _ _ _ _ _ _ _ _; first
      | (refine EfO.eff rfl rfl rfl rfl (OpE.buildSliceP tabOk H rfl rfl rfl rfl) ?_; rintro _ w ⟨b_, rfl, H⟩; refine ⟨(by exact Holds.rdWhole (Holds.f1 H)), ?_⟩)
      | refine EfO.load1 tabOk rfl rfl rfl rfl rfl rfl (by exact Holds.cell (Holds.f1 H) rfl) (by exact Holds.rdWhole H) ?_)
      | (show Vc _ _ _ _ _ _; first
      | refine Vc.seq ?_
      | refine Vc.region ?_
      | refine Vc.skip ?_
      | refine Vc.block ?_
      | (refine Vc.drawn (id := 8) (.pure 0 (.pure 1 (.pure 2 (.pure 3 (.take 5 (.pure 6 (.two 4 7 (.only 7 (.only 8 (.pure 9 (.pure 10 (.only 11 .done))))) (.only 4 (.only 8 (.pure 9 (.pure 10 (.only 11 .done)))))))))))) (.one (fun w => Rd w b 0 [.int .i64 id, .string name, .int .i64 sec, .slice A2 gs.length cp2])) mixed (by kernel_rfl) (by exact Holds.rdWhole (Holds.drew H _)) ?_; have H := H.drew (w.drawn + 1))
      | (refine Vc.cond rfl (fun h => ?_) (fun h => ?_) <;> first | (exfalso; simp only [decide_eq_true_eq, decide_eq_false_iff_not] at h; omega) | (with_reducible have hp := of_decide_eq_true h)))
      | (show KSeq _ _ _ _ _ _ _; refine KSeq.normal ?_)
      | (show KBlock _ _ _ _ _; refine KBlock.normal ?_))
    all_goals
      refine KLoop.again (k + 1) ⟨got_succ rfl (by omega), trivial⟩ ⟨rfl, rfl, rfl, trivial⟩ ⟨hlt, J2, vis ++ [⟨⟨id, name, sec, A2, cp2, gs⟩, false, 0, 0⟩], .slice A3 (vis.length + 1) cp3, hJ.trans hJ2, ⟨?_, fun v hv => ?_⟩, ?_⟩ (by omega)
      · rw [List.map_append, hnew.same, take_atD hlt, List.map_append, hue]
        rfl
      · rcases List.mem_append.1 hv with hv | hv
        · have h3 := hnew.ok v hv
          exact ⟨h3.user.mono hJ2, h3.sec, h3.num, h3.tries, h3.few⟩
        · obtain rfl : v = ⟨⟨id, name, sec, A2, cp2, gs⟩, false, 0, 0⟩ := by simpa using hv
          exact ⟨⟨hg2, hui.name, by show gs.length ≤ _; omega⟩, is31_nat hsec, Nat.two_pow_pos 32, Nat.zero_le 5, hgl⟩
      · exact (own_pushV (x := ⟨⟨id, name, sec, A2, cp2, gs⟩, false, 0, 0⟩) (H.f2.drop.f2.drop).swap).swap
  ·
    repeat' (first
      | (show VcL _ _ _ _ _ _ _ _; first
      | refine VcL.pures tabOk rfl ?_
      | refine VcL.nil ?_)
      | (show Vc _ _ _ _ _ _; first
      | refine Vc.seq ?_
      | refine Vc.region ?_
      | refine Vc.ret ?_
      | refine Vc.exit ?_
      | (refine Vc.cond rfl (fun h => ?_) (fun h => ?_) <;> first | (exfalso; simp only [decide_eq_true_eq, decide_eq_false_iff_not] at h; omega) | (with_reducible have hp := of_decide_eq_false h)))
      | (show KSeq _ _ _ _ _ _ _; first
      | refine KSeq.normal ?_
      | refine KSeq.exit ?_)
      | (show KBlock _ _ _ _ _; refine KBlock.here ?_)
      | refine KLoop.exit ?_
      | (show KEnd _ _ _ _ _ _; refine KEnd.mk (Or.inr rfl) ⟨_, (ResL.tmp rfl (ResL.tmp rfl ResL.nil)), ?_⟩))
    obtain rfl : k = l.length := by omega
    rw [List.take_length] at hnew
    exact ⟨J, d, vis, hJ, rfl, hnew, door_own.2 ⟨vv, H⟩⟩
end Go.Proofs.Ytccbfajjboccoaa.V
