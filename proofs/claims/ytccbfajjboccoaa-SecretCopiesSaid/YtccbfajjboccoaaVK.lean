/- A door of the document: its users, its copy, a new one. -/
import Derived.Test.YtccbfajjboccoaaVH
namespace Go.Proofs.Ytccbfajjboccoaa.V
open Go Go.Proofs.YtccbfajjboccoaaV
set_option linter.unusedVariables false
set_option linter.unusedSimpArgs false
set_option maxHeartbeats 1000000
attribute [local irreducible] IntKind.wrap
variable {I : Imm} {w : World} {L : List Asn}
theorem UsersRo_any {d : Nat} {D : Dr} {A1 A2 : Option Addr} {c1 c2 : Nat} (H : Holds I w (blk d 77 (rdV D (.slice A1 D.vis.length c1) (.slice A2 D.vis.length c2)) :: ownLV (.slice A1 D.vis.length c1) D.vis :: ownGV (.slice A2 D.vis.length c2) D.vis :: L)) (hD : DrOk I D) :
    Rets Try.prog F_tithingref24_Door_Users #[ptr d] w fun u w' => ∃ J l, Imm.Le I J ∧ (∀ x ∈ l, UsI J x) ∧ l.map usK = D.vis.map (fun v => usK v.user) ∧ Holds J w' (ownU u l :: blk d 77 (rdV D (.slice A1 D.vis.length c1) (.slice A2 D.vis.length c2)) :: ownLV (.slice A1 D.vis.length c1) D.vis :: ownGV (.slice A2 D.vis.length c2) D.vis :: L) := by
  have hlen := hD.len
  refine ok_tithingref24_Door_Users.rets rfl ?_
  repeat' (first
    | (show VcL _ _ _ _ _ _ _ _; first
      | refine VcL.pures tabOk rfl ?_
      | refine VcL.nil ?_)
    | (show Vc _ _ _ _ _ _; first
      | refine Vc.seq ?_
      | refine Vc.region ?_
      | refine Vc.block ?_)
    | (show KSeq _ _ _ _ _ _ _; refine KSeq.normal ?_))
  refine Vc.loopS [(0, _)] (fun q : Nat × Value => [(3, q.2), (4, .int .i64 q.1)]) (fun q w => q.1 ≤ D.vis.length ∧ ∃ J l, Imm.Le I J ∧ l.map usK = (D.vis.take q.1).map (fun v => usK v.user) ∧ (∀ x ∈ l, UsI J x) ∧ Holds J w (ownU q.2 l :: blk d 77 (rdV D (.slice A1 D.vis.length c1) (.slice A2 D.vis.length c2)) :: ownLV (.slice A1 D.vis.length c1) D.vis :: ownGV (.slice A2 D.vis.length c2) D.vis :: L)) (fun q _ => D.vis.length - q.1) (0, .slice none 0 0) ⟨rfl, rfl, trivial⟩ ⟨rfl, trivial⟩ ⟨Nat.zero_le _, I, [], Imm.Le.rfl' I, rfl, by simp, H.own_nil⟩ ?_
  rintro ⟨k, ov⟩ w ⟨hk, J, l, hJ, hl, hok, H⟩
  dsimp only at hk hl H
  have hll : l.length = k := by have := congrArg List.length hl; simp at this; omega
  by_cases hlt : k < D.vis.length
  · obtain ⟨lb, lo, rfl, _⟩ := (Holds.own_toR H.f2).at (by omega)
    obtain ⟨v, hv⟩ : ∃ v, atD D.vis k = v := ⟨_, rfl⟩
    have hrow : D.vis[k]? = some v := by rw [← hv]; exact atD_get hlt
    have hvk := hD.vis _ (atD_mem hlt)
    rw [hv] at hvk
    obtain ⟨⟨id, name, sec, A, cp, gs⟩, gv, num, tr⟩ := v
    have hg : SlI J (.slice A gs.length cp) 1 gs.length (gs.flatMap inC) := hvk.user.grp.mono hJ
    have hgl : gs.length ≤ 10 := hvk.few
    have htk : ((k : Int)).toNat = k := Int.toNat_natCast k
    repeat' (first
      | rw [htk]
      | (refine VcL.append tabOk rfl rfl rfl rfl H (SlI.src hg H) (in_one gs) (by show (_ + _) * 8 ≤ _; omega) rfl rfl rfl (fun v_ w H => ?_); rw [Nat.zero_add] at H; obtain ⟨_, A3, cp3, rfl⟩ := Holds.own_len H; obtain ⟨J2, hJ2, H, hg2⟩ := Holds.freezeOwn H)
      | (refine VcL.append tabOk rfl rfl rfl rfl (Holds.f2 H) (Holds.own_src H) (usC_one ⟨id, name, sec, A3, cp3, gs⟩) (by show (_ + 1) * 56 ≤ _; omega) rfl rfl rfl (fun v_ w H => ?_))
      | (show VcL _ _ _ _ _ _ _ _; first
      | refine VcL.pures tabOk rfl ?_
      | refine VcL.nil ?_
      | (show VcL _ _ _ _ (⟨_, .load _ _, _, _, _, _⟩ :: _) _ _ _; first
      | refine VcL.load1 tabOk rfl rfl rfl rfl rfl (by first | exact Holds.cell H rfl | exact Holds.cell (Holds.f1 H) rfl | exact Holds.ownCell0 (Holds.f2 H) (fun _ => rfl) (by assumption) rfl) ?_
      | refine VcL.loadN tabOk rfl rfl rfl rfl rfl rfl (by exact H) (by exact rfl) ?_
      | refine VcL.loadOwnN0 tabOk rfl rfl rfl rfl rfl rfl (Holds.f2 H) (fun _ => rfl) (by assumption) (by exact rfl) (by exact rfl) (by exact rfl) ?_)
      | (show VcL _ _ _ _ (⟨_, .indexAddr _ _ _, _, _, _, _⟩ :: _) _ _ _; refine VcL.indexAddr tabOk rfl rfl rfl rfl rfl rfl (by omega) (by omega) ?_)
      | refine VcL.alloc tabOk H rfl rfl rfl rfl (fun b w H => ?_)
      | refine VcL.buildSlice tabOk H rfl rfl rfl rfl rfl rfl (fun sv w H => ?_)
      | (show VcL _ _ _ _ (⟨_, .store _ _ _, _, _, _, _⟩ :: _) _ _ _; refine VcL.store tabOk rfl (by exact H) rfl rfl (by exact rfl) (by exact rfl) (by exact rfl) (by exact rfl) (fun w H => ?_)))
      | (show Vc _ _ _ _ _ _; first
      | refine Vc.seq ?_
      | refine Vc.region ?_
      | refine Vc.skip ?_
      | refine Vc.block ?_
      | (refine Vc.cond rfl (fun h => ?_) (fun h => ?_) <;> first | (exfalso; simp only [decide_eq_true_eq, decide_eq_false_iff_not] at h; omega) | (with_reducible have hp := of_decide_eq_true h)))
      | (show KSeq _ _ _ _ _ _ _; refine KSeq.normal ?_)
      | (show KBlock _ _ _ _ _; refine KBlock.normal ?_))
    have H := own_pushU (x := ⟨id, name, sec, A3, cp3, gs⟩) H
    have H := H.swap.drop.swap.drop
    refine KLoop.again (k + 1, v_) ⟨rfl, got_succ rfl (by omega), trivial⟩ ⟨rfl, trivial⟩ ⟨hlt, J2, l ++ [⟨id, name, sec, A3, cp3, gs⟩], hJ.trans hJ2, ?_, fun x hx => ?_, H⟩ (by dsimp only; omega)
    · rw [List.map_append, hl, take_atD hlt, List.map_append, hv]
      rfl
    · rcases List.mem_append.1 hx with hx | hx
      · exact (hok x hx).mono hJ2
      · obtain rfl : x = ⟨id, name, sec, A3, cp3, gs⟩ := by simpa using hx
        exact ⟨hg2, hvk.user.name, by show gs.length ≤ _; omega⟩
  ·
    repeat' (first
      | (show VcL _ _ _ _ _ _ _ _; first
      | refine VcL.pures tabOk rfl ?_
      | refine VcL.nil ?_
      | (show VcL _ _ _ _ (⟨_, .load _ _, _, _, _, _⟩ :: _) _ _ _; refine VcL.load1 tabOk rfl rfl rfl rfl rfl (by exact Holds.cell (Holds.f1 H) rfl) ?_))
      | (show Vc _ _ _ _ _ _; first
      | refine Vc.seq ?_
      | refine Vc.region ?_
      | refine Vc.ret ?_
      | refine Vc.exit ?_
      | (refine Vc.cond rfl (fun h => ?_) (fun h => ?_) <;> first | (exfalso; simp only [decide_eq_true_eq, decide_eq_false_iff_not] at h; omega) | (with_reducible have hp := of_decide_eq_false h)))
      | (show KSeq _ _ _ _ _ _ _; first
      | refine KSeq.normal ?_
      | refine KSeq.exit ?_)
      | (show KBlock _ _ _ _ _; refine KBlock.here ?_)
      | refine KLoop.exit ?_
      | (show KEnd _ _ _ _ _ _; refine KEnd.mk (Or.inr rfl) ⟨_, (ResL.tmp rfl ResL.nil), ?_⟩))
    obtain rfl : k = D.vis.length := by omega
    rw [List.take_length] at hl
    exact ⟨J, l, hJ, hok, hl, H⟩
theorem UsersRO_any {d : Nat} {D : Dr} (H : Holds I w (rdA d D :: L)) (hD : DrOk I D) :
    Rets Try.prog F_tithingref24_Door_Users #[ptr d] w fun u w' => ∃ J l, Imm.Le I J ∧ (∀ x ∈ l, UsI J x) ∧ l.map usK = D.vis.map (fun v => usK v.user) ∧ Holds J w' (ownU u l :: rdA d D :: L) := by
  obtain ⟨A1, c1, A2, c2, HB⟩ := rd_open H
  exact (UsersRo_any HB hD).mono fun u w' ⟨J, l, hJ, hok, hl, H⟩ => ⟨J, l, hJ, hok, hl, (rd_close rfl H.f3.f3.f3).swap⟩
theorem UsersR_any {d : Nat} {D : Dr} (H : Holds I w (rdA d D :: L)) (hD : DrOk I D) :
    Rets Try.prog F_tithingref24_Door_Users #[ptr d] w fun u w' => ∃ J l, Imm.Le I J ∧ UsersI J u l ∧ l.map usK = D.vis.map (fun v => usK v.user) ∧ Holds J w' (rdA d D :: L) :=
  (UsersRO_any H hD).mono fun u w' ⟨J, l, hJ, hok, hl, H⟩ => by
    obtain ⟨J2, hJ2, H, hs⟩ := H.freezeOwn
    exact ⟨J2, l, hJ.trans hJ2, ⟨hs, fun x hx => (hok x hx).mono hJ2⟩, hl, H⟩
/-- A visitor, wherever the groups lie; a number that does not count is none. -/
def vsK (v : Vs) : (Int × ByteArray × Int × List Int) × Bool × Nat × Nat := (usK v.user, v.given, (if v.given then v.num else 0), v.tries)
/-- The same door, wherever its parts lie. -/
structure SameD (D E : Dr) : Prop where
  seed : D.seed = E.seed
  asked : D.asked = E.asked
  vis : D.vis.map vsK = E.vis.map vsK
/-- Users with the guards of others. -/
def withG (l : List Us) (vis : List Vs) : List Vs := List.zipWith (fun u v => ⟨u, v.given, v.num, v.tries⟩) l vis
theorem withG_ok : ∀ {l : List Us} {vis : List Vs}, l.length = vis.length → (withG l vis).flatMap usV1 = l.flatMap usC ∧ (withG l vis).flatMap gdC = vis.flatMap gdC ∧ (withG l vis).length = vis.length
  | [], [], _ => ⟨rfl, rfl, rfl⟩
  | u :: l, v :: vis, h => by
    obtain ⟨h1, h2, h3⟩ := withG_ok (l := l) (vis := vis) (by simpa using h)
    refine ⟨?_, ?_, ?_⟩
    · show usC u ++ (withG l vis).flatMap usV1 = usC u ++ l.flatMap usC
      rw [h1]
    · show gdC v ++ (withG l vis).flatMap gdC = gdC v ++ vis.flatMap gdC
      rw [h2]
    · show (withG l vis).length + 1 = vis.length + 1
      rw [h3]
  | [], _ :: _, h => by simp at h
  | _ :: _, [], h => by simp at h
theorem withG_same : ∀ {l : List Us} {vis : List Vs}, l.map usK = vis.map (fun v => usK v.user) → (withG l vis).map vsK = vis.map vsK
  | [], [], _ => rfl
  | u :: l, v :: vis, h => by
    simp only [List.map_cons, List.cons.injEq] at h
    show vsK ⟨u, v.given, v.num, v.tries⟩ :: (withG l vis).map vsK = vsK v :: vis.map vsK
    rw [withG_same h.2]
    unfold vsK
    dsimp only
    rw [h.1]
  | [], _ :: _, h => by simp at h
  | _ :: _, [], h => by simp at h
theorem withG_vs {J : Imm} : ∀ {l : List Us} {vis : List Vs}, l.map usK = vis.map (fun v => usK v.user) → (∀ x ∈ l, UsI J x) → (∀ v ∈ vis, VsOk I v) → ∀ v ∈ withG l vis, VsOk J v
  | [], [], _, _, _ => fun v hv => by cases hv
  | u :: l, v :: vis, h, hu, hv => fun x hx => by
    simp only [List.map_cons, List.cons.injEq] at h
    rcases List.mem_cons.1 hx with rfl | hx
    · have h1 := hv v List.mem_cons_self
      have hs : u.sec = v.user.sec := congrArg (fun p => p.2.2.1) h.1
      have hg : u.grp.2.2 = v.user.grp.2.2 := congrArg (fun p => p.2.2.2) h.1
      exact ⟨hu u List.mem_cons_self, by rw [show (Vs.mk u v.given v.num v.tries).user.sec = v.user.sec from hs]; exact h1.sec, h1.num, h1.tries, by rw [show (Vs.mk u v.given v.num v.tries).user.grp.2.2 = v.user.grp.2.2 from hg]; exact h1.few⟩
    · exact withG_vs h.2 (fun x hx => hu x (List.mem_cons_of_mem _ hx)) (fun x hx => hv x (List.mem_cons_of_mem _ hx)) x hx
  | [], _ :: _, h, _, _ => by simp at h
  | _ :: _, [], h, _, _ => by simp at h
theorem CopyR_any {d : Nat} {D : Dr} (H : Holds I w (rdA d D :: L)) (hD : DrOk I D) :
    Rets Try.prog F_tithingref24_Door_Copy #[ptr d] w fun u w' => ∃ J c E, Imm.Le I J ∧ u = ptr c ∧ SameD E D ∧ DrOk J E ∧ Holds J w' (rdA c E :: rdA d D :: L) := by
  have hlen := hD.len
  obtain ⟨A1, c1, A2, c2, HB⟩ := rd_open H
  clear H
  have H := HB
  clear HB
  have hone : ∀ u ∈ D.vis.flatMap gdC, oneC u = true := fun u hu => by obtain ⟨x, _, hx⟩ := List.mem_flatMap.1 hu; exact gdC_one x u hx
  refine ok_tithingref24_Door_Copy.rets rfl ?_
  repeat' (first
    | (refine VcD.append tabOk rfl rfl rfl rfl rfl (Holds.pt_own rfl H) (Holds.own_src (Holds.f4 H)) hone (by show (0 + _) * 16 ≤ _; omega) rfl rfl rfl (fun v_ w H => ⟨Holds.rdWhole (Holds.f2 H), ?_⟩); rw [Nat.zero_add] at H; obtain ⟨_, A4, c4, rfl⟩ := Holds.own_len H)
    | (show VcL _ _ _ _ _ _ _ _; first
      | refine VcL.pures tabOk rfl ?_
      | refine VcL.nil ?_)
    | (show VcD _ _ _ _ _ _ _ _ _; first
      | refine VcD.pures tabOk rfl ?_
      | refine VcD.done ?_
      | (show VcD _ _ _ _ _ (.take _ _) _ _ _; refine VcD.load1 tabOk rfl rfl rfl rfl rfl rfl (by intro w_ hw_; exact hw_ _ _ rfl) (by exact rfl) ?_)
      | (show VcD _ _ _ _ _ (.only _ _) _ _ _; first
      | (refine VcD.callF (f := F_tithingref24_Door_Users) rfl ok_tithingref24_Door_Users rfl rfl rfl rfl (Rets.mono (UsersRo_any (Holds.f3 (Holds.f3 (Holds.f3 H))) hD) ?_); rintro _ w ⟨J, l, hJ, hok, hl, H⟩; have H := Holds.f4 H; obtain ⟨_, A3, c3, rfl⟩ := Holds.own_len (Holds.f1 H); refine ⟨(by exact Holds.rdWhole (Holds.f2 H)), ?_⟩)
      | (refine VcD.eff rfl rfl rfl rfl (OpE.buildSliceP tabOk H rfl rfl rfl rfl) ?_; rintro _ w ⟨b_, rfl, H⟩; refine ⟨(by exact Holds.rdWhole (Holds.f2 H)), ?_⟩)
      | (refine VcD.eff rfl rfl rfl rfl (OpE.box H rfl rfl rfl) ?_; rintro _ w ⟨b, rfl, H⟩; refine ⟨(by exact Holds.rdWhole (Holds.f3 H)), ?_⟩))
      | (show VcD _ _ _ _ _ (.two _ _ _ _) _ _ _; refine VcD.two ?_ ?_))
    | (show EfO _ _ _ _ _ _ _ _ _; first
      | (refine EfO.call (f := F_tithingref24_Door_Users) rfl rfl rfl rfl (OpC.call ok_tithingref24_Door_Users rfl) (Rets.mono (UsersRo_any H hD) ?_); rintro _ w ⟨J, l, hJ, hok, hl, H⟩; obtain ⟨_, A3, c3, rfl⟩ := Holds.own_len H; refine ⟨(by exact Holds.rdWhole (Holds.f1 H)), ?_⟩)
      | (refine EfO.eff rfl rfl rfl rfl (OpE.buildSliceP tabOk H rfl rfl rfl rfl) ?_; rintro _ w ⟨b_, rfl, H⟩; refine ⟨(by exact Holds.rdWhole (Holds.f1 H)), ?_⟩))
    | (show Vc _ _ _ _ _ _; first
      | refine Vc.seq ?_
      | refine Vc.region ?_
      | refine Vc.ret ?_
      | (refine Vc.drawn (id := 1) (.pure 0 (.pure 3 (.pure 4 (.pure 5 (.pure 8 (.pure 9 (.pure 10 (.pure 12 (.pure 13 (.pure 14 (.take 6 (.take 11 (.take 15 (.two 1 2 (.only 2 (.only 7 (.pure 16 (.only 17 (.pure 18 .done))))) (.only 1 (.only 7 (.pure 16 (.only 17 (.pure 18 .done))))))))))))))))))) (.one (fun w => Rd w d 0 (rdV D (.slice A1 D.vis.length c1) (.slice A2 D.vis.length c2)))) mixed (by kernel_rfl) (by exact Holds.rdWhole (Holds.drew H _)) ?_; have H := H.drew (w.drawn + 1)))
    | (show KSeq _ _ _ _ _ _ _; refine KSeq.normal ?_)
    | (show KEnd _ _ _ _ _ _; refine KEnd.mk (Or.inr rfl) ⟨_, (ResL.tmp rfl ResL.nil), ?_⟩))
  all_goals
    have hll : l.length = D.vis.length := by have := congrArg List.length hl; simpa using this
    obtain ⟨h1, h2, h3⟩ := withG_ok hll
    have H := (rd_close rfl H.f5.f5.f5).f2.f3.f3
    refine ⟨J, b, ⟨D.seed, D.asked, withG l D.vis⟩, hJ, rfl, ⟨rfl, rfl, withG_same hl⟩, ⟨hD.seed, by show (withG l D.vis).length ≤ 20; omega, withG_vs hl hok hD.vis⟩, ?_⟩
    unfold ownU at H
    rw [hll] at H
    exact rd_shut h3 h1 h2 H
theorem NewR_bad (H : Holds I w L) {v : Value} {l : List Us} (hv : SlU I L v l) (hl : l.length ≤ 140737488355328) (hu : ∀ u ∈ l, UsI I u) (seed : Int) (hb : (usersOk l && is32 seed) = false) :
    Rets Try.prog F_tithingref24_New #[v, .int .i64 seed] w fun u w' => u = .tuple #[.pointer none, .int .i64 2] ∧ Holds I w' L := by
  obtain ⟨A, cap, rfl, hcap⟩ := hv.form
  rcases Bool.and_eq_false_iff.1 hb with hb2 | hb2
  ·
    refine ok_tithingref24_New.rets rfl ?_
    repeat' (first
      | rw [hb2]
      | (show VcL _ _ _ _ _ _ _ _; first
      | refine VcL.pures tabOk rfl ?_
      | refine VcL.nil ?_
      | (show VcL _ _ _ _ (⟨_, .call ⟨.value (.func F_tithingref21_ValidUsers), _, _⟩, _, _, _, _⟩ :: _) _ _ _; (refine VcL.callF ok_tithingref21_ValidUsers rfl rfl rfl rfl (Rets.mono (ValidUsersR_any H hv hl hu) ?_); rintro _ w ⟨rfl, H⟩))
      | (refine VcL.guard rfl rfl rfl rfl (fun h => ?_) (fun h => ?_) <;> first | (cases h; done) | skip))
      | (show Vc _ _ _ _ _ _; first
      | refine Vc.seq ?_
      | refine Vc.region ?_
      | refine Vc.condT rfl ?_
      | refine Vc.ret ?_)
      | (show KSeq _ _ _ _ _ _ _; first
      | refine KSeq.normal ?_
      | refine KSeq.ret ?_)
      | (show KEnd _ _ _ _ _ _; refine KEnd.mk (Or.inr rfl) ⟨_, (ResL.tmp rfl (ResL.tmp rfl ResL.nil)), ?_⟩))
    exact ⟨rfl, H⟩
  ·
    refine ok_tithingref24_New.rets rfl ?_
    repeat' (first
      | rw [hb2]
      | (show VcL _ _ _ _ _ _ _ _; first
      | refine VcL.pures tabOk rfl ?_
      | refine VcL.nil ?_
      | (show VcL _ _ _ _ (⟨_, .call ⟨.value (.func F_tithingref21_ValidUsers), _, _⟩, _, _, _, _⟩ :: _) _ _ _; (refine VcL.callF ok_tithingref21_ValidUsers rfl rfl rfl rfl (Rets.mono (ValidUsersR_any H hv hl hu) ?_); rintro _ w ⟨rfl, H⟩))
      | (show VcL _ _ _ _ (⟨_, .call ⟨.value (.func F_tithingref24_isNumber), _, _⟩, _, _, _, _⟩ :: _) _ _ _; (refine VcL.callF ok_tithingref24_isNumber rfl rfl rfl rfl (Rets.mono (isNumber_any H _) ?_); rintro _ w ⟨rfl, H⟩))
      | (refine VcL.guard rfl rfl rfl rfl (fun h => ?_) (fun h => ?_) <;> skip))
      | (show Vc _ _ _ _ _ _; first
      | refine Vc.seq ?_
      | refine Vc.region ?_
      | refine Vc.condT rfl ?_
      | refine Vc.ret ?_)
      | (show KSeq _ _ _ _ _ _ _; first
      | refine KSeq.normal ?_
      | refine KSeq.ret ?_)
      | (show KEnd _ _ _ _ _ _; refine KEnd.mk (Or.inr rfl) ⟨_, (ResL.tmp rfl (ResL.tmp rfl ResL.nil)), ?_⟩))
    all_goals exact ⟨rfl, H⟩
theorem NewR_any (H : Holds I w L) {v : Value} {l : List Us} (hv : SlU I L v l) (hl : l.length ≤ 140737488355328) (hu : ∀ u ∈ l, UsI I u) (seed : Int) (hb : (usersOk l && is32 seed) = true) :
    Rets Try.prog F_tithingref24_New #[v, .int .i64 seed] w fun u w' => ∃ J d vis, Imm.Le I J ∧ u = .tuple #[ptr d, .int .i64 0] ∧ NewVis J l vis ∧ Holds J w' (rdA d ⟨seed.toNat, 0, vis⟩ :: L) := by
  rw [Bool.and_eq_true] at hb
  obtain ⟨hb1, hb2⟩ := hb
  obtain ⟨n, rfl, hn⟩ := is32_nat hb2
  have hlen := usersOk_len hb1
  obtain ⟨A, cap, rfl, hcap⟩ := hv.form
  refine ok_tithingref24_New.rets rfl ?_
  repeat' (first
    | (show VcL _ _ _ _ _ _ _ _; first
      | refine VcL.pures tabOk rfl ?_
      | refine VcL.nil ?_
      | refine VcL.box H rfl rfl rfl rfl rfl (fun b w H => ?_)
      | (show VcL _ _ _ _ (⟨_, .call ⟨.value (.func F_tithingref21_ValidUsers), _, _⟩, _, _, _, _⟩ :: _) _ _ _; (refine VcL.callF ok_tithingref21_ValidUsers rfl rfl rfl rfl (Rets.mono (ValidUsersR_any H hv hl hu) ?_); rintro _ w ⟨rfl, H⟩; rw [hb1]))
      | (show VcL _ _ _ _ (⟨_, .call ⟨.value (.func F_tithingref24_isNumber), _, _⟩, _, _, _, _⟩ :: _) _ _ _; (refine VcL.callF ok_tithingref24_isNumber rfl rfl rfl rfl (Rets.mono (isNumber_any H _) ?_); rintro _ w ⟨rfl, H⟩; rw [hb2]))
      | (refine VcL.guard rfl rfl rfl rfl (fun h => ?_) (fun h => ?_) <;> first | (cases h; done) | skip))
    | (show Vc _ _ _ _ _ _; first
      | refine Vc.seq ?_
      | refine Vc.region ?_
      | refine Vc.condF rfl ?_
      | refine Vc.skip ?_
      | refine Vc.block ?_)
    | (show KSeq _ _ _ _ _ _ _; refine KSeq.normal ?_))
  obtain ⟨d, rfl⟩ : ∃ d, d = b := ⟨b, rfl⟩
  have hNew0 : ∀ (l : List Us), l = [] → NewVis I l [] := fun l h => by subst h; exact ⟨rfl, by simp⟩
  refine Vc.loopS [(0, _), (6, _)] (fun k : Nat => [(7, .int .i64 k)]) (fun k w => k ≤ l.length ∧ ∃ J vis lv gv, Imm.Le I J ∧ NewVis J (l.take k) vis ∧ Holds J w (blk d 77 [lv, gv, .int .i64 (n : Int), .int .i64 0] :: own lv 34 4 k (vis.flatMap usV1) :: own gv 79 2 k (vis.flatMap gdC) :: L)) (fun k _ => l.length - k) 0 ⟨rfl, trivial⟩ ⟨rfl, rfl, trivial⟩ ⟨Nat.zero_le _, I, [], .slice none 0 0, .slice none 0 0, Imm.Le.rfl' I, hNew0 _ rfl, (H.own_nil.own_nil).f2⟩ ?_
  rintro k w ⟨hk, J, vis, lv, gv, hJ, hnew, H⟩
  have hvl : vis.length = k := by have := congrArg List.length hnew.same; simp at this; omega
  by_cases hlt : k < l.length
  · obtain ⟨u, hue⟩ : ∃ u, atD l k = u := ⟨_, rfl⟩
    have huok := usersOk_at hb1 hlt
    have hui := hu _ (atD_mem hlt)
    obtain ⟨b2, o2, rfl, hr⟩ := hv.at (by omega)
    have hr := (hr.mono hJ).elem usC_len (atD_get hlt)
    rw [hue] at huok hui hr
    obtain ⟨id, name, sec, A, cp, gs⟩ := u
    have hg : SlI J (.slice A gs.length cp) 1 gs.length (gs.flatMap inC) := hui.grp.mono hJ
    have hr : RdW J L b2 (o2 + k * 4) [.int .i64 id, .string name, .int .i64 sec, .slice A gs.length cp] := hr
    have hgl : gs.length ≤ 10 := by unfold userOk at huok; simp only [Bool.and_eq_true, decide_eq_true_eq] at huok; exact huok.2
    have hsec : is31' sec = true := by unfold userOk at huok; simp only [Bool.and_eq_true] at huok; exact huok.1.2
    obtain ⟨_, A3, c3, rfl⟩ := Holds.own_len H.f1
    obtain ⟨_, A4, c4, rfl⟩ := Holds.own_len H.f2
    have htk : ((k : Int)).toNat = k := Int.toNat_natCast k
    repeat' (first
      | rw [htk]
      | (refine VcL.append tabOk rfl rfl rfl rfl H (SlI.src hg H) (in_one gs) (by show (_ + _) * 8 ≤ _; omega) rfl rfl rfl (fun v_ w H => ?_); rw [Nat.zero_add] at H; obtain ⟨_, A2, cp2, rfl⟩ := Holds.own_len H; obtain ⟨J2, hJ2, H, hg2⟩ := Holds.freezeOwn H)
      | (refine VcD.eff rfl rfl rfl rfl (OpE.append tabOk rfl rfl rfl rfl (by first | exact Holds.f3 H | exact Holds.f4 H | exact Holds.f5 H) (Src.slice rfl (Holds.pt_rd (by first | exact H | exact Holds.f1 H))) (usC_one ⟨id, name, sec, A2, cp2, gs⟩) (by show (_ + 1) * 56 ≤ _; omega)) ?_; rintro v_ w H; refine ⟨⟨Holds.rdWhole (by exact Holds.f4 H), Holds.rdWhole (by exact Holds.f3 H)⟩, ?_⟩; obtain ⟨_, A5U, c5U, rfl⟩ := Holds.own_len H)
      | (refine EfO.eff rfl rfl rfl rfl (OpE.append tabOk rfl rfl rfl rfl (by exact Holds.f3 H) (Src.slice rfl (Holds.pt_rd (by exact H))) (usC_one ⟨id, name, sec, A2, cp2, gs⟩) (by show (_ + 1) * 56 ≤ _; omega)) ?_; rintro v_ w H; refine ⟨⟨Holds.rdWhole (by exact Holds.f3 H), Holds.rdWhole (by exact Holds.f2 H)⟩, ?_⟩; obtain ⟨_, A5U, c5U, rfl⟩ := Holds.own_len H)
      | (refine VcD.eff rfl rfl rfl rfl (OpE.append tabOk rfl rfl rfl rfl (by first | exact Holds.f3 H | exact Holds.f5 H) (Src.slice rfl (Holds.pt_rd (by first | exact H | exact Holds.f1 H | exact Holds.f2 H))) (gdC_one ⟨⟨id, name, sec, A2, cp2, gs⟩, false, 0, 0⟩) (by show (_ + 1) * 16 ≤ _; omega)) ?_; rintro v_ w H; refine ⟨⟨Holds.rdWhole (by exact Holds.f5 H), Holds.rdWhole (by exact Holds.f4 H)⟩, ?_⟩; obtain ⟨_, A5G, c5G, rfl⟩ := Holds.own_len H)
      | (show VcL _ _ _ _ _ _ _ _; first
      | refine VcL.pures tabOk rfl ?_
      | refine VcL.nil ?_
      | (show VcL _ _ _ _ (⟨_, .load _ _, _, _, _, _⟩ :: _) _ _ _; first
      | refine VcL.load1 tabOk rfl rfl rfl rfl rfl (by first | exact Holds.cell (Holds.f1 H) rfl | exact RdW.get0 (by assumption) rfl (Holds.drop (Holds.drop (Holds.drop H)))) ?_
      | refine VcL.loadR tabOk rfl rfl rfl rfl rfl rfl (by exact RdW.rd (by assumption) (Holds.drop (Holds.drop (Holds.drop H)))) rfl ?_)
      | (show VcL _ _ _ _ (⟨_, .indexAddr _ _ _, _, _, _, _⟩ :: _) _ _ _; refine VcL.indexAddr tabOk rfl rfl rfl rfl rfl rfl (by omega) (by omega) ?_)
      | refine VcL.alloc tabOk H rfl rfl rfl rfl (fun b w H => ?_)
      | refine VcL.buildSlice tabOk H rfl rfl rfl rfl rfl rfl (fun sv w H => ?_)
      | (show VcL _ _ _ _ (⟨_, .store _ _ _, _, _, _, _⟩ :: _) _ _ _; refine VcL.store tabOk rfl (by exact H) rfl rfl (by exact rfl) (by exact rfl) (by exact rfl) (by exact rfl) (fun w H => ?_)))
      | (show VcD _ _ _ _ _ _ _ _ _; first
      | refine VcD.pures tabOk rfl ?_
      | refine VcD.done ?_
      | (show VcD _ _ _ _ _ (.take _ _) _ _ _; first
      | refine VcD.load1 tabOk rfl rfl rfl rfl rfl rfl (by intro w_ hw_; first | exact hw_.1 _ _ rfl | exact hw_.1 0 _ rfl | exact hw_.2 0 _ rfl) (by exact rfl) ?_
      | refine VcD.loadR tabOk rfl rfl rfl rfl rfl rfl rfl (by intro w_ hw_; exact hw_.2) rfl ?_)
      | (show VcD _ _ _ _ _ (.only _ _) _ _ _; first
      | (refine VcD.eff rfl rfl rfl rfl (OpE.buildSliceP tabOk H rfl rfl rfl rfl) ?_; rintro _ w ⟨b_, rfl, H⟩; refine ⟨(by (refine ⟨?_, ?_⟩ <;> first | exact Holds.rdWhole (Holds.f2 H) | exact Holds.rdWhole (Holds.f3 H) | exact Holds.rdWhole (Holds.f4 H))), ?_⟩)
      | (refine VcD.eff rfl rfl rfl rfl (OpE.store tabOk (by first | exact H | exact (Holds.f5 H)) rfl rfl rfl (by exact rfl) (by exact rfl) (by exact rfl) (by exact rfl)) ?_; rintro _ w ⟨_, H⟩; refine ⟨(by trivial), ?_⟩))
      | (show VcD _ _ _ _ _ (.two _ _ _ _) _ _ _; refine VcD.two ?_ ?_))
      | (show EfO _ _ _ _ _ _ _ _ _; (refine EfO.eff rfl rfl rfl rfl (OpE.buildSliceP tabOk H rfl rfl rfl rfl) ?_; rintro _ w ⟨b_, rfl, H⟩; refine ⟨(by (refine ⟨?_, ?_⟩ <;> first | exact Holds.rdWhole (Holds.f1 H) | exact Holds.rdWhole (Holds.f2 H) | exact Holds.rdWhole (Holds.f3 H))), ?_⟩))
      | (show Vc _ _ _ _ _ _; first
      | refine Vc.seq ?_
      | refine Vc.region ?_
      | refine Vc.skip ?_
      | refine Vc.block ?_
      | (refine Vc.drawn (id := 9) (.pure 0 (.pure 1 (.pure 2 (.pure 3 (.pure 4 (.pure 9 (.pure 10 (.pure 11 (.pure 13 (.take 5 (.take 6 (.take 12 (.two 7 14 (.two 8 14 (.only 14 (.only 15 (.pure 16 (.pure 17 (.only 18 (.pure 19 (.pure 20 (.only 21 .done)))))))) (.only 8 (.only 15 (.pure 16 (.pure 17 (.only 18 (.pure 19 (.pure 20 (.only 21 .done))))))))) (.only 7 (.only 8 (.only 15 (.pure 16 (.pure 17 (.only 18 (.pure 19 (.pure 20 (.only 21 .done)))))))))))))))))))))) (.till (fun w => Rd w d 0 [.slice A3 k c3, .slice A4 k c4, .int .i64 (n : Int), .int .i64 0] ∧ Rd w b 0 [.int .i64 id, .string name, .int .i64 sec, .slice A2 gs.length cp2]) 18 (.one (fun w => True))) mixed (by kernel_rfl) (by (refine ⟨?_, ?_⟩ <;> first | exact Holds.rdWhole (Holds.drew H _) | exact Holds.rdWhole (Holds.f1 (Holds.drew H _)))) ?_; have H := H.drew (w.drawn + 1))
      | (refine Vc.cond rfl (fun h => ?_) (fun h => ?_) <;> first | (exfalso; simp only [decide_eq_true_eq, decide_eq_false_iff_not] at h; omega) | (with_reducible have hp := of_decide_eq_true h)))
      | (show KSeq _ _ _ _ _ _ _; refine KSeq.normal ?_)
      | (show KBlock _ _ _ _ _; refine KBlock.normal ?_))
    all_goals
      have hf : ∀ (enc : Vs → List Value) (x : Vs), (vis ++ [x]).flatMap enc = vis.flatMap enc ++ enc x := fun enc x => by rw [List.flatMap_append]; simp
      have H2 : Holds J2 w (blk d 77 [.slice A5U (k + 1) c5U, .slice A5G (k + 1) c5G, .int .i64 (n : Int), .int .i64 0] :: own (.slice A5U (k + 1) c5U) 34 4 (k + 1) (vis.flatMap usV1 ++ usC ⟨id, name, sec, A2, cp2, gs⟩) :: own (.slice A5G (k + 1) c5G) 79 2 (k + 1) (vis.flatMap gdC ++ gdC ⟨⟨id, name, sec, A2, cp2, gs⟩, false, 0, 0⟩) :: L) := by
        first
          | exact H.f2.f1.drop3.drop3.drop3
          | exact H.f3.f1.drop3.drop3.drop3
      refine KLoop.again (k + 1) ⟨got_succ rfl (by omega), trivial⟩ ⟨rfl, rfl, trivial⟩ ⟨hlt, J2, vis ++ [⟨⟨id, name, sec, A2, cp2, gs⟩, false, 0, 0⟩], .slice A5U (k + 1) c5U, .slice A5G (k + 1) c5G, hJ.trans hJ2, ⟨?_, fun v hv => ?_⟩, ?_⟩ (by omega)
      · rw [List.map_append, hnew.same, take_atD hlt, List.map_append, hue]
        rfl
      · rcases List.mem_append.1 hv with hv | hv
        · have h3 := hnew.ok v hv
          exact ⟨h3.user.mono hJ2, h3.sec, h3.num, h3.tries, h3.few⟩
        · obtain rfl : v = ⟨⟨id, name, sec, A2, cp2, gs⟩, false, 0, 0⟩ := by simpa using hv
          exact ⟨⟨hg2, hui.name, by show gs.length ≤ _; omega⟩, is31_nat hsec, Nat.two_pow_pos 32, Nat.zero_le 5, hgl⟩
      · rw [hf, hf]
        exact H2
  ·
    repeat' (first
      | (show VcL _ _ _ _ _ _ _ _; first
      | refine VcL.pures tabOk rfl ?_
      | refine VcL.nil ?_)
      | (show Vc _ _ _ _ _ _; first
      | refine Vc.seq ?_
      | refine Vc.region ?_
      | refine Vc.ret ?_
      | refine Vc.exit ?_
      | (refine Vc.cond rfl (fun h => ?_) (fun h => ?_) <;> first | (exfalso; simp only [decide_eq_true_eq, decide_eq_false_iff_not] at h; omega) | (with_reducible have hp := of_decide_eq_false h)))
      | (show KSeq _ _ _ _ _ _ _; first
      | refine KSeq.normal ?_
      | refine KSeq.exit ?_)
      | (show KBlock _ _ _ _ _; refine KBlock.here ?_)
      | refine KLoop.exit ?_
      | (show KEnd _ _ _ _ _ _; refine KEnd.mk (Or.inr rfl) ⟨_, (ResL.tmp rfl (ResL.tmp rfl ResL.nil)), ?_⟩))
    obtain rfl : k = l.length := by omega
    rw [List.take_length] at hnew
    exact ⟨J, d, vis, hJ, rfl, hnew, rd_shut hvl rfl rfl H⟩
end Go.Proofs.Ytccbfajjboccoaa.V
