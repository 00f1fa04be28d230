/- A copy of a door goes on as the door does. -/
import Derived.Test.YtccbfajjboccoaaVQ
namespace Go.Proofs.Ytccbfajjboccoaa.V
open Go Go.Proofs.YtccbfajjboccoaaV
set_option linter.unusedVariables false
set_option linter.unusedSimpArgs false
set_option maxHeartbeats 2000000
attribute [local irreducible] IntKind.wrap
variable {I : Imm} {w : World} {L : List Asn}
theorem ac_at {J : Imm} {A : Option Addr} {cap : Nat} {l : List Ac} (hva : SlI I (.slice A l.length cap) 4 l.length (l.flatMap acC)) (hJ : Imm.Le I J) {i : Nat} (hlt : i < l.length) :
    ∃ b o x1 x2 x3 nm, A = some ⟨b, o, none⟩ ∧ atD l i = ⟨x1, x2, x3, nm⟩ ∧ RdI J b (o + i * 4) [.int .i64 x1, .int .i64 x2, .int .i64 x3, .string nm] := by
  obtain ⟨b1, o1, rfl, hr1⟩ := hva.at (by omega)
  have hr1 := (hr1.elem acC_len (atD_get hlt)).mono hJ
  obtain ⟨a, hae⟩ : ∃ a, atD l i = a := ⟨_, rfl⟩
  rw [hae] at hr1
  obtain ⟨x1, x2, x3, nm⟩ := a
  exact ⟨b1, o1, x1, x2, x3, nm, rfl, hae, hr1⟩
theorem SecretCopies_any (H : Holds I w L) {v va vb : Value} {l : List Us} {acts more : List Ac} (hv : SlI I v 4 l.length (l.flatMap usC)) (hl : l.length ≤ 140737488355328) (hu : ∀ u ∈ l, UsI I u)
    (hva : SlI I va 4 acts.length (acts.flatMap acC)) (hla : acts.length ≤ 140737488355328) (hvb : SlI I vb 4 more.length (more.flatMap acC)) (hlb : more.length ≤ 140737488355328) :
    Rets Try.prog F_tithinglaw24_SecretCopies #[v, va, vb] w fun u w' => u = .bool true ∧ Holds I w' L := by
  obtain ⟨A, cap, rfl, hcap⟩ := hv.form
  obtain ⟨A', cap', rfl, hcap'⟩ := hva.form
  obtain ⟨A3, cap3, rfl, hcap3⟩ := hvb.form
  by_cases hb : (usersOk l && is32 5) = true
  · have hlen := usersOk_len (Bool.and_eq_true_iff.1 hb).1
    refine ok_tithinglaw24_SecretCopies.rets rfl ?_
    repeat' (first
      | (refine VcL.makeMap ByteArray H rfl rfl rfl (fun m w H => ?_))
      | (show VcL _ _ _ _ _ _ _ _; first
      | refine VcL.pures tabOk rfl ?_
      | refine VcL.nil ?_
      | refine VcL.box H rfl rfl rfl rfl rfl (fun b w H => ?_)
      | (show VcL _ _ _ _ (⟨_, .call ⟨.value (.func F_tithinglaw24_Awake), _, _⟩, _, _, _, _⟩ :: _) _ _ _; (refine VcL.callF ok_tithinglaw24_Awake rfl rfl rfl rfl (Rets.mono (Awake_any H) ?_); rintro _ w ⟨rfl, H⟩))
      | (show VcL _ _ _ _ (⟨_, .call ⟨.value (.func F_secret_New), _, _⟩, _, _, _, _⟩ :: _) _ _ _; (refine VcL.callF ok_secret_New rfl rfl rfl rfl (Rets.mono (New_any H hv.toR hl hu 5 hb) ?_); rintro _ w ⟨J, d, vis, hJ, rfl, hnew, H⟩))
      | (show VcL _ _ _ _ (⟨_, .call ⟨.value (.func F_tithinglaw24_LongUsers), _, _⟩, _, _, _, _⟩ :: _) _ _ _; (refine VcL.callF ok_tithinglaw24_LongUsers rfl rfl rfl rfl (Rets.mono (LongUsers_any H (hv.mono hJ).toR hl) ?_); rintro _ w ⟨rfl, H⟩))
      | (show VcL _ _ _ _ (⟨_, .call ⟨.value (.func F_tithinglaw24_long), _, _⟩, _, _, _, _⟩ :: _) _ _ _; (refine VcL.callF ok_tithinglaw24_long rfl rfl rfl rfl (Rets.mono (long_any H (hva.mono hJ).toR hla) ?_); rintro _ w ⟨rfl, H⟩))
      | (show VcL _ _ _ _ (⟨_, .call ⟨.value (.func F_tithinglaw24_long), _, _⟩, _, _, _, _⟩ :: _) _ _ _; (refine VcL.callF ok_tithinglaw24_long rfl rfl rfl rfl (Rets.mono (long_any H (hvb.mono hJ).toR hlb) ?_); rintro _ w ⟨rfl, H⟩))
      | (show VcL _ _ _ _ (⟨_, .call ⟨.value (.func F_tithingref24_New), _, _⟩, _, _, _, _⟩ :: _) _ _ _; (refine VcL.callF ok_tithingref24_New rfl rfl rfl rfl (Rets.mono (NewR_any H (hv.mono hJ).toR hl (fun u hx => (hu u hx).mono hJ) 5 hb) ?_); rintro _ w ⟨J2, r, vis2, hJ2, rfl, hnew2, H⟩))
      | (refine VcL.guard rfl rfl rfl rfl (fun h => ?_) (fun h => ?_) <;> first | (cases h; done) | skip))
      | (show Vc _ _ _ _ _ _; first
      | refine Vc.seq ?_
      | refine Vc.region ?_
      | refine Vc.condT rfl ?_
      | refine Vc.condF rfl ?_
      | refine Vc.ret ?_
      | refine Vc.skip ?_
      | refine Vc.block ?_)
      | (show KSeq _ _ _ _ _ _ _; first
      | refine KSeq.normal ?_
      | refine KSeq.ret ?_)
      | (show KEnd _ _ _ _ _ _; refine KEnd.mk (Or.inr rfl) ⟨_, (ResL.tmp rfl ResL.nil), ?_⟩))
    · exact ⟨rfl, H.drop.less hJ⟩
    · exact ⟨rfl, H.drop.less hJ⟩
    · exact ⟨rfl, H.drop.less hJ⟩
    have hab : (acts.any bigA || decide (200 < acts.length)) = false := by assumption
    obtain ⟨hsmall, hmost⟩ := acts_ok hab
    have hab2 : (more.any bigA || decide (200 < more.length)) = false := by assumption
    obtain ⟨hsmall2, hmost2⟩ := acts_ok hab2
    have hp0 : Pl J2 0 ⟨(5 : Int).toNat, 0, vis⟩ ⟨(5 : Int).toNat, 0, vis2⟩ [] := ⟨(doorOk_new (by decide) hlen hnew).mono hJ2, doorOk_new (by decide) hlen hnew2, hnew.same2 hnew2 _, Nat.le_refl _, ints_nil⟩
    refine Vc.loopS [(1, _), (2, _), (11, _)] (fun i : Nat => [(12, .int .i64 i)]) (fun i w => i ≤ acts.length ∧ ∃ J D E ml, Imm.Le I J ∧ Pl J i D E ml ∧ Holds J w (plB b d r m :: doorA d D :: rdA r E :: lsM m ml :: L)) (fun i _ => acts.length - i) 0 ⟨rfl, trivial⟩ ⟨rfl, rfl, rfl, trivial⟩ ⟨Nat.zero_le _, J2, _, _, _, hJ.trans hJ2, hp0, H.re [0, 2, 1, 0] rfl⟩ ?_
    rintro i w ⟨hi, J3, D, E, ml, hJ3, hpl, H⟩
    by_cases hlt : i < acts.length
    · obtain ⟨b1, o1, x1, x2, x3, nm, rfl, hae, hr1⟩ := ac_at hva hJ3 hlt
      have hnm : nm.size ≤ 140737488355328 := by have := hsmall _ (atD_mem hlt); rw [hae] at this; exact this
      have hr1 : RdW J3 (plB b d r m :: doorA d D :: rdA r E :: lsM m ml :: L) b1 (o1 + i * 4) [.int .i64 x1, .int .i64 x2, .int .i64 x3, .string nm] := hr1.toW
      repeat' (first
        | (show VcL _ _ _ _ _ _ _ _; first
      | refine VcL.pures tabOk rfl ?_
      | refine VcL.nil ?_
      | (show VcL _ _ _ _ (⟨_, .load _ _, _, _, _, _⟩ :: _) _ _ _; refine VcL.loadR tabOk rfl rfl rfl rfl rfl rfl (by exact RdW.rd (by assumption) H) rfl ?_)
      | (show VcL _ _ _ _ (⟨_, .indexAddr _ _ _, _, _, _, _⟩ :: _) _ _ _; refine VcL.indexAddr tabOk rfl rfl rfl rfl rfl rfl (by omega) (by omega) ?_)
      | (show VcL _ _ _ _ (⟨_, .call ⟨.value (.func F_tithinglaw24_play_do), _, _⟩, _, _, _, _⟩ :: _) _ _ _; (refine VcL.callF ok_tithinglaw24_play_do rfl rfl rfl rfl (Rets.mono (do_any H hpl (by omega) x1 x2 x3 nm hnm) ?_); rintro _ w ⟨J4, D4, E4, ml4, hJ4, rfl, hpl4, H⟩)))
        | (show Vc _ _ _ _ _ _; first
      | refine Vc.seq ?_
      | refine Vc.region ?_
      | refine Vc.skip ?_
      | refine Vc.block ?_
      | (refine Vc.cond rfl (fun h => ?_) (fun h => ?_) <;> first | (exfalso; simp only [decide_eq_true_eq, decide_eq_false_iff_not] at h; omega) | (with_reducible have hp := of_decide_eq_true h)))
        | (show KSeq _ _ _ _ _ _ _; refine KSeq.normal ?_)
        | (show KBlock _ _ _ _ _; refine KBlock.normal ?_))
      exact KLoop.again (i + 1) ⟨got_succ rfl (by omega), trivial⟩ ⟨rfl, rfl, rfl, trivial⟩ ⟨hlt, J4, D4, E4, ml4, hJ3.trans hJ4, hpl4, H⟩ (by omega)
    ·
      repeat' (first
        | (refine VcD.eff rfl rfl rfl rfl (OpE.makeMap (κ := ByteArray) H rfl) ?_; rintro _ w ⟨m2, rfl, H⟩; have H := Holds.re [1, 1, 1, 1] H rfl; refine ⟨Holds.rdWhole H, ?_⟩)
        | (refine EfO.eff rfl rfl rfl rfl (OpE.makeMap (κ := ByteArray) H rfl) ?_; rintro _ w ⟨m2, rfl, H⟩; have H := Holds.re [1, 1, 1, 1] H rfl; refine ⟨Holds.rdWhole H, ?_⟩)
        | (show Vc _ _ (.seq (.region 10 _ _) _) _ _ _; refine Vc.cut [(2, .slice A3 more.length cap3), (11, ptr b)] (fun q : Nat => [(13, ptr q)]) (fun q w => ∃ J4 d2 r2 m2 E2, Imm.Le J3 J4 ∧ SameD E2 E ∧ DrOk J4 E2 ∧ Holds J4 w (plB b d r m :: doorA d D :: rdA r E :: lsM m ml :: plB q d2 r2 m2 :: doorA d2 D :: rdA r2 E2 :: lsM m2 [] :: L)) ?_ ?_; rotate_left; rintro q w ⟨J4, d2, r2, m2, E2, hJ4, hs4, hE4, H⟩; rotate_right)
        | (show VcL _ _ _ _ _ _ _ _; first
      | refine VcL.pures tabOk rfl ?_
      | refine VcL.nil ?_
      | (show VcL _ _ _ _ (⟨_, .load _ _, _, _, _, _⟩ :: _) _ _ _; refine VcL.load1 tabOk rfl rfl rfl rfl rfl (by exact Holds.cell H rfl) ?_))
        | (show VcD _ _ _ _ _ _ _ _ _; first
      | refine VcD.pures tabOk rfl ?_
      | refine VcD.done ?_
      | (show VcD _ _ _ _ _ (.take _ _) _ _ _; refine VcD.load1 tabOk rfl rfl rfl rfl rfl rfl (by intro w_ hw_; first | exact hw_ _ _ rfl | exact hw_ 0 _ rfl) (by exact rfl) ?_)
      | (show VcD _ _ _ _ _ (.only _ _) _ _ _; first
      | (refine VcD.callF (f := F_secret_Door_Copy) rfl ok_secret_Door_Copy rfl rfl rfl rfl (Rets.mono (CopyP_any (Holds.f1 H) hpl.d) ?_); rintro _ w ⟨d2, rfl, H⟩; have H := Holds.re [2, 1, 1, 1] H rfl; refine ⟨(by exact Holds.rdWhole H), ?_⟩)
      | (refine VcD.callF (f := F_tithingref24_Door_Copy) rfl ok_tithingref24_Door_Copy rfl rfl rfl rfl (Rets.mono (CopyR_any (Holds.f2 H) hpl.e) ?_); rintro _ w ⟨J4, r2, E2, hJ4, rfl, hsE, hE2, H⟩; have H := Holds.re [2, 2, 1, 1] H rfl; refine ⟨(by exact Holds.rdWhole H), ?_⟩)
      | (refine VcD.eff rfl rfl rfl rfl (OpE.box H rfl rfl rfl) ?_; rintro _ w ⟨b, rfl, H⟩; refine ⟨(by exact Holds.rdWhole (Holds.f1 H)), ?_⟩))
      | (show VcD _ _ _ _ _ (.two _ _ _ _) _ _ _; refine VcD.two ?_ ?_))
        | (show EfO _ _ _ _ _ _ _ _ _; first
      | (refine EfO.call (f := F_secret_Door_Copy) rfl rfl rfl rfl (OpC.call ok_secret_Door_Copy rfl) (Rets.mono (CopyP_any (Holds.f1 H) hpl.d) ?_); rintro _ w ⟨d2, rfl, H⟩; have H := Holds.re [2, 1, 1, 1] H rfl; refine ⟨(by exact Holds.rdWhole H), ?_⟩)
      | (refine EfO.call (f := F_tithingref24_Door_Copy) rfl rfl rfl rfl (OpC.call ok_tithingref24_Door_Copy rfl) (Rets.mono (CopyR_any (Holds.f2 H) hpl.e) ?_); rintro _ w ⟨J4, r2, E2, hJ4, rfl, hsE, hE2, H⟩; have H := Holds.re [2, 2, 1, 1] H rfl; refine ⟨(by exact Holds.rdWhole H), ?_⟩))
        | (show Vc _ _ _ _ _ _; first
      | refine Vc.seq ?_
      | refine Vc.region ?_
      | refine Vc.exit ?_
      | (refine Vc.drawn (id := 10) (.pure 0 (.pure 1 (.pure 2 (.pure 5 (.pure 6 (.pure 7 (.take 3 (.take 8 (.two 4 10 (.two 9 10 (.only 10 (.pure 11 (.only 12 (.pure 13 .done)))) (.only 9 (.pure 11 (.only 12 (.pure 13 .done))))) (.only 4 (.only 9 (.pure 11 (.only 12 (.pure 13 .done)))))))))))))) (.one (fun w => Rd w b 0 (plV d r m))) mixed (by kernel_rfl) (by exact Holds.rdWhole (Holds.drew H _)) ?_; have H := H.drew (w.drawn + 1))
      | (refine Vc.cond rfl (fun h => ?_) (fun h => ?_) <;> first | (exfalso; simp only [decide_eq_true_eq, decide_eq_false_iff_not] at h; omega) | (with_reducible have hp := of_decide_eq_false h)))
        | (show KSeq _ _ _ _ _ _ _; first
      | refine KSeq.normal ?_
      | refine KSeq.exit ?_)
        | (show KBlock _ _ _ _ _; refine KBlock.here ?_)
        | refine KLoop.exit ?_)
      iterate 3 (exact KCut.join _ ⟨rfl, trivial⟩ ⟨rfl, rfl, trivial⟩ ⟨J4, d2, r2, m2, E2, hJ4, hsE, hE2, by first | exact Holds.re [1, 1, 1, 1, 0, 2, 1] H rfl | exact Holds.re [1, 1, 1, 1, 0, 2] H rfl | exact Holds.re [1, 1, 1, 1, 0, 1] H rfl⟩)
      have hint := hpl.ints
      have hpq : Pl J4 acts.length D E2 [] := ⟨hpl.d.mono hJ4, hE4, hpl.same.trans hs4.symm, Nat.le_trans hpl.asked hi, ints_nil⟩
      repeat' (first
        | (refine VcL.range tabOk rfl (Holds.f3 H) rfl rfl rfl rfl (fun it w H => ?_))
        | (show VcL _ _ _ _ _ _ _ _; refine VcL.nil ?_)
        | (show Vc _ _ _ _ _ _; refine Vc.block ?_)
        | (show KSeq _ _ _ _ _ _ _; refine KSeq.normal ?_))
      refine Vc.loopS [(2, _), (11, _), (13, _), (77, _)] (fun n : Nat => []) (fun n w => ∃ left last ml2, left.length = n ∧ ints left ∧ ints ml2 ∧ Holds J4 w (wk m it ml left last :: plB b d r m :: doorA d D :: rdA r E :: plB q d2 r2 m2 :: doorA d2 D :: rdA r2 E2 :: lsM m2 ml2 :: L)) (fun n _ => n) ml.length trivial ⟨rfl, rfl, rfl, rfl, trivial⟩ ⟨ml, none, [], rfl, hint, ints_nil, H⟩ ?_
      rintro n w ⟨left, last, ml2, hn, hleft, hml2, H⟩
      repeat' (first
        | (refine VcL.next rfl H rfl rfl rfl (fun hl0 => ?_) (fun kq kv left' w hperm H => ?_); rotate_left; obtain ⟨xv, rfl⟩ : ∃ xv : Int, kv = .int .i64 xv := hleft _ (hperm.symm.subset List.mem_cons_self); rotate_right)
        | (refine VcL.entry rfl H rfl rfl rfl ?_)
        | (refine VcL.mapUpdate (κ := ByteArray) tabOk rfl rfl rfl (Holds.re [7] H rfl) rfl rfl rfl (fun w H => ?_); have H := Holds.re [1, 1, 1, 1, 1, 1, 1] H rfl)
        | (show VcL _ _ _ _ _ _ _ _; first
      | refine VcL.pures tabOk rfl ?_
      | refine VcL.nil ?_
      | (show VcL _ _ _ _ (⟨_, .load _ _, _, _, _, _⟩ :: _) _ _ _; refine VcL.load1 tabOk rfl rfl rfl rfl rfl (by exact Holds.cell (Holds.f4 H) rfl) ?_))
        | (show Vc _ _ _ _ _ _; first
      | refine Vc.seq ?_
      | refine Vc.region ?_
      | refine Vc.condT rfl ?_
      | refine Vc.condF rfl ?_
      | refine Vc.skip ?_
      | refine Vc.block ?_
      | refine Vc.exit ?_)
        | (show KSeq _ _ _ _ _ _ _; first
      | refine KSeq.normal ?_
      | refine KSeq.exit ?_)
        | (show KBlock _ _ _ _ _; first
      | refine KBlock.normal ?_
      | refine KBlock.here ?_)
        | refine KLoop.exit ?_)
      rotate_left
      · exact KLoop.again left'.length trivial ⟨rfl, rfl, rfl, rfl, trivial⟩ ⟨left', some (kq, .int .i64 xv), mset ml2 kq (.int .i64 xv), rfl, fun p hp => hleft p (hperm.symm.subset (List.mem_cons_of_mem _ hp)), ints_set hml2 _ _, H⟩ (by have := hperm.length_eq; simp at this; omega)
      have H := Holds.re [4, 4, 4, 4, 1, 1, 1] H.wk_end rfl
      have hJ34 := hJ3.trans hJ4
      have hpp : Pl J4 acts.length D E ml := hpl.mono hJ4 (by omega)
      have hpq : Pl J4 acts.length D E2 ml2 := ⟨hpq.d, hpq.e, hpq.same, hpq.asked, hml2⟩
      refine Vc.loopS [(2, _), (11, _), (13, _)] (fun i : Nat => [(16, .int .i64 i)]) (fun i w => i ≤ more.length ∧ ∃ J D2 E2 ml2, Imm.Le J4 J ∧ Pl J (acts.length + i) D2 E2 ml2 ∧ Holds J w (plB q d2 r2 m2 :: doorA d2 D2 :: rdA r2 E2 :: lsM m2 ml2 :: plB b d r m :: doorA d D :: rdA r E :: lsM m ml :: L)) (fun i _ => more.length - i) 0 ⟨rfl, trivial⟩ ⟨rfl, rfl, rfl, trivial⟩ ⟨Nat.zero_le _, J4, _, _, _, Imm.Le.rfl' _, hpq, H⟩ ?_
      rintro i' w ⟨hi', J5, D2, E2, ml2, hJ5, hpq, H⟩
      by_cases hlt' : i' < more.length
      · obtain ⟨b1, o1, x1, x2, x3, nm, rfl, hae, hr1⟩ := ac_at hvb (hJ34.trans hJ5) hlt'
        have hnm : nm.size ≤ 140737488355328 := by have := hsmall2 _ (atD_mem hlt'); rw [hae] at this; exact this
        have hr1 : RdW J5 (plB q d2 r2 m2 :: doorA d2 D2 :: rdA r2 E2 :: lsM m2 ml2 :: plB b d r m :: doorA d D :: rdA r E :: lsM m ml :: L) b1 (o1 + i' * 4) [.int .i64 x1, .int .i64 x2, .int .i64 x3, .string nm] := hr1.toW
        repeat' (first
          | (show VcL _ _ _ _ _ _ _ _; first
      | refine VcL.pures tabOk rfl ?_
      | refine VcL.nil ?_
      | (show VcL _ _ _ _ (⟨_, .load _ _, _, _, _, _⟩ :: _) _ _ _; refine VcL.loadR tabOk rfl rfl rfl rfl rfl rfl (by exact RdW.rd (by assumption) H) rfl ?_)
      | (show VcL _ _ _ _ (⟨_, .indexAddr _ _ _, _, _, _, _⟩ :: _) _ _ _; refine VcL.indexAddr tabOk rfl rfl rfl rfl rfl rfl (by omega) (by omega) ?_)
      | (show VcL _ _ _ _ (⟨_, .call ⟨.value (.func F_tithinglaw24_play_do), _, _⟩, _, _, _, _⟩ :: _) _ _ _; (refine VcL.callF ok_tithinglaw24_play_do rfl rfl rfl rfl (Rets.mono (do_any H hpq (by omega) x1 x2 x3 nm hnm) ?_); rintro _ w ⟨J6, D6, E6, ml6, hJ6, rfl, hpq6, H⟩)))
          | (show Vc _ _ _ _ _ _; first
      | refine Vc.seq ?_
      | refine Vc.region ?_
      | refine Vc.condF rfl ?_
      | refine Vc.skip ?_
      | refine Vc.block ?_
      | (refine Vc.cond rfl (fun h => ?_) (fun h => ?_) <;> first | (exfalso; simp only [decide_eq_true_eq, decide_eq_false_iff_not] at h; omega) | (with_reducible have hp := of_decide_eq_true h)))
          | (show KSeq _ _ _ _ _ _ _; refine KSeq.normal ?_)
          | (show KBlock _ _ _ _ _; refine KBlock.normal ?_))
        exact KLoop.again (i' + 1) ⟨got_succ rfl (by omega), trivial⟩ ⟨rfl, rfl, rfl, trivial⟩ ⟨hlt', J6, D6, E6, ml6, hJ5.trans hJ6, hpq6, H⟩ (by omega)
      ·
        have hpp : Pl J5 acts.length D E ml := hpp.mono hJ5 (by omega)
        repeat' (first
          | (show VcL _ _ _ _ _ _ _ _; first
      | refine VcL.pures tabOk rfl ?_
      | refine VcL.nil ?_
      | (show VcL _ _ _ _ (⟨_, .call ⟨.value (.func F_tithinglaw24_play_same), _, _⟩, _, _, _, _⟩ :: _) _ _ _; (refine VcL.callF ok_tithinglaw24_play_same rfl rfl rfl rfl (Rets.mono (same_any (Holds.re [4, 4, 4, 4] H rfl) hpp) ?_); rintro _ w ⟨J6, hJ6, rfl, H⟩))
      | (show VcL _ _ _ _ (⟨_, .call ⟨.value (.func F_tithinglaw24_play_same), _, _⟩, _, _, _, _⟩ :: _) _ _ _; (refine VcL.callF ok_tithinglaw24_play_same rfl rfl rfl rfl (Rets.mono (same_any (Holds.re [4, 4, 4, 4] H rfl) (hpq.mono hJ6 (Nat.le_refl _))) ?_); rintro _ w ⟨J7, hJ7, rfl, H⟩; have H := Holds.re [4, 4, 4, 4] H rfl))
      | (refine VcL.guard rfl rfl rfl rfl (fun h => ?_) (fun h => ?_) <;> first | (cases h; done) | skip))
          | (show Vc _ _ _ _ _ _; first
      | refine Vc.seq ?_
      | refine Vc.region ?_
      | refine Vc.condF rfl ?_
      | refine Vc.skip ?_
      | refine Vc.block ?_
      | refine Vc.exit ?_
      | (refine Vc.cond rfl (fun h => ?_) (fun h => ?_) <;> first | (exfalso; simp only [decide_eq_true_eq, decide_eq_false_iff_not] at h; omega) | (with_reducible have hp := of_decide_eq_false h)))
          | (show KSeq _ _ _ _ _ _ _; first
      | refine KSeq.normal ?_
      | refine KSeq.exit ?_)
          | (show KBlock _ _ _ _ _; refine KBlock.here ?_)
          | refine KLoop.exit ?_)
        have hJ37 := ((hJ34.trans hJ5).trans hJ6).trans hJ7
        refine Vc.loopS [(2, _), (11, _)] (fun i : Nat => [(17, .int .i64 i)]) (fun i w => i ≤ more.length ∧ ∃ J D E ml, Imm.Le J7 J ∧ Pl J (acts.length + i) D E ml ∧ Holds J w (plB b d r m :: doorA d D :: rdA r E :: lsM m ml :: plB q d2 r2 m2 :: doorA d2 D2 :: rdA r2 E2 :: lsM m2 ml2 :: L)) (fun i _ => more.length - i) 0 ⟨rfl, trivial⟩ ⟨rfl, rfl, trivial⟩ ⟨Nat.zero_le _, J7, _, _, _, Imm.Le.rfl' _, hpp.mono (hJ6.trans hJ7) (by omega), H⟩ ?_
        rintro k w ⟨hk, J8, D, E, ml, hJ8, hpp, H⟩
        by_cases hlk : k < more.length
        · obtain ⟨b1, o1, x1, x2, x3, nm, rfl, hae, hr1⟩ := ac_at hvb (hJ37.trans hJ8) hlk
          have hnm : nm.size ≤ 140737488355328 := by have := hsmall2 _ (atD_mem hlk); rw [hae] at this; exact this
          have hr1 : RdW J8 (plB b d r m :: doorA d D :: rdA r E :: lsM m ml :: plB q d2 r2 m2 :: doorA d2 D2 :: rdA r2 E2 :: lsM m2 ml2 :: L) b1 (o1 + k * 4) [.int .i64 x1, .int .i64 x2, .int .i64 x3, .string nm] := hr1.toW
          repeat' (first
            | (show VcL _ _ _ _ _ _ _ _; first
      | refine VcL.pures tabOk rfl ?_
      | refine VcL.nil ?_
      | (show VcL _ _ _ _ (⟨_, .load _ _, _, _, _, _⟩ :: _) _ _ _; refine VcL.loadR tabOk rfl rfl rfl rfl rfl rfl (by exact RdW.rd (by assumption) H) rfl ?_)
      | (show VcL _ _ _ _ (⟨_, .indexAddr _ _ _, _, _, _, _⟩ :: _) _ _ _; refine VcL.indexAddr tabOk rfl rfl rfl rfl rfl rfl (by omega) (by omega) ?_)
      | (show VcL _ _ _ _ (⟨_, .call ⟨.value (.func F_tithinglaw24_play_do), _, _⟩, _, _, _, _⟩ :: _) _ _ _; (refine VcL.callF ok_tithinglaw24_play_do rfl rfl rfl rfl (Rets.mono (do_any H hpp (by omega) x1 x2 x3 nm hnm) ?_); rintro _ w ⟨J6, D6, E6, ml6, hJ6, rfl, hpq6, H⟩)))
            | (show Vc _ _ _ _ _ _; first
      | refine Vc.seq ?_
      | refine Vc.region ?_
      | refine Vc.condF rfl ?_
      | refine Vc.skip ?_
      | refine Vc.block ?_
      | (refine Vc.cond rfl (fun h => ?_) (fun h => ?_) <;> first | (exfalso; simp only [decide_eq_true_eq, decide_eq_false_iff_not] at h; omega) | (with_reducible have hp := of_decide_eq_true h)))
            | (show KSeq _ _ _ _ _ _ _; refine KSeq.normal ?_)
            | (show KBlock _ _ _ _ _; refine KBlock.normal ?_))
          exact KLoop.again (k + 1) ⟨got_succ rfl (by omega), trivial⟩ ⟨rfl, rfl, trivial⟩ ⟨hlk, J6, D6, E6, ml6, hJ8.trans hJ6, hpq6, H⟩ (by omega)
        ·
          repeat' (first
            | (show VcL _ _ _ _ _ _ _ _; first
      | refine VcL.pures tabOk rfl ?_
      | refine VcL.nil ?_
      | (show VcL _ _ _ _ (⟨_, .call ⟨.value (.func F_tithinglaw24_play_same), _, _⟩, _, _, _, _⟩ :: _) _ _ _; (refine VcL.callF ok_tithinglaw24_play_same rfl rfl rfl rfl (Rets.mono (same_any H hpp) ?_); rintro _ w ⟨J9, hJ9, rfl, H⟩))
      | (show VcL _ _ _ _ (⟨_, .call ⟨.value (.func F_tithinglaw24_Awake), _, _⟩, _, _, _, _⟩ :: _) _ _ _; (refine VcL.callF ok_tithinglaw24_Awake rfl rfl rfl rfl (Rets.mono (Awake_any H) ?_); rintro _ w ⟨rfl, H⟩))
      | (refine VcL.guard rfl rfl rfl rfl (fun h => ?_) (fun h => ?_) <;> first | (cases h; done) | skip))
            | (show Vc _ _ _ _ _ _; first
      | refine Vc.seq ?_
      | refine Vc.region ?_
      | refine Vc.ret ?_
      | refine Vc.exit ?_
      | (refine Vc.cond rfl (fun h => ?_) (fun h => ?_) <;> first | (exfalso; simp only [decide_eq_true_eq, decide_eq_false_iff_not] at h; omega) | (with_reducible have hp := of_decide_eq_false h)))
            | (show KSeq _ _ _ _ _ _ _; first
      | refine KSeq.normal ?_
      | refine KSeq.exit ?_)
            | (show KBlock _ _ _ _ _; refine KBlock.here ?_)
            | refine KLoop.exit ?_
            | (show KEnd _ _ _ _ _ _; refine KEnd.mk (Or.inr rfl) ⟨_, (ResL.tmp rfl ResL.nil), ?_⟩))
          exact ⟨rfl, H.drop.drop.drop.drop.drop.drop.drop.drop.less ((hJ37.trans hJ8).trans hJ9)⟩
  · rw [Bool.not_eq_true] at hb
    refine ok_tithinglaw24_SecretCopies.rets rfl ?_
    repeat' (first
      | (show VcL _ _ _ _ _ _ _ _; first
      | refine VcL.pures tabOk rfl ?_
      | refine VcL.nil ?_
      | (show VcL _ _ _ _ (⟨_, .call ⟨.value (.func F_tithinglaw24_Awake), _, _⟩, _, _, _, _⟩ :: _) _ _ _; (refine VcL.callF ok_tithinglaw24_Awake rfl rfl rfl rfl (Rets.mono (Awake_any H) ?_); rintro _ w ⟨rfl, H⟩))
      | (show VcL _ _ _ _ (⟨_, .call ⟨.value (.func F_secret_New), _, _⟩, _, _, _, _⟩ :: _) _ _ _; (refine VcL.callF ok_secret_New rfl rfl rfl rfl (Rets.mono (New_bad H hv.toR hl hu 5 hb) ?_); rintro _ w ⟨rfl, H⟩))
      | (show VcL _ _ _ _ (⟨_, .call ⟨.value (.func F_tithinglaw24_LongUsers), _, _⟩, _, _, _, _⟩ :: _) _ _ _; (refine VcL.callF ok_tithinglaw24_LongUsers rfl rfl rfl rfl (Rets.mono (LongUsers_any H hv.toR hl) ?_); rintro _ w ⟨rfl, H⟩))
      | (show VcL _ _ _ _ (⟨_, .call ⟨.value (.func F_tithinglaw24_long), _, _⟩, _, _, _, _⟩ :: _) _ _ _; (refine VcL.callF ok_tithinglaw24_long rfl rfl rfl rfl (Rets.mono (long_any H hva.toR hla) ?_); rintro _ w ⟨rfl, H⟩))
      | (show VcL _ _ _ _ (⟨_, .call ⟨.value (.func F_tithinglaw24_long), _, _⟩, _, _, _, _⟩ :: _) _ _ _; (refine VcL.callF ok_tithinglaw24_long rfl rfl rfl rfl (Rets.mono (long_any H hvb.toR hlb) ?_); rintro _ w ⟨rfl, H⟩))
      | (refine VcL.guard rfl rfl rfl rfl (fun h => ?_) (fun h => ?_) <;> first | (cases h; done) | skip))
      | (show Vc _ _ _ _ _ _; first
      | refine Vc.seq ?_
      | refine Vc.region ?_
      | refine Vc.condT rfl ?_
      | refine Vc.ret ?_)
      | (show KSeq _ _ _ _ _ _ _; first
      | refine KSeq.normal ?_
      | refine KSeq.ret ?_)
      | (show KEnd _ _ _ _ _ _; refine KEnd.mk (Or.inr rfl) ⟨_, (ResL.tmp rfl ResL.nil), ?_⟩))
    all_goals exact ⟨rfl, H⟩
end Go.Proofs.Ytccbfajjboccoaa.V
