/- What a play does. -/
import Derived.Test.YtccbfajjboccoaaVN
import Derived.Test.YtccbfajjboccoaaVF
namespace Go.Proofs.Ytccbfajjboccoaa.V
open Go Go.Proofs.YtccbfajjboccoaaV
set_option linter.unusedVariables false
set_option linter.unusedSimpArgs false
set_option maxHeartbeats 1000000
attribute [local irreducible] IntKind.wrap
variable {I : Imm} {w : World} {L : List Asn}
abbrev plV (d r m : Nat) : List Value := [ptr d, ptr r, .map (some m)]
abbrev plB (p d r m : Nat) : Asn := blk p 51 (plV d r m)
abbrev lsM (m : Nat) (ml : List (ByteArray × Value)) : Asn := mp (κ := ByteArray) m ml
theorem users_len {D : Dr} {l : List Us} (hl : l.map usK = D.vis.map (fun v => usK v.user)) (hD : DrOk I D) : l.length ≤ 20 := by
  have := congrArg List.length hl
  simp at this
  have := hD.len
  omega
theorem right_any {p d r m : Nat} {D E : Dr} {ml : List (ByteArray × Value)} (H : Holds I w (plB p d r m :: doorA d D :: rdA r E :: lsM m ml :: L)) (hE : DrOk I E) (hi : ints ml) (name : ByteArray) :
    Rets Try.prog F_tithinglaw24_play_right #[ptr p, .string name] w fun u w' => ∃ J, ∃ x : Int, Imm.Le I J ∧ u = .int .i64 x ∧ Holds J w' (plB p d r m :: doorA d D :: rdA r E :: lsM m ml :: L) := by
  obtain ⟨x0, hx0⟩ := ints_get hi name
  refine ok_tithinglaw24_play_right.rets rfl ?_
  repeat' (first
    | (show VcL _ _ _ _ _ _ _ _; first
      | refine VcL.pures tabOk rfl ?_
      | refine VcL.nil ?_
      | (show VcL _ _ _ _ (⟨_, .load _ _, _, _, _, _⟩ :: _) _ _ _; refine VcL.load1 tabOk rfl rfl rfl rfl rfl (by exact Holds.cell H rfl) ?_)
      | (show VcL _ _ _ _ (⟨_, .call ⟨.value (.func F_tithingref24_Door_Users), _, _⟩, _, _, _, _⟩ :: _) _ _ _; (refine VcL.callF ok_tithingref24_Door_Users rfl rfl rfl rfl (Rets.mono (UsersR_any (Holds.f2 H) hE) ?_); rintro _ w ⟨J, l, hJ, hu, hl, H⟩; have H := Holds.f2 (Holds.f2 H); obtain ⟨lA, lcap, rfl, lhc⟩ := (SlI.toR (L := L) hu.sl).form)))
    | (show Vc _ _ _ _ _ _; first
      | refine Vc.seq ?_
      | refine Vc.region ?_
      | refine Vc.block ?_)
    | (show KSeq _ _ _ _ _ _ _; refine KSeq.normal ?_))
  have hlen := users_len hl hE
  refine Vc.loopS [(0, _), (1, _), (5, _)] (fun i : Nat => [(6, .int .i64 i)]) (fun i w => Holds J w (plB p d r m :: doorA d D :: rdA r E :: lsM m ml :: L) ∧ i ≤ l.length) (fun i _ => l.length - i) 0 ⟨rfl, trivial⟩ ⟨rfl, rfl, rfl, trivial⟩ ⟨H, Nat.zero_le _⟩ ?_
  rintro i w ⟨H, hil⟩
  by_cases hlt : i < l.length
  · obtain ⟨b1, o1, rfl, hr1⟩ := (SlI.toR (L := L) hu.sl).at (by omega)
    have hr1 := hr1.elem usC_len (atD_get hlt)
    obtain ⟨u, hue⟩ : ∃ u, atD l i = u := ⟨_, rfl⟩
    rw [hue] at hr1
    obtain ⟨id, nm, sec, A1, c1, gs⟩ := u
    have hr1 : RdW J L b1 (o1 + i * 4) [.int .i64 id, .string nm, .int .i64 sec, .slice A1 gs.length c1] := hr1
    obtain ⟨a, e, hae⟩ := cipA_form (is32 x0 && is31 sec) x0 sec
    have hr2 := hr1.up (A := lsM m ml)
    have hr2 := hr2.up (A := rdA r E)
    have hr2 := hr2.up (A := doorA d D)
    have hr2 := hr2.up (A := plB p d r m)
    repeat' (first
      | rw [hx0]
      | (refine VcD.eff rfl rfl rfl rfl (OpE.lookup (κ := ByteArray) tabOk rfl rfl (Holds.f3 H) rfl rfl) ?_; rintro _ w ⟨rfl, H⟩; have H := Holds.f3 (Holds.f3 (Holds.f3 H)); refine ⟨H, ?_⟩)
      | (show VcL _ _ _ _ _ _ _ _; first
      | refine VcL.pures tabOk rfl ?_
      | refine VcL.nil ?_
      | (show VcL _ _ _ _ (⟨_, .load _ _, _, _, _, _⟩ :: _) _ _ _; refine VcL.load1 tabOk rfl rfl rfl rfl rfl (by exact RdW.get (by assumption) rfl H) ?_)
      | (show VcL _ _ _ _ (⟨_, .indexAddr _ _ _, _, _, _, _⟩ :: _) _ _ _; refine VcL.indexAddr tabOk rfl rfl rfl rfl rfl rfl (by omega) (by omega) ?_))
      | (show VcD _ _ _ _ _ _ _ _ _; first
      | refine VcD.pures tabOk rfl ?_
      | refine VcD.done ?_
      | (show VcD _ _ _ _ _ (.pure _ _) _ _ _; refine VcD.indexAddr tabOk rfl rfl rfl rfl rfl rfl rfl (by omega) (by omega) ?_)
      | (show VcD _ _ _ _ _ (.take _ _) _ _ _; refine VcD.load1 tabOk rfl rfl rfl rfl rfl rfl (by intro w_ hw_; first | exact Holds.cell hw_ rfl | exact RdW.get (by assumption) rfl hw_) (by exact rfl) ?_)
      | (show VcD _ _ _ _ _ (.only _ _) _ _ _; (refine VcD.callF (f := F_tithingref24_Answer) rfl ok_tithingref24_Answer rfl rfl rfl rfl (Rets.mono (AnswerR_any H _ _) ?_); rintro _ w ⟨hr, H⟩; rw [hae] at hr; subst hr; refine ⟨(by exact H), ?_⟩)))
      | (show Vc _ _ _ _ _ _; first
      | refine Vc.seq ?_
      | refine Vc.region ?_
      | refine Vc.ret ?_
      | refine Vc.skip ?_
      | refine Vc.block ?_
      | refine Vc.drawnH (id := 6) H (.pure 0 (.pure 1 (.pure 2 (.pure 4 (.pure 6 (.pure 7 (.take 3 (.pure 8 (.pure 9 (.take 10 (.only 5 (.only 11 (.pure 12 (.pure 13 (.pure 14 (.pure 15 (.pure 16 .done))))))))))))))))) mixed (by kernel_rfl) (fun w H => ?_)
      | (refine Vc.cond rfl (fun h => ?_) (fun h => ?_) <;> first | (exfalso; simp only [decide_eq_true_eq, decide_eq_false_iff_not] at h; omega) | (with_reducible have hp := of_decide_eq_true h) | skip))
      | (show KSeq _ _ _ _ _ _ _; first
      | refine KSeq.normal ?_
      | refine KSeq.ret ?_)
      | (show KBlock _ _ _ _ _; first
      | refine KBlock.normal ?_
      | refine KBlock.ret ?_)
      | refine KLoop.ret ?_
      | (show KEnd _ _ _ _ _ _; refine KEnd.mk (Or.inr rfl) ⟨_, (ResL.tmp rfl ResL.nil), ?_⟩))
    · exact ⟨J, a, hJ, rfl, H⟩
    · exact KLoop.again (i + 1) ⟨got_succ rfl (by omega), trivial⟩ ⟨rfl, rfl, rfl, trivial⟩ ⟨H, hlt⟩ (by omega)
  ·
    repeat' (first
      | (show VcL _ _ _ _ _ _ _ _; first
      | refine VcL.pures tabOk rfl ?_
      | refine VcL.nil ?_)
      | (show Vc _ _ _ _ _ _; first
      | refine Vc.seq ?_
      | refine Vc.region ?_
      | refine Vc.ret ?_
      | refine Vc.exit ?_
      | (refine Vc.cond rfl (fun h => ?_) (fun h => ?_) <;> first | (exfalso; simp only [decide_eq_true_eq, decide_eq_false_iff_not] at h; omega) | (with_reducible have hp := of_decide_eq_false h)))
      | (show KSeq _ _ _ _ _ _ _; first
      | refine KSeq.normal ?_
      | refine KSeq.exit ?_)
      | (show KBlock _ _ _ _ _; refine KBlock.here ?_)
      | refine KLoop.exit ?_
      | (show KEnd _ _ _ _ _ _; refine KEnd.mk (Or.inr rfl) ⟨_, (ResL.tmp rfl ResL.nil), ?_⟩))
    exact ⟨J, 0, hJ, rfl, H⟩
/-- A play whose doors are the same. -/
structure Pl (I : Imm) (n : Nat) (D E : Dr) (ml : List (ByteArray × Value)) : Prop where
  d : DrOk I D
  e : DrOk I E
  same : SameD D E
  asked : D.asked ≤ n
  ints : ints ml
theorem Pl.mono {I J : Imm} {n k : Nat} {D E : Dr} {ml : List (ByteArray × Value)} (h : Pl I n D E ml) (hl : Imm.Le I J) (hn : n ≤ k) : Pl J k D E ml := ⟨h.d.mono hl, h.e.mono hl, h.same, Nat.le_trans h.asked hn, h.ints⟩
theorem AskQ_any {d : Nat} {D E : Dr} (hs : SameD D E) (H : Holds I w (rdA d E :: L)) (hE : DrOk I E) (hasked : D.asked < 2 ^ 40) (name : ByteArray) (hn : name.size ≤ 140737488355328) :
    Rets Try.prog F_tithingref24_Door_Ask #[ptr d, .string name] w fun u w' => u = .tuple #[.int .i64 (askS D name).2.1, .int .i64 (askS D name).2.2] ∧ Holds I w' (rdA d (askS E name).1 :: L) := by
  have := AskR_any H hE (hs.asked ▸ hasked) name hn
  rw [← (hs.ask name).2] at this
  exact this
theorem EnterQ_any {d : Nat} {D E : Dr} (hs : SameD D E) (H : Holds I w (rdA d E :: L)) (hE : DrOk I E) (name : ByteArray) (hn : name.size ≤ 140737488355328) (answer : Int) :
    Rets Try.prog F_tithingref24_Door_Enter #[ptr d, .string name, .int .i64 answer] w fun u w' => u = .tuple #[.int .i64 (idAt (enterS D name answer)), .int .i64 (errAt (enterS D name answer))] ∧ Holds I w' (rdA d (enterS E name answer).1 :: L) := by
  have := EnterR_any H hE name hn answer
  rw [← (hs.idAt name answer).1, ← (hs.idAt name answer).2] at this
  exact this
theorem EnterBothQ_any {d : Nat} {D E : Dr} (hs : SameD D E) (H : Holds I w (rdA d E :: L)) (hE : DrOk I E) (name : ByteArray) (hn : name.size ≤ 140737488355328) (answer other : Int) :
    Rets Try.prog F_tithingref24_Door_EnterBoth #[ptr d, .string name, .int .i64 answer, .int .i64 other] w fun u w' => u = bothV D name answer other ∧ Holds I w' (rdA d (bothS E name answer other) :: L) := by
  have := EnterBothR_any H hE name hn answer other
  rw [← (hs.both name answer other).1] at this
  exact this
theorem ChangeQ_any {d : Nat} {D E : Dr} (hs : SameD D E) (H : Holds I w (rdA d E :: L)) (hE : DrOk I E) (name : ByteArray) (hn : name.size ≤ 140737488355328) (answer sec : Int) :
    Rets Try.prog F_tithingref24_Door_Change #[ptr d, .string name, .int .i64 answer, .int .i64 sec] w fun u w' => u = .int .i64 (changeS D name answer sec).2 ∧ Holds I w' (rdA d (changeS E name answer sec).1 :: L) := by
  have := ChangeR_any H hE name hn answer sec
  rw [← (hs.change name answer sec).2] at this
  exact this
theorem TriesQ_any {d : Nat} {D E : Dr} (hs : SameD D E) (H : Holds I w (rdA d E :: L)) (hE : DrOk I E) (name : ByteArray) (hn : name.size ≤ 140737488355328) :
    Rets Try.prog F_tithingref24_Door_Tries #[ptr d, .string name] w fun u w' => u = .int .i64 (triesS D name) ∧ Holds I w' (rdA d E :: L) := by
  have := TriesR_any H hE name hn
  rw [← hs.tries name] at this
  exact this
theorem bothV_form (D : Dr) (name : ByteArray) (answer other : Int) : ∃ a b c : Int, bothV D name answer other = .tuple #[.int .i64 a, .int .i64 b, .int .i64 c] := by
  unfold bothV
  split
  · split <;> exact ⟨_, _, _, rfl⟩
  · exact ⟨_, _, _, rfl⟩
theorem bothS_ok {D : Dr} (hD : DrOk I D) (name : ByteArray) (answer other : Int) : DrOk I (bothS D name answer other) ∧ (bothS D name answer other).asked = D.asked := by
  unfold bothS
  split
  · exact enterS_ok hD name answer
  · exact ⟨hD, rfl⟩
theorem do_any {p d r m n : Nat} {D E : Dr} {ml : List (ByteArray × Value)} (H : Holds I w (plB p d r m :: doorA d D :: rdA r E :: lsM m ml :: L)) (hp : Pl I n D E ml) (hn : n < 2 ^ 40) (deed off oth : Int) (name : ByteArray) (hname : name.size ≤ 140737488355328) :
    Rets Try.prog F_tithinglaw24_play_do #[ptr p, .agg #[.int .i64 deed, .int .i64 off, .int .i64 oth, .string name]] w fun u w' => ∃ J D' E' ml', Imm.Le I J ∧ u = .bool true ∧ Pl J (n + 1) D' E' ml' ∧ Holds J w' (plB p d r m :: doorA d D' :: rdA r E' :: lsM m ml' :: L) := by
  obtain ⟨hD, hE, hs, hask, hi⟩ := hp
  have hask' : D.asked < 2 ^ 40 := Nat.lt_of_le_of_lt hask hn
  refine ok_tithinglaw24_play_do.rets rfl ?_
  repeat' (first
    | (refine VcD.eff rfl rfl rfl rfl (OpE.mapUpdate (κ := ByteArray) tabOk rfl rfl rfl (Holds.f3 H) rfl rfl) ?_; rintro _ w ⟨_, H⟩; have H := Holds.f3 (Holds.f3 (Holds.f3 H)); refine ⟨⟨Holds.rdWhole H, Holds.rdWhole (Holds.f4 H)⟩, ?_⟩)
    | (show VcL _ _ _ _ _ _ _ _; first
      | refine VcL.pures tabOk rfl ?_
      | refine VcL.nil ?_
      | (show VcL _ _ _ _ (⟨_, .load _ _, _, _, _, _⟩ :: _) _ _ _; refine VcL.load1 tabOk rfl rfl rfl rfl rfl (by exact Holds.cell (Holds.f4 H) rfl) ?_)
      | refine VcL.box H rfl rfl rfl rfl rfl (fun b w H => ?_)
      | (refine VcL.guard rfl rfl rfl rfl (fun h => ?_) (fun h => ?_) <;> first | (cases h; done) | (exfalso; simp only [decide_eq_true_eq, decide_eq_false_iff_not] at h; omega) | (with_reducible have hp := of_decide_eq_true h) | (with_reducible have hp := of_decide_eq_false h)))
    | (show VcD _ _ _ _ _ _ _ _ _; first
      | refine VcD.pures tabOk rfl ?_
      | refine VcD.done ?_
      | (show VcD _ _ _ _ _ (.take _ _) _ _ _; refine VcD.load1 tabOk rfl rfl rfl rfl rfl rfl (by intro w_ hw_; first | exact hw_ _ _ rfl | exact hw_.1 _ _ rfl | exact hw_.1 0 _ rfl | exact hw_.2 _ _ rfl) (by exact rfl) ?_)
      | (show VcD _ _ _ _ _ (.only _ _) _ _ _; first
      | (refine VcD.callF (f := F_tithinglaw24_play_right) rfl ok_tithinglaw24_play_right rfl rfl rfl rfl (Rets.mono (right_any (Holds.f4 (Holds.f4 (Holds.f4 (Holds.f4 H)))) hE hi name) ?_); rintro _ w ⟨J, x, hJ, rfl, H⟩; refine ⟨(by exact Holds.rdWhole (Holds.f4 H)), ?_⟩)
      | (refine VcD.callF (f := F_secret_Door_Ask) rfl ok_secret_Door_Ask rfl rfl rfl rfl (Rets.mono (AskP_any (Holds.f1 H) (hD.mono hJ) hask' name hname) ?_); rintro _ w ⟨rfl, H⟩; have H := Holds.f1 H; refine ⟨(by (refine ⟨?_, ?_⟩ <;> first | exact Holds.rdWhole H | exact Holds.rdWhole (Holds.f4 H))), ?_⟩)
      | (refine VcD.callF (f := F_tithingref24_Door_Ask) rfl ok_tithingref24_Door_Ask rfl rfl rfl rfl (Rets.mono (AskQ_any hs (Holds.f2 H) (hE.mono hJ) hask' name hname) ?_); rintro _ w ⟨rfl, H⟩; have H := Holds.f2 (Holds.f2 H); refine ⟨(by (refine ⟨?_, ?_⟩ <;> first | exact Holds.rdWhole H | exact Holds.rdWhole (Holds.f4 H))), ?_⟩)
      | (refine VcD.callF (f := F_secret_Door_Enter) rfl ok_secret_Door_Enter rfl rfl rfl rfl (Rets.mono (EnterP_any (Holds.f1 H) (hD.mono hJ) name hname _) ?_); rintro _ w ⟨rfl, H⟩; have H := Holds.f1 H; refine ⟨(by (refine ⟨?_, ?_⟩ <;> first | exact Holds.rdWhole H | exact Holds.rdWhole (Holds.f4 H))), ?_⟩)
      | (refine VcD.callF (f := F_tithingref24_Door_Enter) rfl ok_tithingref24_Door_Enter rfl rfl rfl rfl (Rets.mono (EnterQ_any hs (Holds.f2 H) (hE.mono hJ) name hname _) ?_); rintro _ w ⟨rfl, H⟩; have H := Holds.f2 (Holds.f2 H); refine ⟨(by (refine ⟨?_, ?_⟩ <;> first | exact Holds.rdWhole H | exact Holds.rdWhole (Holds.f4 H))), ?_⟩)
      | (refine VcD.callF (f := F_secret_Door_EnterBoth) rfl ok_secret_Door_EnterBoth rfl rfl rfl rfl (Rets.mono (EnterBothP_any (Holds.f1 H) (hD.mono hJ) name hname _ _) ?_); rintro _ w ⟨hr, H⟩; have H := Holds.f1 H; obtain ⟨v1, v2, v3, hv⟩ := bothV_form D name (IntKind.i64.wrap (x + off)) oth; rw [hv] at hr; subst hr; refine ⟨(by (refine ⟨?_, ?_⟩ <;> first | exact Holds.rdWhole H | exact Holds.rdWhole (Holds.f4 H))), ?_⟩)
      | (refine VcD.callF (f := F_tithingref24_Door_EnterBoth) rfl ok_tithingref24_Door_EnterBoth rfl rfl rfl rfl (Rets.mono (EnterBothQ_any hs (Holds.f2 H) (hE.mono hJ) name hname _ _) ?_); rintro _ w ⟨hr, H⟩; have H := Holds.f2 (Holds.f2 H); rw [hv] at hr; subst hr; refine ⟨(by (refine ⟨?_, ?_⟩ <;> first | exact Holds.rdWhole H | exact Holds.rdWhole (Holds.f4 H))), ?_⟩)
      | (refine VcD.callF (f := F_secret_Door_Change) rfl ok_secret_Door_Change rfl rfl rfl rfl (Rets.mono (ChangeP_any (Holds.f1 H) (hD.mono hJ) name hname _ _) ?_); rintro _ w ⟨rfl, H⟩; have H := Holds.f1 H; refine ⟨(by (refine ⟨?_, ?_⟩ <;> first | exact Holds.rdWhole H | exact Holds.rdWhole (Holds.f4 H))), ?_⟩)
      | (refine VcD.callF (f := F_tithingref24_Door_Change) rfl ok_tithingref24_Door_Change rfl rfl rfl rfl (Rets.mono (ChangeQ_any hs (Holds.f2 H) (hE.mono hJ) name hname _ _) ?_); rintro _ w ⟨rfl, H⟩; have H := Holds.f2 (Holds.f2 H); refine ⟨(by (refine ⟨?_, ?_⟩ <;> first | exact Holds.rdWhole H | exact Holds.rdWhole (Holds.f4 H))), ?_⟩)))
    | (show Vc _ _ _ _ _ _; first
      | refine Vc.seq ?_
      | refine Vc.region ?_
      | refine Vc.ret ?_
      | refine Vc.skip ?_
      | refine Vc.block ?_
      | (refine Vc.drawn (id := 1) (.pure 0 (.pure 1 (.pure 4 (.take 2 (.take 5 (.only 3 (.pure 6 (.pure 7 .done)))))))) (.one (fun w => Rd w b 0 [.int .i64 deed, .int .i64 off, .int .i64 oth, .string name])) mixed (by kernel_rfl) (by first | exact Holds.rdWhole (Holds.drew H _) | exact Holds.rdWhole (Holds.f4 (Holds.drew H _))) ?_; have H := H.drew (w.drawn + 1))
      | (refine Vc.drawn (id := 4) (.pure 0 (.pure 1 (.pure 2 (.pure 4 (.take 3 (.take 5 (.only 6 (.pure 7 (.pure 8 (.pure 9 (.pure 10 (.pure 11 .done)))))))))))) (.one (fun w => Rd w p 0 (plV d r m) ∧ Rd w b 0 [.int .i64 deed, .int .i64 off, .int .i64 oth, .string name])) mixed (by kernel_rfl) (by (refine ⟨?_, ?_⟩ <;> first | exact Holds.rdWhole (Holds.drew H _) | exact Holds.rdWhole (Holds.f4 (Holds.drew H _)))) ?_; have H := H.drew (w.drawn + 1))
      | (refine Vc.drawn (id := 5) (.pure 0 (.pure 1 (.pure 2 (.pure 4 (.take 3 (.take 5 (.only 6 (.pure 7 (.pure 8 (.pure 9 (.pure 10 (.pure 11 .done)))))))))))) (.one (fun w => Rd w p 0 (plV d r m) ∧ Rd w b 0 [.int .i64 deed, .int .i64 off, .int .i64 oth, .string name])) mixed (by kernel_rfl) (by (refine ⟨?_, ?_⟩ <;> first | exact Holds.rdWhole (Holds.drew H _) | exact Holds.rdWhole (Holds.f4 (Holds.drew H _)))) ?_; have H := H.drew (w.drawn + 1))
      | (refine Vc.drawn (id := 7) (.pure 0 (.pure 1 (.pure 2 (.pure 4 (.pure 6 (.take 3 (.take 5 (.only 7 .done)))))))) (.one (fun w => Rd w p 0 (plV d r m) ∧ Rd w b 0 [.int .i64 deed, .int .i64 off, .int .i64 oth, .string name])) mixed (by kernel_rfl) (by (refine ⟨?_, ?_⟩ <;> first | exact Holds.rdWhole (Holds.drew H _) | exact Holds.rdWhole (Holds.f4 (Holds.drew H _)))) ?_; have H := H.drew (w.drawn + 1))
      | (refine Vc.drawn (id := 10) (.pure 0 (.pure 1 (.pure 2 (.pure 4 (.pure 6 (.take 3 (.take 5 (.only 7 (.pure 8 (.pure 9 (.pure 10 (.pure 11 (.pure 12 .done))))))))))))) (.one (fun w => Rd w p 0 (plV d r m) ∧ Rd w b 0 [.int .i64 deed, .int .i64 off, .int .i64 oth, .string name])) mixed (by kernel_rfl) (by (refine ⟨?_, ?_⟩ <;> first | exact Holds.rdWhole (Holds.drew H _) | exact Holds.rdWhole (Holds.f4 (Holds.drew H _)))) ?_; have H := H.drew (w.drawn + 1))
      | (refine Vc.drawn (id := 11) (.pure 0 (.pure 1 (.pure 2 (.pure 4 (.pure 6 (.take 3 (.take 5 (.only 7 (.pure 8 (.pure 9 (.pure 10 (.pure 11 (.pure 12 .done))))))))))))) (.one (fun w => Rd w p 0 (plV d r m) ∧ Rd w b 0 [.int .i64 deed, .int .i64 off, .int .i64 oth, .string name])) mixed (by kernel_rfl) (by (refine ⟨?_, ?_⟩ <;> first | exact Holds.rdWhole (Holds.drew H _) | exact Holds.rdWhole (Holds.f4 (Holds.drew H _)))) ?_; have H := H.drew (w.drawn + 1))
      | (refine Vc.drawn (id := 14) (.pure 0 (.pure 1 (.pure 2 (.pure 4 (.pure 6 (.pure 7 (.take 3 (.take 5 (.take 8 (.only 9 (.pure 10 (.pure 11 (.pure 12 (.pure 13 (.pure 14 (.pure 15 (.pure 16 .done))))))))))))))))) (.one (fun w => Rd w p 0 (plV d r m) ∧ Rd w b 0 [.int .i64 deed, .int .i64 off, .int .i64 oth, .string name])) mixed (by kernel_rfl) (by (refine ⟨?_, ?_⟩ <;> first | exact Holds.rdWhole (Holds.drew H _) | exact Holds.rdWhole (Holds.f4 (Holds.drew H _)))) ?_; have H := H.drew (w.drawn + 1))
      | (refine Vc.drawn (id := 15) (.pure 0 (.pure 1 (.pure 2 (.pure 4 (.pure 6 (.pure 7 (.take 3 (.take 5 (.take 8 (.only 9 (.pure 10 (.pure 11 (.pure 12 (.pure 13 (.pure 14 (.pure 15 (.pure 16 .done))))))))))))))))) (.one (fun w => Rd w p 0 (plV d r m) ∧ Rd w b 0 [.int .i64 deed, .int .i64 off, .int .i64 oth, .string name])) mixed (by kernel_rfl) (by (refine ⟨?_, ?_⟩ <;> first | exact Holds.rdWhole (Holds.drew H _) | exact Holds.rdWhole (Holds.f4 (Holds.drew H _)))) ?_; have H := H.drew (w.drawn + 1))
      | (refine Vc.drawn (id := 17) (.pure 0 (.pure 1 (.pure 2 (.pure 4 (.pure 6 (.pure 7 (.pure 10 (.pure 11 (.pure 12 (.pure 14 (.pure 16 (.pure 17 (.take 3 (.take 5 (.take 8 (.take 13 (.take 15 (.take 18 (.only 9 (.only 19 (.pure 20 (.pure 21 .done)))))))))))))))))))))) (.one (fun w => Rd w p 0 (plV d r m) ∧ Rd w b 0 [.int .i64 deed, .int .i64 off, .int .i64 oth, .string name])) mixed (by kernel_rfl) (by (refine ⟨?_, ?_⟩ <;> first | exact Holds.rdWhole (Holds.drew H _) | exact Holds.rdWhole (Holds.f4 (Holds.drew H _)))) ?_; have H := H.drew (w.drawn + 1))
      | (refine Vc.cond rfl (fun h => ?_) (fun h => ?_) <;> first | (with_reducible have hp := of_decide_eq_true h) | (with_reducible have hp := of_decide_eq_false h)))
    | (show KSeq _ _ _ _ _ _ _; first
      | refine KSeq.normal ?_
      | refine KSeq.ret ?_)
    | (show KBlock _ _ _ _ _; first
      | refine KBlock.normal ?_
      | refine KBlock.ret ?_)
    | (show KEnd _ _ _ _ _ _; refine KEnd.mk (Or.inr rfl) ⟨_, (ResL.tmp rfl ResL.nil), ?_⟩))
  all_goals
    have hDJ := hD.mono hJ
    have hEJ := hE.mono hJ
    first
      | (exfalso; simp at h; done)
      | exact ⟨J, _, _, _, hJ, by simp [resVal], ⟨(askS_ok hDJ name).1, (askS_ok hEJ name).1, (hs.ask name).1, by have := (askS_ok hDJ name).2; omega, ints_set hi name _⟩, H.drop4⟩
      | exact ⟨J, _, _, _, hJ, by simp [resVal], ⟨(askS_ok hDJ name).1, (askS_ok hEJ name).1, (hs.ask name).1, by have := (askS_ok hDJ name).2; omega, hi⟩, H.drop4⟩
      | exact ⟨J, _, _, _, hJ, by simp [resVal], ⟨(enterS_ok hDJ name _).1, (enterS_ok hEJ name _).1, (hs.enter name _).1, by have := (enterS_ok hDJ name (IntKind.i64.wrap (x + off))).2; omega, hi⟩, H.drop4⟩
      | exact ⟨J, _, _, _, hJ, by simp [resVal], ⟨(bothS_ok hDJ name _ _).1, (bothS_ok hEJ name _ _).1, (hs.both name _ _).2, by have := (bothS_ok hDJ name (IntKind.i64.wrap (x + off)) oth).2; omega, hi⟩, H.drop4⟩
      | exact ⟨J, _, _, _, hJ, by simp [resVal], ⟨(changeS_ok hDJ name _ _).1, (changeS_ok hEJ name _ _).1, (hs.change name _ _).1, by have := (changeS_ok hDJ name (IntKind.i64.wrap (x + off)) oth).2; omega, hi⟩, H.drop4⟩
theorem same_any {p d r m n : Nat} {D E : Dr} {ml : List (ByteArray × Value)} (H : Holds I w (plB p d r m :: doorA d D :: rdA r E :: lsM m ml :: L)) (hp : Pl I n D E ml) :
    Rets Try.prog F_tithinglaw24_play_same #[ptr p] w fun u w' => ∃ J, Imm.Le I J ∧ u = .bool true ∧ Holds J w' (plB p d r m :: doorA d D :: rdA r E :: lsM m ml :: L) := by
  obtain ⟨hD, hE, hs, hask, hi⟩ := hp
  refine ok_tithinglaw24_play_same.rets rfl ?_
  repeat' (first
    | (show VcL _ _ _ _ _ _ _ _; first
      | refine VcL.pures tabOk rfl ?_
      | refine VcL.nil ?_
      | (show VcL _ _ _ _ (⟨_, .load _ _, _, _, _, _⟩ :: _) _ _ _; refine VcL.load1 tabOk rfl rfl rfl rfl rfl (by exact Holds.cell H rfl) ?_)
      | (show VcL _ _ _ _ (⟨_, .call ⟨.value (.func F_tithingref24_Door_Users), _, _⟩, _, _, _, _⟩ :: _) _ _ _; (refine VcL.callF ok_tithingref24_Door_Users rfl rfl rfl rfl (Rets.mono (UsersR_any (Holds.f2 H) hE) ?_); rintro _ w ⟨J, l, hJ, hu, hl, H⟩; have H := Holds.f2 (Holds.f2 H); obtain ⟨lA, lcap, rfl, lhc⟩ := (SlI.toR (L := L) hu.sl).form)))
    | (show Vc _ _ _ _ _ _; first
      | refine Vc.seq ?_
      | refine Vc.region ?_
      | refine Vc.block ?_)
    | (show KSeq _ _ _ _ _ _ _; refine KSeq.normal ?_))
  have hlen := users_len hl hE
  refine Vc.loopS [(0, _), (3, _)] (fun i : Nat => [(4, .int .i64 i)]) (fun i w => Holds J w (plB p d r m :: doorA d D :: rdA r E :: lsM m ml :: L) ∧ i ≤ l.length) (fun i _ => l.length - i) 0 ⟨rfl, trivial⟩ ⟨rfl, rfl, trivial⟩ ⟨H, Nat.zero_le _⟩ ?_
  rintro i w ⟨H, hil⟩
  by_cases hlt : i < l.length
  · obtain ⟨b1, o1, rfl, hr1⟩ := hu.sl.at (by omega)
    have hr1 := hr1.elem usC_len (atD_get hlt)
    have huo := hu.ok _ (atD_mem hlt)
    obtain ⟨u, hue⟩ : ∃ u, atD l i = u := ⟨_, rfl⟩
    rw [hue] at hr1 huo
    obtain ⟨id, nm, sec, A1, c1, gs⟩ := u
    have hnm : nm.size ≤ 140737488355328 := huo.name
    have hr1 : RdI J b1 (o1 + i * 4) [.int .i64 id, .string nm, .int .i64 sec, .slice A1 gs.length c1] := hr1
    repeat' (first
      | (show VcL _ _ _ _ _ _ _ _; first
      | refine VcL.pures tabOk rfl ?_
      | refine VcL.nil ?_)
      | (show VcD _ _ _ _ _ _ _ _ _; first
      | refine VcD.pures tabOk rfl ?_
      | refine VcD.done ?_
      | (show VcD _ _ _ _ _ (.pure _ _) _ _ _; refine VcD.indexAddr tabOk rfl rfl rfl rfl rfl rfl rfl (by omega) (by omega) ?_)
      | (show VcD _ _ _ _ _ (.take _ _) _ _ _; refine VcD.load1 tabOk rfl rfl rfl rfl rfl rfl (by intro w_ hw_; first | exact hw_.1 _ _ rfl | exact hw_.1 0 _ rfl | exact hw_.2 _ _ rfl) (by exact rfl) ?_)
      | (show VcD _ _ _ _ _ (.only _ _) _ _ _; first
      | (refine VcD.callF (f := F_secret_Door_Tries) rfl ok_secret_Door_Tries rfl rfl rfl rfl (Rets.mono (TriesP_any (Holds.f1 H) (hD.mono hJ) nm hnm) ?_); rintro _ w ⟨rfl, H⟩; have H := Holds.f1 H; refine ⟨(by (refine ⟨?_, ?_⟩ <;> first | exact Holds.rdWhole H | exact RdI.rd (by assumption) H)), ?_⟩)
      | (refine VcD.callF (f := F_tithingref24_Door_Tries) rfl ok_tithingref24_Door_Tries rfl rfl rfl rfl (Rets.mono (TriesQ_any hs (Holds.f2 H) (hE.mono hJ) nm hnm) ?_); rintro _ w ⟨rfl, H⟩; have H := Holds.f2 (Holds.f2 H); refine ⟨(by (refine ⟨?_, ?_⟩ <;> first | exact Holds.rdWhole H | exact RdI.rd (by assumption) H)), ?_⟩)))
      | (show Vc _ _ _ _ _ _; first
      | refine Vc.seq ?_
      | refine Vc.region ?_
      | refine Vc.ret ?_
      | refine Vc.skip ?_
      | refine Vc.block ?_
      | (refine Vc.drawn (id := 5) (.pure 0 (.pure 1 (.pure 2 (.pure 4 (.pure 5 (.pure 10 (.pure 11 (.pure 12 (.pure 14 (.pure 15 (.take 3 (.pure 6 (.pure 7 (.take 8 (.take 13 (.pure 16 (.pure 17 (.take 18 (.only 9 (.only 19 (.pure 20 .done))))))))))))))))))))) (.one (fun w => Rd w p 0 (plV d r m) ∧ Rd w b1 (o1 + i * 4) [.int .i64 id, .string nm, .int .i64 sec, .slice A1 gs.length c1])) mixed (by kernel_rfl) (by (refine ⟨?_, ?_⟩ <;> first | exact Holds.rdWhole (Holds.drew H _) | exact RdI.rd (by assumption) (Holds.drew H _))) ?_; have H := H.drew (w.drawn + 1))
      | (refine Vc.cond rfl (fun h => ?_) (fun h => ?_) <;> first | (exfalso; simp only [decide_eq_true_eq, decide_eq_false_iff_not] at h; omega) | (with_reducible have hp := of_decide_eq_true h) | (with_reducible have hp := ndec_t h) | (with_reducible have hp := ndec_f h)))
      | (show KSeq _ _ _ _ _ _ _; first
      | refine KSeq.normal ?_
      | refine KSeq.ret ?_)
      | (show KBlock _ _ _ _ _; first
      | refine KBlock.normal ?_
      | refine KBlock.ret ?_)
      | refine KLoop.ret ?_
      | (show KEnd _ _ _ _ _ _; refine KEnd.mk (Or.inr rfl) ⟨_, (ResL.tmp rfl ResL.nil), ?_⟩))
    · exfalso; exact hp rfl
    exact KLoop.again (i + 1) ⟨got_succ rfl (by omega), trivial⟩ ⟨rfl, rfl, trivial⟩ ⟨H, hlt⟩ (by omega)
  ·
    repeat' (first
      | (show VcL _ _ _ _ _ _ _ _; first
      | refine VcL.pures tabOk rfl ?_
      | refine VcL.nil ?_)
      | (show VcD _ _ _ _ _ _ _ _ _; first
      | refine VcD.pures tabOk rfl ?_
      | refine VcD.done ?_
      | (show VcD _ _ _ _ _ (.pure _ _) _ _ _; (refine VcD.guardP rfl rfl rfl rfl rfl (fun h => ?_) (fun h => ?_) <;> first | (cases h; done) | skip))
      | (show VcD _ _ _ _ _ (.take _ _) _ _ _; refine VcD.load1 tabOk rfl rfl rfl rfl rfl rfl (by intro w_ hw_; first | exact hw_ _ _ rfl | exact hw_ 0 _ rfl) (by exact rfl) ?_)
      | (show VcD _ _ _ _ _ (.only _ _) _ _ _; first
      | (refine VcD.callF (f := F_secret_Door_Users) rfl ok_secret_Door_Users rfl rfl rfl rfl (Rets.mono (UsersP_any (Holds.f1 H) (hD.mono hJ)) ?_); rintro _ w ⟨J2, l2, hJ2, hu2, hl2, H⟩; have H := Holds.f1 H; refine ⟨(by exact Holds.rdWhole H), ?_⟩)
      | (refine VcD.callF (f := F_tithingref24_SameUsers) rfl ok_tithingref24_SameUsers rfl rfl rfl rfl (Rets.mono (SameUsers_any H hu2 (hu.mono hJ2) (hl2.trans (hs.users.trans hl.symm)) (users_len hl2 hD)) ?_); rintro _ w ⟨rfl, H⟩; refine ⟨(by exact Holds.rdWhole H), ?_⟩)
      | (refine VcD.callF (f := F_secret_Door_Tries) rfl ok_secret_Door_Tries rfl rfl rfl rfl (Rets.mono (TriesP_any (Holds.f1 H) (hD.mono (hJ.trans hJ2)) _ (by decide)) ?_); rintro _ w ⟨rfl, H⟩; have H := Holds.f1 H; refine ⟨(by exact Holds.rdWhole H), ?_⟩)
      | (refine VcD.callF (f := F_tithingref24_Door_Tries) rfl ok_tithingref24_Door_Tries rfl rfl rfl rfl (Rets.mono (TriesQ_any hs (Holds.f2 H) (hE.mono (hJ.trans hJ2)) _ (by decide)) ?_); rintro _ w ⟨rfl, H⟩; have H := Holds.f2 (Holds.f2 H); refine ⟨(by exact Holds.rdWhole H), ?_⟩)))
      | (show Vc _ _ _ _ _ _; first
      | refine Vc.seq ?_
      | refine Vc.region ?_
      | refine Vc.ret ?_
      | refine Vc.exit ?_
      | (refine Vc.drawn (id := 7) (.pure 0 (.pure 1 (.pure 2 (.pure 5 (.take 3 (.only 4 (.only 6 (.pure 7 (.pure 8 (.pure 9 (.pure 10 (.pure 13 (.pure 14 (.pure 15 (.take 11 (.take 16 (.only 12 (.only 17 (.pure 18 (.pure 19 (.pure 20 .done))))))))))))))))))))) (.one (fun w => Rd w p 0 (plV d r m))) mixed (by kernel_rfl) (by exact Holds.rdWhole (Holds.drew H _)) ?_; have H := H.drew (w.drawn + 1))
      | (refine Vc.cond rfl (fun h => ?_) (fun h => ?_) <;> first | (exfalso; simp only [decide_eq_true_eq, decide_eq_false_iff_not] at h; omega) | (with_reducible have hp := of_decide_eq_false h)))
      | (show KSeq _ _ _ _ _ _ _; first
      | refine KSeq.normal ?_
      | refine KSeq.exit ?_)
      | (show KBlock _ _ _ _ _; refine KBlock.here ?_)
      | refine KLoop.exit ?_
      | (show KEnd _ _ _ _ _ _; refine KEnd.mk (Or.inr rfl) ⟨_, (ResL.tmp rfl ResL.nil), ?_⟩))
    exact ⟨J2, hJ.trans hJ2, by simp [resVal], H⟩
end Go.Proofs.Ytccbfajjboccoaa.V
