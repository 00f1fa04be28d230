/- The pair: it is made. -/
import Derived.Test.YtpfgcchammlpgaaVAI
namespace Go.Proofs.Ytpfgcchammlpgaa.V
open Go Go.Proofs.YtpfgcchammlpgaaV
set_option linter.unusedVariables false
set_option linter.unusedSimpArgs false
set_option maxHeartbeats 8000000
set_option maxRecDepth 4000
attribute [local irreducible] IntKind.wrap refA endA
variable {I : Imm} {w : World} {L : List Asn}
section
variable {P : Program} {T : Tab} {n : Fi} {ops : Array Oper} {K : Kont} {G : Gds} {env : Env} {rest : List Oper} {dst : Nat} {ty : Nat} {pos : String} {after : Array Edge} {gd : Option (Nat × Bool)} {t : Nat}
/-- An array is built of parts. -/
theorem VcL.buildArr {ti : TI} {len e sz : Nat} {ps : Array (Nat × Operand)} {cs : List Value} (hT : TabOk P T) (hi : T.get t = some ti) (ht : arrT T t = some (len, e, sz)) (hc : layS sz env ti.zero.cells.toList ps.toList = some cs)
    (hg : gres ops G ⟨some dst, .build t ps, ty, pos, after, gd⟩ = some true) (hn : inN n (some dst) = true) (ho : outG G (some dst) = true)
    (kk : VcL P n ops K rest G ((dst, .agg cs.toArray) :: env) w) : VcL P n ops K (⟨some dst, .build t ps, ty, pos, after, gd⟩ :: rest) G env w :=
  VcL.val hg hn ho (w' := w) ⟨fun a ha => .inl (by
    obtain ⟨h2, j, h3, hj⟩ := arrT_sound hT ht
    obtain ⟨h5, h6⟩ := layS_sound ha hc
    show (do pure (Next.value (← Instr.build t (ps.map fun (i, x) => (i, a.eval x)))) : Sem Next).run P w = _
    refine run_v (w' := w) ?_
    unfold Instr.build
    rw [run_bind ((hT.out t ti hi).run_zero w), run_bind (run_underlying h2 w)]
    dsimp only
    rw [run_bind (h3.run_size w)]
    have e2 : (ps.map fun (i, x) => (i, a.eval x)).toList = ps.toList.map fun p => (p.1, a.eval p.2) := by rw [Array.toList_map]
    have e3 : ti.zero.cells.toList.toArray = ti.zero.cells := by simp
    rw [e3] at h5
    simp only [e2, hj, h5]
    rfl)⟩ kk
end
def okS (n f : Int) : Prop := 1 ≤ n ∧ n ≤ 65535 ∧ 0 ≤ f ∧ f < 4294967296
instance (n f : Int) : Decidable (okS n f) := inferInstanceAs (Decidable (_ ∧ _ ∧ _ ∧ _))
def newH (n f : Nat) : Hf := ⟨newS n f, [], [], [], []⟩
abbrev nilP : Value := .pointer none
abbrev nilS : Value := .slice none 0 0
abbrev pz (e0 e1 r0 r1 : Value) : List Value := [e0, e1, r0, r1, nilS, nilS, nilS, nilS, nilS, nilS, nilS, nilS, .bool false]
theorem NewPair_bad0 (H : Holds I w L) {n0 f0 n1 f1 : Int} (hb : ¬ okS n0 f0) : Rets Try.prog F_tithinglaw12_NewPair #[.agg #[.int .i64 n0, .int .i64 f0], .agg #[.int .i64 n1, .int .i64 f1]] w fun u w' => u = nilP ∧ Holds I w' L := by
  refine ok_tithinglaw12_NewPair.rets rfl ?_
  repeat' (first
    | (refine VcL.buildArr tabOk rfl rfl rfl rfl rfl rfl ?_)
    | (show VcL _ _ _ _ (⟨some 13, .box _ _, _, _, _, _⟩ :: _) _ _ _; refine VcL.box H rfl rfl rfl rfl rfl (fun p w H => ?_))
    | (show VcL _ _ _ _ (⟨some 6, .alloc _, _, _, _, _⟩ :: _) _ _ _; refine VcL.alloc tabOk H rfl rfl rfl rfl (fun sa w H => ?_))
    | (show VcL _ _ _ _ _ _ _ _; first
      | refine VcL.pures tabOk rfl ?_
      | refine VcL.nil ?_
      | (show VcL _ _ _ _ (⟨_, .load _ _, _, _, _, _⟩ :: _) _ _ _; refine VcL.loadN tabOk rfl rfl rfl rfl rfl rfl (by first | exact (Holds.f1 H) | exact (Holds.f2 H)) (by exact rfl) ?_)
      | refine VcL.box H rfl rfl rfl rfl rfl (fun b w H => ?_)
      | (show VcL _ _ _ _ (⟨_, .store _ _ _, _, _, _, _⟩ :: _) _ _ _; refine VcL.store tabOk rfl (by exact H) rfl rfl (by exact rfl) (by exact rfl) (by exact rfl) (by exact rfl) (fun w H => ?_)))
    | (show Vc _ _ _ _ _ _; first
      | refine Vc.seq ?_
      | refine Vc.region ?_
      | refine Vc.block ?_)
    | (show KSeq _ _ _ _ _ _ _; refine KSeq.normal ?_))
  have H := Holds.drop2 (Holds.drop2 H)
  refine Vc.loopS [(5, _), (6, _)] (fun u : Nat => [(7, .int .i64 0)]) (fun u w => Holds I w (blk sa 75 [.int .i64 n0, .int .i64 f0, .int .i64 n1, .int .i64 f1] :: blk p 47 (pz nilP nilP nilP nilP) :: L)) (fun u _ => 0) 0 ⟨rfl, trivial⟩ ⟨rfl, rfl, trivial⟩ H ?_
  clear H
  rintro u w H
  repeat' (first
    | (show VcL _ _ _ _ _ _ _ _; first
      | refine VcL.pures tabOk rfl ?_
      | refine VcL.nil ?_
      | (refine VcL.guard rfl rfl rfl rfl (fun h => ?_) (fun h => ?_) <;> first | (cases h; done) | (with_reducible have hp := ndec_t h)))
    | (show VcD _ _ _ _ _ _ _ _ _; first
      | refine VcD.pures tabOk rfl ?_
      | refine VcD.done ?_
      | (show VcD _ _ _ _ _ (.pure _ _) _ _ _; refine VcD.indexArr0 tabOk rfl rfl rfl rfl rfl rfl rfl (by omega) (by omega) ?_)
      | (show VcD _ _ _ _ _ (.take _ _) _ _ _; refine VcD.load1 tabOk rfl rfl rfl rfl rfl rfl (by intro w_ hw_; exact Holds.cell hw_ rfl) (by exact rfl) ?_)
      | (show VcD _ _ _ _ _ (.only _ _) _ _ _; first
      | (refine VcD.callF (f := F_stream_New) rfl ok_stream_New rfl rfl rfl rfl (Rets.mono (New_bad (n := n0) (f := f0) H hb) ?_); rintro _ w ⟨rfl, H⟩; refine ⟨(by exact H), ?_⟩)
      | (refine VcD.callF (f := F_tithingref12_New) rfl ok_tithingref12_New rfl rfl rfl rfl (Rets.mono (NewR_bad (n := n0) (f := f0) H hb) ?_); rintro _ w ⟨rfl, H⟩; refine ⟨(by exact H), ?_⟩)))
    | (show Vc _ _ _ _ _ _; first
      | refine Vc.seq ?_
      | refine Vc.region ?_
      | refine Vc.condT rfl ?_
      | refine Vc.ret ?_
      | refine Vc.skip ?_
      | refine Vc.block ?_
      | refine Vc.drawnH (id := 6) H (.pure 0 (.pure 4 (.pure 1 (.pure 2 (.take 3 (.pure 5 (.pure 6 (.take 7 (.only 8 (.pure 9 (.pure 10 (.pure 11 (.pure 12 (.pure 13 .done)))))))))))))) mixed (by kernel_rfl) (fun w H => ?_)
      | refine Vc.drawnH (id := 7) H (.pure 0 (.pure 4 (.pure 1 (.pure 2 (.take 3 (.pure 5 (.pure 6 (.take 7 (.only 8 (.pure 9 (.pure 10 (.pure 11 (.pure 12 (.pure 13 .done)))))))))))))) mixed (by kernel_rfl) (fun w H => ?_))
    | (show KSeq _ _ _ _ _ _ _; first
      | refine KSeq.normal ?_
      | refine KSeq.ret ?_)
    | (show KBlock _ _ _ _ _ _; refine KBlock.ret ?_)
    | refine KLoop.ret ?_
    | (show KEnd _ _ _ _ _ _ _; refine KEnd.fin (Or.inr rfl) ⟨_, (ResL.tmp rfl ResL.nil), ?_⟩))
  all_goals exact ⟨rfl, Holds.drop (Holds.drop H)⟩
theorem NewPair_bad1 (H : Holds I w L) {n0 f0 : Nat} {n1 f1 : Int} (h0 : okS n0 f0) (hb : ¬ okS n1 f1) : Rets Try.prog F_tithinglaw12_NewPair #[.agg #[.int .i64 (n0 : Nat), .int .i64 (f0 : Nat)], .agg #[.int .i64 n1, .int .i64 f1]] w fun u w' => u = nilP ∧ Holds I w' L := by
  unfold okS at h0
  refine ok_tithinglaw12_NewPair.rets rfl ?_
  repeat' (first
    | (refine VcL.buildArr tabOk rfl rfl rfl rfl rfl rfl ?_)
    | (show VcL _ _ _ _ (⟨some 13, .box _ _, _, _, _, _⟩ :: _) _ _ _; refine VcL.box H rfl rfl rfl rfl rfl (fun p w H => ?_))
    | (show VcL _ _ _ _ (⟨some 6, .alloc _, _, _, _, _⟩ :: _) _ _ _; refine VcL.alloc tabOk H rfl rfl rfl rfl (fun sa w H => ?_))
    | (show VcL _ _ _ _ _ _ _ _; first
      | refine VcL.pures tabOk rfl ?_
      | refine VcL.nil ?_
      | (show VcL _ _ _ _ (⟨_, .load _ _, _, _, _, _⟩ :: _) _ _ _; refine VcL.loadN tabOk rfl rfl rfl rfl rfl rfl (by first | exact (Holds.f1 H) | exact (Holds.f2 H)) (by exact rfl) ?_)
      | refine VcL.box H rfl rfl rfl rfl rfl (fun b w H => ?_)
      | (show VcL _ _ _ _ (⟨_, .store _ _ _, _, _, _, _⟩ :: _) _ _ _; refine VcL.store tabOk rfl (by exact H) rfl rfl (by exact rfl) (by exact rfl) (by exact rfl) (by exact rfl) (fun w H => ?_)))
    | (show Vc _ _ _ _ _ _; first
      | refine Vc.seq ?_
      | refine Vc.region ?_
      | refine Vc.block ?_)
    | (show KSeq _ _ _ _ _ _ _; refine KSeq.normal ?_))
  have H := Holds.drop2 (Holds.drop2 H)
  refine Vc.loopS [(5, _), (6, _)] (fun u : Nat × Nat × Nat × Nat × Nat => [(7, .int .i64 (u.1 : Nat))]) (fun u w => (u.1 = 0 ∧ Holds I w (blk sa 75 [.int .i64 (n0 : Nat), .int .i64 (f0 : Nat), .int .i64 n1, .int .i64 f1] :: blk p 47 (pz nilP nilP nilP nilP) :: L)) ∨ (u.1 = 1 ∧ Holds I w (blk sa 75 [.int .i64 (n0 : Nat), .int .i64 (f0 : Nat), .int .i64 n1, .int .i64 f1] :: blk p 47 (pz (ptr u.2.1) nilP (ptr u.2.2.1) nilP) :: endA I u.2.1 (newS n0 f0) :: refA I u.2.2.1 (newS n0 f0) :: L)) ∨ False) (fun u _ => 2 - u.1) (0, 0, 0, 0, 0) ⟨rfl, trivial⟩ ⟨rfl, rfl, trivial⟩ (.inl ⟨rfl, H⟩) ?_
  clear H
  rintro ⟨k, e0, r0, e1, r1⟩ w hinv
  dsimp only at hinv ⊢
  rcases hinv with ⟨rfl, H⟩ | ⟨rfl, H⟩ | hf
  ·
    repeat' (first
      | (refine VcD.load1 tabOk rfl rfl rfl rfl rfl rfl (by intro w_ hw_; exact Holds.cell hw_ rfl) (by exact rfl) ?_)
      | (show VcL _ _ _ _ _ _ _ _; first
      | refine VcL.pures tabOk rfl ?_
      | refine VcL.nil ?_
      | (refine VcL.guard rfl rfl rfl rfl (fun h => ?_) (fun h => ?_) <;> first | (cases h; done) | (with_reducible have hp := ndec_f h)))
      | (show VcD _ _ _ _ _ _ _ _ _; first
      | refine VcD.pures tabOk rfl ?_
      | refine VcD.done ?_
      | (show VcD _ _ _ _ _ (.pure _ _) _ _ _; first
      | refine VcD.indexArr0 tabOk rfl rfl rfl rfl rfl rfl rfl (by omega) (by omega) ?_
      | refine VcD.indexArr tabOk rfl rfl rfl rfl rfl rfl rfl (by omega) (by omega) ?_)
      | (show VcD _ _ _ _ _ (.take _ _) _ _ _; refine VcD.load1 tabOk rfl rfl rfl rfl rfl rfl (by intro w_ hw_; exact Holds.cell (Holds.f1 hw_) rfl) (by exact rfl) ?_)
      | (show VcD _ _ _ _ _ (.only _ _) _ _ _; first
      | (refine VcD.callF (f := F_stream_New) rfl ok_stream_New rfl rfl rfl rfl (Rets.mono (New_any (n := n0) (f := f0) H (by omega) (by omega) (by unfold M; omega)) ?_); rintro _ w ⟨e, rfl, H⟩; refine ⟨(by trivial), ?_⟩)
      | (refine VcD.callF (f := F_tithingref12_New) rfl ok_tithingref12_New rfl rfl rfl rfl (Rets.mono (NewR_any (n := n0) (f := f0) H (by omega) (by omega) (by unfold M; omega)) ?_); rintro _ w ⟨r, rfl, H⟩; refine ⟨(by trivial), ?_⟩)
      | (refine VcD.eff rfl rfl rfl rfl (OpE.store tabOk (by first | exact H | exact (Holds.f3 H)) rfl rfl rfl (by exact rfl) (by exact rfl) (by exact rfl) (by exact rfl)) ?_; rintro _ w ⟨_, H⟩; refine ⟨(by trivial), ?_⟩)))
      | (show Vc _ _ _ _ _ _; first
      | refine Vc.seq ?_
      | refine Vc.region ?_
      | refine Vc.condT rfl ?_
      | refine Vc.condF rfl ?_
      | refine Vc.skip ?_
      | refine Vc.block ?_
      | (refine Vc.drawn (id := 6) (.pure 0 (.pure 4 (.pure 1 (.pure 2 (.take 3 (.pure 5 (.pure 6 (.take 7 (.only 8 (.pure 9 (.pure 10 (.pure 11 (.pure 12 (.pure 13 .done)))))))))))))) (.till (fun w => Holds I w _) 8 (.one (fun _ => True))) mixed (by kernel_rfl) (by exact (Holds.drew H _)) ?_; have H := H.drew (w.drawn + 1))
      | (refine Vc.drawn (id := 7) (.pure 0 (.pure 4 (.pure 1 (.pure 2 (.take 3 (.pure 5 (.pure 6 (.take 7 (.only 8 (.pure 9 (.pure 10 (.pure 11 (.pure 12 (.pure 13 .done)))))))))))))) (.till (fun w => Holds I w _) 8 (.one (fun _ => True))) mixed (by kernel_rfl) (by exact (Holds.drew H _)) ?_; have H := H.drew (w.drawn + 1))
      | (refine Vc.drawn (id := 10) (.pure 0 (.pure 1 (.pure 2 (.pure 3 (.pure 4 (.pure 5 (.pure 6 (.pure 7 (.pure 10 (.pure 11 (.pure 8 (.only 9 (.pure 12 (.only 13 .done)))))))))))))) (.one (fun _ => True)) mixed (by kernel_rfl) (by trivial) ?_; have H := H.drew (w.drawn + 1)))
      | (show KSeq _ _ _ _ _ _ _; refine KSeq.normal ?_)
      | (show KBlock _ _ _ _ _ _; refine KBlock.normal ?_))
    exact KLoop.again (1, e, r, 0, 0) ⟨got_succ (k := 0) rfl (by omega), trivial⟩ ⟨rfl, rfl, trivial⟩ (.inr (.inl ⟨rfl, Holds.re [3, 0, 1, 0] H rfl⟩)) (by dsimp only; omega)
  ·
    repeat' (first
      | (refine VcD.load1 tabOk rfl rfl rfl rfl rfl rfl (by intro w_ hw_; exact Holds.cell hw_ rfl) (by exact rfl) ?_)
      | (show VcL _ _ _ _ _ _ _ _; first
      | refine VcL.pures tabOk rfl ?_
      | refine VcL.nil ?_
      | (refine VcL.guard rfl rfl rfl rfl (fun h => ?_) (fun h => ?_) <;> first | (cases h; done) | (with_reducible have hp := ndec_t h)))
      | (show VcD _ _ _ _ _ _ _ _ _; first
      | refine VcD.pures tabOk rfl ?_
      | refine VcD.done ?_
      | (show VcD _ _ _ _ _ (.pure _ _) _ _ _; refine VcD.indexArr0 tabOk rfl rfl rfl rfl rfl rfl rfl (by omega) (by omega) ?_)
      | (show VcD _ _ _ _ _ (.only _ _) _ _ _; first
      | (refine VcD.callF (f := F_stream_New) rfl ok_stream_New rfl rfl rfl rfl (Rets.mono (New_bad (n := n1) (f := f1) H hb) ?_); rintro _ w ⟨rfl, H⟩; refine ⟨(by trivial), ?_⟩)
      | (refine VcD.callF (f := F_tithingref12_New) rfl ok_tithingref12_New rfl rfl rfl rfl (Rets.mono (NewR_bad (n := n1) (f := f1) H hb) ?_); rintro _ w ⟨rfl, H⟩; refine ⟨(by trivial), ?_⟩)))
      | (show Vc _ _ _ _ _ _; first
      | refine Vc.seq ?_
      | refine Vc.region ?_
      | refine Vc.condT rfl ?_
      | refine Vc.ret ?_
      | refine Vc.skip ?_
      | refine Vc.block ?_
      | (refine Vc.drawn (id := 6) (.pure 0 (.pure 4 (.pure 1 (.pure 2 (.take 3 (.pure 5 (.pure 6 (.take 7 (.only 8 (.pure 9 (.pure 10 (.pure 11 (.pure 12 (.pure 13 .done)))))))))))))) (.till (fun w => Holds I w _) 8 (.one (fun _ => True))) mixed (by kernel_rfl) (by exact (Holds.drew H _)) ?_; have H := H.drew (w.drawn + 1))
      | (refine Vc.drawn (id := 7) (.pure 0 (.pure 4 (.pure 1 (.pure 2 (.take 3 (.pure 5 (.pure 6 (.take 7 (.only 8 (.pure 9 (.pure 10 (.pure 11 (.pure 12 (.pure 13 .done)))))))))))))) (.till (fun w => Holds I w _) 8 (.one (fun _ => True))) mixed (by kernel_rfl) (by exact (Holds.drew H _)) ?_; have H := H.drew (w.drawn + 1)))
      | (show KSeq _ _ _ _ _ _ _; first
      | refine KSeq.normal ?_
      | refine KSeq.ret ?_)
      | (show KBlock _ _ _ _ _ _; refine KBlock.ret ?_)
      | refine KLoop.ret ?_
      | (show KEnd _ _ _ _ _ _ _; refine KEnd.fin (Or.inr rfl) ⟨_, (ResL.tmp rfl ResL.nil), ?_⟩))
    all_goals exact ⟨rfl, Holds.drop (Holds.drop (Holds.drop (Holds.drop H)))⟩
  · exact hf.elim
theorem NewPair_any (H : Holds I w L) {n0 f0 n1 f1 : Nat} (h0 : okS n0 f0) (h1 : okS n1 f1) : Rets Try.prog F_tithinglaw12_NewPair #[.agg #[.int .i64 (n0 : Nat), .int .i64 (f0 : Nat)], .agg #[.int .i64 (n1 : Nat), .int .i64 (f1 : Nat)]] w fun u w' => ∃ (p : Nat) (a b : Sd), u = ptr p ∧ Holds I w' (blk p 47 (pcl 0 a b) :: hfQ I a (newH n0 f0) [] (hfQ I b (newH n1 f1) [] L)) := by
  unfold okS at h0 h1
  refine ok_tithinglaw12_NewPair.rets rfl ?_
  repeat' (first
    | (refine VcL.buildArr tabOk rfl rfl rfl rfl rfl rfl ?_)
    | (show VcL _ _ _ _ (⟨some 13, .box _ _, _, _, _, _⟩ :: _) _ _ _; refine VcL.box H rfl rfl rfl rfl rfl (fun p w H => ?_))
    | (show VcL _ _ _ _ (⟨some 6, .alloc _, _, _, _, _⟩ :: _) _ _ _; refine VcL.alloc tabOk H rfl rfl rfl rfl (fun sa w H => ?_))
    | (show VcL _ _ _ _ _ _ _ _; first
      | refine VcL.pures tabOk rfl ?_
      | refine VcL.nil ?_
      | (show VcL _ _ _ _ (⟨_, .load _ _, _, _, _, _⟩ :: _) _ _ _; refine VcL.loadN tabOk rfl rfl rfl rfl rfl rfl (by first | exact (Holds.f1 H) | exact (Holds.f2 H)) (by exact rfl) ?_)
      | refine VcL.box H rfl rfl rfl rfl rfl (fun b w H => ?_)
      | (show VcL _ _ _ _ (⟨_, .store _ _ _, _, _, _, _⟩ :: _) _ _ _; refine VcL.store tabOk rfl (by exact H) rfl rfl (by exact rfl) (by exact rfl) (by exact rfl) (by exact rfl) (fun w H => ?_)))
    | (show Vc _ _ _ _ _ _; first
      | refine Vc.seq ?_
      | refine Vc.region ?_
      | refine Vc.block ?_)
    | (show KSeq _ _ _ _ _ _ _; refine KSeq.normal ?_))
  have H := Holds.drop2 (Holds.drop2 H)
  refine Vc.loopS [(5, _), (6, _)] (fun u : Nat × Nat × Nat × Nat × Nat => [(7, .int .i64 (u.1 : Nat))]) (fun u w => (u.1 = 0 ∧ Holds I w (blk sa 75 [.int .i64 (n0 : Nat), .int .i64 (f0 : Nat), .int .i64 (n1 : Nat), .int .i64 (f1 : Nat)] :: blk p 47 (pz nilP nilP nilP nilP) :: L)) ∨ (u.1 = 1 ∧ Holds I w (blk sa 75 [.int .i64 (n0 : Nat), .int .i64 (f0 : Nat), .int .i64 (n1 : Nat), .int .i64 (f1 : Nat)] :: blk p 47 (pz (ptr u.2.1) nilP (ptr u.2.2.1) nilP) :: endA I u.2.1 (newS n0 f0) :: refA I u.2.2.1 (newS n0 f0) :: L)) ∨ (u.1 = 2 ∧ Holds I w (blk sa 75 [.int .i64 (n0 : Nat), .int .i64 (f0 : Nat), .int .i64 (n1 : Nat), .int .i64 (f1 : Nat)] :: blk p 47 (pz (ptr u.2.1) (ptr u.2.2.2.1) (ptr u.2.2.1) (ptr u.2.2.2.2)) :: endA I u.2.2.2.1 (newS n1 f1) :: refA I u.2.2.2.2 (newS n1 f1) :: endA I u.2.1 (newS n0 f0) :: refA I u.2.2.1 (newS n0 f0) :: L))) (fun u _ => 2 - u.1) (0, 0, 0, 0, 0) ⟨rfl, trivial⟩ ⟨rfl, rfl, trivial⟩ (.inl ⟨rfl, H⟩) ?_
  clear H
  rintro ⟨k, e0, r0, e1, r1⟩ w hinv
  dsimp only at hinv ⊢
  rcases hinv with ⟨rfl, H⟩ | ⟨rfl, H⟩ | hf
  ·
    repeat' (first
      | (refine VcD.load1 tabOk rfl rfl rfl rfl rfl rfl (by intro w_ hw_; exact Holds.cell hw_ rfl) (by exact rfl) ?_)
      | (show VcL _ _ _ _ _ _ _ _; first
      | refine VcL.pures tabOk rfl ?_
      | refine VcL.nil ?_
      | (refine VcL.guard rfl rfl rfl rfl (fun h => ?_) (fun h => ?_) <;> first | (cases h; done) | (with_reducible have hp := ndec_f h)))
      | (show VcD _ _ _ _ _ _ _ _ _; first
      | refine VcD.pures tabOk rfl ?_
      | refine VcD.done ?_
      | (show VcD _ _ _ _ _ (.pure _ _) _ _ _; first
      | refine VcD.indexArr0 tabOk rfl rfl rfl rfl rfl rfl rfl (by omega) (by omega) ?_
      | refine VcD.indexArr tabOk rfl rfl rfl rfl rfl rfl rfl (by omega) (by omega) ?_)
      | (show VcD _ _ _ _ _ (.take _ _) _ _ _; refine VcD.load1 tabOk rfl rfl rfl rfl rfl rfl (by intro w_ hw_; exact Holds.cell (Holds.f1 hw_) rfl) (by exact rfl) ?_)
      | (show VcD _ _ _ _ _ (.only _ _) _ _ _; first
      | (refine VcD.callF (f := F_stream_New) rfl ok_stream_New rfl rfl rfl rfl (Rets.mono (New_any (n := n0) (f := f0) H (by omega) (by omega) (by unfold M; omega)) ?_); rintro _ w ⟨e, rfl, H⟩; refine ⟨(by trivial), ?_⟩)
      | (refine VcD.callF (f := F_tithingref12_New) rfl ok_tithingref12_New rfl rfl rfl rfl (Rets.mono (NewR_any (n := n0) (f := f0) H (by omega) (by omega) (by unfold M; omega)) ?_); rintro _ w ⟨r, rfl, H⟩; refine ⟨(by trivial), ?_⟩)
      | (refine VcD.eff rfl rfl rfl rfl (OpE.store tabOk (by first | exact H | exact (Holds.f3 H)) rfl rfl rfl (by exact rfl) (by exact rfl) (by exact rfl) (by exact rfl)) ?_; rintro _ w ⟨_, H⟩; refine ⟨(by trivial), ?_⟩)))
      | (show Vc _ _ _ _ _ _; first
      | refine Vc.seq ?_
      | refine Vc.region ?_
      | refine Vc.condT rfl ?_
      | refine Vc.condF rfl ?_
      | refine Vc.skip ?_
      | refine Vc.block ?_
      | (refine Vc.drawn (id := 6) (.pure 0 (.pure 4 (.pure 1 (.pure 2 (.take 3 (.pure 5 (.pure 6 (.take 7 (.only 8 (.pure 9 (.pure 10 (.pure 11 (.pure 12 (.pure 13 .done)))))))))))))) (.till (fun w => Holds I w _) 8 (.one (fun _ => True))) mixed (by kernel_rfl) (by exact (Holds.drew H _)) ?_; have H := H.drew (w.drawn + 1))
      | (refine Vc.drawn (id := 7) (.pure 0 (.pure 4 (.pure 1 (.pure 2 (.take 3 (.pure 5 (.pure 6 (.take 7 (.only 8 (.pure 9 (.pure 10 (.pure 11 (.pure 12 (.pure 13 .done)))))))))))))) (.till (fun w => Holds I w _) 8 (.one (fun _ => True))) mixed (by kernel_rfl) (by exact (Holds.drew H _)) ?_; have H := H.drew (w.drawn + 1))
      | (refine Vc.drawn (id := 10) (.pure 0 (.pure 1 (.pure 2 (.pure 3 (.pure 4 (.pure 5 (.pure 6 (.pure 7 (.pure 10 (.pure 11 (.pure 8 (.only 9 (.pure 12 (.only 13 .done)))))))))))))) (.one (fun _ => True)) mixed (by kernel_rfl) (by trivial) ?_; have H := H.drew (w.drawn + 1)))
      | (show KSeq _ _ _ _ _ _ _; refine KSeq.normal ?_)
      | (show KBlock _ _ _ _ _ _; refine KBlock.normal ?_))
    exact KLoop.again (1, e, r, 0, 0) ⟨got_succ (k := 0) rfl (by omega), trivial⟩ ⟨rfl, rfl, trivial⟩ (.inr (.inl ⟨rfl, Holds.re [3, 0, 1, 0] H rfl⟩)) (by dsimp only; omega)
  ·
    repeat' (first
      | (refine VcD.load1 tabOk rfl rfl rfl rfl rfl rfl (by intro w_ hw_; exact Holds.cell hw_ rfl) (by exact rfl) ?_)
      | (show VcL _ _ _ _ _ _ _ _; first
      | refine VcL.pures tabOk rfl ?_
      | refine VcL.nil ?_
      | (refine VcL.guard rfl rfl rfl rfl (fun h => ?_) (fun h => ?_) <;> first | (cases h; done) | (with_reducible have hp := ndec_f h)))
      | (show VcD _ _ _ _ _ _ _ _ _; first
      | refine VcD.pures tabOk rfl ?_
      | refine VcD.done ?_
      | (show VcD _ _ _ _ _ (.pure _ _) _ _ _; first
      | refine VcD.indexArr0 tabOk rfl rfl rfl rfl rfl rfl rfl (by omega) (by omega) ?_
      | refine VcD.indexArr tabOk rfl rfl rfl rfl rfl rfl rfl (by omega) (by omega) ?_)
      | (show VcD _ _ _ _ _ (.take _ _) _ _ _; refine VcD.load1 tabOk rfl rfl rfl rfl rfl rfl (by intro w_ hw_; exact Holds.cell (Holds.f1 hw_) rfl) (by exact rfl) ?_)
      | (show VcD _ _ _ _ _ (.only _ _) _ _ _; first
      | (refine VcD.callF (f := F_stream_New) rfl ok_stream_New rfl rfl rfl rfl (Rets.mono (New_any (n := n1) (f := f1) H (by omega) (by omega) (by unfold M; omega)) ?_); rintro _ w ⟨e, rfl, H⟩; refine ⟨(by trivial), ?_⟩)
      | (refine VcD.callF (f := F_tithingref12_New) rfl ok_tithingref12_New rfl rfl rfl rfl (Rets.mono (NewR_any (n := n1) (f := f1) H (by omega) (by omega) (by unfold M; omega)) ?_); rintro _ w ⟨r, rfl, H⟩; refine ⟨(by trivial), ?_⟩)
      | (refine VcD.eff rfl rfl rfl rfl (OpE.store tabOk (by first | exact H | exact (Holds.f3 H)) rfl rfl rfl (by exact rfl) (by exact rfl) (by exact rfl) (by exact rfl)) ?_; rintro _ w ⟨_, H⟩; refine ⟨(by trivial), ?_⟩)))
      | (show Vc _ _ _ _ _ _; first
      | refine Vc.seq ?_
      | refine Vc.region ?_
      | refine Vc.condT rfl ?_
      | refine Vc.condF rfl ?_
      | refine Vc.skip ?_
      | refine Vc.block ?_
      | (refine Vc.drawn (id := 6) (.pure 0 (.pure 4 (.pure 1 (.pure 2 (.take 3 (.pure 5 (.pure 6 (.take 7 (.only 8 (.pure 9 (.pure 10 (.pure 11 (.pure 12 (.pure 13 .done)))))))))))))) (.till (fun w => Holds I w _) 8 (.one (fun _ => True))) mixed (by kernel_rfl) (by exact (Holds.drew H _)) ?_; have H := H.drew (w.drawn + 1))
      | (refine Vc.drawn (id := 7) (.pure 0 (.pure 4 (.pure 1 (.pure 2 (.take 3 (.pure 5 (.pure 6 (.take 7 (.only 8 (.pure 9 (.pure 10 (.pure 11 (.pure 12 (.pure 13 .done)))))))))))))) (.till (fun w => Holds I w _) 8 (.one (fun _ => True))) mixed (by kernel_rfl) (by exact (Holds.drew H _)) ?_; have H := H.drew (w.drawn + 1))
      | (refine Vc.drawn (id := 10) (.pure 0 (.pure 1 (.pure 2 (.pure 3 (.pure 4 (.pure 5 (.pure 6 (.pure 7 (.pure 10 (.pure 11 (.pure 8 (.only 9 (.pure 12 (.only 13 .done)))))))))))))) (.one (fun _ => True)) mixed (by kernel_rfl) (by trivial) ?_; have H := H.drew (w.drawn + 1)))
      | (show KSeq _ _ _ _ _ _ _; refine KSeq.normal ?_)
      | (show KBlock _ _ _ _ _ _; refine KBlock.normal ?_))
    exact KLoop.again (2, e0, r0, e, r) ⟨got_succ (k := 1) rfl (by omega), trivial⟩ ⟨rfl, rfl, trivial⟩ (.inr (.inr ⟨rfl, Holds.re [3, 0, 1, 0, 0, 0] H rfl⟩)) (by dsimp only; omega)
  · obtain ⟨rfl, H⟩ := hf
    repeat' (first
      | (show VcL _ _ _ _ _ _ _ _; first
      | refine VcL.pures tabOk rfl ?_
      | refine VcL.nil ?_)
      | (show Vc _ _ _ _ _ _; first
      | refine Vc.seq ?_
      | refine Vc.region ?_
      | refine Vc.condF rfl ?_
      | refine Vc.ret ?_
      | refine Vc.exit ?_)
      | (show KSeq _ _ _ _ _ _ _; first
      | refine KSeq.normal ?_
      | refine KSeq.exit ?_)
      | (show KBlock _ _ _ _ _ _; refine KBlock.here ?_)
      | refine KLoop.exit ?_
      | (show KEnd _ _ _ _ _ _ _; refine KEnd.fin (Or.inr rfl) ⟨_, (ResL.tmp rfl ResL.nil), ?_⟩))
    refine ⟨p, ⟨e0, r0, nilS, nilS, nilS, nilS⟩, ⟨e1, r1, nilS, nilS, nilS, nilS⟩, rfl, ?_⟩
    exact Holds.re [8, 10, 10, 0, 0, 0, 0, 4, 4, 0, 0, 0, 0] (Holds.own_nil (Holds.own_nil (Holds.own_nil (Holds.own_nil (Holds.own_nil (Holds.own_nil (Holds.own_nil (Holds.own_nil (Holds.drop H))))))))) rfl
end Go.Proofs.Ytpfgcchammlpgaa.V
