/- The chapter's example; which frames are valid. -/
import Derived.Test.YtpfgcchammlpgaaVO
import Derived.Test.YtpfgcchammlpgaaVKB
namespace Go.Proofs.Ytpfgcchammlpgaa.V
open Go Go.Proofs.YtpfgcchammlpgaaV
set_option linter.unusedVariables false
set_option linter.unusedSimpArgs false
set_option maxHeartbeats 8000000
set_option maxRecDepth 4000
attribute [local irreducible] IntKind.wrap endA
variable {I : Imm} {w : World} {L : List Asn}
section
variable {P : Program} {T : Tab} {n : Fi} {ops : Array Oper} {K : Kont} {G : Gds} {env : Env} {w : World} {rest : List Oper} {dst : Nat} {ty : Nat} {pos : String} {after : Array Edge} {gd : Option (Nat × Bool)} {t : Nat} {x y : Operand}
/-- []byte of a constant text: its block is marked behind its last cell. -/
theorem VcL.constBytes {I : Imm} {L : List Asn} {s e b : Nat} {cs : List Value} {is ie : TI} (hT : TabOk P T) (hx : opv env x = some (.slice (some ⟨b, 0, none⟩) cs.length cs.length)) (H : Holds I w (pt b (.cells cs.toArray e (0, 0)) :: L)) (hs : T.get s = some is) (hsd : is.desc = .slice e) (he : T.get e = some ie) (hed : ie.desc = .int .u8)
    (hg : gres ops G ⟨some dst, .convert s s x, ty, pos, after, gd⟩ = some true) (hn : inN n (some dst) = true) (ho : outG G (some dst) = true)
    (k : ∀ w', Holds I w' (own (.slice (some ⟨b, 0, none⟩) cs.length cs.length) e 1 cs.length cs :: L) → VcL P n ops K rest G ((dst, .slice (some ⟨b, 0, none⟩) cs.length cs.length) :: env) w') : VcL P n ops K (⟨some dst, .convert s s x, ty, pos, after, gd⟩ :: rest) G env w := by
  have H3 := H.put (w' := w.freeze ⟨b, cs.length, none⟩ 1) (o' := .cells cs.toArray e (cs.length, cs.length + 1)) rfl rfl rfl
    (by
      show (w.heap.modify b _)[b]? = _
      rw [Array.getElem?_modify, if_pos rfl, H.pt]
      rfl)
    (fun c hc => by
      show (w.heap.modify b _)[c]? = _
      rw [Array.getElem?_modify, if_neg (Ne.symm hc)])
  have H3b : Holds I (w.freeze ⟨b, cs.length, none⟩ 1) (blk b e cs :: L) := Holds.of_pt (fun i hi => by simp only; omega) H3
  have H4 : Holds I (w.freeze ⟨b, cs.length, none⟩ 1) (blk b e ([] ++ cs ++ []) :: L) := by simpa using H3b
  refine VcL.val hg hn ho (w' := w.freeze ⟨b, cs.length, none⟩ 1) ⟨fun a ha => .inl ?_⟩ (k _ (H4.own_mk (Nat.le_refl _) (by simp) (by simp)))
  unfold execOp
  dsimp only
  rw [opv_sound ha hx]
  refine run_v ?_
  unfold convert
  rw [run_bind ((hT.out _ _ hs).run_under w), run_bind ((hT.out _ _ hs).run_under w), hsd]
  dsimp only
  rw [run_bind ((hT.out _ _ he).run_under w), hed]
  have hm : (markStringish ⟨b, 0, none⟩).run P w = .ok () (w.freeze ⟨b, cs.length, none⟩ 1) := by
    unfold markStringish
    have hsh : (shape b).run P w = .ok (some (e, cs.length)) w := by
      show Result.ok (World.shape? _ _) _ = _
      unfold World.shape?
      rw [H.pt]
      dsimp only
      rw [List.size_toArray]
    rw [run_bind hsh]
    rfl
  simp only [BEq.rfl]
  rw [run_bind hm]
  rfl
end
def awA0 : En := (beginS (newS 1 4294967295) 2).1
def awB0 : En := (beginS (newS 2 0) 1).1
/-- The example, step by step: both ends, and what flies. -/
def awS : Nat → En × En × List Fr
  | 0 => ((tickS awA0).1, awB0, (tickS awA0).2)
  | i + 1 => let s := awS i
    if i % 2 = 0 then (s.1, (takeS s.2.1 (atD s.2.2 0)).1, (takeS s.2.1 (atD s.2.2 0)).2.1) else ((takeS s.1 (atD s.2.2 0)).1, s.2.1, (takeS s.1 (atD s.2.2 0)).2.1)
def awE : En := (putS (awS 3).1 [120, 121] true).1
theorem aw_len : (awS 0).2.2.length = 1 ∧ (awS 1).2.2.length = 1 ∧ (awS 2).2.2.length = 1 ∧ (awS 3).2.2.length = 0 := by decide +kernel
theorem aw_small : ∀ i, i < 3 → (atD (awS i).2.2 0).data.length ≤ 60 ∧ (awS i).1.codes.length = 0 ∧ (awS i).2.1.codes.length = 0 := by decide +kernel
theorem aw_state : (awS 3).1.state = 3 ∧ (putS (awS 3).1 [120, 121] true).2 = 0 ∧ awE.quiet = 0 ∧ awE.age = 0 := by decide +kernel
theorem aw_last : (tickS awE).2.length = 1 ∧ (atD (tickS awE).2 0).seq = 4294967295 ∧ (atD (tickS awE).2 0).data.length = 5 := by decide +kernel
theorem aw_first : (beginS (newS 1 4294967295) 2).2 = 0 ∧ (beginS (newS 2 0) 1).2 = 0 ∧ awA0.quiet = 0 ∧ awA0.age = 0 := by decide +kernel
/-- A list of frames that is told, laid open. -/
theorem FrsI.one {I : Imm} {v : Value} {fs : List Fr} (h : FrsI I v fs) (h1 : fs.length = 1) : ∃ b o cap dv, v = .slice (some ⟨b, o, none⟩) 1 cap ∧ 1 ≤ cap ∧ FmOk I ⟨atD fs 0, dv⟩ ∧ RdI I b o (fmC ⟨atD fs 0, dv⟩) := by
  obtain ⟨fl, rfl, h2, h3⟩ := h.out
  rw [List.length_map] at h1
  cases fl with
  | nil => cases h1
  | cons x r =>
    cases r with
    | cons y r => cases h1
    | nil =>
      obtain ⟨A, cap, rfl, hc⟩ := h2.form
      obtain ⟨b, o, rfl, hr⟩ := h2.at (by show 0 < 1; decide)
      have hr := hr.elem fmC_len (k := 0) (x := x) rfl
      refine ⟨b, o, cap, x.dv, rfl, hc, h3 x List.mem_cons_self, ?_⟩
      have e : o + 0 * 5 = o := by omega
      rw [e] at hr
      exact hr
theorem FrsI.form {I : Imm} {v : Value} {fs : List Fr} (h : FrsI I v fs) : ∃ A cap, v = .slice A fs.length cap := by
  obtain ⟨fl, rfl, h2, _⟩ := h.out
  obtain ⟨A, cap, e, _⟩ := h2.form
  exact ⟨A, cap, by rw [e, List.length_map]⟩
theorem Awake_any (H : Holds I w L) : Rets Try.prog F_tithinglaw12_Awake #[] w fun u w' => u = .bool true ∧ Holds I w' L := by
  obtain ⟨f1, f2, f3, f4⟩ := aw_first
  obtain ⟨l0, l1, l2, l3⟩ := aw_len
  obtain ⟨s1, s2, s3, s4⟩ := aw_state
  obtain ⟨z1, z2, z3⟩ := aw_last
  have hsm := aw_small
  have hS0 : (awS 0).1 = (tickS awA0).1 ∧ (awS 0).2.1 = awB0 ∧ (awS 0).2.2 = (tickS awA0).2 := ⟨rfl, rfl, rfl⟩
  have hSe : ∀ i, i % 2 = 0 → awS (i + 1) = ((awS i).1, (takeS (awS i).2.1 (atD (awS i).2.2 0)).1, (takeS (awS i).2.1 (atD (awS i).2.2 0)).2.1) := fun i h => if_pos h
  have hSo : ∀ i, ¬ i % 2 = 0 → awS (i + 1) = ((takeS (awS i).1 (atD (awS i).2.2 0)).1, (awS i).2.1, (takeS (awS i).1 (atD (awS i).2.2 0)).2.1) := fun i h => if_neg h
  have hA0 : (beginS (newS 1 4294967295) 2).1 = awA0 := rfl
  have hB0 : (beginS (newS 2 0) 1).1 = awB0 := rfl
  have hE : (putS (awS 3).1 [120, 121] true).1 = awE := rfl
  obtain ⟨A0, hA0'⟩ : ∃ a, awA0 = a := ⟨_, rfl⟩
  obtain ⟨B0, hB0'⟩ : ∃ a, awB0 = a := ⟨_, rfl⟩
  obtain ⟨E0, hE'⟩ : ∃ a, awE = a := ⟨_, rfl⟩
  obtain ⟨S, hS'⟩ : ∃ s, awS = s := ⟨_, rfl⟩
  rw [hA0'] at hA0 hS0 f3 f4
  rw [hB0'] at hB0 hS0
  rw [hE'] at hE s3 s4 z1 z2 z3
  rw [hS'] at l0 l1 l2 l3 s1 s2 hsm hS0 hE
  simp only [hS'] at hSe hSo
  clear hA0' hB0' hE' hS'
  refine ok_tithinglaw12_Awake.rets rfl ?_
  repeat' (first
    | (show VcL _ _ _ _ _ _ _ _; first
      | refine VcL.pures tabOk rfl ?_
      | refine VcL.nil ?_
      | (show VcL _ _ _ _ (⟨_, .call ⟨.value (.func F_stream_New), _, _⟩, _, _, _, _⟩ :: _) _ _ _; (refine VcL.callF ok_stream_New rfl rfl rfl rfl (Rets.mono (New_any (n := 1) (f := 4294967295) H (by omega) (by omega) (by decide)) ?_); rintro _ w ⟨ea, rfl, H⟩))
      | (show VcL _ _ _ _ (⟨_, .call ⟨.value (.func F_stream_New), _, _⟩, _, _, _, _⟩ :: _) _ _ _; (refine VcL.callF ok_stream_New rfl rfl rfl rfl (Rets.mono (New_any (n := 2) (f := 0) H (by omega) (by omega) (by decide)) ?_); rintro _ w ⟨eb, rfl, H⟩))
      | (show VcL _ _ _ _ (⟨_, .call ⟨.value (.func F_stream_End_Open), _, _⟩, _, _, _, _⟩ :: _) _ _ _; (refine VcL.callF ok_stream_End_Open rfl rfl rfl rfl (Rets.mono (Open_any (Holds.f1 H)) ?_); rintro _ w ⟨rfl, H⟩; rw [f1]; rw [hA0] at H))
      | (show VcL _ _ _ _ (⟨_, .call ⟨.value (.func F_stream_End_Listen), _, _⟩, _, _, _, _⟩ :: _) _ _ _; (refine VcL.callF ok_stream_End_Listen rfl rfl rfl rfl (Rets.mono (Listen_any (Holds.f1 H)) ?_); rintro _ w ⟨rfl, H⟩; rw [f2]; rw [hB0] at H))
      | (show VcL _ _ _ _ (⟨_, .call ⟨.value (.func F_stream_End_Tick), _, _⟩, _, _, _, _⟩ :: _) _ _ _; (refine VcL.callF ok_stream_End_Tick rfl rfl rfl rfl (Rets.mono (Tick_any (E := A0) (Holds.f1 H) (by omega) (by omega)) ?_); rintro _ w ⟨J1, lv, hJ1, rfl, hfr, H⟩))
      | (refine VcL.guard rfl rfl rfl rfl (fun h => ?_) (fun h => ?_) <;> first | (cases h; done) | (with_reducible have hp := ndec_f h)))
    | (show Vc _ _ _ _ _ _; first
      | refine Vc.seq ?_
      | refine Vc.region ?_
      | refine Vc.condF rfl ?_
      | refine Vc.skip ?_
      | refine Vc.block ?_)
    | (show KSeq _ _ _ _ _ _ _; refine KSeq.normal ?_))
  refine Vc.loopS [(1, _), (3, _)] (fun q : Nat × Value => [(5, q.2), (7, .int .i64 q.1)]) (fun q w => q.1 ≤ 3 ∧ ∃ J, Imm.Le I J ∧ FrsI J q.2 (S q.1).2.2 ∧ Holds J w (endA J ea (S q.1).1 :: endA J eb (S q.1).2.1 :: L)) (fun q _ => 3 - q.1) (0, lv) ⟨rfl, rfl, trivial⟩ ⟨rfl, rfl, trivial⟩ ⟨Nat.zero_le _, J1, hJ1, by rw [hS0.2.2]; exact hfr, by rw [hS0.1, hS0.2.1]; exact Holds.swap (Holds.endUp hJ1 (Holds.swap H))⟩ ?_
  clear H hfr hJ1 hS0
  rintro ⟨i, lv⟩ w ⟨hi, J, hJ, hfr, H⟩
  dsimp only at hi hfr H ⊢
  by_cases hlt : i < 3
  · have h012 : i = 0 ∨ i = 1 ∨ i = 2 := by omega
    rcases h012 with rfl | rfl | rfl
    · obtain ⟨hz1, hz2, hz3⟩ := hsm 0 (by decide)
      obtain ⟨b1, o1, cap, dv, rfl, hc, hF, hr⟩ := FrsI.one hfr l0
      obtain ⟨fr, hfrn⟩ : ∃ fr, atD (S 0).2.2 0 = fr := ⟨_, rfl⟩
      have eS := hSe 0 rfl
      rw [hfrn] at hF hr hz1 eS
      have hF : SlI J dv 1 fr.data.length (byL fr.data) := hF
      obtain ⟨Ad, cd, rfl, hcd⟩ := SlI.form hF
      have hr1 : RdW J L b1 o1 [.int .i64 fr.kind, .int .i64 fr.id, .int .i64 fr.seq, .int .i64 fr.n, .slice Ad fr.data.length cd] := RdI.toW hr
      repeat' (first
        | (show VcL _ _ _ _ _ _ _ _; first
      | refine VcL.pures tabOk rfl ?_
      | refine VcL.nil ?_
      | (show VcL _ _ _ _ (⟨_, .load _ _, _, _, _, _⟩ :: _) _ _ _; refine VcL.loadR tabOk rfl rfl rfl rfl rfl rfl (by exact RdW.rd (by assumption) (Holds.drop (Holds.drop H))) rfl ?_)
      | (show VcL _ _ _ _ (⟨_, .indexAddr _ _ _, _, _, _, _⟩ :: _) _ _ _; refine VcL.indexAddr tabOk rfl rfl rfl rfl rfl rfl (by omega) (by omega) ?_)
      | (show VcL _ _ _ _ (⟨_, .call ⟨.value (.func F_stream_End_Take), _, _⟩, _, _, _, _⟩ :: _) _ _ _; (refine VcL.callF ok_stream_End_Take rfl rfl rfl rfl (Rets.mono (Take_any (E := (S 0).2.1) (f := fr) (Holds.f1 H) hF (by omega) (by omega)) ?_); rintro _ w ⟨J2, sv, hJ2, rfl, hfr2, H⟩))
      | (refine VcL.guard rfl rfl rfl rfl (fun h => ?_) (fun h => ?_) <;> first | (cases h; done) | (with_reducible have hp := of_decide_eq_true h)))
        | (show Vc _ _ _ _ _ _; first
      | refine Vc.seq ?_
      | refine Vc.region ?_
      | refine Vc.condT rfl ?_
      | refine Vc.skip ?_
      | refine Vc.block ?_)
        | (show KSeq _ _ _ _ _ _ _; refine KSeq.normal ?_)
        | (show KBlock _ _ _ _ _ _; refine KBlock.normal ?_))
      exact KLoop.again (1, sv) ⟨rfl, got_succ rfl (by decide), trivial⟩ ⟨rfl, rfl, trivial⟩ ⟨(by show _ ≤ 3; dsimp only; omega), J2, hJ.trans hJ2, by rw [eS]; exact hfr2, by rw [eS]; exact Holds.endUp hJ2 (Holds.swap H)⟩ (by dsimp only; omega)
    · obtain ⟨hz1, hz2, hz3⟩ := hsm 1 (by decide)
      obtain ⟨b1, o1, cap, dv, rfl, hc, hF, hr⟩ := FrsI.one hfr l1
      obtain ⟨fr, hfrn⟩ : ∃ fr, atD (S 1).2.2 0 = fr := ⟨_, rfl⟩
      have eS := hSo 1 (by decide)
      rw [hfrn] at hF hr hz1 eS
      have hF : SlI J dv 1 fr.data.length (byL fr.data) := hF
      obtain ⟨Ad, cd, rfl, hcd⟩ := SlI.form hF
      have hr1 : RdW J L b1 o1 [.int .i64 fr.kind, .int .i64 fr.id, .int .i64 fr.seq, .int .i64 fr.n, .slice Ad fr.data.length cd] := RdI.toW hr
      repeat' (first
        | (show VcL _ _ _ _ _ _ _ _; first
      | refine VcL.pures tabOk rfl ?_
      | refine VcL.nil ?_
      | (show VcL _ _ _ _ (⟨_, .load _ _, _, _, _, _⟩ :: _) _ _ _; refine VcL.loadR tabOk rfl rfl rfl rfl rfl rfl (by exact RdW.rd (by assumption) (Holds.drop (Holds.drop H))) rfl ?_)
      | (show VcL _ _ _ _ (⟨_, .indexAddr _ _ _, _, _, _, _⟩ :: _) _ _ _; refine VcL.indexAddr tabOk rfl rfl rfl rfl rfl rfl (by omega) (by omega) ?_)
      | (show VcL _ _ _ _ (⟨_, .call ⟨.value (.func F_stream_End_Take), _, _⟩, _, _, _, _⟩ :: _) _ _ _; (refine VcL.callF ok_stream_End_Take rfl rfl rfl rfl (Rets.mono (Take_any (E := (S 1).1) (f := fr) H hF (by omega) (by omega)) ?_); rintro _ w ⟨J2, sv, hJ2, rfl, hfr2, H⟩))
      | (refine VcL.guard rfl rfl rfl rfl (fun h => ?_) (fun h => ?_) <;> first | (cases h; done) | (with_reducible have hp := of_decide_eq_true h)))
        | (show Vc _ _ _ _ _ _; first
      | refine Vc.seq ?_
      | refine Vc.region ?_
      | refine Vc.condT rfl ?_
      | refine Vc.condF rfl ?_
      | refine Vc.skip ?_
      | refine Vc.block ?_)
        | (show KSeq _ _ _ _ _ _ _; refine KSeq.normal ?_)
        | (show KBlock _ _ _ _ _ _; refine KBlock.normal ?_))
      exact KLoop.again (2, sv) ⟨rfl, got_succ rfl (by decide), trivial⟩ ⟨rfl, rfl, trivial⟩ ⟨(by show _ ≤ 3; dsimp only; omega), J2, hJ.trans hJ2, by rw [eS]; exact hfr2, by rw [eS]; exact Holds.swap (Holds.endUp hJ2 (Holds.swap H))⟩ (by dsimp only; omega)
    · obtain ⟨hz1, hz2, hz3⟩ := hsm 2 (by decide)
      obtain ⟨b1, o1, cap, dv, rfl, hc, hF, hr⟩ := FrsI.one hfr l2
      obtain ⟨fr, hfrn⟩ : ∃ fr, atD (S 2).2.2 0 = fr := ⟨_, rfl⟩
      have eS := hSe 2 rfl
      rw [hfrn] at hF hr hz1 eS
      have hF : SlI J dv 1 fr.data.length (byL fr.data) := hF
      obtain ⟨Ad, cd, rfl, hcd⟩ := SlI.form hF
      have hr1 : RdW J L b1 o1 [.int .i64 fr.kind, .int .i64 fr.id, .int .i64 fr.seq, .int .i64 fr.n, .slice Ad fr.data.length cd] := RdI.toW hr
      repeat' (first
        | (show VcL _ _ _ _ _ _ _ _; first
      | refine VcL.pures tabOk rfl ?_
      | refine VcL.nil ?_
      | (show VcL _ _ _ _ (⟨_, .load _ _, _, _, _, _⟩ :: _) _ _ _; refine VcL.loadR tabOk rfl rfl rfl rfl rfl rfl (by exact RdW.rd (by assumption) (Holds.drop (Holds.drop H))) rfl ?_)
      | (show VcL _ _ _ _ (⟨_, .indexAddr _ _ _, _, _, _, _⟩ :: _) _ _ _; refine VcL.indexAddr tabOk rfl rfl rfl rfl rfl rfl (by omega) (by omega) ?_)
      | (show VcL _ _ _ _ (⟨_, .call ⟨.value (.func F_stream_End_Take), _, _⟩, _, _, _, _⟩ :: _) _ _ _; (refine VcL.callF ok_stream_End_Take rfl rfl rfl rfl (Rets.mono (Take_any (E := (S 2).2.1) (f := fr) (Holds.f1 H) hF (by omega) (by omega)) ?_); rintro _ w ⟨J2, sv, hJ2, rfl, hfr2, H⟩))
      | (refine VcL.guard rfl rfl rfl rfl (fun h => ?_) (fun h => ?_) <;> first | (cases h; done) | (with_reducible have hp := of_decide_eq_true h)))
        | (show Vc _ _ _ _ _ _; first
      | refine Vc.seq ?_
      | refine Vc.region ?_
      | refine Vc.condT rfl ?_
      | refine Vc.skip ?_
      | refine Vc.block ?_)
        | (show KSeq _ _ _ _ _ _ _; refine KSeq.normal ?_)
        | (show KBlock _ _ _ _ _ _; refine KBlock.normal ?_))
      exact KLoop.again (3, sv) ⟨rfl, got_succ rfl (by decide), trivial⟩ ⟨rfl, rfl, trivial⟩ ⟨(by show _ ≤ 3; dsimp only; omega), J2, hJ.trans hJ2, by rw [eS]; exact hfr2, by rw [eS]; exact Holds.endUp hJ2 (Holds.swap H)⟩ (by dsimp only; omega)
  · obtain rfl : i = 3 := by omega
    obtain ⟨A, cap, rfl⟩ := hfr.form
    have hl3 : decide (((S 3).2.2.length : Int) = 1) = false := decide_eq_false (by omega)
    obtain ⟨T, hT⟩ : ∃ T, tickS E0 = T := ⟨_, rfl⟩
    rw [hT] at z1 z2 z3
    obtain ⟨fr, hfrn⟩ : ∃ fr, atD T.2 0 = fr := ⟨_, rfl⟩
    rw [hfrn] at z2 z3
    have hfin1 : decide (fr.seq = 4294967295) = true := decide_eq_true z2
    have hfin2 : decide ((fr.data.length : Int) = 5) = true := decide_eq_true (by omega)
    repeat' (first
      | rw [hl3]
      | rw [hfin1]
      | rw [hfin2]
      | (show VcL _ _ _ _ (⟨_, .load _ (.tmp 86), _, _, _, _⟩ :: _) _ _ _; refine VcL.load1 tabOk rfl rfl rfl rfl rfl (RdW.get (k := 2) hr3 rfl (Holds.drop H)) ?_)
      | (show VcL _ _ _ _ (⟨_, .load _ (.tmp 93), _, _, _, _⟩ :: _) _ _ _; refine VcL.load1 tabOk rfl rfl rfl rfl rfl (RdW.get (k := 4) hr3 rfl (Holds.drop H)) ?_)
      | (refine VcL.buildSliceP tabOk H rfl rfl rfl rfl rfl rfl (fun b_ w H => ?_))
      | (refine VcL.constBytes (cs := byL [120, 121]) tabOk rfl H rfl rfl rfl rfl rfl rfl rfl (fun w H => ?_))
      | (show VcL _ _ _ _ (⟨_, .call ⟨.value (.func F_stream_End_Put), _, _⟩, _, _, _, _⟩ :: _) _ _ _; obtain ⟨J9, hJ9, H, hxy⟩ := Holds.freezeOwn H; refine VcL.callF ok_stream_End_Put rfl rfl rfl rfl (Rets.mono (Put_any (E := (S 3).1) (l := [120, 121]) (en := true) (Holds.endUp hJ9 H) hxy (by decide)) ?_); rintro _ w ⟨rfl, H⟩; rw [s2]; rw [hE] at H)
      | (show VcL _ _ _ _ _ _ _ _; first
      | refine VcL.pures tabOk rfl ?_
      | refine VcL.nil ?_
      | (show VcL _ _ _ _ (⟨_, .indexAddr _ _ _, _, _, _, _⟩ :: _) _ _ _; refine VcL.indexAddr tabOk rfl rfl rfl rfl rfl rfl (by omega) (by omega) ?_)
      | (show VcL _ _ _ _ (⟨_, .call ⟨.value (.func F_stream_End_State), _, _⟩, _, _, _, _⟩ :: _) _ _ _; (refine VcL.callF ok_stream_End_State rfl rfl rfl rfl (Rets.mono (State_any (E := (S 3).1) H) ?_); rintro _ w ⟨rfl, H⟩; rw [s1]))
      | (show VcL _ _ _ _ (⟨_, .call ⟨.value (.func F_stream_End_Tick), _, _⟩, _, _, _, _⟩ :: _) _ _ _; (refine VcL.callF ok_stream_End_Tick rfl rfl rfl rfl (Rets.mono (Tick_any (E := E0) H (by omega) (by omega)) ?_); rintro _ w ⟨J2, lv2, hJ2, rfl, hfr2, H⟩; rw [hT] at hfr2 H; obtain ⟨b2, o2, cap2, dv2, rfl, hc2, hF2, hr2⟩ := FrsI.one hfr2 z1; rw [hfrn] at hF2 hr2; have hF2 : SlI J2 dv2 1 fr.data.length (byL fr.data) := hF2; obtain ⟨A3, c3, rfl, hcd3⟩ := SlI.form hF2; have hr3 : RdW J2 (endA J eb (S 3).2.1 :: L) b2 o2 [.int .i64 fr.kind, .int .i64 fr.id, .int .i64 fr.seq, .int .i64 fr.n, .slice A3 fr.data.length c3] := RdI.toW hr2))
      | (refine VcL.guard rfl rfl rfl rfl (fun h => ?_) (fun h => ?_) <;> first | (cases h; done) | (with_reducible have hp := of_decide_eq_true h) | (with_reducible have hp := ndec_f h) | skip))
      | (show Vc _ _ _ _ _ _; first
      | refine Vc.seq ?_
      | refine Vc.region ?_
      | refine Vc.condF rfl ?_
      | refine Vc.ret ?_
      | refine Vc.skip ?_
      | refine Vc.exit ?_)
      | (show KSeq _ _ _ _ _ _ _; first
      | refine KSeq.normal ?_
      | refine KSeq.exit ?_)
      | (show KBlock _ _ _ _ _ _; refine KBlock.here ?_)
      | refine KLoop.exit ?_
      | (show KEnd _ _ _ _ _ _ _; refine KEnd.fin (Or.inr rfl) ⟨_, (ResL.tmp rfl ResL.nil), ?_⟩))
    exact ⟨rfl, Holds.less (Holds.drop (Holds.drop H)) ((hJ.trans hJ9).trans hJ2)⟩
theorem StreamValid_any (H : Holds I w L) {f : Fr} {dv : Value} (hdv : SlI I dv 1 f.data.length (byL f.data)) (hlen : f.data.length ≤ 140737488355328) : Rets Try.prog F_tithinglaw12_StreamValid #[frV f dv] w fun u w' => u = .bool true ∧ Holds I w' L := by
  obtain ⟨A, cap, rfl, hcap⟩ := hdv.form
  cases hv : validF f with
  | true =>
    refine ok_tithinglaw12_StreamValid.rets rfl ?_
    repeat' (first
      | (show VcL _ _ _ _ _ _ _ _; first
      | refine VcL.pures tabOk rfl ?_
      | refine VcL.nil ?_
      | refine VcL.box H rfl rfl rfl rfl rfl (fun b w H => ?_))
      | (show VcD _ _ _ _ _ _ _ _ _; first
      | refine VcD.pures tabOk rfl ?_
      | refine VcD.done ?_
      | (show VcD _ _ _ _ _ (.take _ _) _ _ _; first
      | refine VcD.load1 tabOk rfl rfl rfl rfl rfl rfl (by intro w_ hw_; exact Holds.cell hw_ rfl) (by exact rfl) ?_
      | refine VcD.loadN tabOk rfl rfl rfl rfl rfl rfl rfl (by intro w_ hw_; exact hw_) (by exact rfl) ?_
      | refine VcD.skipT rfl rfl rfl ?_
      | (refine VcD.guardT rfl rfl rfl rfl rfl (fun h => ?_) (fun h => ?_) <;> first | (with_reducible have hp := of_decide_eq_true h) | (with_reducible have hp := of_decide_eq_false h)))
      | (show VcD _ _ _ _ _ (.only _ _) _ _ _; first
      | (refine VcD.callF (f := F_stream_Valid) rfl ok_stream_Valid rfl rfl rfl rfl (Rets.mono ((Valid_any (f := f) H hdv hlen).mono fun u w' h => (show u = .bool true ∧ Holds I w' _ from hv ▸ h)) ?_); rintro _ w ⟨rfl, H⟩; refine ⟨(by exact H), ?_⟩)
      | (refine VcD.callF (f := F_tithingref12_Valid) rfl ok_tithingref12_Valid rfl rfl rfl rfl (Rets.mono ((ValidR_any (f := f) H hdv hlen).mono fun u w' h => (show u = .bool true ∧ Holds I w' _ from hv ▸ h)) ?_); rintro _ w ⟨rfl, H⟩; refine ⟨(by exact H), ?_⟩)
      | (refine VcD.callF (f := F_tithinglaw12_Awake) rfl ok_tithinglaw12_Awake rfl rfl rfl rfl (Rets.mono (Awake_any H) ?_); rintro _ w ⟨rfl, H⟩; refine ⟨(by exact H), ?_⟩)
      | refine VcD.skip rfl rfl rfl (by exact H) ?_
      | (refine VcD.guardO rfl rfl rfl rfl rfl (fun h => ?_) (fun h => ?_) <;> first | (cases h; done) | (with_reducible have hp := of_decide_eq_true h))))
      | (show Vc _ _ _ _ _ _; first
      | refine Vc.seq ?_
      | refine Vc.region ?_
      | refine Vc.ret ?_
      | refine Vc.drawnH (id := 1) H (.pure 0 (.take 1 (.pure 2 (.pure 3 (.pure 4 (.take 5 (.take 7 (.only 6 (.only 8 (.pure 9 (.pure 10 (.only 11 (.pure 12 (.pure 13 (.pure 14 .done))))))))))))))) mixed (by kernel_rfl) (fun w H => ?_))
      | (show KSeq _ _ _ _ _ _ _; refine KSeq.normal ?_)
      | (show KEnd _ _ _ _ _ _ _; refine KEnd.fin (Or.inr rfl) ⟨_, (ResL.tmp rfl ResL.nil), ?_⟩))
    all_goals exact ⟨rfl, H.drop⟩
  | false =>
    refine ok_tithinglaw12_StreamValid.rets rfl ?_
    repeat' (first
      | (show VcL _ _ _ _ _ _ _ _; first
      | refine VcL.pures tabOk rfl ?_
      | refine VcL.nil ?_
      | refine VcL.box H rfl rfl rfl rfl rfl (fun b w H => ?_))
      | (show VcD _ _ _ _ _ _ _ _ _; first
      | refine VcD.pures tabOk rfl ?_
      | refine VcD.done ?_
      | (show VcD _ _ _ _ _ (.take _ _) _ _ _; first
      | refine VcD.load1 tabOk rfl rfl rfl rfl rfl rfl (by intro w_ hw_; exact Holds.cell hw_ rfl) (by exact rfl) ?_
      | refine VcD.loadN tabOk rfl rfl rfl rfl rfl rfl rfl (by intro w_ hw_; exact hw_) (by exact rfl) ?_
      | refine VcD.skipT rfl rfl rfl ?_
      | (refine VcD.guardT rfl rfl rfl rfl rfl (fun h => ?_) (fun h => ?_) <;> first | (with_reducible have hp := of_decide_eq_true h) | (with_reducible have hp := of_decide_eq_false h)))
      | (show VcD _ _ _ _ _ (.only _ _) _ _ _; first
      | (refine VcD.callF (f := F_stream_Valid) rfl ok_stream_Valid rfl rfl rfl rfl (Rets.mono ((Valid_any (f := f) H hdv hlen).mono fun u w' h => (show u = .bool false ∧ Holds I w' _ from hv ▸ h)) ?_); rintro _ w ⟨rfl, H⟩; refine ⟨(by exact H), ?_⟩)
      | (refine VcD.callF (f := F_tithingref12_Valid) rfl ok_tithingref12_Valid rfl rfl rfl rfl (Rets.mono ((ValidR_any (f := f) H hdv hlen).mono fun u w' h => (show u = .bool false ∧ Holds I w' _ from hv ▸ h)) ?_); rintro _ w ⟨rfl, H⟩; refine ⟨(by exact H), ?_⟩)
      | (refine VcD.callF (f := F_tithinglaw12_Awake) rfl ok_tithinglaw12_Awake rfl rfl rfl rfl (Rets.mono (Awake_any H) ?_); rintro _ w ⟨rfl, H⟩; refine ⟨(by exact H), ?_⟩)
      | refine VcD.skip rfl rfl rfl (by exact H) ?_
      | (refine VcD.guardO rfl rfl rfl rfl rfl (fun h => ?_) (fun h => ?_) <;> first | (cases h; done) | (with_reducible have hp := of_decide_eq_true h))))
      | (show Vc _ _ _ _ _ _; first
      | refine Vc.seq ?_
      | refine Vc.region ?_
      | refine Vc.ret ?_
      | refine Vc.drawnH (id := 1) H (.pure 0 (.take 1 (.pure 2 (.pure 3 (.pure 4 (.take 5 (.take 7 (.only 6 (.only 8 (.pure 9 (.pure 10 (.only 11 (.pure 12 (.pure 13 (.pure 14 .done))))))))))))))) mixed (by kernel_rfl) (fun w H => ?_))
      | (show KSeq _ _ _ _ _ _ _; refine KSeq.normal ?_)
      | (show KEnd _ _ _ _ _ _ _; refine KEnd.fin (Or.inr rfl) ⟨_, (ResL.tmp rfl ResL.nil), ?_⟩))
    all_goals exact ⟨rfl, H.drop⟩
end Go.Proofs.Ytpfgcchammlpgaa.V
