/- Whether two lists of frames are the same; whether both ends tell the same; a deed to both. -/
import Derived.Test.YtpfgcchammlpgaaVAB
import Derived.Test.YtpfgcchammlpgaaVQ
namespace Go.Proofs.Ytpfgcchammlpgaa.V
open Go Go.Proofs.YtpfgcchammlpgaaV
set_option linter.unusedVariables false
set_option linter.unusedSimpArgs false
set_option maxHeartbeats 8000000
set_option maxRecDepth 4000
attribute [local irreducible] IntKind.wrap refA endA
variable {I : Imm} {w : World} {L : List Asn}
theorem refJ_open {J : Imm} {e : Nat} {E : En} (H : Holds J w (refA I e E :: L)) : ∃ A1 c1 A2 c2 av A3 c3, ∃ cd : List Vb, RnF I E ⟨.slice A1 E.out.length c1, .slice A2 E.inn.length c2, av, .slice A3 cd.length c3, cd⟩ ∧
    Holds J w (refQ e E ⟨.slice A1 E.out.length c1, .slice A2 E.inn.length c2, av, .slice A3 cd.length c3, cd⟩ L) := by
  obtain ⟨⟨ov, iv, av, cv, cd⟩, hm, H⟩ := ref_iff.1 H
  obtain ⟨_, A1, c1, rfl⟩ := Holds.own_len (Holds.f1 H)
  obtain ⟨_, A2, c2, rfl⟩ := Holds.own_len (Holds.f2 H)
  obtain ⟨_, A3, c3, h3⟩ := Holds.own_len (Holds.f3 H)
  have h3 : cv = .slice A3 cd.length c3 := h3
  subst h3
  exact ⟨A1, c1, A2, c2, av, A3, c3, cd, hm, H⟩
theorem endJ_close {J : Imm} {e : Nat} {E : En} {ob : By} {es : List Nat} {ib : By} {ms : List Nat} (m : EnM) (h : EnF I E m) (hl : EnL E ob es ib ms) (H : Holds J w (endQ e E m ob es ib ms L)) : Holds J w (endA I e E :: L) := by
  obtain ⟨rfl, rfl, rfl, rfl⟩ := hl
  exact end_iff.2 ⟨m, h, H⟩
theorem sameF_self (a : Fr) : sameF a a = true := decide_eq_true ⟨rfl, rfl, rfl, rfl, rfl⟩
theorem SameFrames_any (H : Holds I w L) {va vb : Value} {fs : List Fr} (ha : FrsI I va fs) (hb : FrsI I vb fs) (hn : fs.length ≤ 1000000000) : Rets Try.prog F_tithingref12_SameFrames #[va, vb] w fun u w' => u = .bool true ∧ Holds I w' L := by
  obtain ⟨fa, hfa, sa, oa⟩ := ha.out
  obtain ⟨fb, hfb, sb, ob⟩ := hb.out
  have hla : fa.length = fs.length := by rw [← hfa, List.length_map]
  have hlb : fb.length = fs.length := by rw [← hfb, List.length_map]
  obtain ⟨A, ca, rfl, hca⟩ := sa.form
  obtain ⟨B, cb, rfl, hcb⟩ := sb.form
  refine ok_tithingref12_SameFrames.rets rfl ?_
  repeat' (first
    | (show VcL _ _ _ _ _ _ _ _; first
      | refine VcL.pures tabOk rfl ?_
      | refine VcL.nil ?_)
    | (show Vc _ _ _ _ _ _; first
      | refine Vc.seq ?_
      | refine Vc.region ?_
      | refine Vc.skip ?_
      | refine Vc.block ?_
      | (refine Vc.cond rfl (fun h => ?_) (fun h => ?_) <;> first | (exfalso; simp only [decide_eq_true_eq, decide_eq_false_iff_not, Bool.not_eq_true', Bool.not_eq_false'] at h; omega) | (with_reducible have hp := ndec_f h)))
    | (show KSeq _ _ _ _ _ _ _; refine KSeq.normal ?_))
  refine Vc.loopS [(0, _), (1, _)] (fun k : Nat => [(5, .int .i64 k)]) (fun k w => k ≤ fa.length ∧ Holds I w L) (fun k _ => fa.length - k) 0 ⟨rfl, trivial⟩ ⟨rfl, rfl, trivial⟩ ⟨Nat.zero_le _, H⟩ ?_
  clear H
  rintro k w ⟨hk, H⟩
  by_cases hlt : k < fa.length
  · have hlt2 : k < fb.length := by omega
    obtain ⟨b1, o1, rfl, hr1⟩ := sa.at (by omega)
    obtain ⟨b2, o2, rfl, hr2⟩ := sb.at (by omega)
    have hr1 := hr1.elem fmC_len (atD_get hlt)
    have hr2 := hr2.elem fmC_len (atD_get hlt2)
    have hm1 := oa _ (atD_mem hlt)
    have hm2 := ob _ (atD_mem hlt2)
    have he : (atD fa k).fr = (atD fb k).fr := by
      have h1 : (fa.map (·.fr))[k]? = (fb.map (·.fr))[k]? := by rw [hfa, hfb]
      rw [List.getElem?_map, List.getElem?_map, atD_get hlt, atD_get hlt2] at h1
      exact Option.some.inj h1
    obtain ⟨⟨f1, d1⟩, hx1⟩ : ∃ x, atD fa k = x := ⟨_, rfl⟩
    obtain ⟨⟨f2, d2⟩, hx2⟩ : ∃ x, atD fb k = x := ⟨_, rfl⟩
    rw [hx1] at hr1 hm1 he
    rw [hx2] at hr2 hm2 he
    dsimp only at he
    subst he
    have hm1 : SlI I d1 1 f1.data.length (byL f1.data) := hm1
    have hm2 : SlI I d2 1 f1.data.length (byL f1.data) := hm2
    obtain ⟨D1, c1, rfl, hc1⟩ := hm1.form
    obtain ⟨D2, c2, rfl, hc2⟩ := hm2.form
    have hr1 : RdW I L b1 (o1 + k * 5) [.int .i64 f1.kind, .int .i64 f1.id, .int .i64 f1.seq, .int .i64 f1.n, .slice D1 f1.data.length c1] := RdI.toW hr1
    have hr2 : RdW I L b2 (o2 + k * 5) [.int .i64 f1.kind, .int .i64 f1.id, .int .i64 f1.seq, .int .i64 f1.n, .slice D2 f1.data.length c2] := RdI.toW hr2
    repeat' (first
      | (show VcL _ _ _ _ _ _ _ _; first
      | refine VcL.pures tabOk rfl ?_
      | refine VcL.nil ?_)
      | (show VcD _ _ _ _ _ _ _ _ _; first
      | refine VcD.pures tabOk rfl ?_
      | refine VcD.done ?_
      | (show VcD _ _ _ _ _ (.pure _ _) _ _ _; refine VcD.indexAddr tabOk rfl rfl rfl rfl rfl rfl rfl (by omega) (by omega) ?_)
      | (show VcD _ _ _ _ _ (.take _ _) _ _ _; refine VcD.loadR tabOk rfl rfl rfl rfl rfl rfl rfl (by intro w_ hw_; exact RdW.rd (by assumption) hw_) rfl ?_)
      | (show VcD _ _ _ _ _ (.only _ _) _ _ _; (refine VcD.callF (f := F_tithingref12_SameFrame) rfl ok_tithingref12_SameFrame rfl rfl rfl rfl (Rets.mono (SameFrame_any (a := f1) (b := f1) H hm1 hm2) ?_); rintro _ w ⟨rfl, H⟩; rw [sameF_self]; refine ⟨(by exact H), ?_⟩)))
      | (show Vc _ _ _ _ _ _; first
      | refine Vc.seq ?_
      | refine Vc.region ?_
      | refine Vc.condF rfl ?_
      | refine Vc.skip ?_
      | refine Vc.block ?_
      | refine Vc.drawnH (id := 6) H (.pure 0 (.pure 1 (.pure 4 (.pure 5 (.pure 2 (.take 3 (.pure 6 (.take 7 (.only 8 (.pure 9 .done)))))))))) mixed (by kernel_rfl) (fun w H => ?_)
      | (refine Vc.cond rfl (fun h => ?_) (fun h => ?_) <;> first | (exfalso; simp only [decide_eq_true_eq, decide_eq_false_iff_not, Bool.not_eq_true', Bool.not_eq_false'] at h; omega) | (with_reducible have hp := of_decide_eq_true h)))
      | (show KSeq _ _ _ _ _ _ _; refine KSeq.normal ?_)
      | (show KBlock _ _ _ _ _ _; refine KBlock.normal ?_))
    exact KLoop.again (k + 1) ⟨got_succ rfl (by omega), trivial⟩ ⟨rfl, rfl, trivial⟩ ⟨hlt, H⟩ (by omega)
  · obtain rfl : k = fa.length := by omega
    repeat' (first
      | (show VcL _ _ _ _ _ _ _ _; first
      | refine VcL.pures tabOk rfl ?_
      | refine VcL.nil ?_)
      | (show Vc _ _ _ _ _ _; first
      | refine Vc.seq ?_
      | refine Vc.region ?_
      | refine Vc.ret ?_
      | refine Vc.exit ?_
      | (refine Vc.cond rfl (fun h => ?_) (fun h => ?_) <;> first | (exfalso; simp only [decide_eq_true_eq, decide_eq_false_iff_not, Bool.not_eq_true', Bool.not_eq_false'] at h; omega) | (with_reducible have hp := of_decide_eq_false h)))
      | (show KSeq _ _ _ _ _ _ _; first
      | refine KSeq.normal ?_
      | refine KSeq.exit ?_)
      | (show KBlock _ _ _ _ _ _; refine KBlock.here ?_)
      | refine KLoop.exit ?_
      | (show KEnd _ _ _ _ _ _ _; refine KEnd.fin (Or.inr rfl) ⟨_, (ResL.tmp rfl ResL.nil), ?_⟩))
    exact ⟨rfl, H⟩
theorem Attention_any {e : Nat} {E : En} (H : Holds I w (endA I e E :: L)) : Rets Try.prog F_stream_End_Attention #[ptr e] w fun u w' => ∃ J, Imm.Le I J ∧ (∃ cl : List Vb, cl.map (·.2) = E.codes ∧ SlI J u 1 cl.length (cl.flatMap bkC) ∧ ∀ c ∈ cl, SlI J c.1 1 c.2.length (byL c.2)) ∧ Holds J w' (endA I e E :: L) := by
  obtain ⟨A1, c1, A2, c2, A3, c3, A4, c4, A5, c5, nv, cd, ob, es, ib, ms, hl, hm, HB⟩ := end_open H
  clear H
  have H := HB
  clear HB
  have ok := hm.ok
  have hcdl : cd.length = E.codes.length := by rw [← hm.codes, List.length_map]
  have hcdm := ok.codes.1
  refine ok_stream_End_Attention.rets rfl ?_
  repeat' (first
    | (show VcL _ _ _ _ _ _ _ _; first
      | refine VcL.pures tabOk rfl ?_
      | refine VcL.nil ?_
      | (show VcL _ _ _ _ (⟨_, .load _ _, _, _, _, _⟩ :: _) _ _ _; refine VcL.load1 tabOk rfl rfl rfl rfl rfl (by exact Holds.cell H rfl) ?_)
      | (show VcL _ _ _ _ (⟨_, .call ⟨.value (.func F_stream_End_none), _, _⟩, _, _, _, _⟩ :: _) _ _ _; (refine VcL.callF ok_stream_End_none rfl rfl rfl rfl (Rets.mono (none_any (E := E) H Holds.toW ok.num.1) ?_); rintro _ w ⟨rfl, H⟩)))
    | (show Vc _ _ _ _ _ _; first
      | refine Vc.seq ?_
      | refine Vc.region ?_
      | refine Vc.condF rfl ?_
      | refine Vc.skip ?_
      | refine Vc.block ?_)
    | (show KSeq _ _ _ _ _ _ _; refine KSeq.normal ?_))
  refine Vc.loopS [(11, _), (12, _)] (fun q : Nat × Value => [(3, q.2), (13, .int .i64 q.1)]) (fun q w => q.1 ≤ cd.length ∧ ∃ J, Imm.Le I J ∧ ∃ cl : List Vb, cl.map (·.2) = (cd.take q.1).map (·.2) ∧ (∀ c ∈ cl, SlI J c.1 1 c.2.length (byL c.2)) ∧ Holds J w (own q.2 22 1 cl.length (cl.flatMap bkC) :: endQ e E ⟨.slice A1 ob.length c1, .slice A2 es.length c2, .slice A3 ib.length c3, .slice A4 ms.length c4, nv, .slice A5 cd.length c5, cd⟩ ob es ib ms L)) (fun q _ => cd.length - q.1) (0, .slice none 0 0) ⟨rfl, rfl, trivial⟩ ⟨rfl, rfl, trivial⟩ ⟨Nat.zero_le _, I, Imm.Le.rfl' I, [], rfl, fun c hc => (by cases hc), Holds.own_nil H⟩ ?_
  clear H
  rintro ⟨k, q⟩ w ⟨hk, J, hJ, cl, hcl, hce, H⟩
  dsimp only at hk hcl H ⊢
  have hclk : cl.length = k := by have := congrArg List.length hcl; rw [List.length_map, List.length_map, List.length_take] at this; omega
  by_cases hlt : k < cd.length
  · obtain ⟨b1, o1, _, e4, hc1⟩ := Holds.own_some (show 0 < cd.length by omega) (Holds.f6 H)
    injection e4 with e5 e6 e7
    subst e5; subst e7
    obtain ⟨b1', o1', h4, hr⟩ := SlR.at (SlR.mem (e := 22) H (by repeat (first | exact .head _ | apply List.Mem.tail))) (show 0 < cd.length by omega)
    injection h4 with h4
    injection h4 with h5 h6 _
    subst h5; subst h6
    have hx0 := hr.elem bkC_len (atD_get hlt)
    have hce0 := hm.each _ (atD_mem hlt)
    have ht : (cd.take (k + 1)).map (·.2) = (cd.take k).map (·.2) ++ [(atD cd k).2] := by rw [List.take_add_one, atD_get hlt, List.map_append]; rfl
    have h60 : (atD cd k).2.length ≤ 60 := ok.codes.2 _ (by rw [← hm.codes]; exact List.mem_map_of_mem (atD_mem hlt))
    obtain ⟨⟨dv, data⟩, hx⟩ : ∃ x, atD cd k = x := ⟨_, rfl⟩
    rw [hx] at hx0 hce0 ht h60
    dsimp only at hce0 ht h60
    obtain ⟨D, dc, rfl, hdc⟩ := hce0.form
    repeat' (first
      | (refine VcL.append (m := 1) (ds := bkC (.slice A7 data.length c7, data)) tabOk rfl rfl rfl rfl (Holds.f2 H) (Holds.own_src H) (bk_one (.slice A7 data.length c7, data) rfl) (by show (_ + 1) * 24 ≤ _; omega) rfl rfl rfl (fun v_ w H => ?_))
      | (show VcL _ _ _ _ _ _ _ _; first
      | refine VcL.pures tabOk rfl ?_
      | refine VcL.nil ?_
      | (show VcL _ _ _ _ (⟨_, .load _ _, _, _, _, _⟩ :: _) _ _ _; refine VcL.load1 tabOk rfl rfl rfl rfl rfl (by exact RdW.get0 (by assumption) rfl H) ?_)
      | (show VcL _ _ _ _ (⟨_, .indexAddr _ _ _, _, _, _, _⟩ :: _) _ _ _; refine VcL.indexAddr tabOk rfl rfl rfl rfl rfl rfl (by omega) (by omega) ?_)
      | refine VcL.buildSlice tabOk H rfl rfl rfl rfl rfl rfl (fun sv w H => ?_)
      | (show VcL _ _ _ _ (⟨_, .call ⟨.value (.func F_slices_Clone_byte_byte), _, _⟩, _, _, _, _⟩ :: _) _ _ _; (refine VcL.callF ok_slices_Clone_byte_byte rfl rfl rfl rfl (Rets.mono (CloneB_any H (SlI.toR (hce0.mono hJ)) (byL_one data) (by omega)) ?_); rintro _ w H; obtain ⟨_, A7, c7, rfl⟩ := Holds.own_len H)))
      | (show Vc _ _ _ _ _ _; first
      | refine Vc.seq ?_
      | refine Vc.region ?_
      | refine Vc.skip ?_
      | refine Vc.block ?_
      | (refine Vc.cond rfl (fun h => ?_) (fun h => ?_) <;> first | (exfalso; simp only [decide_eq_true_eq, decide_eq_false_iff_not, Bool.not_eq_true', Bool.not_eq_false'] at h; omega) | (with_reducible have hp := of_decide_eq_true h)))
      | (show KSeq _ _ _ _ _ _ _; refine KSeq.normal ?_)
      | (show KBlock _ _ _ _ _ _; refine KBlock.normal ?_))
    obtain ⟨J2, hJ2, H, hs⟩ := Holds.freezeOwn (Holds.f2 H)
    refine KLoop.again (k + 1, _) ⟨rfl, got_succ rfl (by omega), trivial⟩ ⟨rfl, rfl, trivial⟩ ⟨hlt, J2, hJ.trans hJ2, cl ++ [(.slice A7 data.length c7, data)], ?_, fun c hc => ?_, ?_⟩ (by dsimp only; omega)
    · rw [List.map_append, hcl, ht]; rfl
    · rcases List.mem_append.1 hc with hc | hc
      · exact (hce c hc).mono hJ2
      · rw [List.mem_singleton] at hc; subst hc; exact hs
    · rw [List.length_append, flat_snoc]
      exact Holds.drop1 H
  · obtain rfl : k = cd.length := by omega
    repeat' (first
      | (show VcL _ _ _ _ _ _ _ _; first
      | refine VcL.pures tabOk rfl ?_
      | refine VcL.nil ?_)
      | (show Vc _ _ _ _ _ _; first
      | refine Vc.seq ?_
      | refine Vc.region ?_
      | refine Vc.ret ?_
      | refine Vc.exit ?_
      | (refine Vc.cond rfl (fun h => ?_) (fun h => ?_) <;> first | (exfalso; simp only [decide_eq_true_eq, decide_eq_false_iff_not, Bool.not_eq_true', Bool.not_eq_false'] at h; omega) | (with_reducible have hp := of_decide_eq_false h)))
      | (show KSeq _ _ _ _ _ _ _; first
      | refine KSeq.normal ?_
      | refine KSeq.exit ?_)
      | (show KBlock _ _ _ _ _ _; refine KBlock.here ?_)
      | refine KLoop.exit ?_
      | (show KEnd _ _ _ _ _ _ _; refine KEnd.fin (Or.inr rfl) ⟨_, (ResL.tmp rfl ResL.nil), ?_⟩))
    obtain ⟨J2, hJ2, H, hs⟩ := Holds.freezeOwn H
    refine ⟨J2, hJ.trans hJ2, ⟨cl, ?_, hs, fun c hc => (hce c hc).mono hJ2⟩, endJ_close _ hm hl H⟩
    rw [hcl, List.take_of_length_le (Nat.le_refl _), hm.codes]
theorem same_any {e r : Nat} {E : En} (H : Holds I w (endA I e E :: refA I r E :: L)) : Rets Try.prog F_tithinglaw12_same #[ptr e, ptr r] w fun u w' => u = .bool true ∧ Holds I w' (endA I e E :: refA I r E :: L) := by
  refine ok_tithinglaw12_same.rets rfl ?_
  repeat' (first
    | (show VcL _ _ _ _ _ _ _ _; first
      | refine VcL.pures tabOk rfl ?_
      | refine VcL.nil ?_
      | (show VcL _ _ _ _ (⟨_, .load _ _, _, _, _, _⟩ :: _) _ _ _; refine VcL.load1 tabOk rfl rfl rfl rfl rfl (by exact Holds.cell H rfl) ?_)
      | (show VcL _ _ _ _ (⟨_, .call ⟨.value (.func F_stream_End_Attention), _, _⟩, _, _, _, _⟩ :: _) _ _ _; (refine VcL.callF ok_stream_End_Attention rfl rfl rfl rfl (Rets.mono (Attention_any H) ?_); rintro _ w ⟨J, hJ, ⟨cl, hcl, hsl, hce⟩, H⟩; obtain ⟨A, ca, rfl, hca⟩ := hsl.form; obtain ⟨A1, c1, A2, c2, av, A3, c3, cd, hm, H⟩ := refJ_open (Holds.swap H); have hll : cl.length = cd.length := (by have := congrArg List.length (hcl.trans hm.codes.symm); rwa [List.length_map, List.length_map] at this))))
    | (show Vc _ _ _ _ _ _; first
      | refine Vc.seq ?_
      | refine Vc.region ?_
      | refine Vc.skip ?_
      | refine Vc.block ?_
      | (refine Vc.cond rfl (fun h => ?_) (fun h => ?_) <;> first | (exfalso; simp only [decide_eq_true_eq, decide_eq_false_iff_not, Bool.not_eq_true', Bool.not_eq_false'] at h; omega) | (with_reducible have hp := ndec_f h)))
    | (show KSeq _ _ _ _ _ _ _; refine KSeq.normal ?_))
  refine Vc.loopS [(0, _), (1, _), (5, _)] (fun k : Nat => [(6, .int .i64 k)]) (fun k w => k ≤ cl.length ∧ Holds J w (refQ r E ⟨.slice A1 E.out.length c1, .slice A2 E.inn.length c2, av, .slice A3 cd.length c3, cd⟩ (endA I e E :: L))) (fun k _ => cl.length - k) 0 ⟨rfl, trivial⟩ ⟨rfl, rfl, rfl, trivial⟩ ⟨Nat.zero_le _, H⟩ ?_
  clear H
  rintro k w ⟨hk, H⟩
  by_cases hlt : k < cl.length
  · have hlt2 : k < cd.length := by omega
    have hcdm := hm.ok.codes.1
    have hcdl : cd.length = E.codes.length := by rw [← hm.codes, List.length_map]
    obtain ⟨b1, o1, rfl, hr1⟩ := hsl.at (by omega)
    have hr1 := hr1.elem bkC_len (atD_get hlt)
    obtain ⟨b2, o2, _, e4, hc2⟩ := Holds.own_some (show 0 < cd.length by omega) (Holds.f3 H)
    injection e4 with e5 e6 e7
    subst e5; subst e7
    obtain ⟨b2', o2', h4, hr⟩ := SlR.at (SlR.mem (e := 22) H (by repeat (first | exact .head _ | apply List.Mem.tail))) (show 0 < cd.length by omega)
    injection h4 with h4
    injection h4 with h5 h6 _
    subst h5; subst h6
    have hr2 := hr.elem bkC_len (atD_get hlt2)
    clear hr
    have hm1 := hce _ (atD_mem hlt)
    have hm2 := (hm.each _ (atD_mem hlt2)).mono hJ
    have he : (atD cl k).2 = (atD cd k).2 := by
      have h1 : (cl.map (·.2))[k]? = (cd.map (·.2))[k]? := by rw [hcl, hm.codes]
      rw [List.getElem?_map, List.getElem?_map, atD_get hlt, atD_get hlt2] at h1
      exact Option.some.inj h1
    obtain ⟨⟨d1, f1⟩, hx1⟩ : ∃ x, atD cl k = x := ⟨_, rfl⟩
    obtain ⟨⟨d2, f2⟩, hx2⟩ : ∃ x, atD cd k = x := ⟨_, rfl⟩
    rw [hx1] at hr1 hm1 he
    rw [hx2] at hr2 hm2 he
    dsimp only at he
    subst he
    have hm1 : SlI J d1 1 f1.length (byL f1) := hm1
    have hm2 : SlI J d2 1 f1.length (byL f1) := hm2
    obtain ⟨D1, q1, rfl, hq1⟩ := hm1.form
    obtain ⟨D2, q2, rfl, hq2⟩ := hm2.form
    have hr1 : RdW J L b1 (o1 + k * 1) [.slice D1 f1.length q1] := RdI.toW hr1
    have hr1 := hr1.ups [blk r 88 (refV E ⟨.slice A1 E.out.length c1, .slice A2 E.inn.length c2, av, .slice (some ⟨b2, o2, none⟩) cd.length c3, cd⟩), own (.slice A1 E.out.length c1) 105 2 E.out.length (E.out.flatMap bfC), own (.slice A2 E.inn.length c2) 105 2 E.inn.length (E.inn.flatMap bfC), own (.slice (some ⟨b2, o2, none⟩) cd.length c3) 22 1 cd.length (cd.flatMap bkC), endA I e E]
    have e4 : decide (f1 = f1) = true := decide_eq_true rfl
    repeat' (first
      | rw [ofBytes_eq]
      | rw [e4]
      | (refine EfO.eff rfl rfl rfl rfl (OpE.ofBytes (m := f1.length) (bs := f1) tabOk rfl rfl rfl rfl rfl rfl rfl rfl (SlR.src (SlI.toR hm1) H) ⟨_, _, rfl⟩) ?_; rintro _ w ⟨rfl, he⟩; subst he; refine ⟨H, ?_⟩)
      | (refine VcD.eff rfl rfl rfl rfl (OpE.ofBytes (m := f1.length) (bs := f1) tabOk rfl rfl rfl rfl rfl rfl rfl rfl (SlR.src (SlI.toR hm1) H) ⟨_, _, rfl⟩) ?_; rintro _ w ⟨rfl, he⟩; subst he; refine ⟨H, ?_⟩)
      | (refine EfO.eff rfl rfl rfl rfl (OpE.ofBytes (m := f1.length) (bs := f1) tabOk rfl rfl rfl rfl rfl rfl rfl rfl (SlR.src (SlI.toR hm2) H) ⟨_, _, rfl⟩) ?_; rintro _ w ⟨rfl, he⟩; subst he; refine ⟨H, ?_⟩)
      | (refine VcD.eff rfl rfl rfl rfl (OpE.ofBytes (m := f1.length) (bs := f1) tabOk rfl rfl rfl rfl rfl rfl rfl rfl (SlR.src (SlI.toR hm2) H) ⟨_, _, rfl⟩) ?_; rintro _ w ⟨rfl, he⟩; subst he; refine ⟨H, ?_⟩)
      | (show VcL _ _ _ _ _ _ _ _; first
      | refine VcL.pures tabOk rfl ?_
      | refine VcL.nil ?_)
      | (show VcD _ _ _ _ _ _ _ _ _; first
      | refine VcD.pures tabOk rfl ?_
      | refine VcD.done ?_
      | (show VcD _ _ _ _ _ (.pure _ _) _ _ _; refine VcD.indexAddr tabOk rfl rfl rfl rfl rfl rfl rfl (by omega) (by omega) ?_)
      | (show VcD _ _ _ _ _ (.take _ _) _ _ _; refine VcD.load1 tabOk rfl rfl rfl rfl rfl rfl (by intro w_ hw_; first | exact Holds.cell hw_ rfl | exact RdW.get0 (by assumption) rfl hw_) (by exact rfl) ?_)
      | (show VcD _ _ _ _ _ (.two _ _ _ _) _ _ _; refine VcD.two ?_ ?_))
      | (show Vc _ _ _ _ _ _; first
      | refine Vc.seq ?_
      | refine Vc.region ?_
      | refine Vc.condF rfl ?_
      | refine Vc.skip ?_
      | refine Vc.block ?_
      | refine Vc.drawnH (id := 7) H (.pure 0 (.pure 1 (.pure 5 (.pure 6 (.pure 7 (.pure 9 (.pure 2 (.take 3 (.take 8 (.pure 10 (.take 11 (.two 4 12 (.only 12 (.pure 13 .done)) (.only 4 (.pure 13 .done)))))))))))))) mixed (by kernel_rfl) (fun w H => ?_)
      | (refine Vc.cond rfl (fun h => ?_) (fun h => ?_) <;> first | (exfalso; simp only [decide_eq_true_eq, decide_eq_false_iff_not, Bool.not_eq_true', Bool.not_eq_false'] at h; omega) | (with_reducible have hp := of_decide_eq_true h)))
      | (show KSeq _ _ _ _ _ _ _; refine KSeq.normal ?_)
      | (show KBlock _ _ _ _ _ _; refine KBlock.normal ?_))
    all_goals exact KLoop.again (k + 1) ⟨got_succ rfl (by omega), trivial⟩ ⟨rfl, rfl, rfl, trivial⟩ ⟨hlt, H⟩ (by omega)
  · obtain rfl : k = cl.length := by omega
    have H := Holds.less H hJ
    have e1 : decide ((E.state : Int) = (E.state : Int)) = true := decide_eq_true rfl
    have e2 : decide ((E.out.length : Int) = (E.out.length : Int)) = true := decide_eq_true rfl
    have e3 : decide ((E.inn.length : Int) = (E.inn.length : Int)) = true := decide_eq_true rfl
    repeat' (first
      | rw [e1]
      | rw [e2]
      | rw [e3]
      | (show VcL _ _ _ _ _ _ _ _; first
      | refine VcL.pures tabOk rfl ?_
      | refine VcL.nil ?_)
      | (show VcD _ _ _ _ _ _ _ _ _; first
      | refine VcD.pures tabOk rfl ?_
      | refine VcD.done ?_
      | (show VcD _ _ _ _ _ (.pure _ _) _ _ _; (refine VcD.guardP rfl rfl rfl rfl rfl (fun h => ?_) (fun h => ?_) <;> first | (cases h; done) | skip))
      | (show VcD _ _ _ _ _ (.take _ _) _ _ _; refine VcD.load1 tabOk rfl rfl rfl rfl rfl rfl (by intro w_ hw_; exact hw_ _ _ rfl) (by exact rfl) ?_)
      | (show VcD _ _ _ _ _ (.only _ _) _ _ _; first
      | (refine VcD.callF (f := F_stream_End_State) rfl ok_stream_End_State rfl rfl rfl rfl (Rets.mono (State_any (Holds.f4 H)) ?_); rintro _ w ⟨rfl, H⟩; refine ⟨(by exact Holds.rdWhole (Holds.f1 H)), ?_⟩)
      | (refine VcD.callF (f := F_stream_End_Waiting) rfl ok_stream_End_Waiting rfl rfl rfl rfl (Rets.mono (Waiting_any H) ?_); rintro _ w ⟨rfl, H⟩; refine ⟨(by exact Holds.rdWhole (Holds.f1 H)), ?_⟩)
      | (refine VcD.callF (f := F_stream_End_Ready) rfl ok_stream_End_Ready rfl rfl rfl rfl (Rets.mono (Ready_any H) ?_); rintro _ w ⟨rfl, H⟩; refine ⟨(by exact Holds.rdWhole (Holds.f1 H)), ?_⟩)))
      | (show Vc _ _ _ _ _ _; first
      | refine Vc.seq ?_
      | refine Vc.region ?_
      | refine Vc.ret ?_
      | refine Vc.exit ?_
      | (refine Vc.drawn (id := 9) (.pure 0 (.pure 2 (.pure 3 (.pure 4 (.take 5 (.only 1 (.pure 6 (.pure 7 (.pure 8 (.pure 10 (.pure 11 (.pure 12 (.take 13 (.pure 14 (.only 9 (.pure 15 (.pure 16 (.pure 17 (.pure 18 (.pure 20 (.pure 21 (.pure 22 (.take 23 (.pure 24 (.only 19 (.pure 25 (.pure 26 (.pure 27 .done)))))))))))))))))))))))))))) (.one (fun w => Rd w r 0 (refV E ⟨.slice A1 E.out.length c1, .slice A2 E.inn.length c2, av, .slice A3 cd.length c3, cd⟩))) mixed (by kernel_rfl) (by exact Holds.rdWhole (Holds.drew H _)) ?_; have H := H.drew (w.drawn + 1))
      | (refine Vc.cond rfl (fun h => ?_) (fun h => ?_) <;> first | (exfalso; simp only [decide_eq_true_eq, decide_eq_false_iff_not, Bool.not_eq_true', Bool.not_eq_false'] at h; omega) | (with_reducible have hp := of_decide_eq_false h)))
      | (show KSeq _ _ _ _ _ _ _; first
      | refine KSeq.normal ?_
      | refine KSeq.exit ?_)
      | (show KBlock _ _ _ _ _ _; refine KBlock.here ?_)
      | refine KLoop.exit ?_
      | (show KEnd _ _ _ _ _ _ _; refine KEnd.fin (Or.inr rfl) ⟨_, (ResL.tmp rfl ResL.nil), ?_⟩))
    all_goals exact ⟨rfl, Holds.swap (ref_close _ hm (Holds.re [1, 1, 1, 1, 0] H rfl))⟩
theorem sentS_len (E : En) : ∀ (g at_ : Nat) (l : List Bf), (sentG E g at_ l).length ≤ g
  | 0, _, _ => Nat.zero_le _
  | g + 1, at_, [] => Nat.zero_le _
  | g + 1, at_, x :: r => by
    unfold sentG
    dsimp only
    rw [List.length_cons]
    have := sentS_len E g (at_ + cutN (x :: r) 60) ((x :: r).drop (cutN (x :: r) 60))
    omega
theorem tickO_len {E : En} (h : E.out.length ≤ 200) : (tickO E).length ≤ 202 := by
  rw [tickO_eq, List.length_append, List.length_append]
  have h1 : (tickR E).length ≤ 1 := by unfold tickR; split <;> simp
  have h2 : (tickN E).length ≤ 1 := by unfold tickN; split <;> simp
  have h3 : (tickB E).length ≤ 200 := by
    unfold tickB
    split
    · exact Nat.le_trans (sentS_len _ _ _ _) (by omega)
    · split <;> simp
  omega
theorem tickS_len {E : En} (h : E.out.length ≤ 200) : (tickS E).2.length ≤ 202 := by
  unfold tickS
  split
  · exact Nat.zero_le _
  · split
    · exact Nat.zero_le _
    · split
      · exact Nat.zero_le _
      · split
        · show 1 ≤ 202; omega
        · refine tickO_len ?_
          show (ageS E).out.length ≤ 200
          rw [(ageS_kin E).out]; exact h
/-- What the deeds without data do. -/
def doE (d : Int) (E : En) : En := if d = 0 then (beginS E 2).1 else if d = 1 then (beginS E 1).1 else if d = 4 then (resetS E).1 else (tickS E).1
theorem do_any {e r : Nat} {E : En} (H : Holds I w (endA I e E :: refA I r E :: L)) (hq : E.quiet < 1099511627776) (hage4 : E.state = 4 ∨ E.age ≤ 40) (ho : E.out.length ≤ 200) {d : Int} (hd : d ≠ 2 ∧ d ≠ 3 ∧ d ≠ 5 ∧ d ≠ 6 ∧ d ≠ 7) :
    Rets Try.prog F_tithinglaw12_do #[ptr e, ptr r, .agg #[.int .i64 d, .int .i64 0, .slice none 0 0, .int .i64 0, .int .i64 0, .int .i64 0, .int .i64 0, .slice none 0 0]] w fun u w' => u = .bool true ∧ ∃ J, Imm.Le I J ∧ Holds J w' (endA J e (doE d E) :: refA J r (doE d E) :: L) := by
  by_cases h0 : d = 0
  · subst h0
    refine ok_tithinglaw12_do.rets rfl ?_
    repeat' (first
      | rw [decide_eq_true (rfl : (beginS E 2).2 = (beginS E 2).2)]
      | (show VcL _ _ _ _ _ _ _ _; first
      | refine VcL.pures tabOk rfl ?_
      | refine VcL.nil ?_
      | (show VcL _ _ _ _ (⟨_, .load _ _, _, _, _, _⟩ :: _) _ _ _; refine VcL.load1 tabOk rfl rfl rfl rfl rfl (by exact Holds.cell H rfl) ?_)
      | refine VcL.box H rfl rfl rfl rfl rfl (fun b w H => ?_)
      | (show VcL _ _ _ _ (⟨_, .call ⟨.value (.func F_stream_End_Open), _, _⟩, _, _, _, _⟩ :: _) _ _ _; (refine VcL.callF ok_stream_End_Open rfl rfl rfl rfl (Rets.mono (Open_any (Holds.f1 H)) ?_); rintro _ w ⟨rfl, H⟩))
      | (show VcL _ _ _ _ (⟨_, .call ⟨.value (.func F_tithingref12_End_Open), _, _⟩, _, _, _, _⟩ :: _) _ _ _; (refine VcL.callF ok_tithingref12_End_Open rfl rfl rfl rfl (Rets.mono (OpenR_any (Holds.f2 H)) ?_); rintro _ w ⟨rfl, H⟩)))
      | (show Vc _ _ _ _ _ _; first
      | refine Vc.seq ?_
      | refine Vc.region ?_
      | refine Vc.condT rfl ?_
      | refine Vc.ret ?_
      | refine Vc.block ?_)
      | (show KSeq _ _ _ _ _ _ _; first
      | refine KSeq.normal ?_
      | refine KSeq.ret ?_)
      | (show KBlock _ _ _ _ _ _; refine KBlock.ret ?_)
      | (show KEnd _ _ _ _ _ _ _; refine KEnd.fin (Or.inr rfl) ⟨_, (ResL.tmp rfl ResL.nil), ?_⟩))
    exact ⟨rfl, I, Imm.Le.rfl' I, Holds.drop2 (Holds.re [1, 0] H rfl)⟩
  by_cases h1 : d = 1
  · subst h1
    refine ok_tithinglaw12_do.rets rfl ?_
    repeat' (first
      | rw [decide_eq_true (rfl : (beginS E 1).2 = (beginS E 1).2)]
      | (show VcL _ _ _ _ _ _ _ _; first
      | refine VcL.pures tabOk rfl ?_
      | refine VcL.nil ?_
      | (show VcL _ _ _ _ (⟨_, .load _ _, _, _, _, _⟩ :: _) _ _ _; refine VcL.load1 tabOk rfl rfl rfl rfl rfl (by exact Holds.cell H rfl) ?_)
      | refine VcL.box H rfl rfl rfl rfl rfl (fun b w H => ?_)
      | (show VcL _ _ _ _ (⟨_, .call ⟨.value (.func F_stream_End_Listen), _, _⟩, _, _, _, _⟩ :: _) _ _ _; (refine VcL.callF ok_stream_End_Listen rfl rfl rfl rfl (Rets.mono (Listen_any (Holds.f1 H)) ?_); rintro _ w ⟨rfl, H⟩))
      | (show VcL _ _ _ _ (⟨_, .call ⟨.value (.func F_tithingref12_End_Listen), _, _⟩, _, _, _, _⟩ :: _) _ _ _; (refine VcL.callF ok_tithingref12_End_Listen rfl rfl rfl rfl (Rets.mono (ListenR_any (Holds.f2 H)) ?_); rintro _ w ⟨rfl, H⟩)))
      | (show Vc _ _ _ _ _ _; first
      | refine Vc.seq ?_
      | refine Vc.region ?_
      | refine Vc.condT rfl ?_
      | refine Vc.condF rfl ?_
      | refine Vc.ret ?_
      | refine Vc.block ?_)
      | (show KSeq _ _ _ _ _ _ _; first
      | refine KSeq.normal ?_
      | refine KSeq.ret ?_)
      | (show KBlock _ _ _ _ _ _; refine KBlock.ret ?_)
      | (show KEnd _ _ _ _ _ _ _; refine KEnd.fin (Or.inr rfl) ⟨_, (ResL.tmp rfl ResL.nil), ?_⟩))
    exact ⟨rfl, I, Imm.Le.rfl' I, Holds.drop2 (Holds.re [1, 0] H rfl)⟩
  by_cases h4 : d = 4
  · subst h4
    refine ok_tithinglaw12_do.rets rfl ?_
    repeat' (first
      | rw [decide_eq_true (rfl : (resetS E).2 = (resetS E).2)]
      | (show VcL _ _ _ _ _ _ _ _; first
      | refine VcL.pures tabOk rfl ?_
      | refine VcL.nil ?_
      | (show VcL _ _ _ _ (⟨_, .load _ _, _, _, _, _⟩ :: _) _ _ _; refine VcL.load1 tabOk rfl rfl rfl rfl rfl (by exact Holds.cell H rfl) ?_)
      | refine VcL.box H rfl rfl rfl rfl rfl (fun b w H => ?_)
      | (show VcL _ _ _ _ (⟨_, .call ⟨.value (.func F_stream_End_Reset), _, _⟩, _, _, _, _⟩ :: _) _ _ _; (refine VcL.callF ok_stream_End_Reset rfl rfl rfl rfl (Rets.mono (Reset_any (Holds.f1 H)) ?_); rintro _ w ⟨rfl, H⟩))
      | (show VcL _ _ _ _ (⟨_, .call ⟨.value (.func F_tithingref12_End_Reset), _, _⟩, _, _, _, _⟩ :: _) _ _ _; (refine VcL.callF ok_tithingref12_End_Reset rfl rfl rfl rfl (Rets.mono (ResetR_any (Holds.f2 H)) ?_); rintro _ w ⟨rfl, H⟩)))
      | (show Vc _ _ _ _ _ _; first
      | refine Vc.seq ?_
      | refine Vc.region ?_
      | refine Vc.condT rfl ?_
      | refine Vc.condF rfl ?_
      | refine Vc.ret ?_
      | refine Vc.block ?_)
      | (show KSeq _ _ _ _ _ _ _; first
      | refine KSeq.normal ?_
      | refine KSeq.ret ?_)
      | (show KBlock _ _ _ _ _ _; refine KBlock.ret ?_)
      | (show KEnd _ _ _ _ _ _ _; refine KEnd.fin (Or.inr rfl) ⟨_, (ResL.tmp rfl ResL.nil), ?_⟩))
    exact ⟨rfl, I, Imm.Le.rfl' I, Holds.drop2 (Holds.re [1, 0] H rfl)⟩
  have hd9 : doE d E = (tickS E).1 := by unfold doE; rw [if_neg h0, if_neg h1, if_neg h4]
  rw [hd9]
  have hlen := tickS_len ho
  obtain ⟨d1, d2, d3, d5, d6⟩ := hd
  have q0 : decide (d = 0) = false := decide_eq_false h0
  have q1 : decide (d = 1) = false := decide_eq_false h1
  have q2 : decide (d = 2) = false := decide_eq_false d1
  have q3 : decide (d = 3) = false := decide_eq_false d2
  have q4 : decide (d = 4) = false := decide_eq_false h4
  have q5 : decide (d = 5) = false := decide_eq_false d3
  have q6 : decide (d = 6) = false := decide_eq_false d5
  have q7 : decide (d = 7) = false := decide_eq_false d6
  clear h0 h1 h4 d1 d2 d3 d5 d6
  obtain ⟨T, hT⟩ : ∃ T, tickS E = T := ⟨_, rfl⟩
  have htk := fun (w : World) (L : List Asn) (H : Holds I w (endA I e E :: L)) => Tick_any H hq hage4
  have htr := fun (J : Imm) (w : World) (L : List Asn) (H : Holds J w (refA J r E :: L)) => TickR_any H hq hage4
  rw [hT] at htk htr hlen ⊢
  refine ok_tithinglaw12_do.rets rfl ?_
  repeat' (first
    | rw [q0]
    | rw [q1]
    | rw [q2]
    | rw [q3]
    | rw [q4]
    | rw [q5]
    | rw [q6]
    | rw [q7]
    | (show VcL _ _ _ _ _ _ _ _; first
      | refine VcL.pures tabOk rfl ?_
      | refine VcL.nil ?_
      | (show VcL _ _ _ _ (⟨_, .load _ _, _, _, _, _⟩ :: _) _ _ _; refine VcL.load1 tabOk rfl rfl rfl rfl rfl (by exact Holds.cell H rfl) ?_)
      | refine VcL.box H rfl rfl rfl rfl rfl (fun b w H => ?_)
      | (show VcL _ _ _ _ (⟨_, .call ⟨.value (.func F_stream_End_Tick), _, _⟩, _, _, _, _⟩ :: _) _ _ _; (refine VcL.callF ok_stream_End_Tick rfl rfl rfl rfl (Rets.mono (htk _ _ (Holds.f1 H)) ?_); rintro _ w ⟨J, sv, hJ, rfl, hfr, H⟩))
      | (show VcL _ _ _ _ (⟨_, .call ⟨.value (.func F_tithingref12_End_Tick), _, _⟩, _, _, _, _⟩ :: _) _ _ _; (refine VcL.callF ok_tithingref12_End_Tick rfl rfl rfl rfl (Rets.mono (htr _ _ _ (Holds.refUp hJ (Holds.f2 H))) ?_); rintro _ w ⟨J2, hJ2, hfr2, H⟩))
      | (show VcL _ _ _ _ (⟨_, .call ⟨.value (.func F_tithingref12_SameFrames), _, _⟩, _, _, _, _⟩ :: _) _ _ _; (refine VcL.callF ok_tithingref12_SameFrames rfl rfl rfl rfl (Rets.mono (SameFrames_any H (hfr.mono hJ2) hfr2 (by omega)) ?_); rintro _ w ⟨rfl, H⟩))
      | (refine VcL.guard rfl rfl rfl rfl (fun h => ?_) (fun h => ?_) <;> first | (cases h; done) | skip))
    | (show Vc _ _ _ _ _ _; first
      | refine Vc.seq ?_
      | refine Vc.region ?_
      | refine Vc.condF rfl ?_
      | refine Vc.ret ?_
      | refine Vc.skip ?_
      | refine Vc.block ?_)
    | (show KSeq _ _ _ _ _ _ _; refine KSeq.normal ?_)
    | (show KBlock _ _ _ _ _ _; refine KBlock.normal ?_)
    | (show KEnd _ _ _ _ _ _ _; refine KEnd.fin (Or.inr rfl) ⟨_, (ResL.tmp rfl ResL.nil), ?_⟩))
  exact ⟨rfl, J2, hJ.trans hJ2, Holds.drop2 (Holds.endUp hJ2 (Holds.re [1, 0] H rfl))⟩
end Go.Proofs.Ytpfgcchammlpgaa.V
