/- The document's end: attention comes. -/
import Derived.Test.YtpfgcchammlpgaaVW
namespace Go.Proofs.Ytpfgcchammlpgaa.V
open Go Go.Proofs.YtpfgcchammlpgaaV
set_option linter.unusedVariables false
set_option linter.unusedSimpArgs false
set_option maxHeartbeats 1000000
set_option maxRecDepth 4000
attribute [local irreducible] IntKind.wrap refA
variable {I : Imm} {w : World} {L : List Asn}
theorem own0 {b e sz : Nat} {x : List Value} (H : Holds I w (Go.Proofs.YtpfgcchammlpgaaV.pt b (.cells (repL 0 x).toArray e (0, 0)) :: L)) : Holds I w (own (.slice (some ⟨b, 0, none⟩) 0 0) e sz 0 [] :: L) := by
  have H2 := Holds.pt_own (sz := sz) (m := 0) (by rw [repL_length, Nat.zero_mul, Nat.zero_mul]) H
  have e : repL 0 x = [] := List.eq_nil_of_length_eq_zero (by rw [repL_length, Nat.zero_mul])
  rw [e] at H2
  exact H2
theorem attentionR_any {e : Nat} {E : En} (H : Holds I w (refA I e E :: L)) {f : Fr} {dv : Value} (hdv : SlI I dv 1 f.data.length (byL f.data)) (h60 : f.data.length ≤ 60) (hsq : 0 ≤ f.seq ∧ f.seq < 65536) (hcl : E.codes.length < 1000000) :
    Rets Try.prog F_tithingref12_End_attention #[ptr e, frV f dv] w fun u w' => ∃ J, Imm.Le I J ∧ FrsI J u (heedS E f).2 ∧ Holds J w' (refA J e (heedS E f).1 :: L) := by
  obtain ⟨A, cap, rfl, hcap⟩ := hdv.form
  obtain ⟨A1, c1, A2, c2, av, A3, c3, cd, hm, HB⟩ := ref_open H
  clear H
  have H := HB
  clear HB
  have ok := hm.ok
  have hnx := ok.next
  have hcdl : cd.length = E.codes.length := by rw [← hm.codes, List.length_map]
  obtain ⟨kind, id, seq, n, data⟩ := f
  dsimp only at hdv h60 hsq hcap
  obtain ⟨sq, rfl⟩ := Int.eq_ofNat_of_zero_le hsq.1
  have e1 : IntKind.i64.wrap ((E.next : Int) + 1) = ((E.next + 1 : Nat) : Int) := by rw [wrap_i64 (by omega) (by omega)]; omega
  have e2 : ((E.next + 1 : Nat) : Int).tmod (Int.ofNat (65535 + 1)) = (((E.next + 1) % 65536 : Nat) : Int) := by rw [Int.tmod_eq_emod_of_nonneg (by omega)]; rfl
  have e3 : IntKind.i64.wrap ((E.next : Int) + 65535) = ((E.next + 65535 : Nat) : Int) := by rw [wrap_i64 (by omega) (by omega)]; omega
  have e4 : ((E.next + 65535 : Nat) : Int).tmod (Int.ofNat (65535 + 1)) = (((E.next + 65535) % 65536 : Nat) : Int) := by rw [Int.tmod_eq_emod_of_nonneg (by omega)]; rfl
  by_cases h1 : sq = E.next
  · have hE : heedS E ⟨kind, id, (sq : Nat), n, data⟩ = ({ E with codes := E.codes ++ [data], next := (E.next + 1) % 65536 }, [frameS E 8 (sq : Nat) []]) := if_pos (by show ((sq : Nat) : Int) = _; omega)
    rw [hE]
    have d1 : decide ((sq : Int) = (E.next : Int)) = true := decide_eq_true (by omega)
    refine ok_tithingref12_End_attention.rets rfl ?_
    repeat' (first
      | rw [d1]
      | rw [e1]
      | rw [e2]
      | (refine VcD.append (m := data.length) (ds := byL data) tabOk rfl rfl rfl rfl rfl H (SlI.src hdv H) (byL_one data) (by show (0 + _) * 1 ≤ _; omega) rfl rfl rfl (fun v_ w H => ⟨⟨Holds.rdWhole (Holds.f2 H), Holds.rdWhole (Holds.f1 H)⟩, ?_⟩); obtain ⟨_, A7, c7, rfl⟩ := Holds.own_len H; rw [List.nil_append] at H)
      | (refine VcD.append tabOk rfl rfl rfl rfl rfl (Holds.f6 H) (Src.slice rfl (Holds.pt_rd H)) (bk_one (.slice A7 (0 + data.length) c7, data) rfl) (by show (cd.length + 1) * 24 ≤ _; omega) rfl rfl rfl (fun v_ w H => ⟨⟨Holds.rdWhole (Holds.f4 H), Holds.rdWhole (Holds.f3 H)⟩, ?_⟩); obtain ⟨_, A8, c8, rfl⟩ := Holds.own_len H)
      | (refine VcD.eff rfl rfl rfl rfl (OpE.buildSliceP (e := 5) tabOk H rfl rfl rfl rfl) ?_; rintro _ w ⟨b_, rfl, H⟩; refine ⟨⟨Holds.rdWhole (Holds.f2 H), Holds.rdWhole (Holds.f1 H)⟩, ?_⟩; have H := own0 (sz := 1) H)
      | (show VcL _ _ _ _ _ _ _ _; first
      | refine VcL.pures tabOk rfl ?_
      | refine VcL.nil ?_
      | (show VcL _ _ _ _ (⟨_, .load _ _, _, _, _, _⟩ :: _) _ _ _; refine VcL.load1 tabOk rfl rfl rfl rfl rfl (by first | exact Holds.cell H rfl | exact Holds.cell (Holds.f1 H) rfl | exact Holds.cell (Holds.f4 H) rfl) ?_)
      | refine VcL.box H rfl rfl rfl rfl rfl (fun b w H => ?_)
      | refine VcL.buildSlice tabOk H rfl rfl rfl rfl rfl rfl (fun sv w H => ?_)
      | (show VcL _ _ _ _ (⟨_, .store _ _ _, _, _, _, _⟩ :: _) _ _ _; refine VcL.store tabOk rfl (by exact H) rfl rfl (by exact rfl) (by exact rfl) (by exact rfl) (by exact rfl) (fun w H => ?_))
      | (show VcL _ _ _ _ (⟨_, .call ⟨.value (.func F_tithingref12_End_frame), _, _⟩, _, _, _, _⟩ :: _) _ _ _; (refine VcL.callF ok_tithingref12_End_frame rfl rfl rfl rfl (Rets.mono (frameR_any (E := { E with codes := E.codes ++ [data], next := (E.next + 1) % 65536 }) (m := ⟨.slice A1 E.out.length c1, .slice A2 E.inn.length c2, av, .slice A8 (cd.length + 1) c8, cd⟩) H (RdW.mem (by repeat (exact .head _)))) ?_); rintro _ w ⟨rfl, H⟩)))
      | (show VcD _ _ _ _ _ _ _ _ _; first
      | refine VcD.pures tabOk rfl ?_
      | refine VcD.done ?_
      | (show VcD _ _ _ _ _ (.take _ _) _ _ _; refine VcD.load1 tabOk rfl rfl rfl rfl rfl rfl (by intro w_ hw_; first | exact hw_.1 _ _ rfl | exact hw_.2 _ _ rfl) (by exact rfl) ?_)
      | (show VcD _ _ _ _ _ (.only _ _) _ _ _; first
      | (refine VcD.eff rfl rfl rfl rfl (OpE.buildSliceP tabOk H rfl rfl rfl rfl) ?_; rintro _ w ⟨b_, rfl, H⟩; refine ⟨(by (refine ⟨?_, ?_⟩ <;> first | exact Holds.rdWhole (Holds.f2 H) | exact Holds.rdWhole (Holds.f3 H))), ?_⟩)
      | (refine VcD.eff rfl rfl rfl rfl (OpE.store tabOk (by exact (Holds.f4 H)) rfl rfl rfl (by exact rfl) (by exact rfl) (by exact rfl) (by exact rfl)) ?_; rintro _ w ⟨_, H⟩; refine ⟨(by trivial), ?_⟩)))
      | (show Vc _ _ _ _ _ _; first
      | refine Vc.seq ?_
      | refine Vc.region ?_
      | refine Vc.condT rfl ?_
      | refine Vc.ret ?_
      | refine Vc.block ?_
      | (refine Vc.drawn (id := 4) (.pure 0 (.pure 1 (.pure 2 (.pure 3 (.pure 6 (.take 4 (.take 7 (.only 5 (.only 8 (.only 9 (.only 10 (.pure 11 (.pure 12 (.only 13 .done)))))))))))))) (.till (fun w => Rd w e 0 (refV E ⟨.slice A1 E.out.length c1, .slice A2 E.inn.length c2, av, .slice A3 cd.length c3, cd⟩) ∧ Rd w b 0 [.int .i64 kind, .int .i64 id, .int .i64 (sq : Nat), .int .i64 n, .slice A data.length cap]) 13 (.one (fun _ => True))) mixed (by kernel_rfl) (by (refine ⟨?_, ?_⟩ <;> first | exact Holds.rdWhole (Holds.drew H _) | exact Holds.rdWhole (Holds.f1 (Holds.drew H _)))) ?_; have H := H.drew (w.drawn + 1)))
      | (show KSeq _ _ _ _ _ _ _; refine KSeq.normal ?_)
      | (show KBlock _ _ _ _ _ _; refine KBlock.normal ?_)
      | (show KEnd _ _ _ _ _ _ _; refine KEnd.fin (Or.inr rfl) ⟨_, (ResL.tmp rfl ResL.nil), ?_⟩))
    obtain ⟨J1, hJ1, H, hsv⟩ := Holds.freezeOwn H
    obtain ⟨J2, hJ2, H, hs7⟩ := Holds.freezeOwn (Holds.f3 H)
    have hs7 : SlI J2 (.slice A7 data.length c7) 1 data.length (byL data) := by rw [Nat.zero_add] at hs7; exact hs7
    rw [Nat.zero_add] at H
    refine ⟨J2, hJ1.trans hJ2, frsI_one (f := frameS E 8 (sq : Nat) []) SlI.nil (hsv.mono hJ2), ref_close (E := { E with codes := E.codes ++ [data], next := (E.next + 1) % 65536 }) ⟨.slice A1 E.out.length c1, .slice A2 E.inn.length c2, av, .slice A8 (cd.length + 1) c8, cd ++ [(.slice A7 data.length c7, data)]⟩ ⟨{ ok with next := Nat.mod_lt _ (by decide), codes := ⟨by show (E.codes ++ [data]).length ≤ _; rw [List.length_append]; show _ + 1 ≤ _; omega, fun b hb => ?_⟩ }, hm.still, hm.news.mono (hJ1.trans hJ2), ?_, fun c hc => ?_⟩ ?_⟩
    · rcases List.mem_append.1 hb with hb | hb
      · exact ok.codes.2 b hb
      · rw [List.mem_singleton] at hb; rw [hb]; exact h60
    · rw [List.map_append, hm.codes]; rfl
    · rcases List.mem_append.1 hc with hc | hc
      · exact (hm.each c hc).mono (hJ1.trans hJ2)
      · rw [List.mem_singleton] at hc; subst hc; exact hs7
    · show Holds J2 w (blk e _ _ :: own _ _ 2 E.out.length _ :: own _ _ 2 E.inn.length _ :: own _ _ 1 (cd ++ [((.slice A7 data.length c7, data) : Vb)]).length ((cd ++ [((.slice A7 data.length c7, data) : Vb)]).flatMap bkC) :: L)
      rw [List.length_append, flat_snoc]
      exact Holds.re [0, 1, 1, 0] (Holds.drop2 (Holds.drop2 H)) rfl
  · have d1 : decide ((sq : Int) = (E.next : Int)) = false := decide_eq_false (by omega)
    by_cases h2 : (sq + 1) % 65536 = E.next
    · have hE : heedS E ⟨kind, id, (sq : Nat), n, data⟩ = (E, [frameS E 8 (sq : Nat) []]) := by
        unfold heedS
        rw [if_neg (by show ¬ ((sq : Nat) : Int) = _; omega), if_neg (fun h => h (by show (sq + 1) % 65536 = _; exact h2))]
      rw [hE]
      have d2 : decide ((sq : Int) = (((E.next + 65535) % 65536 : Nat) : Int)) = true := decide_eq_true (by omega)
      refine ok_tithingref12_End_attention.rets rfl ?_
      repeat' (first
        | rw [d1]
        | rw [e3]
        | rw [e4]
        | rw [d2]
        | (show VcL _ _ _ _ _ _ _ _; first
      | refine VcL.pures tabOk rfl ?_
      | refine VcL.nil ?_
      | (show VcL _ _ _ _ (⟨_, .load _ _, _, _, _, _⟩ :: _) _ _ _; refine VcL.load1 tabOk rfl rfl rfl rfl rfl (by first | exact Holds.cell H rfl | exact Holds.cell (Holds.f1 H) rfl) ?_)
      | refine VcL.box H rfl rfl rfl rfl rfl (fun b w H => ?_)
      | refine VcL.buildSlice tabOk H rfl rfl rfl rfl rfl rfl (fun sv w H => ?_)
      | (show VcL _ _ _ _ (⟨_, .call ⟨.value (.func F_tithingref12_End_frame), _, _⟩, _, _, _, _⟩ :: _) _ _ _; (refine VcL.callF ok_tithingref12_End_frame rfl rfl rfl rfl (Rets.mono (frameR_any (E := E) (m := ⟨.slice A1 E.out.length c1, .slice A2 E.inn.length c2, av, .slice A3 cd.length c3, cd⟩) H (RdW.mem (by repeat (first | exact .head _ | apply List.Mem.tail)))) ?_); rintro _ w ⟨rfl, H⟩)))
        | (show Vc _ _ _ _ _ _; first
      | refine Vc.seq ?_
      | refine Vc.region ?_
      | refine Vc.condT rfl ?_
      | refine Vc.condF rfl ?_
      | refine Vc.ret ?_
      | refine Vc.skip ?_
      | refine Vc.block ?_)
        | (show KSeq _ _ _ _ _ _ _; refine KSeq.normal ?_)
        | (show KBlock _ _ _ _ _ _; refine KBlock.normal ?_)
        | (show KEnd _ _ _ _ _ _ _; refine KEnd.fin (Or.inr rfl) ⟨_, (ResL.tmp rfl ResL.nil), ?_⟩))
      obtain ⟨J1, hJ1, H, hsv⟩ := Holds.freezeOwn H
      exact ⟨J1, hJ1, frsI_one (f := frameS E 8 (sq : Nat) []) SlI.nil hsv, ref_close _ (hm.mono hJ1) (Holds.drop H)⟩
    · have hE : heedS E ⟨kind, id, (sq : Nat), n, data⟩ = (E, []) := by
        unfold heedS
        rw [if_neg (by show ¬ ((sq : Nat) : Int) = _; omega), if_pos (by show (sq + 1) % 65536 ≠ _; exact h2)]
      rw [hE]
      have d2 : decide ((sq : Int) = (((E.next + 65535) % 65536 : Nat) : Int)) = false := decide_eq_false (by omega)
      refine ok_tithingref12_End_attention.rets rfl ?_
      repeat' (first
        | rw [d1]
        | rw [e3]
        | rw [e4]
        | rw [d2]
        | (show VcL _ _ _ _ _ _ _ _; first
      | refine VcL.pures tabOk rfl ?_
      | refine VcL.nil ?_
      | (show VcL _ _ _ _ (⟨_, .load _ _, _, _, _, _⟩ :: _) _ _ _; refine VcL.load1 tabOk rfl rfl rfl rfl rfl (by first | exact Holds.cell H rfl | exact Holds.cell (Holds.f1 H) rfl) ?_)
      | refine VcL.box H rfl rfl rfl rfl rfl (fun b w H => ?_))
        | (show Vc _ _ _ _ _ _; first
      | refine Vc.seq ?_
      | refine Vc.region ?_
      | refine Vc.condF rfl ?_
      | refine Vc.ret ?_
      | refine Vc.block ?_)
        | (show KSeq _ _ _ _ _ _ _; first
      | refine KSeq.normal ?_
      | refine KSeq.ret ?_)
        | (show KBlock _ _ _ _ _ _; refine KBlock.ret ?_)
        | (show KEnd _ _ _ _ _ _ _; refine KEnd.fin (Or.inr rfl) ⟨_, (ResL.tmp rfl ResL.nil), ?_⟩))
      exact ⟨I, Imm.Le.rfl' I, FrsI.nil, ref_close _ hm (Holds.drop H)⟩
end Go.Proofs.Ytpfgcchammlpgaa.V
