/- The document's end: what a frame says is done. -/
import Derived.Test.YtpfgcchammlpgaaVX
namespace Go.Proofs.Ytpfgcchammlpgaa.V
open Go Go.Proofs.YtpfgcchammlpgaaV
set_option linter.unusedVariables false
set_option linter.unusedSimpArgs false
set_option maxHeartbeats 8000000
set_option maxRecDepth 4000
attribute [local irreducible] IntKind.wrap refA
variable {I : Imm} {w : World} {L : List Asn}
/-- What the document does with a frame behind the acknowledgement. -/
def doesR (E : En) (f : Fr) : En × List Fr :=
  if f.kind = 2 then (E, [frameS E 3 0 (tailS E)])
  else if f.kind = 9 then ({ E with state := 4 }, [])
  else if f.kind = 7 then heedS E f
  else if f.kind = 3 then ({ E with room := num2 f.data (f.data.length - 2) }, [])
  else if f.kind = 4 then (dataS { E with room := num2 f.data (f.data.length - 2) } f, [frameS (dataS { E with room := num2 f.data (f.data.length - 2) } f) 3 0 (tailS (dataS { E with room := num2 f.data (f.data.length - 2) } f))])
  else if f.kind = 5 then
    let E := if fromS E.want f.seq.toNat < 2147483648 then { E with want := f.seq.toNat, inn := [] } else E
    (E, [frameS E 6 0 []])
  else if f.kind = 6 then (if E.resets = true ∧ fromS E.resetAt f.n.toNat < 2147483648 then { E with resets := false } else E, [])
  else if f.kind = 8 then (if E.news.isSome = true ∧ f.seq = E.seq then { E with news := none, seq := (E.seq + 1) % 65536 } else E, [])
  else (E, [])
def ackK (E : En) (f : Fr) : En := if (3 ≤ f.kind ∧ f.kind ≤ 6) ∨ f.kind = 8 then ackS E f.n.toNat else E
theorem doesS_eq {E : En} {f : Fr} (h : f.kind ≠ 1) (hk : 1 ≤ f.kind ∧ f.kind ≤ 9) : doesS E f = doesR (ackK E f) f := by
  obtain ⟨kind, id, seq, n, data⟩ := f
  dsimp only at h hk
  have hk : kind = 2 ∨ kind = 9 ∨ kind = 7 ∨ kind = 3 ∨ kind = 4 ∨ kind = 5 ∨ kind = 6 ∨ kind = 8 := by omega
  rcases hk with rfl | rfl | rfl | rfl | rfl | rfl | rfl | rfl <;> simp [doesS, doesR, ackK, heardS]
theorem slI_take {A : Option Addr} {cap sz n : Nat} {cs : List Value} (h : SlI I (.slice A n cap) sz n cs) {k : Nat} (hk : k ≤ n) : SlI I (.slice A k cap) sz k (cs.take (k * sz)) := by
  obtain ⟨A', cap', e, h1, h2, h3, h4⟩ := h.out
  injection e with e1 e2 e3
  subst e1; subst e3
  have hle : k * sz ≤ n * sz := Nat.mul_le_mul_right _ hk
  refine ⟨A, cap, rfl, by rw [List.length_take, h1]; omega, by omega, fun e => ⟨by have := h3 e; omega, (h3 e).2⟩, fun a ha h0 => ?_⟩
  obtain ⟨b, o, hbo, hr⟩ := h4 a ha (by omega)
  refine ⟨b, o, hbo, ⟨fun j v hj => hr.out j v ?_⟩⟩
  rw [List.getElem?_take] at hj
  split at hj
  · exact hj
  · cases hj
theorem slI_drop {b o : Nat} {cap sz n : Nat} {cs : List Value} (h : SlI I (.slice (some ⟨b, o, none⟩) n cap) sz n cs) {k p : Nat} (hk : k ≤ n) (hp : k < cap → p = o + k * sz) : SlI I (.slice (some ⟨b, p, none⟩) (n - k) (cap - k)) sz (n - k) (cs.drop (k * sz)) := by
  obtain ⟨A', cap', e, h1, h2, h3, h4⟩ := h.out
  injection e with e1 e2 e3
  subst e1; subst e3
  refine ⟨_, cap - k, rfl, by rw [List.length_drop, h1, Nat.sub_mul], by omega, (fun e => by cases e), fun a ha h0 => ?_⟩
  obtain ⟨b', o', hbo, hr⟩ := h4 _ rfl (by omega)
  injection hbo with hb1 hb2
  subst hb1; subst hb2
  injection ha with ha
  subst ha
  refine ⟨b, p, rfl, ⟨fun j v hj => ?_⟩⟩
  rw [hp (by omega), Nat.add_assoc]
  exact hr.out (k * sz + j) v (by rwa [List.getElem?_drop] at hj)
theorem doesR_any {e : Nat} {E : En} (H : Holds I w (refA I e E :: L)) {kind : Int} {id sq nn : Nat} {data : By} {dv : Value} (hdv : SlI I dv 1 data.length (byL data)) (hv : validF ⟨kind, (id : Nat), (sq : Nat), (nn : Nat), data⟩ = true) (hk1 : kind ≠ 1) (hst : E.state = 3) (hcl : E.codes.length < 1000000) :
    Rets Try.prog F_tithingref12_End_does #[ptr e, frV ⟨kind, (id : Nat), (sq : Nat), (nn : Nat), data⟩ dv] w fun u w' => ∃ J, Imm.Le I J ∧ FrsI J u (doesR E ⟨kind, (id : Nat), (sq : Nat), (nn : Nat), data⟩).2 ∧ Holds J w' (refA J e (doesR E ⟨kind, (id : Nat), (sq : Nat), (nn : Nat), data⟩).1 :: L) := by
  obtain ⟨A, cap, rfl, hcap⟩ := hdv.form
  obtain ⟨A1, c1, A2, c2, av, A3, c3, cd, hm, HB⟩ := ref_open H
  have HA := H
  clear H
  have H := HB
  clear HB
  have ok := hm.ok
  have hok := (validF_iff _).1 hv
  unfold okF at hok
  dsimp only at hok
  have hin := ok.inn
  have hwt := ok.want
  have hra := ok.resetAt
  unfold M at hwt hra
  show Rets Try.prog F_tithingref12_End_does #[ptr e, .agg #[.int .i64 kind, .int .i64 (id : Nat), .int .i64 (sq : Nat), .int .i64 (nn : Nat), .slice A data.length cap]] w _
  have hk : kind = 2 ∨ kind = 9 ∨ kind = 7 ∨ kind = 3 ∨ kind = 4 ∨ kind = 5 ∨ kind = 6 ∨ kind = 8 := by omega
  rcases hk with rfl | rfl | rfl | rfl | rfl | rfl | rfl | rfl
  · have hd : doesR E ⟨2, (id : Nat), (sq : Nat), (nn : Nat), data⟩ = (E, [frameS E 3 0 (tailS E)]) := rfl
    rw [hd]
    clear HA
    refine ok_tithingref12_End_does.rets rfl ?_
    repeat' (first
      | (show VcL _ _ _ _ _ _ _ _; first
      | refine VcL.pures tabOk rfl ?_
      | refine VcL.nil ?_
      | (show VcL _ _ _ _ (⟨_, .load _ _, _, _, _, _⟩ :: _) _ _ _; refine VcL.load1 tabOk rfl rfl rfl rfl rfl (by exact Holds.cell H rfl) ?_)
      | refine VcL.box H rfl rfl rfl rfl rfl (fun b w H => ?_)
      | refine VcL.buildSlice tabOk H rfl rfl rfl rfl rfl rfl (fun sv w H => ?_)
      | (show VcL _ _ _ _ (⟨_, .call ⟨.value (.func F_tithingref12_End_seen), _, _⟩, _, _, _, _⟩ :: _) _ _ _; (refine VcL.callF ok_tithingref12_End_seen rfl rfl rfl rfl (Rets.mono (seenR_any (E := E) (m := ⟨.slice A1 E.out.length c1, .slice A2 E.inn.length c2, av, .slice A3 cd.length c3, cd⟩) H (RdW.mem (by repeat (first | exact .head _ | apply List.Mem.tail))) rfl rfl hin) ?_); rintro _ w ⟨A7, c7, rfl, H⟩)))
      | (show Vc _ _ _ _ _ _; first
      | refine Vc.seq ?_
      | refine Vc.region ?_
      | refine Vc.condT rfl ?_
      | refine Vc.ret ?_
      | refine Vc.block ?_)
      | (show KSeq _ _ _ _ _ _ _; first
      | refine KSeq.normal ?_
      | refine KSeq.ret ?_)
      | (show KBlock _ _ _ _ _ _; refine KBlock.ret ?_)
      | (show KEnd _ _ _ _ _ _ _; refine KEnd.fin (Or.inr rfl) ⟨_, (ResL.tmp rfl ResL.nil), ?_⟩))
    obtain ⟨J, hJ, H, hsv⟩ := Holds.freezeOwn H
    obtain ⟨J2, hJ2, H, htv⟩ := Holds.freezeOwn H
    exact ⟨J2, hJ.trans hJ2, frsI_one (f := frameS E 3 0 (tailS E)) htv (hsv.mono hJ2), ref_close _ (hm.mono (hJ.trans hJ2)) (Holds.drop H)⟩
  · have hd : doesR E ⟨9, (id : Nat), (sq : Nat), (nn : Nat), data⟩ = ({ E with state := 4 }, []) := rfl
    rw [hd]
    clear HA
    refine ok_tithingref12_End_does.rets rfl ?_
    repeat' (first
      | (show VcL _ _ _ _ _ _ _ _; first
      | refine VcL.pures tabOk rfl ?_
      | refine VcL.nil ?_
      | (show VcL _ _ _ _ (⟨_, .load _ _, _, _, _, _⟩ :: _) _ _ _; refine VcL.load1 tabOk rfl rfl rfl rfl rfl (by exact Holds.cell H rfl) ?_)
      | refine VcL.box H rfl rfl rfl rfl rfl (fun b w H => ?_)
      | (show VcL _ _ _ _ (⟨_, .store _ _ _, _, _, _, _⟩ :: _) _ _ _; refine VcL.store tabOk rfl (by exact (Holds.f1 H)) rfl rfl (by exact rfl) (by exact rfl) (by exact rfl) (by exact rfl) (fun w H => ?_)))
      | (show Vc _ _ _ _ _ _; first
      | refine Vc.seq ?_
      | refine Vc.region ?_
      | refine Vc.condT rfl ?_
      | refine Vc.condF rfl ?_
      | refine Vc.ret ?_
      | refine Vc.block ?_)
      | (show KSeq _ _ _ _ _ _ _; refine KSeq.normal ?_)
      | (show KBlock _ _ _ _ _ _; refine KBlock.normal ?_)
      | (show KEnd _ _ _ _ _ _ _; refine KEnd.fin (Or.inr rfl) ⟨_, (ResL.tmp rfl ResL.nil), ?_⟩))
    exact ⟨I, Imm.Le.rfl' I, FrsI.nil, ref_close _ ⟨{ ok with state := Nat.le_refl _ }, fun h => absurd h (by show ¬ 4 ≤ 2; omega), hm.news, hm.codes, hm.each⟩ (Holds.drop1 H)⟩
  · have hd : doesR E ⟨7, (id : Nat), (sq : Nat), (nn : Nat), data⟩ = heedS E ⟨7, (id : Nat), (sq : Nat), (nn : Nat), data⟩ := rfl
    rw [hd]
    have h60 : data.length ≤ 60 := by omega
    clear H
    have H := HA
    clear HA
    refine ok_tithingref12_End_does.rets rfl ?_
    repeat' (first
      | (show VcL _ _ _ _ _ _ _ _; first
      | refine VcL.pures tabOk rfl ?_
      | refine VcL.nil ?_
      | (show VcL _ _ _ _ (⟨_, .load _ _, _, _, _, _⟩ :: _) _ _ _; first
      | refine VcL.load1 tabOk rfl rfl rfl rfl rfl (by exact Holds.cell H rfl) ?_
      | refine VcL.loadN tabOk rfl rfl rfl rfl rfl rfl (by exact H) (by exact rfl) ?_)
      | refine VcL.box H rfl rfl rfl rfl rfl (fun b w H => ?_)
      | (show VcL _ _ _ _ (⟨_, .call ⟨.value (.func F_tithingref12_End_attention), _, _⟩, _, _, _, _⟩ :: _) _ _ _; (refine VcL.callF ok_tithingref12_End_attention rfl rfl rfl rfl (Rets.mono (attentionR_any (E := E) (f := ⟨7, (id : Nat), (sq : Nat), (nn : Nat), data⟩) (Holds.re [1, 0] H rfl) hdv h60 (by show (0 : Int) ≤ (sq : Nat) ∧ ((sq : Nat) : Int) < 65536; omega) hcl) ?_); rintro _ w ⟨J, hJ, hfr, H⟩)))
      | (show Vc _ _ _ _ _ _; first
      | refine Vc.seq ?_
      | refine Vc.region ?_
      | refine Vc.condT rfl ?_
      | refine Vc.condF rfl ?_
      | refine Vc.ret ?_
      | refine Vc.block ?_)
      | (show KSeq _ _ _ _ _ _ _; first
      | refine KSeq.normal ?_
      | refine KSeq.ret ?_)
      | (show KBlock _ _ _ _ _ _; refine KBlock.ret ?_)
      | (show KEnd _ _ _ _ _ _ _; refine KEnd.fin (Or.inr rfl) ⟨_, (ResL.tmp rfl ResL.nil), ?_⟩))
    exact ⟨J, hJ, hfr, Holds.drop1 H⟩
  · have hd : doesR E ⟨3, (id : Nat), (sq : Nat), (nn : Nat), data⟩ = ({ E with room := num2 data (data.length - 2) }, []) := rfl
    rw [hd]
    clear HA
    have hd2 : data.length = 2 := by omega
    obtain ⟨x1, hx1'⟩ : ∃ x, atD data 0 = x := ⟨_, rfl⟩
    obtain ⟨x2, hx2'⟩ : ∃ x, atD data 1 = x := ⟨_, rfl⟩
    have hnum : num2 data (data.length - 2) = x1.toNat * 256 + x2.toNat := by unfold num2; rw [show data.length - 2 = 0 by omega, hx1', hx2']
    obtain ⟨b6, o6, rfl, hr6⟩ := hdv.at (by omega)
    have hy1 := (byL_flat data ▸ hr6).elem byC_len (atD_get (show 0 < data.length by omega))
    have hy2 := (byL_flat data ▸ hr6).elem byC_len (atD_get (show 1 < data.length by omega))
    rw [hx1'] at hy1
    rw [hx2'] at hy2
    have hy1 := RdI.toW (L := own (.slice A1 E.out.length c1) 105 2 E.out.length (E.out.flatMap bfC) :: own (.slice A2 E.inn.length c2) 105 2 E.inn.length (E.inn.flatMap bfC) :: own (.slice A3 cd.length c3) 22 1 cd.length (cd.flatMap bkC) :: L) hy1
    have hy2 := RdI.toW (L := own (.slice A1 E.out.length c1) 105 2 E.out.length (E.out.flatMap bfC) :: own (.slice A2 E.inn.length c2) 105 2 E.inn.length (E.inn.flatMap bfC) :: own (.slice A3 cd.length c3) 22 1 cd.length (cd.flatMap bkC) :: L) hy2
    have hlt1 := x1.toNat_lt
    have hlt2 := x2.toNat_lt
    have e3 : IntKind.i64.wrap (x1.toNat : Int) = (x1.toNat : Int) := wi64 (by omega)
    have e4 : IntKind.i64.wrap (x2.toNat : Int) = (x2.toNat : Int) := wi64 (by omega)
    have e5 : IntKind.i64.wrap ((256 : Int) * (x1.toNat : Int)) = ((256 * x1.toNat : Nat) : Int) := by rw [wrap_i64 (by omega) (by omega)]; omega
    have e6 : IntKind.i64.wrap (((256 * x1.toNat : Nat) : Int) + (x2.toNat : Int)) = ((num2 data (data.length - 2) : Nat) : Int) := by rw [hnum, wrap_i64 (by omega) (by omega)]; omega
    refine ok_tithingref12_End_does.rets rfl ?_
    repeat' (first
      | rw [e3]
      | rw [e4]
      | rw [e5]
      | rw [e6]
      | (show VcL _ _ _ _ _ _ _ _; first
      | refine VcL.pures tabOk rfl ?_
      | refine VcL.nil ?_
      | (show VcL _ _ _ _ (⟨_, .load _ _, _, _, _, _⟩ :: _) _ _ _; refine VcL.load1 tabOk rfl rfl rfl rfl rfl (by exact Holds.cell H rfl) ?_)
      | refine VcL.box H rfl rfl rfl rfl rfl (fun b w H => ?_))
      | (show VcD _ _ _ _ _ _ _ _ _; first
      | refine VcD.pures tabOk rfl ?_
      | refine VcD.done ?_
      | (show VcD _ _ _ _ _ (.pure _ _) _ _ _; refine VcD.indexAddr tabOk rfl rfl rfl rfl rfl rfl rfl (by omega) (by omega) ?_)
      | (show VcD _ _ _ _ _ (.take _ _) _ _ _; refine VcD.load1 tabOk rfl rfl rfl rfl rfl rfl (by intro w_ hw_; first | exact Holds.cell hw_ rfl | exact RdW.get (by assumption) rfl (Holds.drop (Holds.drop hw_)) | exact RdW.get0 (by assumption) rfl (Holds.drop (Holds.drop hw_))) (by exact rfl) ?_)
      | (show VcD _ _ _ _ _ (.only _ _) _ _ _; (refine VcD.eff rfl rfl rfl rfl (OpE.store tabOk (by exact (Holds.f1 H)) rfl rfl rfl (by exact rfl) (by exact rfl) (by exact rfl) (by exact rfl)) ?_; rintro _ w ⟨_, H⟩; refine ⟨(by trivial), ?_⟩)))
      | (show Vc _ _ _ _ _ _; first
      | refine Vc.seq ?_
      | refine Vc.region ?_
      | refine Vc.condT rfl ?_
      | refine Vc.condF rfl ?_
      | refine Vc.ret ?_
      | refine Vc.block ?_
      | (refine Vc.drawn (id := 5) (.pure 0 (.pure 1 (.pure 7 (.take 2 (.pure 3 (.take 4 (.pure 5 (.pure 6 (.take 8 (.pure 9 (.take 10 (.pure 11 (.pure 12 (.pure 13 (.pure 14 (.only 15 .done)))))))))))))))) (.till (fun w => Holds I w _) 15 (.one (fun _ => True))) mixed (by kernel_rfl) (by exact (Holds.drew H _)) ?_; have H := H.drew (w.drawn + 1)))
      | (show KSeq _ _ _ _ _ _ _; refine KSeq.normal ?_)
      | (show KBlock _ _ _ _ _ _; refine KBlock.normal ?_)
      | (show KEnd _ _ _ _ _ _ _; refine KEnd.fin (Or.inr rfl) ⟨_, (ResL.tmp rfl ResL.nil), ?_⟩))
    exact ⟨I, Imm.Le.rfl' I, FrsI.nil, ref_close (E := { E with room := num2 data (data.length - 2) }) ⟨.slice A1 E.out.length c1, .slice A2 E.inn.length c2, av, .slice A3 cd.length c3, cd⟩ ⟨{ ok with room := by show num2 data (data.length - 2) ≤ 65535; rw [hnum]; omega }, hm.still, hm.news, hm.codes, hm.each⟩ (Holds.drop1 H)⟩
  · have hd : doesR E ⟨4, (id : Nat), (sq : Nat), (nn : Nat), data⟩ = (dataS { E with room := num2 data (data.length - 2) } ⟨4, (id : Nat), (sq : Nat), (nn : Nat), data⟩, [frameS (dataS { E with room := num2 data (data.length - 2) } ⟨4, (id : Nat), (sq : Nat), (nn : Nat), data⟩) 3 0 (tailS (dataS { E with room := num2 data (data.length - 2) } ⟨4, (id : Nat), (sq : Nat), (nn : Nat), data⟩))]) := rfl
    rw [hd]
    clear HA
    obtain ⟨x0, hx0'⟩ : ∃ x, atD data 0 = x := ⟨_, rfl⟩
    obtain ⟨x1, hx1'⟩ : ∃ x, atD data (data.length - 2) = x := ⟨_, rfl⟩
    obtain ⟨x2, hx2'⟩ : ∃ x, atD data (data.length - 1) = x := ⟨_, rfl⟩
    have hnum : num2 data (data.length - 2) = x1.toNat * 256 + x2.toNat := by unfold num2; rw [hx1', show data.length - 2 + 1 = data.length - 1 by omega, hx2']
    obtain ⟨b6, o6, rfl, hr6⟩ := hdv.at (by omega)
    have hy0 := (byL_flat data ▸ hr6).elem byC_len (atD_get (show 0 < data.length by omega))
    have hy1 := (byL_flat data ▸ hr6).elem byC_len (atD_get (show data.length - 2 < data.length by omega))
    have hy2 := (byL_flat data ▸ hr6).elem byC_len (atD_get (show data.length - 1 < data.length by omega))
    rw [hx0'] at hy0
    rw [hx1'] at hy1
    rw [hx2'] at hy2
    have hlt1 := x1.toNat_lt
    have hlt2 := x2.toNat_lt
    have e1 : IntKind.i64.wrap ((data.length : Int) - 2) = ((data.length - 2 : Nat) : Int) := by rw [wrap_i64 (by omega) (by omega)]; omega
    have e2 : IntKind.i64.wrap ((data.length : Int) - 1) = ((data.length - 1 : Nat) : Int) := by rw [wrap_i64 (by omega) (by omega)]; omega
    have e3 : IntKind.i64.wrap (x1.toNat : Int) = (x1.toNat : Int) := wi64 (by omega)
    have e4 : IntKind.i64.wrap (x2.toNat : Int) = (x2.toNat : Int) := wi64 (by omega)
    have e5 : IntKind.i64.wrap ((256 : Int) * (x1.toNat : Int)) = ((256 * x1.toNat : Nat) : Int) := by rw [wrap_i64 (by omega) (by omega)]; omega
    have e6 : IntKind.i64.wrap (((256 * x1.toNat : Nat) : Int) + (x2.toNat : Int)) = ((num2 data (data.length - 2) : Nat) : Int) := by rw [hnum, wrap_i64 (by omega) (by omega)]; omega
    have e7 : decide ((x0.toNat : Int) = 1) = decide (x0.toNat = 1) := decide_eq_decide.2 (by omega)
    obtain ⟨rm, hrm⟩ : ∃ r, num2 data (data.length - 2) = r := ⟨_, rfl⟩
    rw [hrm] at hnum e6 ⊢
    obtain ⟨E3, hE3⟩ : ∃ E3, ({ E with room := rm } : En) = E3 := ⟨_, rfl⟩
    obtain ⟨E4, hE4⟩ : ∃ E4, dataS E3 ⟨4, (id : Nat), (sq : Nat), (nn : Nat), data⟩ = E4 := ⟨_, rfl⟩
    have hE4' : dataL E3 sq ((data.take (data.length - 2)).drop 1) (decide (x0.toNat = 1)) = E4 := by rw [← hE4, ← hx0']; rfl
    rw [hE3, hE4]
    have hy1 := RdI.toW (L := own (.slice A1 E.out.length c1) 105 2 E.out.length (E.out.flatMap bfC) :: own (.slice A2 E.inn.length c2) 105 2 E.inn.length (E.inn.flatMap bfC) :: own (.slice A3 cd.length c3) 22 1 cd.length (cd.flatMap bkC) :: L) hy1
    have hy2 := RdI.toW (L := own (.slice A1 E.out.length c1) 105 2 E.out.length (E.out.flatMap bfC) :: own (.slice A2 E.inn.length c2) 105 2 E.inn.length (E.inn.flatMap bfC) :: own (.slice A3 cd.length c3) 22 1 cd.length (cd.flatMap bkC) :: L) hy2
    have hy0 := RdI.toW (L := L) hy0
    have hbl : ((data.take (data.length - 2)).drop 1).length = data.length - 2 - 1 := by rw [List.length_drop, List.length_take]; omega
    have hsub : ∀ p, (1 < cap → p = o6 + 1 * 1) → SlI I (.slice (some ⟨b6, p, none⟩) (data.length - 2 - 1) (cap - 1)) 1 ((data.take (data.length - 2)).drop 1).length (byL ((data.take (data.length - 2)).drop 1)) := fun p hp => by
      have := slI_drop (slI_take hdv (k := data.length - 2) (by omega)) (k := 1) (p := p) (by omega) hp
      rw [hbl]
      have e8 : ((byL data).take ((data.length - 2) * 1)).drop (1 * 1) = byL ((data.take (data.length - 2)).drop 1) := by rw [byL_take, byL_drop]
      rw [← e8]
      exact this
    refine ok_tithingref12_End_does.rets rfl ?_
    repeat' (first
      | rw [e1]
      | rw [e2]
      | rw [e3]
      | rw [e4]
      | rw [e5]
      | rw [e6]
      | (show VcL _ _ _ _ _ _ _ _; first
      | refine VcL.pures tabOk rfl ?_
      | refine VcL.nil ?_
      | (show VcL _ _ _ _ (⟨_, .load _ _, _, _, _, _⟩ :: _) _ _ _; refine VcL.load1 tabOk rfl rfl rfl rfl rfl (by exact Holds.cell H rfl) ?_)
      | refine VcL.box H rfl rfl rfl rfl rfl (fun b w H => ?_))
      | (show VcD _ _ _ _ _ _ _ _ _; first
      | refine VcD.pures tabOk rfl ?_
      | refine VcD.done ?_
      | (show VcD _ _ _ _ _ (.pure _ _) _ _ _; refine VcD.indexAddr tabOk rfl rfl rfl rfl rfl rfl rfl (by omega) (by omega) ?_)
      | (show VcD _ _ _ _ _ (.take _ _) _ _ _; refine VcD.load1 tabOk rfl rfl rfl rfl rfl rfl (by intro w_ hw_; first | exact Holds.cell hw_ rfl | exact RdW.get0 (by assumption) rfl (Holds.drop (Holds.drop hw_))) (by exact rfl) ?_)
      | (show VcD _ _ _ _ _ (.only _ _) _ _ _; (refine VcD.eff rfl rfl rfl rfl (OpE.store tabOk (by exact (Holds.f1 H)) rfl rfl rfl (by exact rfl) (by exact rfl) (by exact rfl) (by exact rfl)) ?_; rintro _ w ⟨_, H⟩; refine ⟨(by trivial), ?_⟩)))
      | (show Vc _ _ _ _ _ _; first
      | refine Vc.seq ?_
      | refine Vc.region ?_
      | refine Vc.condT rfl ?_
      | refine Vc.condF rfl ?_
      | refine Vc.block ?_
      | (refine Vc.drawn (id := 8) (.pure 0 (.pure 1 (.pure 3 (.pure 4 (.pure 9 (.pure 11 (.pure 12 (.take 2 (.pure 5 (.take 6 (.pure 7 (.pure 8 (.take 10 (.pure 13 (.take 14 (.pure 15 (.pure 16 (.pure 17 (.pure 18 (.only 19 .done)))))))))))))))))))) (.till (fun w => Holds I w _) 19 (.one (fun _ => True))) mixed (by kernel_rfl) (by exact (Holds.drew H _)) ?_; have H := H.drew (w.drawn + 1)))
      | (show KSeq _ _ _ _ _ _ _; refine KSeq.normal ?_))
    have H := Holds.swap (ref_close (E := E3) ⟨.slice A1 E.out.length c1, .slice A2 E.inn.length c2, av, .slice A3 cd.length c3, cd⟩ (by rw [← hE3]; exact ⟨{ ok with room := by show rm ≤ 65535; omega }, hm.still, hm.news, hm.codes, hm.each⟩) (by rw [← hE3]; exact Holds.re [0, 1, 1, 1, 0] H rfl))
    repeat' (first
      | rw [e1]
      | rw [e7]
      | (show VcL _ _ _ _ _ _ _ _; refine VcL.pures tabOk rfl ?_)
      | (show VcD _ _ _ _ _ _ _ _ _; first
      | refine VcD.pures tabOk rfl ?_
      | refine VcD.done ?_
      | (show VcD _ _ _ _ _ (.pure _ _) _ _ _; first
      | refine VcD.indexAddr tabOk rfl rfl rfl rfl rfl rfl rfl (by omega) (by omega) ?_
      | refine VcD.slice tabOk rfl rfl rfl rfl rfl rfl rfl rfl (by omega) (by omega) (by omega) (fun p_ hp_ => ?_))
      | (show VcD _ _ _ _ _ (.take _ _) _ _ _; refine VcD.load1 tabOk rfl rfl rfl rfl rfl rfl (by intro w_ hw_; first | exact Holds.cell hw_ rfl | exact RdW.get (by assumption) rfl (Holds.drop hw_)) (by exact rfl) ?_)
      | (show VcD _ _ _ _ _ (.only _ _) _ _ _; (refine VcD.callF (f := F_tithingref12_End_data) rfl ok_tithingref12_End_data rfl rfl rfl rfl (Rets.mono (dataR_any (E := E3) (seq := sq) (l := (data.take (data.length - 2)).drop 1) (en := decide (x0.toNat = 1)) (Holds.f1 H) (by unfold M; omega) (hsub p_ (fun h => (hp_ (by omega)).trans rfl)) (by omega)) ?_); rintro _ w H; rw [hE4'] at H; refine ⟨(by exact Holds.drop H), ?_⟩)))
      | (show Vc _ _ _ _ _ _; first
      | refine Vc.seq ?_
      | refine Vc.region ?_
      | (refine Vc.drawn (id := 9) (.pure 0 (.pure 1 (.pure 3 (.pure 5 (.pure 6 (.pure 8 (.take 2 (.take 4 (.pure 7 (.take 9 (.pure 10 (.take 11 (.pure 12 (.only 13 .done)))))))))))))) (.one (fun w => Holds I w (blk b 24 [.int .i64 4, .int .i64 (id : Nat), .int .i64 (sq : Nat), .int .i64 (nn : Nat), .slice (some ⟨b6, o6, none⟩) data.length cap] :: L))) mixed (by kernel_rfl) (by exact Holds.drop (Holds.swap (Holds.drew H _))) ?_; have H := H.drew (w.drawn + 1)))
      | (show KSeq _ _ _ _ _ _ _; refine KSeq.normal ?_))
    obtain ⟨B1, d1, B2, d2, av4, B3, d3, cd4, hm4, H⟩ := ref_open H
    repeat' (first
      | (show VcL _ _ _ _ _ _ _ _; first
      | refine VcL.pures tabOk rfl ?_
      | refine VcL.nil ?_
      | refine VcL.buildSlice tabOk H rfl rfl rfl rfl rfl rfl (fun sv w H => ?_)
      | (show VcL _ _ _ _ (⟨_, .call ⟨.value (.func F_tithingref12_End_seen), _, _⟩, _, _, _, _⟩ :: _) _ _ _; (refine VcL.callF ok_tithingref12_End_seen rfl rfl rfl rfl (Rets.mono (seenR_any (E := E4) (m := ⟨.slice B1 E4.out.length d1, .slice B2 E4.inn.length d2, av4, .slice B3 cd4.length d3, cd4⟩) H (RdW.mem (by repeat (exact .head _))) rfl rfl hm4.ok.inn) ?_); rintro _ w ⟨A7, c7, rfl, H⟩)))
      | (show Vc _ _ _ _ _ _; refine Vc.ret ?_)
      | (show KSeq _ _ _ _ _ _ _; first
      | refine KSeq.normal ?_
      | refine KSeq.ret ?_)
      | (show KBlock _ _ _ _ _ _; refine KBlock.ret ?_)
      | (show KEnd _ _ _ _ _ _ _; refine KEnd.fin (Or.inr rfl) ⟨_, (ResL.tmp rfl ResL.nil), ?_⟩))
    obtain ⟨J, hJ, H, hsv⟩ := Holds.freezeOwn H
    obtain ⟨J2, hJ2, H, htv⟩ := Holds.freezeOwn H
    exact ⟨J2, hJ.trans hJ2, frsI_one (f := frameS E4 3 0 (tailS E4)) htv (hsv.mono hJ2), ref_close _ (hm4.mono (hJ.trans hJ2)) (Holds.re [0, 0, 0, 0] (Holds.drop (Holds.re [4] H rfl)) rfl)⟩
  · have hah := fun (w : World) (L : List Asn) (H : Holds I w L) => aheadR_any (a := E.want) (b := sq) H ok.want (by unfold M; omega)
    clear HA
    by_cases hfar : fromS E.want sq < 2147483648
    · have hd : doesR E ⟨5, (id : Nat), (sq : Nat), (nn : Nat), data⟩ = ({ E with want := sq, inn := [] }, [frameS { E with want := sq, inn := [] } 6 0 []]) := by
        show (let E := if fromS E.want sq < 2147483648 then { E with want := sq, inn := [] } else E; (E, [frameS E 6 0 []])) = _
        rw [if_pos hfar]
      rw [hd]
      have hdc : decide (((fromS E.want sq : Nat) : Int) < 2147483648) = true := decide_eq_true (by omega)
      obtain ⟨fk, hfk⟩ : ∃ k, fromS E.want sq = k := ⟨_, rfl⟩
      rw [hfk] at hah hdc
      clear hfk hfar hd
      refine ok_tithingref12_End_does.rets rfl ?_
      repeat' (first
        | rw [hdc]
        | (show VcL _ _ _ _ _ _ _ _; first
      | refine VcL.pures tabOk rfl ?_
      | refine VcL.nil ?_
      | (show VcL _ _ _ _ (⟨_, .load _ _, _, _, _, _⟩ :: _) _ _ _; refine VcL.load1 tabOk rfl rfl rfl rfl rfl (by exact Holds.cell H rfl) ?_)
      | refine VcL.box H rfl rfl rfl rfl rfl (fun b w H => ?_)
      | refine VcL.buildSlice tabOk H rfl rfl rfl rfl rfl rfl (fun sv w H => ?_)
      | (show VcL _ _ _ _ (⟨_, .store _ _ _, _, _, _, _⟩ :: _) _ _ _; refine VcL.store tabOk rfl (by first | exact H | exact (Holds.f1 H)) rfl rfl (by exact rfl) (by exact rfl) (by exact rfl) (by exact rfl) (fun w H => ?_))
      | (show VcL _ _ _ _ (⟨_, .call ⟨.value (.func F_tithingref12_End_frame), _, _⟩, _, _, _, _⟩ :: _) _ _ _; (refine VcL.callF ok_tithingref12_End_frame rfl rfl rfl rfl (Rets.mono (frameR_any (E := { E with want := sq, inn := [] }) (m := ⟨.slice A1 E.out.length c1, .slice none 0 0, av, .slice A3 cd.length c3, cd⟩) H (RdW.mem (by repeat (exact .head _)))) ?_); rintro _ w ⟨rfl, H⟩)))
        | (show VcD _ _ _ _ _ _ _ _ _; first
      | refine VcD.pures tabOk rfl ?_
      | refine VcD.done ?_
      | (show VcD _ _ _ _ _ (.take _ _) _ _ _; refine VcD.load1 tabOk rfl rfl rfl rfl rfl rfl (by intro w_ hw_; first | exact Holds.cell hw_ rfl | exact Holds.cell (Holds.f1 hw_) rfl) (by exact rfl) ?_)
      | (show VcD _ _ _ _ _ (.only _ _) _ _ _; (refine VcD.callF (f := F_tithingref12_ahead) rfl ok_tithingref12_ahead rfl rfl rfl rfl (Rets.mono (hah _ _ H) ?_); rintro _ w ⟨rfl, H⟩; refine ⟨(by exact H), ?_⟩)))
        | (show Vc _ _ _ _ _ _; first
      | refine Vc.seq ?_
      | refine Vc.region ?_
      | refine Vc.condT rfl ?_
      | refine Vc.condF rfl ?_
      | refine Vc.ret ?_
      | refine Vc.block ?_
      | refine Vc.drawnH (id := 12) H (.pure 0 (.pure 2 (.pure 3 (.pure 4 (.take 1 (.take 5 (.only 6 (.pure 7 .done)))))))) mixed (by kernel_rfl) (fun w H => ?_))
        | (show KSeq _ _ _ _ _ _ _; first
      | refine KSeq.normal ?_
      | refine KSeq.ret ?_)
        | (show KBlock _ _ _ _ _ _; refine KBlock.ret ?_)
        | (show KEnd _ _ _ _ _ _ _; refine KEnd.fin (Or.inr rfl) ⟨_, (ResL.tmp rfl ResL.nil), ?_⟩))
      obtain ⟨J, hJ, H, hsv⟩ := Holds.freezeOwn H
      refine ⟨J, hJ, frsI_one (f := frameS { E with want := sq, inn := [] } 6 0 []) SlI.nil hsv, ref_close (E := { E with want := sq, inn := [] }) ⟨.slice A1 E.out.length c1, .slice none 0 0, av, .slice A3 cd.length c3, cd⟩ (RnF.mono ⟨{ ok with want := by show sq < M; unfold M; omega, inn := Nat.zero_le _ }, hm.still, hm.news, hm.codes, hm.each⟩ hJ) ?_⟩
      exact Holds.re [1, 1, 0, 0] (Holds.own_nil (Holds.drop (Holds.re [2] (Holds.drop1 H) rfl))) rfl
    · have hd : doesR E ⟨5, (id : Nat), (sq : Nat), (nn : Nat), data⟩ = (E, [frameS E 6 0 []]) := by
        show (let E := if fromS E.want sq < 2147483648 then { E with want := sq, inn := [] } else E; (E, [frameS E 6 0 []])) = _
        rw [if_neg hfar]
      rw [hd]
      have hdc : decide (((fromS E.want sq : Nat) : Int) < 2147483648) = false := decide_eq_false (by omega)
      obtain ⟨fk, hfk⟩ : ∃ k, fromS E.want sq = k := ⟨_, rfl⟩
      rw [hfk] at hah hdc
      clear hfk hfar hd
      refine ok_tithingref12_End_does.rets rfl ?_
      repeat' (first
        | rw [hdc]
        | (show VcL _ _ _ _ _ _ _ _; first
      | refine VcL.pures tabOk rfl ?_
      | refine VcL.nil ?_
      | (show VcL _ _ _ _ (⟨_, .load _ _, _, _, _, _⟩ :: _) _ _ _; refine VcL.load1 tabOk rfl rfl rfl rfl rfl (by exact Holds.cell H rfl) ?_)
      | refine VcL.box H rfl rfl rfl rfl rfl (fun b w H => ?_)
      | refine VcL.buildSlice tabOk H rfl rfl rfl rfl rfl rfl (fun sv w H => ?_)
      | (show VcL _ _ _ _ (⟨_, .call ⟨.value (.func F_tithingref12_End_frame), _, _⟩, _, _, _, _⟩ :: _) _ _ _; (refine VcL.callF ok_tithingref12_End_frame rfl rfl rfl rfl (Rets.mono (frameR_any (E := E) (m := ⟨.slice A1 E.out.length c1, .slice A2 E.inn.length c2, av, .slice A3 cd.length c3, cd⟩) H (RdW.mem (by repeat (first | exact .head _ | apply List.Mem.tail)))) ?_); rintro _ w ⟨rfl, H⟩)))
        | (show VcD _ _ _ _ _ _ _ _ _; first
      | refine VcD.pures tabOk rfl ?_
      | refine VcD.done ?_
      | (show VcD _ _ _ _ _ (.take _ _) _ _ _; refine VcD.load1 tabOk rfl rfl rfl rfl rfl rfl (by intro w_ hw_; first | exact Holds.cell hw_ rfl | exact Holds.cell (Holds.f1 hw_) rfl) (by exact rfl) ?_)
      | (show VcD _ _ _ _ _ (.only _ _) _ _ _; (refine VcD.callF (f := F_tithingref12_ahead) rfl ok_tithingref12_ahead rfl rfl rfl rfl (Rets.mono (hah _ _ H) ?_); rintro _ w ⟨rfl, H⟩; refine ⟨(by exact H), ?_⟩)))
        | (show Vc _ _ _ _ _ _; first
      | refine Vc.seq ?_
      | refine Vc.region ?_
      | refine Vc.condT rfl ?_
      | refine Vc.condF rfl ?_
      | refine Vc.ret ?_
      | refine Vc.skip ?_
      | refine Vc.block ?_
      | refine Vc.drawnH (id := 12) H (.pure 0 (.pure 2 (.pure 3 (.pure 4 (.take 1 (.take 5 (.only 6 (.pure 7 .done)))))))) mixed (by kernel_rfl) (fun w H => ?_))
        | (show KSeq _ _ _ _ _ _ _; first
      | refine KSeq.normal ?_
      | refine KSeq.ret ?_)
        | (show KBlock _ _ _ _ _ _; refine KBlock.ret ?_)
        | (show KEnd _ _ _ _ _ _ _; refine KEnd.fin (Or.inr rfl) ⟨_, (ResL.tmp rfl ResL.nil), ?_⟩))
      obtain ⟨J, hJ, H, hsv⟩ := Holds.freezeOwn H
      exact ⟨J, hJ, frsI_one (f := frameS E 6 0 []) SlI.nil hsv, ref_close _ (hm.mono hJ) (Holds.drop H)⟩
  · have hah := fun (w : World) (L : List Asn) (H : Holds I w L) => aheadR_any (a := E.resetAt) (b := nn) H ok.resetAt (by unfold M; omega)
    clear HA
    by_cases hrs : E.resets = true
    · by_cases hfar : fromS E.resetAt nn < 2147483648
      · have hd : doesR E ⟨6, (id : Nat), (sq : Nat), (nn : Nat), data⟩ = ({ E with resets := false }, []) := by
          show ((if E.resets = true ∧ fromS E.resetAt nn < 2147483648 then { E with resets := false } else E), ([] : List Fr)) = _
          rw [if_pos ⟨hrs, hfar⟩]
        rw [hd]
        have hdc : decide (((fromS E.resetAt nn : Nat) : Int) < 2147483648) = true := decide_eq_true (by omega)
        obtain ⟨fk, hfk⟩ : ∃ k, fromS E.resetAt nn = k := ⟨_, rfl⟩
        rw [hfk] at hah hdc
        clear hfk hfar hd
        obtain ⟨q1, q2, q3, q4, q5, q6, q7, q8, q9, rs, q11, q12, q13, q14, q15, q16, q17⟩ := E
        obtain rfl : rs = true := hrs
        refine ok_tithingref12_End_does.rets rfl ?_
        repeat' (first
          | rw [hdc]
          | (show VcL _ _ _ _ _ _ _ _; first
      | refine VcL.pures tabOk rfl ?_
      | refine VcL.nil ?_
      | (show VcL _ _ _ _ (⟨_, .load _ _, _, _, _, _⟩ :: _) _ _ _; refine VcL.load1 tabOk rfl rfl rfl rfl rfl (by exact Holds.cell H rfl) ?_)
      | refine VcL.box H rfl rfl rfl rfl rfl (fun b w H => ?_)
      | (show VcL _ _ _ _ (⟨_, .store _ _ _, _, _, _, _⟩ :: _) _ _ _; refine VcL.store tabOk rfl (by exact (Holds.f1 H)) rfl rfl (by exact rfl) (by exact rfl) (by exact rfl) (by exact rfl) (fun w H => ?_)))
          | (show VcD _ _ _ _ _ _ _ _ _; first
      | refine VcD.pures tabOk rfl ?_
      | refine VcD.done ?_
      | (show VcD _ _ _ _ _ (.pure _ _) _ _ _; (refine VcD.guardP rfl rfl rfl rfl rfl (fun h => ?_) (fun h => ?_) <;> first | (cases h; done) | skip))
      | (show VcD _ _ _ _ _ (.take _ _) _ _ _; refine VcD.load1 tabOk rfl rfl rfl rfl rfl rfl (by intro w_ hw_; first | exact Holds.cell hw_ rfl | exact Holds.cell (Holds.f1 hw_) rfl) (by exact rfl) ?_)
      | (show VcD _ _ _ _ _ (.only _ _) _ _ _; (refine VcD.callF (f := F_tithingref12_ahead) rfl ok_tithingref12_ahead rfl rfl rfl rfl (Rets.mono (hah _ _ H) ?_); rintro _ w ⟨rfl, H⟩; refine ⟨(by exact H), ?_⟩)))
          | (show Vc _ _ _ _ _ _; first
      | refine Vc.seq ?_
      | refine Vc.region ?_
      | refine Vc.condT rfl ?_
      | refine Vc.condF rfl ?_
      | refine Vc.ret ?_
      | refine Vc.block ?_
      | refine Vc.drawnH (id := 16) H (.pure 0 (.pure 1 (.pure 2 (.take 3 (.pure 4 (.pure 5 (.pure 7 (.pure 8 (.pure 9 (.take 6 (.take 10 (.only 11 (.pure 12 (.pure 13 .done)))))))))))))) mixed (by kernel_rfl) (fun w H => ?_))
          | (show KSeq _ _ _ _ _ _ _; refine KSeq.normal ?_)
          | (show KBlock _ _ _ _ _ _; refine KBlock.normal ?_)
          | (show KEnd _ _ _ _ _ _ _; refine KEnd.fin (Or.inr rfl) ⟨_, (ResL.tmp rfl ResL.nil), ?_⟩))
        exact ⟨I, Imm.Le.rfl' I, FrsI.nil, ref_close _ ⟨{ ok with }, hm.still, hm.news, hm.codes, hm.each⟩ (Holds.drop1 H)⟩
      · have hd : doesR E ⟨6, (id : Nat), (sq : Nat), (nn : Nat), data⟩ = (E, []) := by
          show ((if E.resets = true ∧ fromS E.resetAt nn < 2147483648 then { E with resets := false } else E), ([] : List Fr)) = _
          rw [if_neg (fun h => hfar h.2)]
        rw [hd]
        have hdc : decide (((fromS E.resetAt nn : Nat) : Int) < 2147483648) = false := decide_eq_false (by omega)
        obtain ⟨fk, hfk⟩ : ∃ k, fromS E.resetAt nn = k := ⟨_, rfl⟩
        rw [hfk] at hah hdc
        clear hfk hfar hd
        obtain ⟨q1, q2, q3, q4, q5, q6, q7, q8, q9, rs, q11, q12, q13, q14, q15, q16, q17⟩ := E
        obtain rfl : rs = true := hrs
        refine ok_tithingref12_End_does.rets rfl ?_
        repeat' (first
          | rw [hdc]
          | (show VcL _ _ _ _ _ _ _ _; first
      | refine VcL.pures tabOk rfl ?_
      | refine VcL.nil ?_
      | (show VcL _ _ _ _ (⟨_, .load _ _, _, _, _, _⟩ :: _) _ _ _; refine VcL.load1 tabOk rfl rfl rfl rfl rfl (by exact Holds.cell H rfl) ?_)
      | refine VcL.box H rfl rfl rfl rfl rfl (fun b w H => ?_))
          | (show VcD _ _ _ _ _ _ _ _ _; first
      | refine VcD.pures tabOk rfl ?_
      | refine VcD.done ?_
      | (show VcD _ _ _ _ _ (.pure _ _) _ _ _; (refine VcD.guardP rfl rfl rfl rfl rfl (fun h => ?_) (fun h => ?_) <;> first | (cases h; done) | skip))
      | (show VcD _ _ _ _ _ (.take _ _) _ _ _; refine VcD.load1 tabOk rfl rfl rfl rfl rfl rfl (by intro w_ hw_; first | exact Holds.cell hw_ rfl | exact Holds.cell (Holds.f1 hw_) rfl) (by exact rfl) ?_)
      | (show VcD _ _ _ _ _ (.only _ _) _ _ _; (refine VcD.callF (f := F_tithingref12_ahead) rfl ok_tithingref12_ahead rfl rfl rfl rfl (Rets.mono (hah _ _ H) ?_); rintro _ w ⟨rfl, H⟩; refine ⟨(by exact H), ?_⟩)))
          | (show Vc _ _ _ _ _ _; first
      | refine Vc.seq ?_
      | refine Vc.region ?_
      | refine Vc.condT rfl ?_
      | refine Vc.condF rfl ?_
      | refine Vc.ret ?_
      | refine Vc.skip ?_
      | refine Vc.block ?_
      | refine Vc.drawnH (id := 16) H (.pure 0 (.pure 1 (.pure 2 (.take 3 (.pure 4 (.pure 5 (.pure 7 (.pure 8 (.pure 9 (.take 6 (.take 10 (.only 11 (.pure 12 (.pure 13 .done)))))))))))))) mixed (by kernel_rfl) (fun w H => ?_))
          | (show KSeq _ _ _ _ _ _ _; refine KSeq.normal ?_)
          | (show KBlock _ _ _ _ _ _; refine KBlock.normal ?_)
          | (show KEnd _ _ _ _ _ _ _; refine KEnd.fin (Or.inr rfl) ⟨_, (ResL.tmp rfl ResL.nil), ?_⟩))
        exact ⟨I, Imm.Le.rfl' I, FrsI.nil, ref_close _ hm (Holds.drop H)⟩
    · have hrs0 : E.resets = false := by simpa using hrs
      have hd : doesR E ⟨6, (id : Nat), (sq : Nat), (nn : Nat), data⟩ = (E, []) := by
        show ((if E.resets = true ∧ fromS E.resetAt nn < 2147483648 then { E with resets := false } else E), ([] : List Fr)) = _
        rw [if_neg (fun h => hrs h.1)]
      rw [hd]
      clear hd hah
      obtain ⟨q1, q2, q3, q4, q5, q6, q7, q8, q9, rs, q11, q12, q13, q14, q15, q16, q17⟩ := E
      obtain rfl : rs = false := hrs0
      refine ok_tithingref12_End_does.rets rfl ?_
      repeat' (first
        | (show VcL _ _ _ _ _ _ _ _; first
      | refine VcL.pures tabOk rfl ?_
      | refine VcL.nil ?_
      | (show VcL _ _ _ _ (⟨_, .load _ _, _, _, _, _⟩ :: _) _ _ _; refine VcL.load1 tabOk rfl rfl rfl rfl rfl (by exact Holds.cell H rfl) ?_)
      | refine VcL.box H rfl rfl rfl rfl rfl (fun b w H => ?_))
        | (show VcD _ _ _ _ _ _ _ _ _; first
      | refine VcD.pures tabOk rfl ?_
      | refine VcD.done ?_
      | (show VcD _ _ _ _ _ (.pure _ _) _ _ _; (refine VcD.guardP rfl rfl rfl rfl rfl (fun h => ?_) (fun h => ?_) <;> first | (cases h; done) | skip))
      | (show VcD _ _ _ _ _ (.take _ _) _ _ _; first
      | refine VcD.load1 tabOk rfl rfl rfl rfl rfl rfl (by intro w_ hw_; exact Holds.cell (Holds.f1 hw_) rfl) (by exact rfl) ?_
      | refine VcD.skipT rfl rfl rfl ?_)
      | (show VcD _ _ _ _ _ (.only _ _) _ _ _; refine VcD.skip rfl rfl rfl (by exact H) ?_))
        | (show Vc _ _ _ _ _ _; first
      | refine Vc.seq ?_
      | refine Vc.region ?_
      | refine Vc.condT rfl ?_
      | refine Vc.condF rfl ?_
      | refine Vc.ret ?_
      | refine Vc.skip ?_
      | refine Vc.block ?_
      | refine Vc.drawnH (id := 16) H (.pure 0 (.pure 1 (.pure 2 (.take 3 (.pure 4 (.pure 5 (.pure 7 (.pure 8 (.pure 9 (.take 6 (.take 10 (.only 11 (.pure 12 (.pure 13 .done)))))))))))))) mixed (by kernel_rfl) (fun w H => ?_))
        | (show KSeq _ _ _ _ _ _ _; refine KSeq.normal ?_)
        | (show KBlock _ _ _ _ _ _; refine KBlock.normal ?_)
        | (show KEnd _ _ _ _ _ _ _; refine KEnd.fin (Or.inr rfl) ⟨_, (ResL.tmp rfl ResL.nil), ?_⟩))
      exact ⟨I, Imm.Le.rfl' I, FrsI.nil, ref_close _ hm (Holds.drop H)⟩
  · clear HA
    by_cases hrs : E.news.isSome = true ∧ ((sq : Nat) : Int) = E.seq
    · have hd : doesR E ⟨8, (id : Nat), (sq : Nat), (nn : Nat), data⟩ = ({ E with news := none, seq := (E.seq + 1) % 65536 }, []) := by
        show ((if E.news.isSome = true ∧ ((sq : Nat) : Int) = E.seq then { E with news := none, seq := (E.seq + 1) % 65536 } else E), ([] : List Fr)) = _
        rw [if_pos hrs]
      rw [hd]
      clear hd
      obtain ⟨q1, q2, q3, q4, q5, q6, q7, q8, q9, rs, q11, nw, q13, q14, q15, q16, q17⟩ := E
      obtain ⟨hrs1, hrs2⟩ := hrs
      dsimp only at hrs1 hrs2
      obtain rfl : sq = q13 := by omega
      cases nw with
      | none => exact absurd hrs1 (by decide)
      | some nb =>
        have e1 : IntKind.i64.wrap ((sq : Int) + 1) = ((sq + 1 : Nat) : Int) := by rw [wrap_i64 (by omega) (by omega)]; omega
        have e2 : ((sq + 1 : Nat) : Int).tmod (Int.ofNat (65535 + 1)) = (((sq + 1) % 65536 : Nat) : Int) := by rw [Int.tmod_eq_emod_of_nonneg (by omega)]; rfl
        have e3 : decide ((sq : Int) = (sq : Int)) = true := decide_eq_true rfl
        refine ok_tithingref12_End_does.rets rfl ?_
        repeat' (first
          | rw [e1]
          | rw [e2]
          | rw [e3]
          | (show VcL _ _ _ _ _ _ _ _; first
      | refine VcL.pures tabOk rfl ?_
      | refine VcL.nil ?_
      | (show VcL _ _ _ _ (⟨_, .load _ _, _, _, _, _⟩ :: _) _ _ _; refine VcL.load1 tabOk rfl rfl rfl rfl rfl (by first | exact Holds.cell H rfl | exact Holds.cell (Holds.f1 H) rfl) ?_)
      | refine VcL.box H rfl rfl rfl rfl rfl (fun b w H => ?_)
      | (show VcL _ _ _ _ (⟨_, .store _ _ _, _, _, _, _⟩ :: _) _ _ _; refine VcL.store tabOk rfl (by first | exact H | exact (Holds.f1 H)) rfl rfl (by exact rfl) (by exact rfl) (by exact rfl) (by exact rfl) (fun w H => ?_)))
          | (show VcD _ _ _ _ _ _ _ _ _; first
      | refine VcD.pures tabOk rfl ?_
      | refine VcD.done ?_
      | (show VcD _ _ _ _ _ (.pure _ _) _ _ _; (refine VcD.guardP rfl rfl rfl rfl rfl (fun h => ?_) (fun h => ?_) <;> first | (cases h; done) | skip))
      | (show VcD _ _ _ _ _ (.take _ _) _ _ _; refine VcD.load1 tabOk rfl rfl rfl rfl rfl rfl (by intro w_ hw_; first | exact Holds.cell hw_ rfl | exact Holds.cell (Holds.f1 hw_) rfl) (by exact rfl) ?_))
          | (show Vc _ _ _ _ _ _; first
      | refine Vc.seq ?_
      | refine Vc.region ?_
      | refine Vc.condT rfl ?_
      | refine Vc.condF rfl ?_
      | refine Vc.ret ?_
      | refine Vc.block ?_
      | refine Vc.drawnH (id := 21) H (.pure 0 (.pure 1 (.pure 2 (.take 3 (.pure 4 (.pure 5 (.pure 7 (.pure 8 (.pure 9 (.take 6 (.take 10 (.pure 11 (.pure 12 .done))))))))))))) mixed (by kernel_rfl) (fun w H => ?_))
          | (show KSeq _ _ _ _ _ _ _; refine KSeq.normal ?_)
          | (show KBlock _ _ _ _ _ _; refine KBlock.normal ?_)
          | (show KEnd _ _ _ _ _ _ _; refine KEnd.fin (Or.inr rfl) ⟨_, (ResL.tmp rfl ResL.nil), ?_⟩))
        exact ⟨I, Imm.Le.rfl' I, FrsI.nil, ref_close ⟨.slice A1 q6.length c1, .slice A2 q9.length c2, av, .slice A3 cd.length c3, cd⟩ ⟨{ ok with news := fun b hb => (by cases hb), seq := Nat.mod_lt _ (by decide) }, hm.still, fun b hb => (by cases hb), hm.codes, hm.each⟩ (Holds.drop1 H)⟩
    · have hd : doesR E ⟨8, (id : Nat), (sq : Nat), (nn : Nat), data⟩ = (E, []) := by
        show ((if E.news.isSome = true ∧ ((sq : Nat) : Int) = E.seq then { E with news := none, seq := (E.seq + 1) % 65536 } else E), ([] : List Fr)) = _
        rw [if_neg hrs]
      rw [hd]
      clear hd
      obtain ⟨q1, q2, q3, q4, q5, q6, q7, q8, q9, rs, q11, nw, q13, q14, q15, q16, q17⟩ := E
      dsimp only at hrs
      cases nw with
      | none =>
        refine ok_tithingref12_End_does.rets rfl ?_
        repeat' (first
          | (show VcL _ _ _ _ _ _ _ _; first
      | refine VcL.pures tabOk rfl ?_
      | refine VcL.nil ?_
      | (show VcL _ _ _ _ (⟨_, .load _ _, _, _, _, _⟩ :: _) _ _ _; refine VcL.load1 tabOk rfl rfl rfl rfl rfl (by exact Holds.cell H rfl) ?_)
      | refine VcL.box H rfl rfl rfl rfl rfl (fun b w H => ?_))
          | (show VcD _ _ _ _ _ _ _ _ _; first
      | refine VcD.pures tabOk rfl ?_
      | refine VcD.done ?_
      | (show VcD _ _ _ _ _ (.pure _ _) _ _ _; (refine VcD.guardP rfl rfl rfl rfl rfl (fun h => ?_) (fun h => ?_) <;> first | (cases h; done) | skip))
      | (show VcD _ _ _ _ _ (.take _ _) _ _ _; first
      | refine VcD.load1 tabOk rfl rfl rfl rfl rfl rfl (by intro w_ hw_; exact Holds.cell (Holds.f1 hw_) rfl) (by exact rfl) ?_
      | refine VcD.skipT rfl rfl rfl ?_))
          | (show Vc _ _ _ _ _ _; first
      | refine Vc.seq ?_
      | refine Vc.region ?_
      | refine Vc.condT rfl ?_
      | refine Vc.condF rfl ?_
      | refine Vc.ret ?_
      | refine Vc.skip ?_
      | refine Vc.block ?_
      | refine Vc.drawnH (id := 21) H (.pure 0 (.pure 1 (.pure 2 (.take 3 (.pure 4 (.pure 5 (.pure 7 (.pure 8 (.pure 9 (.take 6 (.take 10 (.pure 11 (.pure 12 .done))))))))))))) mixed (by kernel_rfl) (fun w H => ?_))
          | (show KSeq _ _ _ _ _ _ _; refine KSeq.normal ?_)
          | (show KBlock _ _ _ _ _ _; refine KBlock.normal ?_)
          | (show KEnd _ _ _ _ _ _ _; refine KEnd.fin (Or.inr rfl) ⟨_, (ResL.tmp rfl ResL.nil), ?_⟩))
        exact ⟨I, Imm.Le.rfl' I, FrsI.nil, ref_close _ hm (Holds.drop H)⟩
      | some nb =>
        have e3 : decide ((sq : Int) = (q13 : Int)) = false := decide_eq_false fun h => hrs ⟨rfl, h⟩
        clear hrs
        refine ok_tithingref12_End_does.rets rfl ?_
        repeat' (first
          | rw [e3]
          | (show VcL _ _ _ _ _ _ _ _; first
      | refine VcL.pures tabOk rfl ?_
      | refine VcL.nil ?_
      | (show VcL _ _ _ _ (⟨_, .load _ _, _, _, _, _⟩ :: _) _ _ _; refine VcL.load1 tabOk rfl rfl rfl rfl rfl (by exact Holds.cell H rfl) ?_)
      | refine VcL.box H rfl rfl rfl rfl rfl (fun b w H => ?_))
          | (show VcD _ _ _ _ _ _ _ _ _; first
      | refine VcD.pures tabOk rfl ?_
      | refine VcD.done ?_
      | (show VcD _ _ _ _ _ (.pure _ _) _ _ _; (refine VcD.guardP rfl rfl rfl rfl rfl (fun h => ?_) (fun h => ?_) <;> first | (cases h; done) | skip))
      | (show VcD _ _ _ _ _ (.take _ _) _ _ _; refine VcD.load1 tabOk rfl rfl rfl rfl rfl rfl (by intro w_ hw_; first | exact Holds.cell hw_ rfl | exact Holds.cell (Holds.f1 hw_) rfl) (by exact rfl) ?_))
          | (show Vc _ _ _ _ _ _; first
      | refine Vc.seq ?_
      | refine Vc.region ?_
      | refine Vc.condT rfl ?_
      | refine Vc.condF rfl ?_
      | refine Vc.ret ?_
      | refine Vc.skip ?_
      | refine Vc.block ?_
      | refine Vc.drawnH (id := 21) H (.pure 0 (.pure 1 (.pure 2 (.take 3 (.pure 4 (.pure 5 (.pure 7 (.pure 8 (.pure 9 (.take 6 (.take 10 (.pure 11 (.pure 12 .done))))))))))))) mixed (by kernel_rfl) (fun w H => ?_))
          | (show KSeq _ _ _ _ _ _ _; refine KSeq.normal ?_)
          | (show KBlock _ _ _ _ _ _; refine KBlock.normal ?_)
          | (show KEnd _ _ _ _ _ _ _; refine KEnd.fin (Or.inr rfl) ⟨_, (ResL.tmp rfl ResL.nil), ?_⟩))
        exact ⟨I, Imm.Le.rfl' I, FrsI.nil, ref_close _ hm (Holds.drop H)⟩
end Go.Proofs.Ytpfgcchammlpgaa.V
