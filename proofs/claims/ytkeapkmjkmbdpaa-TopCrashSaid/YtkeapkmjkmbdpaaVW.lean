/- The program's store: a commit is done. -/
import Derived.Test.YtkeapkmjkmbdpaaVV
namespace Go.Proofs.Ytkeapkmjkmbdpaa.V
open Go Go.Proofs.YtkeapkmjkmbdpaaV
set_option linter.unusedVariables false
set_option linter.unusedSimpArgs false
set_option maxHeartbeats 1000000
set_option maxRecDepth 4000
attribute [local irreducible] IntKind.wrap
variable {I : Imm} {w : World} {L : List Asn}
/-- Writes, as they lie. -/
abbrev Wl := List (Int × Vb)
def wrC (x : Int × Vb) : List Value := [.int .i64 x.1, x.2.1]
theorem wrC_len (x : Int × Vb) : (wrC x).length = 2 := rfl
def wsOf (wl : Wl) : Ws := wl.map fun x => (x.1, x.2.2)
theorem wsOf_len (wl : Wl) : (wsOf wl).length = wl.length := List.length_map ..
theorem wsOf_at {wl : Wl} {k : Nat} (h : k < wl.length) : atD (wsOf wl) k = ((atD wl k).1, (atD wl k).2.2) := atD_of (by unfold wsOf; rw [List.getElem?_map, atD_get h]; rfl)
def twoS (ws : Ws) : By := ws.flatMap fun x => two x.1.toNat
theorem twoS_len (ws : Ws) : (twoS ws).length = 2 * ws.length := by
  unfold twoS
  induction ws with
  | nil => rfl
  | cons x r ih => rw [List.flatMap_cons, List.length_append, ih, two_len, List.length_cons]; omega
theorem twoS_take {ws : Ws} {k : Nat} (h : k < ws.length) : twoS (ws.take (k + 1)) = twoS (ws.take k) ++ two (atD ws k).1.toNat := by unfold twoS; rw [take_atD h, List.flatMap_append]; simp
def preK (ws : Ws) (k : Nat) : By := markB ++ two ws.length ++ twoS (ws.take k)
theorem preK_len {ws : Ws} {k : Nat} (h : k ≤ ws.length) : (preK ws k).length = 6 + 2 * k := by
  unfold preK
  rw [List.length_append, List.length_append, twoS_len, List.length_take, two_len]
  show 4 + 2 + 2 * min k ws.length = _
  omega
theorem preK_all (ws : Ws) : preK ws ws.length = preB ws := by unfold preK preB twoS; rw [List.take_length]
theorem preK_succ {ws : Ws} {k : Nat} (h : k < ws.length) : preK ws (k + 1) = preK ws k ++ two (atD ws k).1.toNat := by unfold preK; rw [twoS_take h, List.append_assoc (markB ++ two ws.length)]
theorem byL_app (a b : By) : byL (a ++ b) = byL a ++ byL b := List.map_append ..
theorem wsS_cons0 {D : Dk} {x : Int × By} {r : Ws} (h : (wrS D x.1 x.2).2 = 0) : wsS D (x :: r) = wsS (wrS D x.1 x.2).1 r := by
  conv => lhs; unfold wsS
  rw [if_pos h]
theorem wsS_cons1 {D : Dk} {x : Int × By} {r : Ws} (h : (wrS D x.1 x.2).2 = 160) (hD : (wrS D x.1 x.2).1 = D) : wsS D (x :: r) = (D, false) := by
  unfold wsS
  rw [if_neg (by rw [h]; decide), hD]
theorem headB_len {ws : Ws} : (headB ws).length = 8 + 2 * ws.length := by
  unfold headB
  rw [List.length_append, two_len, ← preK_all, preK_len (Nat.le_refl _)]
  omega
theorem byL_mark : byL markB = [.int .u8 74, .int .u8 82, .int .u8 78, .int .u8 76] := rfl
theorem commit_any {s d ho : Nat} {dead : Bool} {D : Dk} (H : Holds I w (dskA d D :: L)) (hs : RdW I L s 0 (stV d (ho : Nat) dead)) (hw : D.writes + 200 < 2 ^ 40) (hh : ho + 41 ≤ D.blocks.length)
    {v : Value} {wl : Wl} (hv : SlR I L v 2 wl.length (wl.flatMap wrC)) (hda : ∀ x ∈ wl, SlR I L x.2.1 1 x.2.2.length (byL x.2.2)) (hin : ∀ x ∈ wl, 0 ≤ x.1 ∧ x.1 < ho ∧ x.2.2.length = 256) (hlen : wl.length ≤ 40) (h0 : 0 < wl.length) :
    Rets Try.prog F_journal_Store_commit #[ptr s, v] w fun u w' => u = .int .i64 (if (comS D ho (wsOf wl)).2 then 0 else 160) ∧ Holds I w' (dskA d (comS D ho (wsOf wl)).1 :: L) := by
  have hok := dsk_ok H
  have hfew := hok.few
  obtain ⟨A, cap, rfl, hcap⟩ := hv.form
  obtain ⟨bw, ow, rfl, hrw⟩ := hv.at h0
  obtain ⟨ws, hws⟩ : ∃ ws, wsOf wl = ws := ⟨_, rfl⟩
  have hwl : ws.length = wl.length := by rw [← hws, wsOf_len]
  rw [hws]
  have hwa : ∀ k, k < wl.length → atD ws k = ((atD wl k).1, (atD wl k).2.2) := fun k hk => by rw [← hws]; exact wsOf_at hk
  have hw256 : ∀ x ∈ ws, x.2.length = 256 := fun x hx => by
    rw [← hws] at hx
    obtain ⟨y, hy, rfl⟩ := List.mem_map.1 hx
    exact (hin y hy).2.2
  have hpl : (plW ho ws).length = wl.length := by rw [plW_len, hwl]
  have hhl : (headB ws).length = 8 + 2 * wl.length := by rw [headB_len, hwl]
  refine ok_journal_Store_commit.rets rfl ?_
  repeat' (first
    | (refine VcL.buildSliceP tabOk H rfl rfl rfl rfl rfl rfl (fun b_ w H => ?_))
    | (refine VcL.constBytes (cs := byL markB) tabOk rfl H rfl rfl rfl rfl rfl rfl rfl (fun w H => ?_))
    | (refine VcL.append (m := 2) (ds := byL (two wl.length)) tabOk rfl rfl rfl rfl (Holds.f1 H) (Holds.own_src H) (by_one _) (by decide) rfl rfl rfl (fun hv2 w H => ?_))
    | (show VcL _ _ _ _ _ _ _ _; first
      | refine VcL.pures tabOk rfl ?_
      | refine VcL.nil ?_
      | (show VcL _ _ _ _ (⟨_, .call ⟨.value (.func F_octet_Put), _, _⟩, _, _, _, _⟩ :: _) _ _ _; (refine VcL.callF ok_octet_Put rfl rfl rfl rfl (Rets.mono (Put2_any (n := wl.length) H (by omega)) ?_); rintro _ w ⟨sv, rfl, H⟩)))
    | (show Vc _ _ _ _ _ _; first
      | refine Vc.seq ?_
      | refine Vc.region ?_
      | refine Vc.block ?_)
    | (show KSeq _ _ _ _ _ _ _; refine KSeq.normal ?_))
  have H1 : Holds I w (own hv2 5 1 6 (byL (preK ws 0)) :: dskA d D :: L) := by
    have e : byL (preK ws 0) = byL markB ++ byL (two wl.length) := by
      unfold preK
      rw [hwl]
      show byL (markB ++ two wl.length ++ []) = _
      rw [List.append_nil, byL_app]
    rw [e]
    exact H.drop1
  clear H
  have H := H1
  clear H1
  refine Vc.loopS [(0, _), (1, _), (33, _), (34, _)] (fun s : Nat × Value × Value => [(5, s.2.1), (8, s.2.2), (35, .int .i64 s.1)]) (fun s w => s.1 ≤ wl.length ∧ ∃ Dk, wsS D (plW ho ws) = wsS Dk ((plW ho ws).drop s.1) ∧ Dk.writes ≤ D.writes + s.1 ∧ Dk.blocks.length = D.blocks.length ∧ Holds I w (dskA d Dk :: own s.2.2 5 1 (256 * s.1) (byL (datS (ws.take s.1))) :: own s.2.1 5 1 (6 + 2 * s.1) (byL (preK ws s.1)) :: L)) (fun s _ => wl.length - s.1) (0, hv2, .slice none 0 0) ⟨rfl, rfl, rfl, trivial⟩ ⟨rfl, rfl, rfl, rfl, trivial⟩ ⟨Nat.zero_le _, D, rfl, Nat.le_refl _, rfl, (H.own_nil).re [2, 0, 0] rfl⟩ ?_
  rintro ⟨k, hv5, av⟩ w ⟨hk, Dk, hwk, hwrk, hblk, H⟩
  dsimp only at hk hwk hwrk hblk H ⊢
  by_cases hlt : k < wl.length
  · obtain ⟨x, hx⟩ : ∃ x, atD wl k = x := ⟨_, rfl⟩
    have hxm : x ∈ wl := hx ▸ atD_mem hlt
    have hxi := hin x hxm
    have hxd := hda x hxm
    have hrx := hrw.elem wrC_len (atD_get hlt)
    obtain ⟨A9, c9, hxf, _⟩ := hxd.form
    rw [hx] at hrx
    have hwx := hwa k hlt
    rw [hx] at hwx
    obtain ⟨xi, xv, dat⟩ := x
    dsimp only at hxi hxd hxf hwx
    subst hxf
    obtain ⟨tk, rfl⟩ := Int.eq_ofNat_of_zero_le hxi.1
    have hrx : RdW I L bw (ow + k * 2) [.int .i64 (tk : Int), .slice A9 dat.length c9] := hrx
    have hdat := hxi.2.2
    have e1 : IntKind.i64.wrap ((ho : Int) + 1) = ((ho + 1 : Nat) : Int) := wrap_i64 (by omega) (by omega)
    have e2 : IntKind.i64.wrap (((ho + 1 : Nat) : Int) + (k : Int)) = ((ho + 1 + k : Nat) : Int) := by rw [wrap_i64 (by omega) (by omega)]; omega
    have hs3 := hs.up (A := own hv5 5 1 (6 + 2 * k) (byL (preK ws k))) |>.up (A := own av 5 1 (256 * k) (byL (datS (ws.take k)))) |>.up (A := dskA d Dk)
    have hdrop : (plW ho ws).drop k = (((ho + 1 + k : Nat) : Int), dat) :: (plW ho ws).drop (k + 1) := by rw [drop_atD (by omega), plW_at _ _ (by omega), hwx]
    rw [hdrop] at hwk
    have he := wrS_err (D := Dk) (k := ((ho + 1 + k : Nat) : Int)) (b := dat) ⟨by omega, by omega, hdat⟩
    have hww := wrS_writes Dk ((ho + 1 + k : Nat) : Int) dat
    have hwb := wrS_blocks Dk ((ho + 1 + k : Nat) : Int) dat
    have hrx3 := hrx.up (A := own hv5 5 1 (6 + 2 * k) (byL (preK ws k))) |>.up (A := own av 5 1 (256 * k) (byL (datS (ws.take k)))) |>.up (A := dskA d Dk)
    rcases he with ⟨h0', _⟩ | ⟨h0', _, hDk⟩
    ·
      repeat' (first
        | rw [e1]
        | rw [e2]
        | (refine VcL.append (m := 2) (ds := byL (two tk)) tabOk rfl rfl rfl rfl (Holds.f4 H) (Holds.own_src H) (by_one _) (by show (_ + 2) * 1 ≤ _; omega) rfl rfl rfl (fun hv6 w H => ?_))
        | (refine VcL.append (m := dat.length) (ds := byL dat) tabOk rfl rfl rfl rfl (Holds.f4 H) (SlR.src hxd.up.up.up.up.up H) (by_one _) (by show (_ + _) * 1 ≤ _; omega) rfl rfl rfl (fun av2 w H => ?_))
        | rw [h0']
        | (show VcL _ _ _ _ _ _ _ _; first
      | refine VcL.pures tabOk rfl ?_
      | refine VcL.nil ?_
      | (show VcL _ _ _ _ (⟨_, .load _ _, _, _, _, _⟩ :: _) _ _ _; first
      | refine VcL.load1 tabOk rfl rfl rfl rfl rfl (by first | exact Holds.cell (Holds.f1 H) rfl | exact Holds.cell (Holds.f3 H) rfl | exact RdW.get0 (by assumption) rfl H) ?_
      | refine VcL.loadR tabOk rfl rfl rfl rfl rfl rfl (by exact RdW.rd (by assumption) H) rfl ?_)
      | (show VcL _ _ _ _ (⟨_, .indexAddr _ _ _, _, _, _, _⟩ :: _) _ _ _; refine VcL.indexAddr tabOk rfl rfl rfl rfl rfl rfl (by omega) (by omega) ?_)
      | refine VcL.alloc tabOk H rfl rfl rfl rfl (fun b w H => ?_)
      | (show VcL _ _ _ _ (⟨_, .store _ _ _, _, _, _, _⟩ :: _) _ _ _; refine VcL.store tabOk rfl (by exact H) rfl rfl (by exact rfl) (by exact rfl) (by exact rfl) (by exact rfl) (fun w H => ?_))
      | (show VcL _ _ _ _ (⟨_, .call ⟨.value (.func F_octet_Put), _, _⟩, _, _, _, _⟩ :: _) _ _ _; (refine VcL.callF ok_octet_Put rfl rfl rfl rfl (Rets.mono (Put2_any (n := tk) H (by omega)) ?_); rintro _ w ⟨sv, rfl, H⟩)))
        | (show VcD _ _ _ _ _ _ _ _ _; first
      | refine VcD.pures tabOk rfl ?_
      | refine VcD.done ?_
      | (show VcD _ _ _ _ _ (.take _ _) _ _ _; refine VcD.load1 tabOk rfl rfl rfl rfl rfl rfl (by intro w_ hw_; first | exact hw_.1 _ _ rfl | exact hw_.1 0 _ rfl | exact hw_.2 _ _ rfl) (by exact rfl) ?_)
      | (show VcD _ _ _ _ _ (.only _ _) _ _ _; (refine VcD.callF (f := F_journal_Disk_Write) rfl ok_journal_Disk_Write rfl rfl rfl rfl (Rets.mono (WriteP_any (k := ((ho + 1 + k : Nat) : Int)) (l := dat) (Holds.swap H) (by omega) hxd.up.up.up (by omega)) ?_); rintro _ w ⟨rfl, H⟩; refine ⟨(by (refine ⟨?_, ?_⟩ <;> first | exact Holds.rdWhole (Holds.f1 H) | exact RdW.rd (by assumption) (Holds.drop (Holds.drop (Holds.drop (Holds.drop H)))))), ?_⟩)))
        | (show Vc _ _ _ _ _ _; first
      | refine Vc.seq ?_
      | refine Vc.region ?_
      | refine Vc.condF rfl ?_
      | refine Vc.skip ?_
      | refine Vc.block ?_
      | (refine Vc.drawn (id := 8) (.pure 0 (.pure 1 (.pure 2 (.pure 4 (.pure 5 (.pure 6 (.pure 9 (.pure 11 (.take 3 (.take 7 (.pure 8 (.pure 10 (.take 12 (.only 13 (.pure 14 .done))))))))))))))) (.one (fun w => Rd w s 0 (stV d (ho : Nat) dead) ∧ Rd w b 0 [.int .i64 (tk : Int), .slice A9 dat.length c9])) mixed (by kernel_rfl) (by (refine ⟨?_, ?_⟩ <;> first | exact Holds.rdWhole (Holds.drew H _) | exact RdW.rd (by assumption) (Holds.drop (Holds.drew H _)))) ?_; have H := H.drew (w.drawn + 1))
      | (refine Vc.cond rfl (fun h => ?_) (fun h => ?_) <;> first | (exfalso; simp only [decide_eq_true_eq, decide_eq_false_iff_not, Bool.not_eq_true', Bool.not_eq_false'] at h; omega) | (with_reducible have hp := of_decide_eq_true h)))
        | (show KSeq _ _ _ _ _ _ _; refine KSeq.normal ?_)
        | (show KBlock _ _ _ _ _ _; refine KBlock.normal ?_))
      refine KLoop.again (k + 1, hv6, av2) ⟨rfl, rfl, got_succ rfl (by omega), trivial⟩ ⟨rfl, rfl, rfl, rfl, trivial⟩ ⟨hlt, (wrS Dk ((ho + 1 + k : Nat) : Int) dat).1, ?_, by show _ ≤ D.writes + (k + 1); omega, by rw [hwb]; exact hblk, ?_⟩ (by show _ < _; omega)
      · rw [hwk, wsS_cons0 h0']
      · rw [datS_take (by omega), hwx, preK_succ (by omega), hwx, byL_app, byL_app]
        have H2 := H.drop2.re [2, 0, 0] rfl
        have H3 := H2.drop3
        rw [hdat] at H3
        exact H3
    ·
      repeat' (first
        | rw [e1]
        | rw [e2]
        | rw [h0']
        | (show VcL _ _ _ _ _ _ _ _; first
      | refine VcL.pures tabOk rfl ?_
      | refine VcL.nil ?_
      | (show VcL _ _ _ _ (⟨_, .load _ _, _, _, _, _⟩ :: _) _ _ _; refine VcL.loadR tabOk rfl rfl rfl rfl rfl rfl (by exact RdW.rd (by assumption) H) rfl ?_)
      | (show VcL _ _ _ _ (⟨_, .indexAddr _ _ _, _, _, _, _⟩ :: _) _ _ _; refine VcL.indexAddr tabOk rfl rfl rfl rfl rfl rfl (by omega) (by omega) ?_)
      | refine VcL.alloc tabOk H rfl rfl rfl rfl (fun b w H => ?_)
      | (show VcL _ _ _ _ (⟨_, .store _ _ _, _, _, _, _⟩ :: _) _ _ _; refine VcL.store tabOk rfl (by exact H) rfl rfl (by exact rfl) (by exact rfl) (by exact rfl) (by exact rfl) (fun w H => ?_)))
        | (show VcD _ _ _ _ _ _ _ _ _; first
      | refine VcD.pures tabOk rfl ?_
      | refine VcD.done ?_
      | (show VcD _ _ _ _ _ (.take _ _) _ _ _; refine VcD.load1 tabOk rfl rfl rfl rfl rfl rfl (by intro w_ hw_; first | exact hw_.1 _ _ rfl | exact hw_.1 0 _ rfl | exact hw_.2 _ _ rfl) (by exact rfl) ?_)
      | (show VcD _ _ _ _ _ (.only _ _) _ _ _; (refine VcD.callF (f := F_journal_Disk_Write) rfl ok_journal_Disk_Write rfl rfl rfl rfl (Rets.mono (WriteP_any (k := ((ho + 1 + k : Nat) : Int)) (l := dat) (Holds.swap H) (by omega) hxd.up.up.up (by omega)) ?_); rintro _ w ⟨rfl, H⟩; refine ⟨(by (refine ⟨?_, ?_⟩ <;> first | exact Holds.rdWhole (Holds.f1 H) | exact RdW.rd (by assumption) (Holds.drop (Holds.drop (Holds.drop (Holds.drop H)))))), ?_⟩)))
        | (show Vc _ _ _ _ _ _; first
      | refine Vc.seq ?_
      | refine Vc.region ?_
      | refine Vc.condT rfl ?_
      | refine Vc.ret ?_
      | refine Vc.skip ?_
      | refine Vc.block ?_
      | (refine Vc.drawn (id := 8) (.pure 0 (.pure 1 (.pure 2 (.pure 4 (.pure 5 (.pure 6 (.pure 9 (.pure 11 (.take 3 (.take 7 (.pure 8 (.pure 10 (.take 12 (.only 13 (.pure 14 .done))))))))))))))) (.one (fun w => Rd w s 0 (stV d (ho : Nat) dead) ∧ Rd w b 0 [.int .i64 (tk : Int), .slice A9 dat.length c9])) mixed (by kernel_rfl) (by (refine ⟨?_, ?_⟩ <;> first | exact Holds.rdWhole (Holds.drew H _) | exact RdW.rd (by assumption) (Holds.drop (Holds.drew H _)))) ?_; have H := H.drew (w.drawn + 1))
      | (refine Vc.cond rfl (fun h => ?_) (fun h => ?_) <;> first | (exfalso; simp only [decide_eq_true_eq, decide_eq_false_iff_not, Bool.not_eq_true', Bool.not_eq_false'] at h; omega) | (with_reducible have hp := of_decide_eq_true h)))
        | (show KSeq _ _ _ _ _ _ _; first
      | refine KSeq.normal ?_
      | refine KSeq.ret ?_)
        | (show KBlock _ _ _ _ _ _; refine KBlock.ret ?_)
        | refine KLoop.ret ?_
        | (show KEnd _ _ _ _ _ _ _; refine KEnd.fin (Or.inr rfl) ⟨_, (ResL.tmp rfl ResL.nil), ?_⟩))
      have e0 : wsS D (plW ho ws) = (Dk, false) := by rw [hwk, wsS_cons1 h0' hDk]
      have eC : comS D ho ws = (Dk, false) := by unfold comS; rw [e0]; rfl
      rw [eC]
      rw [hDk] at H
      exact ⟨rfl, H.drop1.drop1.drop1⟩
  · obtain rfl : k = wl.length := by omega
    rw [List.drop_of_length_le (by omega)] at hwk
    have hwk : wsS D (plW ho ws) = ((flS Dk).1, decide ((flS Dk).2 = 0)) := hwk
    have hs3 := hs.up (A := own hv5 5 1 (6 + 2 * wl.length) (byL (preK ws wl.length))) |>.up (A := own av 5 1 (256 * wl.length) (byL (datS (ws.take wl.length)))) |>.up (A := dskA d Dk)
    have hfw := flS_writes Dk
    have hfb := flS_blocks Dk
    rw [List.take_of_length_le (by omega)] at H
    have hpre : preK ws wl.length = preB ws := by rw [← hwl, preK_all]
    have hprl : (preB ws).length = 6 + 2 * wl.length := by rw [← hpre, preK_len (by omega)]
    rw [hpre] at H
    have hdl : (datS ws).length = 256 * wl.length := by rw [datS_len hw256, hwl]
    have hsum : ∀ {w : World} {M : List Asn} {zv : Value}, Holds I w (own zv 5 1 (256 * wl.length + (6 + 2 * wl.length)) (byL (datS ws) ++ byL (preB ws)) :: M) → SlR I (own zv 5 1 (256 * wl.length + (6 + 2 * wl.length)) (byL (datS ws) ++ byL (preB ws)) :: M) zv 1 (datS ws ++ preB ws).length (byL (datS ws ++ preB ws)) := fun H => by
      rw [byL_app, List.length_append, hdl, hprl]
      exact Holds.own_toR H
    have hsn := sumN_lt (datS ws ++ preB ws)
    have e256 : IntKind.i64.wrap (256 - ((6 + 2 * wl.length + 2 : Nat) : Int)) = ((248 - 2 * wl.length : Nat) : Int) := by rw [wrap_i64 (by omega) (by omega)]; omega
    have hpad : padB (headB ws) = preB ws ++ two (sumN (datS ws ++ preB ws)) ++ List.replicate (248 - 2 * wl.length) 0 := by
      unfold padB
      rw [hhl, List.take_of_length_le (by omega)]
      unfold headB
      congr 2
      omega
    have hpadl := padB_len (headB ws)
    have hpadR : ∀ {w : World} {M : List Asn} {zv : Value}, Holds I w (own zv 5 1 (6 + 2 * wl.length + 2 + (248 - 2 * wl.length)) (byL (preB ws) ++ byL (two (sumN (datS ws ++ preB ws))) ++ repL (248 - 2 * wl.length) [.int .u8 0]) :: M) → SlR I (own zv 5 1 (6 + 2 * wl.length + 2 + (248 - 2 * wl.length)) (byL (preB ws) ++ byL (two (sumN (datS ws ++ preB ws))) ++ repL (248 - 2 * wl.length) [.int .u8 0]) :: M) zv 1 (padB (headB ws)).length (byL (padB (headB ws))) := fun H => by
      rw [hpad, byL_app, byL_app, ← repL_zero]
      rw [← hpad, hpadl, show 256 = 6 + 2 * wl.length + 2 + (248 - 2 * wl.length) by omega]
      exact Holds.own_toR H
    rcases flS_err Dk with h0' | h0'
    · have e1 : wsS D (plW ho ws) = ((flS Dk).1, true) := by rw [hwk, h0']; rfl
      obtain ⟨D1, hD1⟩ : ∃ D1, (flS Dk).1 = D1 := ⟨_, rfl⟩
      rw [hD1] at e1 hfw hfb
      obtain ⟨R2, hR2⟩ : ∃ R2, wsS D1 [((ho : Int), padB (headB ws))] = R2 := ⟨_, rfl⟩
      have hw2 := wsS_writes [((ho : Int), padB (headB ws))] D1
      have hb2 := wsS_blocks [((ho : Int), padB (headB ws))] D1
      rw [hR2] at hw2 hb2
      simp only [List.length_cons, List.length_nil] at hw2
      by_cases hr2 : R2.2 = true
      · have hif : (if (wsS D1 [((ho : Int), padB (headB ws))]).2 = true then (0 : Int) else 160) = 0 := by rw [hR2, if_pos hr2]
        repeat' (first
          | rw [h0']
          | (refine VcL.append (m := 6 + 2 * wl.length) (ds := byL (preB ws)) tabOk rfl rfl rfl rfl (Holds.f1 H) (Holds.own_src (Holds.f2 H)) (by_one _) (by show (_ + _) * 1 ≤ _; omega) rfl rfl rfl (fun av2 w H => ?_))
          | (refine VcL.append (m := 2) (ds := byL (two (sumN (datS ws ++ preB ws)))) tabOk rfl rfl rfl rfl (Holds.f3 H) (Holds.own_src H) (by_one _) (by show (_ + 2) * 1 ≤ _; omega) rfl rfl rfl (fun hv6 w H => ?_); obtain ⟨_, A7, c7, rfl⟩ := Holds.own_len H)
          | rw [e256]
          | (refine VcL.appendMakeOwn (m := 248 - 2 * wl.length) tabOk rfl rfl rfl rfl rfl H rfl (by show (_ + _) * 1 ≤ _; omega) rfl rfl rfl (fun hv7 w H => ?_))
          | (show VcL _ _ _ _ _ _ _ _; first
      | refine VcL.pures tabOk rfl ?_
      | refine VcL.nil ?_
      | (show VcL _ _ _ _ (⟨_, .load _ _, _, _, _, _⟩ :: _) _ _ _; refine VcL.load1 tabOk rfl rfl rfl rfl rfl (by exact RdW.get0 (by assumption) rfl (Holds.drop (Holds.drop (Holds.drop H)))) ?_)
      | (show VcL _ _ _ _ (⟨_, .call ⟨.value (.func F_journal_Disk_Flush), _, _⟩, _, _, _, _⟩ :: _) _ _ _; (refine VcL.callF ok_journal_Disk_Flush rfl rfl rfl rfl (Rets.mono (FlushP_any H (by omega)) ?_); rintro _ w ⟨rfl, H⟩; rw [hD1] at H))
      | (show VcL _ _ _ _ (⟨_, .call ⟨.value (.func F_octet_Sum), _, _⟩, _, _, _, _⟩ :: _) _ _ _; (refine VcL.callF ok_octet_Sum rfl rfl rfl rfl (Rets.mono (SumP_any (l := datS ws ++ preB ws) H (hsum H) (by rw [List.length_append, hdl, hprl]; omega)) ?_); rintro _ w ⟨rfl, H⟩))
      | (show VcL _ _ _ _ (⟨_, .call ⟨.value (.func F_octet_Put), _, _⟩, _, _, _, _⟩ :: _) _ _ _; (refine VcL.callF ok_octet_Put rfl rfl rfl rfl (Rets.mono (Put2_any (n := sumN (datS ws ++ preB ws)) H hsn) ?_); rintro _ w ⟨sv, rfl, H⟩))
      | (show VcL _ _ _ _ (⟨_, .call ⟨.value (.func F_journal_Store_head), _, _⟩, _, _, _, _⟩ :: _) _ _ _; (refine VcL.callF ok_journal_Store_head rfl rfl rfl rfl (Rets.mono (headP_any (D := D1) (ho := ho) (l := padB (headB ws)) (Holds.re [3] H rfl) hs.up.up.up (by omega) (by omega) (hpadR (Holds.drop3 H)) hpadl) ?_); rintro _ w ⟨rfl, H⟩; rw [hif]; rw [hR2] at H)))
          | (show Vc _ _ _ _ _ _; first
      | refine Vc.seq ?_
      | refine Vc.region ?_
      | refine Vc.condF rfl ?_
      | refine Vc.skip ?_
      | refine Vc.block ?_
      | refine Vc.exit ?_
      | (refine Vc.cond rfl (fun h => ?_) (fun h => ?_) <;> first | (exfalso; simp only [decide_eq_true_eq, decide_eq_false_iff_not, Bool.not_eq_true', Bool.not_eq_false'] at h; omega) | (with_reducible have hp := of_decide_eq_false h)))
          | (show KSeq _ _ _ _ _ _ _; first
      | refine KSeq.normal ?_
      | refine KSeq.exit ?_)
          | (show KBlock _ _ _ _ _ _; refine KBlock.here ?_)
          | refine KLoop.exit ?_)
        have H := H.drop1.drop1.drop1
        refine Vc.loopS [(0, _), (100, _), (101, _)] (fun k : Nat => [(102, .int .i64 k)]) (fun k w => k ≤ wl.length ∧ ∃ Dj, wsS R2.1 ws = wsS Dj (ws.drop k) ∧ Dj.writes ≤ R2.1.writes + k ∧ Dj.blocks.length = D.blocks.length ∧ Holds I w (dskA d Dj :: L)) (fun k _ => wl.length - k) 0 ⟨rfl, trivial⟩ ⟨rfl, rfl, rfl, trivial⟩ ⟨Nat.zero_le _, R2.1, rfl, Nat.le_refl _, by omega, H⟩ ?_
        rintro k w ⟨hk, Dj, hwj, hwrj, hbj, H⟩
        by_cases hlt : k < wl.length
        · obtain ⟨x, hx⟩ : ∃ x, atD wl k = x := ⟨_, rfl⟩
          have hxm : x ∈ wl := hx ▸ atD_mem hlt
          have hxi := hin x hxm
          have hxd := hda x hxm
          have hrx := hrw.elem wrC_len (atD_get hlt)
          obtain ⟨A9, c9, hxf, _⟩ := hxd.form
          rw [hx] at hrx
          have hwx := hwa k hlt
          rw [hx] at hwx
          obtain ⟨xi, xv, dat⟩ := x
          dsimp only at hxi hxd hxf hwx
          subst hxf
          have hrx : RdW I L bw (ow + k * 2) [.int .i64 xi, .slice A9 dat.length c9] := hrx
          have hdat := hxi.2.2
          have hs1 := hs.up (A := dskA d Dj)
          have hrx1 := hrx.up (A := dskA d Dj)
          have hdrop : ws.drop k = (xi, dat) :: ws.drop (k + 1) := by rw [drop_atD (by omega), hwx]
          rw [hdrop] at hwj
          have he := wrS_err (D := Dj) (k := xi) (b := dat) ⟨hxi.1, by omega, hdat⟩
          have hww := wrS_writes Dj xi dat
          have hwb := wrS_blocks Dj xi dat
          rcases he with ⟨h0'', _⟩ | ⟨h0'', _, hDj⟩
          ·
            repeat' (first
              | rw [h0'']
              | (show VcL _ _ _ _ _ _ _ _; first
      | refine VcL.pures tabOk rfl ?_
      | refine VcL.nil ?_
      | (show VcL _ _ _ _ (⟨_, .load _ _, _, _, _, _⟩ :: _) _ _ _; refine VcL.loadR tabOk rfl rfl rfl rfl rfl rfl (by exact RdW.rd (by assumption) H) rfl ?_)
      | (show VcL _ _ _ _ (⟨_, .indexAddr _ _ _, _, _, _, _⟩ :: _) _ _ _; refine VcL.indexAddr tabOk rfl rfl rfl rfl rfl rfl (by omega) (by omega) ?_)
      | refine VcL.alloc tabOk H rfl rfl rfl rfl (fun b w H => ?_)
      | (show VcL _ _ _ _ (⟨_, .store _ _ _, _, _, _, _⟩ :: _) _ _ _; refine VcL.store tabOk rfl (by exact H) rfl rfl (by exact rfl) (by exact rfl) (by exact rfl) (by exact rfl) (fun w H => ?_)))
              | (show VcD _ _ _ _ _ _ _ _ _; first
      | refine VcD.pures tabOk rfl ?_
      | refine VcD.done ?_
      | (show VcD _ _ _ _ _ (.take _ _) _ _ _; refine VcD.load1 tabOk rfl rfl rfl rfl rfl rfl (by intro w_ hw_; first | exact hw_.1 0 _ rfl | exact hw_.2 _ _ rfl | exact hw_.2 0 _ rfl) (by exact rfl) ?_)
      | (show VcD _ _ _ _ _ (.only _ _) _ _ _; (refine VcD.callF (f := F_journal_Disk_Write) rfl ok_journal_Disk_Write rfl rfl rfl rfl (Rets.mono (WriteP_any (k := xi) (l := dat) (Holds.swap H) (by omega) hxd.up (by omega)) ?_); rintro _ w ⟨rfl, H⟩; refine ⟨(by (refine ⟨?_, ?_⟩ <;> first | exact Holds.rdWhole (Holds.f1 H) | exact RdW.rd (by assumption) (Holds.drop (Holds.drop H)))), ?_⟩)))
              | (show Vc _ _ _ _ _ _; first
      | refine Vc.seq ?_
      | refine Vc.region ?_
      | refine Vc.condF rfl ?_
      | refine Vc.skip ?_
      | refine Vc.block ?_
      | (refine Vc.drawn (id := 26) (.pure 0 (.pure 1 (.pure 2 (.pure 4 (.pure 6 (.take 3 (.take 5 (.take 7 (.only 8 (.pure 9 .done)))))))))) (.one (fun w => Rd w s 0 (stV d (ho : Nat) dead) ∧ Rd w b 0 [.int .i64 xi, .slice A9 dat.length c9])) mixed (by kernel_rfl) (by (refine ⟨?_, ?_⟩ <;> first | exact Holds.rdWhole (Holds.drew H _) | exact RdW.rd (by assumption) (Holds.drop (Holds.drew H _)))) ?_; have H := H.drew (w.drawn + 1))
      | (refine Vc.cond rfl (fun h => ?_) (fun h => ?_) <;> first | (exfalso; simp only [decide_eq_true_eq, decide_eq_false_iff_not, Bool.not_eq_true', Bool.not_eq_false'] at h; omega) | (with_reducible have hp := of_decide_eq_true h)))
              | (show KSeq _ _ _ _ _ _ _; refine KSeq.normal ?_)
              | (show KBlock _ _ _ _ _ _; refine KBlock.normal ?_))
            refine KLoop.again (k + 1) ⟨got_succ rfl (by omega), trivial⟩ ⟨rfl, rfl, rfl, trivial⟩ ⟨hlt, (wrS Dj xi dat).1, by rw [hwj, wsS_cons0 h0''], by omega, by rw [hwb]; exact hbj, H.drop1⟩ (by omega)
          ·
            repeat' (first
              | rw [h0'']
              | (show VcL _ _ _ _ _ _ _ _; first
      | refine VcL.pures tabOk rfl ?_
      | refine VcL.nil ?_
      | (show VcL _ _ _ _ (⟨_, .load _ _, _, _, _, _⟩ :: _) _ _ _; refine VcL.loadR tabOk rfl rfl rfl rfl rfl rfl (by exact RdW.rd (by assumption) H) rfl ?_)
      | (show VcL _ _ _ _ (⟨_, .indexAddr _ _ _, _, _, _, _⟩ :: _) _ _ _; refine VcL.indexAddr tabOk rfl rfl rfl rfl rfl rfl (by omega) (by omega) ?_)
      | refine VcL.alloc tabOk H rfl rfl rfl rfl (fun b w H => ?_)
      | (show VcL _ _ _ _ (⟨_, .store _ _ _, _, _, _, _⟩ :: _) _ _ _; refine VcL.store tabOk rfl (by exact H) rfl rfl (by exact rfl) (by exact rfl) (by exact rfl) (by exact rfl) (fun w H => ?_)))
              | (show VcD _ _ _ _ _ _ _ _ _; first
      | refine VcD.pures tabOk rfl ?_
      | refine VcD.done ?_
      | (show VcD _ _ _ _ _ (.take _ _) _ _ _; refine VcD.load1 tabOk rfl rfl rfl rfl rfl rfl (by intro w_ hw_; first | exact hw_.1 0 _ rfl | exact hw_.2 _ _ rfl | exact hw_.2 0 _ rfl) (by exact rfl) ?_)
      | (show VcD _ _ _ _ _ (.only _ _) _ _ _; (refine VcD.callF (f := F_journal_Disk_Write) rfl ok_journal_Disk_Write rfl rfl rfl rfl (Rets.mono (WriteP_any (k := xi) (l := dat) (Holds.swap H) (by omega) hxd.up (by omega)) ?_); rintro _ w ⟨rfl, H⟩; refine ⟨(by (refine ⟨?_, ?_⟩ <;> first | exact Holds.rdWhole (Holds.f1 H) | exact RdW.rd (by assumption) (Holds.drop (Holds.drop H)))), ?_⟩)))
              | (show Vc _ _ _ _ _ _; first
      | refine Vc.seq ?_
      | refine Vc.region ?_
      | refine Vc.condT rfl ?_
      | refine Vc.ret ?_
      | refine Vc.skip ?_
      | refine Vc.block ?_
      | (refine Vc.drawn (id := 26) (.pure 0 (.pure 1 (.pure 2 (.pure 4 (.pure 6 (.take 3 (.take 5 (.take 7 (.only 8 (.pure 9 .done)))))))))) (.one (fun w => Rd w s 0 (stV d (ho : Nat) dead) ∧ Rd w b 0 [.int .i64 xi, .slice A9 dat.length c9])) mixed (by kernel_rfl) (by (refine ⟨?_, ?_⟩ <;> first | exact Holds.rdWhole (Holds.drew H _) | exact RdW.rd (by assumption) (Holds.drop (Holds.drew H _)))) ?_; have H := H.drew (w.drawn + 1))
      | (refine Vc.cond rfl (fun h => ?_) (fun h => ?_) <;> first | (exfalso; simp only [decide_eq_true_eq, decide_eq_false_iff_not, Bool.not_eq_true', Bool.not_eq_false'] at h; omega) | (with_reducible have hp := of_decide_eq_true h)))
              | (show KSeq _ _ _ _ _ _ _; first
      | refine KSeq.normal ?_
      | refine KSeq.ret ?_)
              | (show KBlock _ _ _ _ _ _; refine KBlock.ret ?_)
              | refine KLoop.ret ?_
              | (show KEnd _ _ _ _ _ _ _; refine KEnd.fin (Or.inr rfl) ⟨_, (ResL.tmp rfl ResL.nil), ?_⟩))
            have e0 : wsS R2.1 ws = (Dj, false) := by rw [hwj, wsS_cons1 h0'' hDj]
            have eC : comS D ho ws = (Dj, false) := by
              unfold comS
              rw [e1]
              simp only [hR2, hr2, Bool.true_eq_false, if_false, e0]
              rfl
            rw [eC]
            rw [hDj] at H
            exact ⟨rfl, H.drop1⟩
        · obtain rfl : k = wl.length := by omega
          rw [List.drop_of_length_le (by omega)] at hwj
          have hwj : wsS R2.1 ws = ((flS Dj).1, decide ((flS Dj).2 = 0)) := hwj
          have hs1 := hs.up (A := dskA d Dj)
          have hfw2 := flS_writes Dj
          have hfb2 := flS_blocks Dj
          have hsz : ∀ {w : World} {M : List Asn} {zv : Value}, Holds I w (own zv 5 1 256 (byL zeroB) :: M) → SlR I (own zv 5 1 256 (byL zeroB) :: M) zv 1 zeroB.length (byL zeroB) := fun H => by rw [zeroB_len]; exact Holds.own_toR H
          rcases flS_err Dj with h0'' | h0''
          ·
            repeat' (first
              | rw [h0'']
              | (show VcL _ _ _ _ _ _ _ _; first
      | refine VcL.pures tabOk rfl ?_
      | refine VcL.nil ?_
      | (show VcL _ _ _ _ (⟨_, .load _ _, _, _, _, _⟩ :: _) _ _ _; refine VcL.load1 tabOk rfl rfl rfl rfl rfl (by exact RdW.get0 (by assumption) rfl H) ?_)
      | (show VcL _ _ _ _ (⟨_, .call ⟨.value (.func F_journal_Disk_Flush), _, _⟩, _, _, _, _⟩ :: _) _ _ _; (refine VcL.callF ok_journal_Disk_Flush rfl rfl rfl rfl (Rets.mono (FlushP_any H (by omega)) ?_); rintro _ w ⟨rfl, H⟩))
      | (show VcL _ _ _ _ (⟨_, .call ⟨.value (.func F_journal_zeros), _, _⟩, _, _, _, _⟩ :: _) _ _ _; (refine VcL.callF ok_journal_zeros rfl rfl rfl rfl (Rets.mono (zerosP_any H) ?_); rintro _ w H))
      | (show VcL _ _ _ _ (⟨_, .call ⟨.value (.func F_journal_Store_head), _, _⟩, _, _, _, _⟩ :: _) _ _ _; (refine VcL.callF ok_journal_Store_head rfl rfl rfl rfl (Rets.mono (headP_any (ho := ho) (l := zeroB) (Holds.swap H) hs.up (by omega) (by omega) (hsz (Holds.drop1 H)) zeroB_len) ?_); rintro _ w ⟨rfl, H⟩)))
              | (show Vc _ _ _ _ _ _; first
      | refine Vc.seq ?_
      | refine Vc.region ?_
      | refine Vc.condF rfl ?_
      | refine Vc.ret ?_
      | refine Vc.skip ?_
      | refine Vc.exit ?_
      | (refine Vc.cond rfl (fun h => ?_) (fun h => ?_) <;> first | (exfalso; simp only [decide_eq_true_eq, decide_eq_false_iff_not, Bool.not_eq_true', Bool.not_eq_false'] at h; omega) | (with_reducible have hp := of_decide_eq_false h)))
              | (show KSeq _ _ _ _ _ _ _; first
      | refine KSeq.normal ?_
      | refine KSeq.exit ?_)
              | (show KBlock _ _ _ _ _ _; refine KBlock.here ?_)
              | refine KLoop.exit ?_
              | (show KEnd _ _ _ _ _ _ _; refine KEnd.fin (Or.inr rfl) ⟨_, (ResL.tmp rfl ResL.nil), ?_⟩))
            have eC : comS D ho ws = wsS (flS Dj).1 [((ho : Int), zeroB)] := by
              unfold comS
              rw [e1]
              simp only [hR2, hr2, Bool.true_eq_false, if_false, hwj, h0'', decide_true]
            rw [eC]
            exact ⟨rfl, H.drop1⟩
          ·
            repeat' (first
              | rw [h0'']
              | (show VcL _ _ _ _ _ _ _ _; first
      | refine VcL.pures tabOk rfl ?_
      | refine VcL.nil ?_
      | (show VcL _ _ _ _ (⟨_, .load _ _, _, _, _, _⟩ :: _) _ _ _; refine VcL.load1 tabOk rfl rfl rfl rfl rfl (by exact RdW.get0 (by assumption) rfl H) ?_)
      | (show VcL _ _ _ _ (⟨_, .call ⟨.value (.func F_journal_Disk_Flush), _, _⟩, _, _, _, _⟩ :: _) _ _ _; (refine VcL.callF ok_journal_Disk_Flush rfl rfl rfl rfl (Rets.mono (FlushP_any H (by omega)) ?_); rintro _ w ⟨rfl, H⟩)))
              | (show Vc _ _ _ _ _ _; first
      | refine Vc.seq ?_
      | refine Vc.region ?_
      | refine Vc.condT rfl ?_
      | refine Vc.ret ?_
      | refine Vc.exit ?_
      | (refine Vc.cond rfl (fun h => ?_) (fun h => ?_) <;> first | (exfalso; simp only [decide_eq_true_eq, decide_eq_false_iff_not, Bool.not_eq_true', Bool.not_eq_false'] at h; omega) | (with_reducible have hp := of_decide_eq_false h)))
              | (show KSeq _ _ _ _ _ _ _; first
      | refine KSeq.normal ?_
      | refine KSeq.ret ?_
      | refine KSeq.exit ?_)
              | (show KBlock _ _ _ _ _ _; refine KBlock.here ?_)
              | refine KLoop.exit ?_
              | (show KEnd _ _ _ _ _ _ _; refine KEnd.fin (Or.inr rfl) ⟨_, (ResL.tmp rfl ResL.nil), ?_⟩))
            have eC : comS D ho ws = ((flS Dj).1, false) := by
              unfold comS
              rw [e1]
              simp only [hR2, hr2, Bool.true_eq_false, if_false, hwj, h0'']
              rfl
            rw [eC]
            exact ⟨rfl, H⟩
      · have hr2f : R2.2 = false := by simpa using hr2
        have hif : (if (wsS D1 [((ho : Int), padB (headB ws))]).2 = true then (0 : Int) else 160) = 160 := by rw [hR2, if_neg hr2]
        repeat' (first
          | rw [h0']
          | (refine VcL.append (m := 6 + 2 * wl.length) (ds := byL (preB ws)) tabOk rfl rfl rfl rfl (Holds.f1 H) (Holds.own_src (Holds.f2 H)) (by_one _) (by show (_ + _) * 1 ≤ _; omega) rfl rfl rfl (fun av2 w H => ?_))
          | (refine VcL.append (m := 2) (ds := byL (two (sumN (datS ws ++ preB ws)))) tabOk rfl rfl rfl rfl (Holds.f3 H) (Holds.own_src H) (by_one _) (by show (_ + 2) * 1 ≤ _; omega) rfl rfl rfl (fun hv6 w H => ?_); obtain ⟨_, A7, c7, rfl⟩ := Holds.own_len H)
          | rw [e256]
          | (refine VcL.appendMakeOwn (m := 248 - 2 * wl.length) tabOk rfl rfl rfl rfl rfl H rfl (by show (_ + _) * 1 ≤ _; omega) rfl rfl rfl (fun hv7 w H => ?_))
          | (show VcL _ _ _ _ _ _ _ _; first
      | refine VcL.pures tabOk rfl ?_
      | refine VcL.nil ?_
      | (show VcL _ _ _ _ (⟨_, .load _ _, _, _, _, _⟩ :: _) _ _ _; refine VcL.load1 tabOk rfl rfl rfl rfl rfl (by exact RdW.get0 (by assumption) rfl (Holds.drop (Holds.drop (Holds.drop H)))) ?_)
      | (show VcL _ _ _ _ (⟨_, .call ⟨.value (.func F_journal_Disk_Flush), _, _⟩, _, _, _, _⟩ :: _) _ _ _; (refine VcL.callF ok_journal_Disk_Flush rfl rfl rfl rfl (Rets.mono (FlushP_any H (by omega)) ?_); rintro _ w ⟨rfl, H⟩; rw [hD1] at H))
      | (show VcL _ _ _ _ (⟨_, .call ⟨.value (.func F_octet_Sum), _, _⟩, _, _, _, _⟩ :: _) _ _ _; (refine VcL.callF ok_octet_Sum rfl rfl rfl rfl (Rets.mono (SumP_any (l := datS ws ++ preB ws) H (hsum H) (by rw [List.length_append, hdl, hprl]; omega)) ?_); rintro _ w ⟨rfl, H⟩))
      | (show VcL _ _ _ _ (⟨_, .call ⟨.value (.func F_octet_Put), _, _⟩, _, _, _, _⟩ :: _) _ _ _; (refine VcL.callF ok_octet_Put rfl rfl rfl rfl (Rets.mono (Put2_any (n := sumN (datS ws ++ preB ws)) H hsn) ?_); rintro _ w ⟨sv, rfl, H⟩))
      | (show VcL _ _ _ _ (⟨_, .call ⟨.value (.func F_journal_Store_head), _, _⟩, _, _, _, _⟩ :: _) _ _ _; (refine VcL.callF ok_journal_Store_head rfl rfl rfl rfl (Rets.mono (headP_any (D := D1) (ho := ho) (l := padB (headB ws)) (Holds.re [3] H rfl) hs.up.up.up (by omega) (by omega) (hpadR (Holds.drop3 H)) hpadl) ?_); rintro _ w ⟨rfl, H⟩; rw [hif]; rw [hR2] at H)))
          | (show Vc _ _ _ _ _ _; first
      | refine Vc.seq ?_
      | refine Vc.region ?_
      | refine Vc.condT rfl ?_
      | refine Vc.condF rfl ?_
      | refine Vc.ret ?_
      | refine Vc.skip ?_
      | refine Vc.exit ?_
      | (refine Vc.cond rfl (fun h => ?_) (fun h => ?_) <;> first | (exfalso; simp only [decide_eq_true_eq, decide_eq_false_iff_not, Bool.not_eq_true', Bool.not_eq_false'] at h; omega) | (with_reducible have hp := of_decide_eq_false h)))
          | (show KSeq _ _ _ _ _ _ _; first
      | refine KSeq.normal ?_
      | refine KSeq.ret ?_
      | refine KSeq.exit ?_)
          | (show KBlock _ _ _ _ _ _; refine KBlock.here ?_)
          | refine KLoop.exit ?_
          | (show KEnd _ _ _ _ _ _ _; refine KEnd.fin (Or.inr rfl) ⟨_, (ResL.tmp rfl ResL.nil), ?_⟩))
        have eC : comS D ho ws = R2 := by
          unfold comS
          rw [e1]
          simp only [hR2, hr2f, Bool.true_eq_false, if_false, if_true]
        rw [eC, if_neg hr2]
        exact ⟨rfl, H.drop1.drop1.drop1⟩
    ·
      repeat' (first
        | rw [h0']
        | (show VcL _ _ _ _ _ _ _ _; first
      | refine VcL.pures tabOk rfl ?_
      | refine VcL.nil ?_
      | (show VcL _ _ _ _ (⟨_, .load _ _, _, _, _, _⟩ :: _) _ _ _; refine VcL.load1 tabOk rfl rfl rfl rfl rfl (by exact RdW.get0 (by assumption) rfl (Holds.drop (Holds.drop (Holds.drop H)))) ?_)
      | (show VcL _ _ _ _ (⟨_, .call ⟨.value (.func F_journal_Disk_Flush), _, _⟩, _, _, _, _⟩ :: _) _ _ _; (refine VcL.callF ok_journal_Disk_Flush rfl rfl rfl rfl (Rets.mono (FlushP_any H (by omega)) ?_); rintro _ w ⟨rfl, H⟩)))
        | (show Vc _ _ _ _ _ _; first
      | refine Vc.seq ?_
      | refine Vc.region ?_
      | refine Vc.condT rfl ?_
      | refine Vc.ret ?_
      | refine Vc.exit ?_
      | (refine Vc.cond rfl (fun h => ?_) (fun h => ?_) <;> first | (exfalso; simp only [decide_eq_true_eq, decide_eq_false_iff_not, Bool.not_eq_true', Bool.not_eq_false'] at h; omega) | (with_reducible have hp := of_decide_eq_false h)))
        | (show KSeq _ _ _ _ _ _ _; first
      | refine KSeq.normal ?_
      | refine KSeq.ret ?_
      | refine KSeq.exit ?_)
        | (show KBlock _ _ _ _ _ _; refine KBlock.here ?_)
        | refine KLoop.exit ?_
        | (show KEnd _ _ _ _ _ _ _; refine KEnd.fin (Or.inr rfl) ⟨_, (ResL.tmp rfl ResL.nil), ?_⟩))
      have eC : comS D ho ws = ((flS Dk).1, false) := by unfold comS; rw [hwk, h0']; rfl
      rw [eC]
      exact ⟨rfl, H.drop1.drop1⟩
end Go.Proofs.Ytkeapkmjkmbdpaa.V
