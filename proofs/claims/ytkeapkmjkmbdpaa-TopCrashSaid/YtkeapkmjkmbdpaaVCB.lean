/- A disk stops behind so many writes of some commits. -/
import Derived.Test.YtkeapkmjkmbdpaaVCA
import Derived.Test.YtkeapkmjkmbdpaaVWW
namespace Go.Proofs.Ytkeapkmjkmbdpaa.V
open Go Go.Proofs.YtkeapkmjkmbdpaaV
set_option linter.unusedVariables false
set_option linter.unusedSimpArgs false
set_option maxHeartbeats 1000000
set_option maxRecDepth 4000
attribute [local irreducible] IntKind.wrap
variable {I : Imm} {w : World} {L : List Asn}
theorem repL_u8 (n : Nat) : repL n [.int .u8 0] = byL (List.replicate n 0) := repL_zero n
theorem byL_one' (l : By) : ∀ u ∈ byL l, oneC u = true := fun u hu => by
  obtain ⟨x, _, rfl⟩ := List.mem_map.1 hu
  rfl
/-- The states: bytes, one for each home block. -/
def stC (x : Vb) : List Value := [x.1]
theorem stC_len (x : Vb) : (stC x).length = 1 := rfl
abbrev fillS (x : By) : Nat → By := fun k => atD (x.map fullB) k
theorem stopped_any (H : Holds I w L) {n : Nat} (h1 : 1 ≤ n) (h10 : n ≤ 10) {v : Value} {l : List Pu} (hv : SlI I v 5 l.length (l.flatMap puC)) (hlen : l.length ≤ 8) (ha : ∀ a ∈ l, PuOk I a) (hbig : ∀ p ∈ l, p.blocks.2.2.length ≤ 60) {dv : Value} {done : List Bool} (hd : SlI I dv 1 done.length (done.flatMap boC)) {torn stop : Nat} (ht : torn < 256) (hs : stop < 200) :
    Rets Try.prog F_tithingtop_stopped #[.int .i64 (n : Nat), v, dv, .int .i64 (torn : Nat), .int .i64 (stop : Nat)] w fun u w' => ∃ over, u = .tuple #[.bool true, .bool over] ∧ Holds I w' L := by
  obtain ⟨A, cap, rfl, hcap⟩ := hv.form
  obtain ⟨A2, cap2, rfl, hcap2⟩ := hd.form
  have hw1 : IntKind.i64.wrap ((n : Int) + 1) = ((n + 1 : Nat) : Int) := wrap_i64 (by omega) (by omega)
  have hw2 : IntKind.i64.wrap (((n + 1 : Nat) : Int) + 40) = ((n + 41 : Nat) : Int) := by rw [wrap_i64 (by omega) (by omega)]; omega
  have hop := open_new' (n := n) (by omega) (by omega)
  have hrn : (List.replicate n (0 : UInt8)).length = n := List.length_replicate ..
  have hmap : (List.replicate n (0 : UInt8)).map fullB = List.replicate n zeroB := by rw [List.map_replicate]; rfl
  have hk0 : Kept n (newS (n + 41)) false ((List.replicate n (0 : UInt8)).map fullB) ((List.replicate n (0 : UInt8)).map fullB) := by
    rw [hmap]; exact new_alive.kept (List.length_replicate ..) (List.length_replicate ..)
  obtain ⟨x0, hx0⟩ : ∃ x, List.replicate n (0 : UInt8) = x := ⟨_, rfl⟩
  rw [hx0] at hrn hk0
  obtain ⟨D0, hD0⟩ : ∃ D, newS (n + 41) = D := ⟨_, rfl⟩
  have hw0 : D0.writes = 0 := by rw [← hD0]; rfl
  have hb0 : D0.blocks.length = n + 41 := by rw [← hD0]; exact List.length_replicate ..
  rw [hD0] at hop hk0
  have hk1 := hk0.stop (stop : Nat)
  obtain ⟨D1, hD1⟩ : ∃ D, stS D0 (stop : Nat) = D := ⟨_, rfl⟩
  have hwr1 : D1.writes = 0 := by rw [← hD1]; exact hw0
  rw [hD1] at hk1
  refine ok_tithingtop_stopped.rets rfl ?_
  repeat' (first
    | rw [hw1]
    | rw [hw2]
    | (refine VcL.makeSlice (m := n) tabOk H rfl rfl rfl (by show n * 1 ≤ _; omega) rfl rfl rfl (fun sv w H => ?_); obtain ⟨_, A7, c7, rfl⟩ := Holds.own_len H)
    | (show VcL _ _ _ _ _ _ _ _; first
      | refine VcL.pures tabOk rfl ?_
      | refine VcL.nil ?_
      | refine VcL.buildSlice tabOk H rfl rfl rfl rfl rfl rfl (fun sv w H => ?_)
      | (show VcL _ _ _ _ (⟨_, .call ⟨.value (.func F_journal_NewDisk), _, _⟩, _, _, _, _⟩ :: _) _ _ _; (refine VcL.callF ok_journal_NewDisk rfl rfl rfl rfl (Rets.mono (NewDisk_any (n := n + 41) H (by omega) (by omega)) ?_); rintro _ w ⟨d, rfl, H⟩; rw [hD0] at H))
      | (show VcL _ _ _ _ (⟨_, .call ⟨.value (.func F_journal_Open), _, _⟩, _, _, _, _⟩ :: _) _ _ _; (refine VcL.callF ok_journal_Open rfl rfl rfl rfl (Rets.mono (Open_ok (D := D0) (home := (n : Nat)) H (by omega) (by omega) (by rw [hop])) ?_); rintro _ w ⟨s, rfl, H⟩; rw [hop] at H))
      | (show VcL _ _ _ _ (⟨_, .call ⟨.value (.func F_journal_Disk_Stop), _, _⟩, _, _, _, _⟩ :: _) _ _ _; (refine VcL.callF ok_journal_Disk_Stop rfl rfl rfl rfl (Rets.mono (Stop_any (D := D0) (n := (stop : Nat)) H (by omega)) ?_); rintro _ w ⟨rfl, H⟩; rw [hD1] at H)))
    | (show Vc _ _ _ _ _ _; first
      | refine Vc.seq ?_
      | refine Vc.region ?_
      | refine Vc.condF rfl ?_
      | refine Vc.skip ?_
      | refine Vc.block ?_)
    | (show KSeq _ _ _ _ _ _ _; refine KSeq.normal ?_))
  have H : Holds I w (own sv 40 1 1 ([(.slice A7 n c7, x0)].flatMap stC) :: own (.slice A7 n c7) 5 1 n (byL x0) :: dskA d D1 :: blk s 55 (stV d (n : Nat) false) :: L) := by
    rw [← hx0, ← repL_u8]; exact H
  obtain ⟨J0, hJ0, H, hs0⟩ := Holds.freezeOwn (Holds.f1 H)
  rw [← hrn] at hs0
  refine Vc.loopS [(0, _), (1, _), (2, _), (3, _), (12, _), (14, _)] (fun q : Nat × Bool × Value × Nat => [(11, .bool q.2.1), (15, q.2.2.1), (16, .int .i64 q.2.2.2), (17, .int .i64 q.1)]) (fun q w => q.1 ≤ l.length ∧ ∃ J D dead now maybe, ∃ sts : List Vb, Imm.Le I J ∧ Kept n D dead now maybe ∧ D.writes ≤ 50 * q.1 ∧ sts.length = q.1 + 1 ∧ (∀ x ∈ sts, SlI J x.1 1 n (byL x.2) ∧ x.2.length = n) ∧ now = (atD sts q.2.2.2).2.map fullB ∧ maybe = (atD sts q.1).2.map fullB ∧ q.2.2.2 ≤ q.1 ∧ (q.2.1 = true → dead = false ∧ q.2.2.2 = q.1) ∧
    Holds J w (own q.2.2.1 40 1 sts.length (sts.flatMap stC) :: dskA d D :: blk s 55 (stV d (n : Nat) dead) :: L)) (fun q _ => l.length - q.1) (0, true, sv, 0) ⟨rfl, rfl, rfl, rfl, trivial⟩ ⟨rfl, rfl, rfl, rfl, rfl, rfl, trivial⟩ ⟨Nat.zero_le _, J0, D1, false, _, _, [(.slice A7 n c7, x0)], hJ0, hk1, by omega, rfl, fun x hx => (by rw [List.mem_singleton] at hx; subst hx; exact ⟨by rw [← hrn]; exact hs0, hrn⟩), rfl, rfl, Nat.le_refl _, fun _ => ⟨rfl, rfl⟩, H⟩ ?_
  clear H hs0 hJ0 hk0 hk1 hop
  rintro ⟨i, over, stv, an⟩ w ⟨hi, J, D, dead, now, maybe, sts, hJ, hK, hwr, hstl, hall, hnow, hmay, hai, hov, H⟩
  dsimp only at hi hwr hstl hnow hmay hai hov H ⊢
  have hok := dsk_ok (Holds.drop H)
  have hb := hK.blocks
  have hnl := hK.nowL
  have hml := hK.maybeL
  obtain ⟨_, A5, c5, rfl⟩ := Holds.own_len H
  by_cases hgo : i < l.length ∧ over = true
  · obtain ⟨hlt, rfl⟩ := hgo
    obtain ⟨rfl, han⟩ := hov rfl
    obtain rfl : i = an := han.symm
    obtain ⟨b1, o1, rfl, hrI⟩ := (hv.mono hJ).at (by omega)
    have hrI := hrI.elem puC_len (atD_get hlt)
    obtain ⟨a, hat⟩ : ∃ a, atD l i = a := ⟨_, rfl⟩
    have hmem := atD_mem hlt
    rw [hat] at hrI hmem
    have hact := (ha a hmem).mono hJ
    have hbl := hact.blocks
    have h60 := hbig a hmem
    have hby := hact.byte
    obtain ⟨what, num, ⟨B2, bcap2, bs⟩, byte, ⟨B3, bcap3, dn⟩⟩ := a
    dsimp only at hbl h60 hby
    obtain ⟨c, hc⟩ : ∃ c : UInt8, UInt8.ofNat byte.toNat = c := ⟨_, rfl⟩
    have hB : Value.int .u8 byte = byteV c := by
      rw [← hc, u8_of _ (by omega)]
      congr 1
      omega
    have hbl : SlI J (.slice B2 bs.length bcap2) 1 bs.length (bs.flatMap inC) := hbl
    have hrI : RdI J b1 (o1 + i * 5) [.int .i64 what, .int .i64 num, .slice B2 bs.length bcap2, .int .u8 byte, .slice B3 dn.length bcap3] := hrI
    rw [hB] at hrI
    have hr1 := RdI.toW (L := dskA d D :: blk s 55 (stV d (n : Nat) false) :: L) hrI
    have hlast : IntKind.i64.wrap ((sts.length : Int) - 1) = (i : Nat) := by rw [wrap_i64 (by omega) (by omega)]; omega
    obtain ⟨hso, hxl⟩ := hall _ (atD_mem (show i < sts.length by omega))
    have hq : sts[i]? = some (atD sts i) := atD_get (by omega)
    obtain ⟨⟨ov, old⟩, hold⟩ : ∃ x, atD sts i = x := ⟨_, rfl⟩
    rw [hold] at hq hso hxl
    dsimp only at hso hxl
    obtain ⟨A8, c8, rfl, hc8⟩ := hso.form
    obtain ⟨b5, o5, _, e5, hc5⟩ := Holds.own_some (by omega) H
    injection e5 with e6 e7 e8
    subst e6
    repeat' (first
      | rw [hlast]
      | (refine VcL.append (m := n) (ds := byL old) tabOk rfl rfl rfl rfl H (SlI.src hso (Holds.drop H)) (byL_one' old) (by show (_ + _) * 1 ≤ _; omega) rfl rfl rfl (fun v_ w H => ?_))
      | (show VcL _ _ _ _ _ _ _ _; first
      | refine VcL.pures tabOk rfl ?_
      | refine VcL.nil ?_
      | (show VcL _ _ _ _ (⟨_, .load _ _, _, _, _, _⟩ :: _) _ _ _; refine VcL.load1 tabOk rfl rfl rfl rfl rfl (by exact Holds.ownCell0 (Holds.f1 H) (fun _ => rfl) (by assumption) rfl) ?_)
      | (show VcL _ _ _ _ (⟨_, .indexAddr _ _ _, _, _, _, _⟩ :: _) _ _ _; refine VcL.indexAddr tabOk rfl rfl rfl rfl rfl rfl (by omega) (by omega) ?_)
      | refine VcL.buildSlice tabOk H rfl rfl rfl rfl rfl rfl (fun sv w H => ?_)
      | (refine VcL.guard rfl rfl rfl rfl (fun h => ?_) (fun h => ?_) <;> first | (exfalso; simp only [decide_eq_true_eq, decide_eq_false_iff_not, Bool.not_eq_true', Bool.not_eq_false'] at h; omega) | (with_reducible have hp := of_decide_eq_true h)))
      | (show Vc _ _ _ _ _ _; first
      | refine Vc.seq ?_
      | refine Vc.region ?_
      | refine Vc.condT rfl ?_
      | refine Vc.skip ?_
      | refine Vc.block ?_)
      | (show KSeq _ _ _ _ _ _ _; refine KSeq.normal ?_))
    obtain ⟨_, A6, c6, rfl⟩ := Holds.own_len H
    have H : Holds J w (own (.slice A6 (0 + n) c6) 5 1 (0 + n) (repL 0 [.int .u8 0] ++ byL old) :: own (.slice (some ⟨b5, o5, none⟩) sts.length c5) 40 1 sts.length (sts.flatMap stC) :: dskA d D :: blk s 55 (stV d (n : Nat) false) :: L) := H
    rw [Nat.zero_add, List.eq_nil_of_length_eq_zero (show (repL 0 [Value.int .u8 0]).length = 0 by rw [repL_length, Nat.zero_mul]), List.nil_append] at H
    rw [Nat.zero_add]
    obtain ⟨b6, o6, _, e9, hc6⟩ := Holds.own_some (by omega) H
    injection e9 with e10 e11 e12
    subst e10; subst e12
    refine Vc.loopS [(0, _), (1, _), (2, _), (3, _), (12, _), (14, _), (15, _), (16, _), (17, _), (18, _)] (fun q : Nat × Value => [(19, q.2), (20, .int .i64 q.1)]) (fun q w => q.1 ≤ n ∧ ∃ wl : Wl, wsOf wl = stepW bs c q.1 ∧ Holds J w (own q.2 43 2 wl.length (wl.flatMap wrC) :: bysA (wl.map (·.2)) :: own (.slice (some ⟨b6, o6, none⟩) n c6) 5 1 n ((stepB old bs c q.1).flatMap byC) :: own (.slice (some ⟨b5, o5, none⟩) sts.length c5) 40 1 sts.length (sts.flatMap stC) :: dskA d D :: blk s 55 (stV d (n : Nat) false) :: L)) (fun q _ => n - q.1) (0, .slice none 0 0) ⟨rfl, rfl, trivial⟩ ⟨rfl, rfl, rfl, rfl, rfl, rfl, rfl, rfl, rfl, rfl, trivial⟩ ⟨Nat.zero_le _, [], rfl, Holds.own_nil (bys_nil.2 (by show Holds J w (own _ _ 1 n (old.flatMap byC) :: _); rw [byL_flat]; exact H))⟩ ?_
    clear H
    rintro ⟨k, wv⟩ w ⟨hk, wl, hwl, H⟩
    dsimp only at hk hwl H ⊢
    have hwll : wl.length ≤ k := by
      have h2 := (stepW_in bs c k).2.2
      rw [← hwl, wsOf_len] at h2
      exact h2
    have hr1 := RdI.toW (L := own (.slice (some ⟨b5, o5, none⟩) sts.length c5) 40 1 sts.length (sts.flatMap stC) :: dskA d D :: blk s 55 (stV d (n : Nat) false) :: L) hrI
    by_cases hlt2 : k < n
    · by_cases hkb : k < bs.length
      · obtain ⟨b7, o7, rfl, hbI⟩ := hbl.at (by omega)
        have hbI := hbI.elem inC_len (atD_get hkb)
        obtain ⟨m, hm⟩ : ∃ m, atD bs k = m := ⟨_, rfl⟩
        rw [hm] at hbI
        have hbI : RdI J b7 (o7 + k * 1) [.int .i64 m] := hbI
        have hb1 := RdI.toW (L := own (.slice (some ⟨b5, o5, none⟩) sts.length c5) 40 1 sts.length (sts.flatMap stC) :: dskA d D :: blk s 55 (stV d (n : Nat) false) :: L) hbI
        by_cases hev : m.tmod 2 = 0
        · have hE : evenAt bs k := ⟨hkb, by rw [hm]; exact hev⟩
          have hde : decide (m.tmod (Int.ofNat (1 + 1)) = 0) = true := decide_eq_true hev
          have hnB : stepB old bs c (k + 1) = (stepB old bs c k).set k c := if_pos hE
          have hnW : stepW bs c (k + 1) = stepW bs c k ++ [((k : Int), fullB c)] := if_pos hE
          obtain ⟨fb, hfb⟩ : ∃ fb, fullB c = fb := ⟨_, rfl⟩
          have hfl : fb.length = 256 := by rw [← hfb]; exact fullB_len c
          rw [hfb] at hnW
          obtain ⟨sb, hsb⟩ : ∃ sb, stepB old bs c k = sb := ⟨_, rfl⟩
          have hsl : sb.length = n := by rw [← hsb, stepB_len]; exact hxl
          rw [hsb] at hnB H
          have hqB : sb[k]? = some (atD sb k) := atD_get (by omega)
          repeat' (first
            | rw [hde]
            | (refine VcL.storeOwn0 (k := k) c tabOk byC_len (Holds.f2 H) hqB rfl rfl (by exact rfl) (by exact rfl) (by exact rfl) (by exact rfl) rfl rfl (fun w H => ?_))
            | (refine VcL.append (m := 1) (ds := wrC ((k : Int), (.slice A9 256 c9, fb))) tabOk rfl rfl rfl rfl (Holds.f3 H) (Holds.own_src H) (wrC_one _ rfl) (by show (_ + 1) * 32 ≤ _; omega) rfl rfl rfl (fun ov2 w H => ?_))
            | (show VcL _ _ _ _ _ _ _ _; first
      | refine VcL.pures tabOk rfl ?_
      | refine VcL.nil ?_
      | (show VcL _ _ _ _ (⟨_, .load _ _, _, _, _, _⟩ :: _) _ _ _; refine VcL.load1 tabOk rfl rfl rfl rfl rfl (by first | exact RdW.get (by assumption) rfl (Holds.drop (Holds.drop (Holds.drop H))) | exact RdW.get0 (by assumption) rfl (Holds.drop (Holds.drop (Holds.drop H)))) ?_)
      | (show VcL _ _ _ _ (⟨_, .indexAddr _ _ _, _, _, _, _⟩ :: _) _ _ _; refine VcL.indexAddr tabOk rfl rfl rfl rfl rfl rfl (by omega) (by omega) ?_)
      | refine VcL.buildSlice tabOk H rfl rfl rfl rfl rfl rfl (fun sv w H => ?_)
      | (show VcL _ _ _ _ (⟨_, .call ⟨.value (.func F_tithinglaw16_Full), _, _⟩, _, _, _, _⟩ :: _) _ _ _; (refine VcL.callF ok_tithinglaw16_Full rfl rfl rfl rfl (Rets.mono (Full_any H c) ?_); rintro _ w H; rw [hfb] at H; obtain ⟨_, A9, c9, rfl⟩ := Holds.own_len H))
      | (refine VcL.guard rfl rfl rfl rfl (fun h => ?_) (fun h => ?_) <;> first | (exfalso; simp only [decide_eq_true_eq, decide_eq_false_iff_not, Bool.not_eq_true', Bool.not_eq_false'] at h; omega) | (with_reducible have hp := of_decide_eq_true h)))
            | (show Vc _ _ _ _ _ _; first
      | refine Vc.seq ?_
      | refine Vc.region ?_
      | refine Vc.condT rfl ?_
      | refine Vc.skip ?_
      | refine Vc.block ?_
      | (refine Vc.cond rfl (fun h => ?_) (fun h => ?_) <;> first | (exfalso; simp only [decide_eq_true_eq, decide_eq_false_iff_not, Bool.not_eq_true', Bool.not_eq_false'] at h; omega) | (with_reducible have hp := of_decide_eq_true h)))
            | (show KSeq _ _ _ _ _ _ _; refine KSeq.normal ?_)
            | (show KBlock _ _ _ _ _ _; refine KBlock.normal ?_))
          refine KLoop.again (k + 1, ov2) ⟨rfl, got_succ rfl (by omega), trivial⟩ ⟨rfl, rfl, rfl, rfl, rfl, rfl, rfl, rfl, rfl, rfl, trivial⟩ ⟨hlt2, wl ++ [((k : Int), (.slice A9 256 c9, fb))], ?_, ?_⟩ (by show _ < _; omega)
          · rw [hnW, ← hwl]; unfold wsOf; rw [List.map_append]; rfl
          · rw [hnB, flat_snoc, List.map_append, List.length_append]
            exact Holds.swap (bys_snoc (y := (.slice A9 256 c9, fb)) (by
              show Holds J w (own _ _ 1 fb.length _ :: _)
              rw [hfl]
              exact Holds.re [1, 2, 0, 0] (Holds.drop1 H) rfl))
        · have hE : ¬ evenAt bs k := fun h => hev (by have := h.2; rw [hm] at this; exact this)
          have hde : decide (m.tmod (Int.ofNat (1 + 1)) = 0) = false := decide_eq_false hev
          have hnB : stepB old bs c (k + 1) = stepB old bs c k := if_neg hE
          have hnW : stepW bs c (k + 1) = stepW bs c k := if_neg hE
          repeat' (first
            | rw [hde]
            | (show VcL _ _ _ _ _ _ _ _; first
      | refine VcL.pures tabOk rfl ?_
      | refine VcL.nil ?_
      | (show VcL _ _ _ _ (⟨_, .load _ _, _, _, _, _⟩ :: _) _ _ _; refine VcL.load1 tabOk rfl rfl rfl rfl rfl (by first | exact RdW.get (by assumption) rfl (Holds.drop (Holds.drop (Holds.drop H))) | exact RdW.get0 (by assumption) rfl (Holds.drop (Holds.drop (Holds.drop H)))) ?_)
      | (show VcL _ _ _ _ (⟨_, .indexAddr _ _ _, _, _, _, _⟩ :: _) _ _ _; refine VcL.indexAddr tabOk rfl rfl rfl rfl rfl rfl (by omega) (by omega) ?_)
      | (refine VcL.guard rfl rfl rfl rfl (fun h => ?_) (fun h => ?_) <;> first | (exfalso; simp only [decide_eq_true_eq, decide_eq_false_iff_not, Bool.not_eq_true', Bool.not_eq_false'] at h; omega) | (with_reducible have hp := of_decide_eq_true h)))
            | (show Vc _ _ _ _ _ _; first
      | refine Vc.seq ?_
      | refine Vc.region ?_
      | refine Vc.condF rfl ?_
      | refine Vc.skip ?_
      | refine Vc.block ?_
      | (refine Vc.cond rfl (fun h => ?_) (fun h => ?_) <;> first | (exfalso; simp only [decide_eq_true_eq, decide_eq_false_iff_not, Bool.not_eq_true', Bool.not_eq_false'] at h; omega) | (with_reducible have hp := of_decide_eq_true h)))
            | (show KSeq _ _ _ _ _ _ _; refine KSeq.normal ?_)
            | (show KBlock _ _ _ _ _ _; refine KBlock.normal ?_))
          exact KLoop.again (k + 1, wv) ⟨rfl, got_succ rfl (by omega), trivial⟩ ⟨rfl, rfl, rfl, rfl, rfl, rfl, rfl, rfl, rfl, rfl, trivial⟩ ⟨hlt2, wl, by rw [hnW]; exact hwl, by rw [hnB]; exact H⟩ (by show _ < _; omega)
      · have hE : ¬ evenAt bs k := fun h => hkb h.1
        have hnB : stepB old bs c (k + 1) = stepB old bs c k := if_neg hE
        have hnW : stepW bs c (k + 1) = stepW bs c k := if_neg hE
        repeat' (first
          | (show VcL _ _ _ _ _ _ _ _; first
      | refine VcL.pures tabOk rfl ?_
      | refine VcL.nil ?_
      | (show VcL _ _ _ _ (⟨_, .load _ _, _, _, _, _⟩ :: _) _ _ _; refine VcL.load1 tabOk rfl rfl rfl rfl rfl (by exact RdW.get (by assumption) rfl (Holds.drop (Holds.drop (Holds.drop H)))) ?_)
      | (show VcL _ _ _ _ (⟨_, .indexAddr _ _ _, _, _, _, _⟩ :: _) _ _ _; refine VcL.indexAddr tabOk rfl rfl rfl rfl rfl rfl (by omega) (by omega) ?_)
      | (refine VcL.guard rfl rfl rfl rfl (fun h => ?_) (fun h => ?_) <;> first | (exfalso; simp only [decide_eq_true_eq, decide_eq_false_iff_not, Bool.not_eq_true', Bool.not_eq_false'] at h; omega) | (with_reducible have hp := of_decide_eq_false h)))
          | (show Vc _ _ _ _ _ _; first
      | refine Vc.seq ?_
      | refine Vc.region ?_
      | refine Vc.condF rfl ?_
      | refine Vc.skip ?_
      | refine Vc.block ?_
      | (refine Vc.cond rfl (fun h => ?_) (fun h => ?_) <;> first | (exfalso; simp only [decide_eq_true_eq, decide_eq_false_iff_not, Bool.not_eq_true', Bool.not_eq_false'] at h; omega) | (with_reducible have hp := of_decide_eq_true h)))
          | (show KSeq _ _ _ _ _ _ _; refine KSeq.normal ?_)
          | (show KBlock _ _ _ _ _ _; refine KBlock.normal ?_))
        exact KLoop.again (k + 1, wv) ⟨rfl, got_succ rfl (by omega), trivial⟩ ⟨rfl, rfl, rfl, rfl, rfl, rfl, rfl, rfl, rfl, rfl, trivial⟩ ⟨hlt2, wl, by rw [hnW]; exact hwl, by rw [hnB]; exact H⟩ (by show _ < _; omega)
    · obtain rfl : k = n := by omega
      have hask := stepW_asked bs c h10
      have haft := after_step old bs c (by omega)
      rw [hxl] at haft
      obtain ⟨hal, hmn⟩ := hK.alive rfl
      rw [hold] at hnow hmay
      obtain rfl := hmay.trans hnow.symm
      clear hmn
      have hnew := stepB_len old bs c k
      obtain ⟨nb, hnb⟩ : ∃ nb, stepB old bs c k = nb := ⟨_, rfl⟩
      obtain ⟨ws, hws⟩ : ∃ ws, stepW bs c k = ws := ⟨_, rfl⟩
      obtain ⟨cOk, cCr, cNo⟩ := hK.commit hok (by omega) ws
      have hans := commit_answers (D := D) (n := k) (ws := ws) (by rw [← hws]; exact hask)
      have hcal := commit_alive (D := D) (n := k) (ws := ws) (by rw [← hws]; exact hask)
      have hcw := commitS_writes' D k false ws
      have hwsl : ws.length ≤ k := by rw [← hws]; exact (stepW_in bs c k).2.2
      rw [hnb] at haft hnew H
      rw [hws] at haft hwl
      rw [hnow, haft, if_pos rfl] at cCr
      rw [hnow, haft] at cOk
      obtain ⟨C, hC⟩ : ∃ C, commitS D k false ws = C := ⟨_, rfl⟩
      rw [hC] at cOk cCr hans hcal hcw
      obtain ⟨C1, C2, C3⟩ := C
      dsimp only at cOk cCr hans hcal hcw
      obtain ⟨_, A11, c11, rfl⟩ := Holds.own_len H
      have hnl2 : nb.length = k := by omega
      have hat1 : atD (sts ++ [((.slice (some ⟨b6, o6, none⟩) k c6, nb) : Vb)]) i = (.slice A8 k c8, old) := by rw [atD_app1 (by omega), hold]
      have hat2 : atD (sts ++ [((.slice (some ⟨b6, o6, none⟩) k c6, nb) : Vb)]) (i + 1) = (.slice (some ⟨b6, o6, none⟩) k c6, nb) := by
        rw [atD_app2 (by omega), show i + 1 - sts.length = 0 by omega]; rfl
      have hall2 : ∀ J3, Imm.Le J J3 → SlI J3 (.slice (some ⟨b6, o6, none⟩) k c6) 1 k (byL nb) → ∀ x ∈ sts ++ [((.slice (some ⟨b6, o6, none⟩) k c6, nb) : Vb)], SlI J3 x.1 1 k (byL x.2) ∧ x.2.length = k := fun J3 h3 hs x hx => by
        rcases List.mem_append.1 hx with hx | hx
        · exact ⟨(hall x hx).1.mono h3, (hall x hx).2⟩
        · rw [List.mem_singleton] at hx
          subst hx
          exact ⟨hs, hnl2⟩
      rcases hans with c0 | c0
      · subst c0
        obtain rfl := hcal rfl
        have hK' := cOk rfl
        repeat' (first
          | (refine VcL.append (m := 1) (ds := stC (.slice (some ⟨b6, o6, none⟩) k c6, nb)) tabOk rfl rfl rfl rfl (Holds.f4 H) (Holds.own_src H) (fun u hu => (by simp only [stC, List.mem_singleton] at hu; rw [hu]; rfl)) (by show (_ + 1) * 24 ≤ _; omega) rfl rfl rfl (fun st2 w H => ?_))
          | (show VcL _ _ _ _ _ _ _ _; first
      | refine VcL.pures tabOk rfl ?_
      | refine VcL.nil ?_
      | refine VcL.buildSlice tabOk H rfl rfl rfl rfl rfl rfl (fun sv w H => ?_)
      | (show VcL _ _ _ _ (⟨_, .call ⟨.value (.func F_journal_Store_Commit), _, _⟩, _, _, _, _⟩ :: _) _ _ _; (refine VcL.callF ok_journal_Store_Commit rfl rfl rfl rfl (Rets.mono (Commit_any (ho := k) (dead := false) (wl := wl) (D := D) (Holds.re [4, 4] H rfl) (by omega) (by omega) (Holds.own_toR (Holds.drop (Holds.drop (Holds.re [4, 4] H rfl)))) (fun x hx => SlR.up (bys_rd (List.mem_map_of_mem hx) (Holds.drop (Holds.drop (Holds.drop (Holds.re [4, 4] H rfl)))))) (by omega)) ?_); rintro _ w ⟨rfl, H⟩; rw [hwl, hC] at H ⊢; have H := Holds.drop2 (Holds.drop2 H)))
      | (refine VcL.guard rfl rfl rfl rfl (fun h => ?_) (fun h => ?_) <;> first | (cases h; done) | (with_reducible have hp := ndec_f h)))
          | (show Vc _ _ _ _ _ _; first
      | refine Vc.seq ?_
      | refine Vc.region ?_
      | refine Vc.condT rfl ?_
      | refine Vc.condF rfl ?_
      | refine Vc.skip ?_
      | refine Vc.exit ?_
      | (refine Vc.cond rfl (fun h => ?_) (fun h => ?_) <;> first | (exfalso; simp only [decide_eq_true_eq, decide_eq_false_iff_not, Bool.not_eq_true', Bool.not_eq_false'] at h; omega) | (with_reducible have hp := of_decide_eq_false h)))
          | (show KSeq _ _ _ _ _ _ _; first
      | refine KSeq.normal ?_
      | refine KSeq.exit ?_)
          | (show KBlock _ _ _ _ _ _; first
      | refine KBlock.normal ?_
      | refine KBlock.here ?_)
          | refine KLoop.exit ?_)
        have H := Holds.drop1 H
        obtain ⟨J3, hJ3, H, hs6⟩ := Holds.freezeOwn (Holds.f3 H)
        rw [byL_flat] at hs6
        exact KLoop.again (i + 1, true, st2, i + 1) ⟨rfl, rfl, got_succ rfl (by omega), got_succ rfl (by omega), trivial⟩ ⟨rfl, rfl, rfl, rfl, rfl, rfl, trivial⟩ ⟨hlt, J3, C1, false, _, _, sts ++ [((.slice (some ⟨b6, o6, none⟩) k c6, nb) : Vb)], hJ.trans hJ3, hK', by omega, (by rw [List.length_append, hstl]; rfl), hall2 J3 hJ3 hs6, (by show _ = _; rw [hat2]), (by show _ = _; rw [hat2]), Nat.le_refl _, fun _ => ⟨rfl, rfl⟩, (by rw [flat_snoc, List.length_append]; exact H)⟩ (by show _ < _; omega)
      · subst c0
        obtain ⟨c2, hK'⟩ := cCr rfl
        subst c2
        repeat' (first
          | (refine VcL.append (m := 1) (ds := stC (.slice (some ⟨b6, o6, none⟩) k c6, nb)) tabOk rfl rfl rfl rfl (Holds.f4 H) (Holds.own_src H) (fun u hu => (by simp only [stC, List.mem_singleton] at hu; rw [hu]; rfl)) (by show (_ + 1) * 24 ≤ _; omega) rfl rfl rfl (fun st2 w H => ?_))
          | (show VcL _ _ _ _ _ _ _ _; first
      | refine VcL.pures tabOk rfl ?_
      | refine VcL.nil ?_
      | refine VcL.buildSlice tabOk H rfl rfl rfl rfl rfl rfl (fun sv w H => ?_)
      | (show VcL _ _ _ _ (⟨_, .call ⟨.value (.func F_journal_Store_Commit), _, _⟩, _, _, _, _⟩ :: _) _ _ _; (refine VcL.callF ok_journal_Store_Commit rfl rfl rfl rfl (Rets.mono (Commit_any (ho := k) (dead := false) (wl := wl) (D := D) (Holds.re [4, 4] H rfl) (by omega) (by omega) (Holds.own_toR (Holds.drop (Holds.drop (Holds.re [4, 4] H rfl)))) (fun x hx => SlR.up (bys_rd (List.mem_map_of_mem hx) (Holds.drop (Holds.drop (Holds.drop (Holds.re [4, 4] H rfl)))))) (by omega)) ?_); rintro _ w ⟨rfl, H⟩; rw [hwl, hC] at H ⊢; have H := Holds.drop2 (Holds.drop2 H)))
      | (refine VcL.guard rfl rfl rfl rfl (fun h => ?_) (fun h => ?_) <;> first | (cases h; done) | (with_reducible have hp := ndec_t h)))
          | (show Vc _ _ _ _ _ _; first
      | refine Vc.seq ?_
      | refine Vc.region ?_
      | refine Vc.condF rfl ?_
      | refine Vc.skip ?_
      | refine Vc.exit ?_
      | (refine Vc.cond rfl (fun h => ?_) (fun h => ?_) <;> first | (exfalso; simp only [decide_eq_true_eq, decide_eq_false_iff_not, Bool.not_eq_true', Bool.not_eq_false'] at h; omega) | (with_reducible have hp := of_decide_eq_false h)))
          | (show KSeq _ _ _ _ _ _ _; first
      | refine KSeq.normal ?_
      | refine KSeq.exit ?_)
          | (show KBlock _ _ _ _ _ _; first
      | refine KBlock.normal ?_
      | refine KBlock.here ?_)
          | refine KLoop.exit ?_)
        have H := Holds.drop1 H
        obtain ⟨J3, hJ3, H, hs6⟩ := Holds.freezeOwn (Holds.f3 H)
        rw [byL_flat] at hs6
        exact KLoop.again (i + 1, false, st2, i) ⟨rfl, rfl, rfl, got_succ rfl (by omega), trivial⟩ ⟨rfl, rfl, rfl, rfl, rfl, rfl, trivial⟩ ⟨hlt, J3, C1, true, _, _, sts ++ [((.slice (some ⟨b6, o6, none⟩) k c6, nb) : Vb)], hJ.trans hJ3, hK', by omega, (by rw [List.length_append, hstl]; rfl), hall2 J3 hJ3 hs6, (by show _ = _; rw [hat1]), (by show _ = _; rw [hat2]), Nat.le_succ _, fun e => absurd (show false = true from e) (by decide), (by rw [flat_snoc, List.length_append]; exact H)⟩ (by show _ < _; omega)
  · have hover : i < l.length → over = false := fun h => by
      cases over with
      | true => exact absurd ⟨h, rfl⟩ hgo
      | false => rfl
    obtain ⟨r, hr, hres⟩ : ∃ r : List By, (r = now ∨ r = maybe) ∧ Res (crG done torn 0 true D.blocks D.wait) n (atD r) := by
      rcases hK.gd done torn ht with h | h
      · exact ⟨now, .inl rfl, h⟩
      · exact ⟨maybe, .inr rfl, h⟩
    have hrl : r.length = n := by rcases hr with rfl | rfl <;> assumption
    obtain ⟨tg, htg1, htg2, htg3⟩ : ∃ tg, an ≤ tg ∧ tg ≤ i ∧ r = (atD sts tg).2.map fullB := by
      rcases hr with rfl | rfl
      · exact ⟨an, Nat.le_refl _, hai, hnow⟩
      · exact ⟨i, hai, Nat.le_refl _, hmay⟩
    obtain ⟨Dc, hDc⟩ : ∃ Dc, crS D done (torn : Nat) = Dc := ⟨_, rfl⟩
    have f1 : Fell Dc.1 n (atD r) := by
      rw [← hDc]
      have h2 := crS_ok hok done (torn : Nat)
      rw [crS_in ht] at h2 ⊢
      exact ⟨h2, rfl, by show n + 41 ≤ (crG done torn 0 true D.blocks D.wait).length; rw [crG_len]; omega, hres⟩
    have hs1 : Dc.1.stop = -1 := by rw [← hDc]; exact crS_stop ht
    have hwc : Dc.1.writes = D.writes := by rw [← hDc]; exact crS_writes' _ _ _
    have hbc : Dc.1.blocks.length = n + 41 := by rw [← hDc, crS_blocks']; exact hb
    have hec : Dc.2 = 0 := by rw [← hDc, crS_in ht]
    obtain ⟨oe, hoe⟩ : ∃ oe, openS Dc.1 (n : Nat) = oe := ⟨_, rfl⟩
    have how := openS_writes' Dc.1 (n : Nat)
    have hob := openS_blocks' Dc.1 (n : Nat)
    have he := f1.free h1 (by omega) hs1
    have hA := f1.open_ok h1 (by omega) he
    rw [hoe] at how hob he hA
    have hhome := hA.homeS hrl
    have hdI := (hd.mono hJ).toR (L := own (.slice A5 sts.length c5) 40 1 sts.length (sts.flatMap stC) :: blk s 55 (stV d (n : Nat) dead) :: L)
    have hcond : (decide ((i : Int) < l.length) && over) = false := by
      by_cases h : i < l.length
      · rw [hover h, Bool.and_false]
      · rw [decide_eq_false (by omega)]; rfl
    by_cases hlt : i < l.length
    · obtain rfl := hover hlt
      repeat' (first
        | (show VcL _ _ _ _ _ _ _ _; first
      | refine VcL.pures tabOk rfl ?_
      | refine VcL.nil ?_
      | (show VcL _ _ _ _ (⟨_, .call ⟨.value (.func F_journal_Disk_Crash), _, _⟩, _, _, _, _⟩ :: _) _ _ _; (refine VcL.callF ok_journal_Disk_Crash rfl rfl rfl rfl (Rets.mono (CrashP_any (D := D) (Holds.f1 H) (by omega) hdI (torn : Nat)) ?_); rintro _ w ⟨rfl, H⟩; rw [hDc, hec]; rw [hDc] at H))
      | (show VcL _ _ _ _ (⟨_, .call ⟨.value (.func F_journal_Open), _, _⟩, _, _, _, _⟩ :: _) _ _ _; (refine VcL.callF ok_journal_Open rfl rfl rfl rfl (Rets.mono (Open_ok (D := Dc.1) (home := (n : Nat)) H (by omega) (by omega) (by rw [hoe]; exact he)) ?_); rintro _ w ⟨s2, rfl, H⟩; rw [hoe] at H))
      | (refine VcL.guard rfl rfl rfl rfl (fun h => ?_) (fun h => ?_) <;> first | (exfalso; simp only [decide_eq_true_eq, decide_eq_false_iff_not, Bool.not_eq_true', Bool.not_eq_false'] at h; omega) | (with_reducible have hp := of_decide_eq_true h)))
        | (show Vc _ _ _ _ _ _; first
      | refine Vc.seq ?_
      | refine Vc.region ?_
      | refine Vc.condF rfl ?_
      | refine Vc.skip ?_
      | refine Vc.block ?_
      | refine Vc.exit ?_)
        | (show KSeq _ _ _ _ _ _ _; first
      | refine KSeq.normal ?_
      | refine KSeq.exit ?_)
        | (show KBlock _ _ _ _ _ _; refine KBlock.here ?_)
        | refine KLoop.exit ?_)
      refine Vc.loopS [(14, _), (15, _)] (fun k : Nat => [(11, .bool false), (22, .int .i64 k)]) (fun k w => k ≤ tg ∧ Holds J w (dskA d oe.1 :: blk s2 55 (stV d (n : Nat) false) :: own (.slice A5 sts.length c5) 40 1 sts.length (sts.flatMap stC) :: blk s 55 (stV d (n : Nat) dead) :: L)) (fun k _ => tg + 1 - k) an ⟨rfl, rfl, trivial⟩ ⟨rfl, rfl, trivial⟩ ⟨htg1, H⟩ ?_
      clear H
      rintro k w ⟨hk, H⟩
      obtain ⟨hsx, hxl2⟩ := hall _ (atD_mem (show k < sts.length by omega))
      have hqk : sts[k]? = some (atD sts k) := atD_get (by omega)
      obtain ⟨⟨xv, xs⟩, hxk⟩ : ∃ x, atD sts k = x := ⟨_, rfl⟩
      rw [hxk] at hqk hsx hxl2
      dsimp only at hsx hxl2
      obtain ⟨A8, c8, rfl, hc8⟩ := hsx.form
      obtain ⟨b5, o5, _, e5, hc5⟩ := Holds.own_some (by omega) (Holds.f2 H)
      injection e5 with e6 e7 e8
      subst e6
      have hsx' : SlI J (.slice A8 n c8) 1 xs.length (byL xs) := by rw [hxl2]; exact hsx
      by_cases heq : homeS oe.1 n = xs.map fullB
      ·
        repeat' (first
          | (show VcL _ _ _ _ _ _ _ _; first
      | refine VcL.pures tabOk rfl ?_
      | refine VcL.nil ?_
      | (show VcL _ _ _ _ (⟨_, .load _ _, _, _, _, _⟩ :: _) _ _ _; refine VcL.load1 tabOk rfl rfl rfl rfl rfl (by exact Holds.ownCell0 (Holds.f2 H) (fun _ => rfl) (by assumption) rfl) ?_)
      | (show VcL _ _ _ _ (⟨_, .indexAddr _ _ _, _, _, _, _⟩ :: _) _ _ _; refine VcL.indexAddr tabOk rfl rfl rfl rfl rfl rfl (by omega) (by omega) ?_)
      | (show VcL _ _ _ _ (⟨_, .call ⟨.value (.func F_tithingtop_filled), _, _⟩, _, _, _, _⟩ :: _) _ _ _; (refine VcL.callF ok_tithingtop_filled rfl rfl rfl rfl (Rets.mono (filled_any (s := s2) (d := d) (ho := n) (D := oe.1) H (by omega) (by omega) hsx' hxl2) ?_); rintro _ w ⟨rfl, H⟩; rw [decide_eq_true heq])))
          | (show Vc _ _ _ _ _ _; first
      | refine Vc.seq ?_
      | refine Vc.region ?_
      | refine Vc.condT rfl ?_
      | refine Vc.ret ?_
      | refine Vc.skip ?_
      | refine Vc.block ?_
      | (refine Vc.cond rfl (fun h => ?_) (fun h => ?_) <;> first | (exfalso; simp only [decide_eq_true_eq, decide_eq_false_iff_not, Bool.not_eq_true', Bool.not_eq_false'] at h; omega) | (with_reducible have hp := of_decide_eq_true h)))
          | (show KSeq _ _ _ _ _ _ _; first
      | refine KSeq.normal ?_
      | refine KSeq.ret ?_)
          | (show KBlock _ _ _ _ _ _; refine KBlock.ret ?_)
          | refine KLoop.ret ?_
          | (show KEnd _ _ _ _ _ _ _; refine KEnd.fin (Or.inr rfl) ⟨_, (ResL.tmp rfl (ResL.tmp rfl ResL.nil)), ?_⟩))
        exact ⟨false, rfl, Holds.less H.drop.drop.drop.drop hJ⟩
      · have hne : k ≠ tg := fun e => by
          subst e
          rw [hxk] at htg3
          exact heq (hhome.trans htg3)
        repeat' (first
          | (show VcL _ _ _ _ _ _ _ _; first
      | refine VcL.pures tabOk rfl ?_
      | refine VcL.nil ?_
      | (show VcL _ _ _ _ (⟨_, .load _ _, _, _, _, _⟩ :: _) _ _ _; refine VcL.load1 tabOk rfl rfl rfl rfl rfl (by exact Holds.ownCell0 (Holds.f2 H) (fun _ => rfl) (by assumption) rfl) ?_)
      | (show VcL _ _ _ _ (⟨_, .indexAddr _ _ _, _, _, _, _⟩ :: _) _ _ _; refine VcL.indexAddr tabOk rfl rfl rfl rfl rfl rfl (by omega) (by omega) ?_)
      | (show VcL _ _ _ _ (⟨_, .call ⟨.value (.func F_tithingtop_filled), _, _⟩, _, _, _, _⟩ :: _) _ _ _; (refine VcL.callF ok_tithingtop_filled rfl rfl rfl rfl (Rets.mono (filled_any (s := s2) (d := d) (ho := n) (D := oe.1) H (by omega) (by omega) hsx' hxl2) ?_); rintro _ w ⟨rfl, H⟩; rw [decide_eq_false heq])))
          | (show Vc _ _ _ _ _ _; first
      | refine Vc.seq ?_
      | refine Vc.region ?_
      | refine Vc.condF rfl ?_
      | refine Vc.skip ?_
      | refine Vc.block ?_
      | (refine Vc.cond rfl (fun h => ?_) (fun h => ?_) <;> first | (exfalso; simp only [decide_eq_true_eq, decide_eq_false_iff_not, Bool.not_eq_true', Bool.not_eq_false'] at h; omega) | (with_reducible have hp := of_decide_eq_true h)))
          | (show KSeq _ _ _ _ _ _ _; refine KSeq.normal ?_)
          | (show KBlock _ _ _ _ _ _; refine KBlock.normal ?_))
        exact KLoop.again (k + 1) ⟨rfl, got_succ rfl (by omega), trivial⟩ ⟨rfl, rfl, trivial⟩ ⟨by omega, H⟩ (by omega)
    · obtain rfl : i = l.length := by omega
      repeat' (first
        | (show VcL _ _ _ _ _ _ _ _; first
      | refine VcL.pures tabOk rfl ?_
      | refine VcL.nil ?_
      | (show VcL _ _ _ _ (⟨_, .call ⟨.value (.func F_journal_Disk_Crash), _, _⟩, _, _, _, _⟩ :: _) _ _ _; (refine VcL.callF ok_journal_Disk_Crash rfl rfl rfl rfl (Rets.mono (CrashP_any (D := D) (Holds.f1 H) (by omega) hdI (torn : Nat)) ?_); rintro _ w ⟨rfl, H⟩; rw [hDc, hec]; rw [hDc] at H))
      | (show VcL _ _ _ _ (⟨_, .call ⟨.value (.func F_journal_Open), _, _⟩, _, _, _, _⟩ :: _) _ _ _; (refine VcL.callF ok_journal_Open rfl rfl rfl rfl (Rets.mono (Open_ok (D := Dc.1) (home := (n : Nat)) H (by omega) (by omega) (by rw [hoe]; exact he)) ?_); rintro _ w ⟨s2, rfl, H⟩; rw [hoe] at H))
      | (refine VcL.guard rfl rfl rfl rfl (fun h => ?_) (fun h => ?_) <;> first | (exfalso; simp only [decide_eq_true_eq, decide_eq_false_iff_not, Bool.not_eq_true', Bool.not_eq_false'] at h; omega) | (with_reducible have hp := of_decide_eq_false h)))
        | (show Vc _ _ _ _ _ _; first
      | refine Vc.seq ?_
      | refine Vc.region ?_
      | refine Vc.condF rfl ?_
      | refine Vc.skip ?_
      | refine Vc.block ?_
      | refine Vc.exit ?_)
        | (show KSeq _ _ _ _ _ _ _; first
      | refine KSeq.normal ?_
      | refine KSeq.exit ?_)
        | (show KBlock _ _ _ _ _ _; refine KBlock.here ?_)
        | refine KLoop.exit ?_)
      refine Vc.loopS [(14, _), (15, _)] (fun k : Nat => [(11, .bool over), (22, .int .i64 k)]) (fun k w => k ≤ tg ∧ Holds J w (dskA d oe.1 :: blk s2 55 (stV d (n : Nat) false) :: own (.slice A5 sts.length c5) 40 1 sts.length (sts.flatMap stC) :: blk s 55 (stV d (n : Nat) dead) :: L)) (fun k _ => tg + 1 - k) an ⟨rfl, rfl, trivial⟩ ⟨rfl, rfl, trivial⟩ ⟨htg1, H⟩ ?_
      clear H
      rintro k w ⟨hk, H⟩
      obtain ⟨hsx, hxl2⟩ := hall _ (atD_mem (show k < sts.length by omega))
      have hqk : sts[k]? = some (atD sts k) := atD_get (by omega)
      obtain ⟨⟨xv, xs⟩, hxk⟩ : ∃ x, atD sts k = x := ⟨_, rfl⟩
      rw [hxk] at hqk hsx hxl2
      dsimp only at hsx hxl2
      obtain ⟨A8, c8, rfl, hc8⟩ := hsx.form
      obtain ⟨b5, o5, _, e5, hc5⟩ := Holds.own_some (by omega) (Holds.f2 H)
      injection e5 with e6 e7 e8
      subst e6
      have hsx' : SlI J (.slice A8 n c8) 1 xs.length (byL xs) := by rw [hxl2]; exact hsx
      by_cases heq : homeS oe.1 n = xs.map fullB
      ·
        repeat' (first
          | (show VcL _ _ _ _ _ _ _ _; first
      | refine VcL.pures tabOk rfl ?_
      | refine VcL.nil ?_
      | (show VcL _ _ _ _ (⟨_, .load _ _, _, _, _, _⟩ :: _) _ _ _; refine VcL.load1 tabOk rfl rfl rfl rfl rfl (by exact Holds.ownCell0 (Holds.f2 H) (fun _ => rfl) (by assumption) rfl) ?_)
      | (show VcL _ _ _ _ (⟨_, .indexAddr _ _ _, _, _, _, _⟩ :: _) _ _ _; refine VcL.indexAddr tabOk rfl rfl rfl rfl rfl rfl (by omega) (by omega) ?_)
      | (show VcL _ _ _ _ (⟨_, .call ⟨.value (.func F_tithingtop_filled), _, _⟩, _, _, _, _⟩ :: _) _ _ _; (refine VcL.callF ok_tithingtop_filled rfl rfl rfl rfl (Rets.mono (filled_any (s := s2) (d := d) (ho := n) (D := oe.1) H (by omega) (by omega) hsx' hxl2) ?_); rintro _ w ⟨rfl, H⟩; rw [decide_eq_true heq])))
          | (show Vc _ _ _ _ _ _; first
      | refine Vc.seq ?_
      | refine Vc.region ?_
      | refine Vc.condT rfl ?_
      | refine Vc.ret ?_
      | refine Vc.skip ?_
      | refine Vc.block ?_
      | (refine Vc.cond rfl (fun h => ?_) (fun h => ?_) <;> first | (exfalso; simp only [decide_eq_true_eq, decide_eq_false_iff_not, Bool.not_eq_true', Bool.not_eq_false'] at h; omega) | (with_reducible have hp := of_decide_eq_true h)))
          | (show KSeq _ _ _ _ _ _ _; first
      | refine KSeq.normal ?_
      | refine KSeq.ret ?_)
          | (show KBlock _ _ _ _ _ _; refine KBlock.ret ?_)
          | refine KLoop.ret ?_
          | (show KEnd _ _ _ _ _ _ _; refine KEnd.fin (Or.inr rfl) ⟨_, (ResL.tmp rfl (ResL.tmp rfl ResL.nil)), ?_⟩))
        exact ⟨over, rfl, Holds.less H.drop.drop.drop.drop hJ⟩
      · have hne : k ≠ tg := fun e => by
          subst e
          rw [hxk] at htg3
          exact heq (hhome.trans htg3)
        repeat' (first
          | (show VcL _ _ _ _ _ _ _ _; first
      | refine VcL.pures tabOk rfl ?_
      | refine VcL.nil ?_
      | (show VcL _ _ _ _ (⟨_, .load _ _, _, _, _, _⟩ :: _) _ _ _; refine VcL.load1 tabOk rfl rfl rfl rfl rfl (by exact Holds.ownCell0 (Holds.f2 H) (fun _ => rfl) (by assumption) rfl) ?_)
      | (show VcL _ _ _ _ (⟨_, .indexAddr _ _ _, _, _, _, _⟩ :: _) _ _ _; refine VcL.indexAddr tabOk rfl rfl rfl rfl rfl rfl (by omega) (by omega) ?_)
      | (show VcL _ _ _ _ (⟨_, .call ⟨.value (.func F_tithingtop_filled), _, _⟩, _, _, _, _⟩ :: _) _ _ _; (refine VcL.callF ok_tithingtop_filled rfl rfl rfl rfl (Rets.mono (filled_any (s := s2) (d := d) (ho := n) (D := oe.1) H (by omega) (by omega) hsx' hxl2) ?_); rintro _ w ⟨rfl, H⟩; rw [decide_eq_false heq])))
          | (show Vc _ _ _ _ _ _; first
      | refine Vc.seq ?_
      | refine Vc.region ?_
      | refine Vc.condF rfl ?_
      | refine Vc.skip ?_
      | refine Vc.block ?_
      | (refine Vc.cond rfl (fun h => ?_) (fun h => ?_) <;> first | (exfalso; simp only [decide_eq_true_eq, decide_eq_false_iff_not, Bool.not_eq_true', Bool.not_eq_false'] at h; omega) | (with_reducible have hp := of_decide_eq_true h)))
          | (show KSeq _ _ _ _ _ _ _; refine KSeq.normal ?_)
          | (show KBlock _ _ _ _ _ _; refine KBlock.normal ?_))
        exact KLoop.again (k + 1) ⟨rfl, got_succ rfl (by omega), trivial⟩ ⟨rfl, rfl, trivial⟩ ⟨by omega, H⟩ (by omega)
theorem maxLen_bo {n : Nat} (h : n * Try.prog.bytesOf 4 ≤ 140737488351232) : n ≤ 140737488355328 := by
  have : Try.prog.bytesOf 4 = 1 := by kernel_rfl
  rw [this] at h
  omega
theorem TopCrash_any (H : Holds I w L) {x y : Int} (hx : 0 ≤ x ∧ x < 256) (hy : 0 ≤ y ∧ y < 256) {v : Value} {l : List Pu} (hv : SlI I v 5 l.length (l.flatMap puC)) (hl : l.length ≤ 140737488355328) (ha : ∀ a ∈ l, PuOk I a) {dv : Value} {done : List Bool} (hd : SlI I dv 1 done.length (done.flatMap boC)) (hdl : done.length ≤ 140737488355328) :
    Rets Try.prog F_tithingtop_TopCrash #[.int .u8 x, v, dv, .int .u8 y] w fun u w' => u = .bool true ∧ Holds I w' L := by
  obtain ⟨A, cap, rfl, hcap⟩ := hv.form
  obtain ⟨A2, cap2, rfl, hcap2⟩ := hd.form
  cases hlo : longP l with
  | true =>
    refine ok_tithingtop_TopCrash.rets rfl ?_
    repeat' (first
      | (show VcL _ _ _ _ _ _ _ _; first
      | refine VcL.pures tabOk rfl ?_
      | refine VcL.nil ?_
      | (show VcL _ _ _ _ (⟨_, .call ⟨.value (.func F_tithinglaw16_LongPuts), _, _⟩, _, _, _, _⟩ :: _) _ _ _; (refine VcL.callF ok_tithinglaw16_LongPuts rfl rfl rfl rfl (Rets.mono (LongPuts_any H hv.toR hl) ?_); rintro _ w ⟨rfl, H⟩; rw [hlo]))
      | (show VcL _ _ _ _ (⟨_, .call ⟨.value (.func F_tithinglaw16_Awake), _, _⟩, _, _, _, _⟩ :: _) _ _ _; (refine VcL.callF ok_tithinglaw16_Awake rfl rfl rfl rfl (Rets.mono (Awake_any H) ?_); rintro _ w ⟨rfl, H⟩))
      | (refine VcL.guard rfl rfl rfl rfl (fun h => ?_) (fun h => ?_) <;> first | (cases h; done) | (with_reducible have hp := of_decide_eq_true h) | (with_reducible have hp := of_decide_eq_false h) | skip))
      | (show Vc _ _ _ _ _ _; first
      | refine Vc.seq ?_
      | refine Vc.region ?_
      | refine Vc.condT rfl ?_
      | refine Vc.ret ?_)
      | (show KSeq _ _ _ _ _ _ _; first
      | refine KSeq.normal ?_
      | refine KSeq.ret ?_)
      | (show KEnd _ _ _ _ _ _ _; refine KEnd.fin (Or.inr rfl) ⟨_, (ResL.tmp rfl ResL.nil), ?_⟩))
    all_goals exact ⟨rfl, H⟩
  | false =>
    by_cases h8 : 8 < l.length ∨ 300 < done.length
    ·
      refine ok_tithingtop_TopCrash.rets rfl ?_
      repeat' (first
        | (show VcL _ _ _ _ _ _ _ _; first
      | refine VcL.pures tabOk rfl ?_
      | refine VcL.nil ?_
      | (show VcL _ _ _ _ (⟨_, .call ⟨.value (.func F_tithinglaw16_LongPuts), _, _⟩, _, _, _, _⟩ :: _) _ _ _; (refine VcL.callF ok_tithinglaw16_LongPuts rfl rfl rfl rfl (Rets.mono (LongPuts_any H hv.toR hl) ?_); rintro _ w ⟨rfl, H⟩; rw [hlo]))
      | (show VcL _ _ _ _ (⟨_, .call ⟨.value (.func F_tithinglaw16_Awake), _, _⟩, _, _, _, _⟩ :: _) _ _ _; (refine VcL.callF ok_tithinglaw16_Awake rfl rfl rfl rfl (Rets.mono (Awake_any H) ?_); rintro _ w ⟨rfl, H⟩))
      | (refine VcL.guard rfl rfl rfl rfl (fun h => ?_) (fun h => ?_) <;> first | (cases h; done) | (with_reducible have hp := of_decide_eq_true h) | (with_reducible have hp := of_decide_eq_false h) | skip))
        | (show Vc _ _ _ _ _ _; first
      | refine Vc.seq ?_
      | refine Vc.region ?_
      | refine Vc.condT rfl ?_
      | refine Vc.ret ?_
      | (refine Vc.cond rfl (fun h => ?_) (fun h => ?_) <;> first | (exfalso; simp only [decide_eq_true_eq, decide_eq_false_iff_not, Bool.not_eq_true', Bool.not_eq_false'] at h; omega) | (with_reducible have hp := of_decide_eq_true h)))
        | (show KSeq _ _ _ _ _ _ _; first
      | refine KSeq.normal ?_
      | refine KSeq.ret ?_)
        | (show KEnd _ _ _ _ _ _ _; refine KEnd.fin (Or.inr rfl) ⟨_, (ResL.tmp rfl ResL.nil), ?_⟩))
      all_goals exact ⟨rfl, H⟩
    · have hbig : ∀ p ∈ l, p.blocks.2.2.length ≤ 60 := fun p hp => by
        unfold longP at hlo
        rw [Bool.or_eq_false_iff] at hlo
        have h1 := List.any_eq_false.1 hlo.1 p hp
        unfold bigP at h1
        rw [Bool.not_eq_true, Bool.or_eq_false_iff] at h1
        have := of_decide_eq_false h1.1
        omega
      obtain ⟨m, rfl⟩ := Int.eq_ofNat_of_zero_le hx.1
      obtain ⟨torn, rfl⟩ := Int.eq_ofNat_of_zero_le hy.1
      obtain ⟨n, hn⟩ : ∃ n, 1 + m % 10 = n := ⟨_, rfl⟩
      have hwm : IntKind.i64.wrap (m : Int) = m := wrap_i64 (by omega) (by omega)
      have hwt : IntKind.i64.wrap (torn : Int) = torn := wrap_i64 (by omega) (by omega)
      have hwn : IntKind.i64.wrap (1 + (m : Int).tmod (Int.ofNat (9 + 1))) = (n : Int) := by
        have e1 : (m : Int).tmod (Int.ofNat (9 + 1)) = ((m % 10 : Nat) : Int) := by rw [Int.tmod_eq_emod_of_nonneg (by omega)]; rfl
        rw [e1, wrap_i64 (by omega) (by omega)]
        omega
      refine ok_tithingtop_TopCrash.rets rfl ?_
      repeat' (first
        | rw [hwm]
        | rw [hwn]
        | (show VcL _ _ _ _ _ _ _ _; first
      | refine VcL.pures tabOk rfl ?_
      | refine VcL.nil ?_
      | (show VcL _ _ _ _ (⟨_, .call ⟨.value (.func F_tithinglaw16_LongPuts), _, _⟩, _, _, _, _⟩ :: _) _ _ _; (refine VcL.callF ok_tithinglaw16_LongPuts rfl rfl rfl rfl (Rets.mono (LongPuts_any H hv.toR hl) ?_); rintro _ w ⟨rfl, H⟩; rw [hlo]))
      | (refine VcL.guard rfl rfl rfl rfl (fun h => ?_) (fun h => ?_) <;> first | (cases h; done) | (exfalso; simp only [decide_eq_true_eq, decide_eq_false_iff_not, Bool.not_eq_true', Bool.not_eq_false'] at h; omega) | (with_reducible have hp := of_decide_eq_false h) | skip))
        | (show Vc _ _ _ _ _ _; first
      | refine Vc.seq ?_
      | refine Vc.region ?_
      | refine Vc.skip ?_
      | refine Vc.block ?_
      | (refine Vc.cond rfl (fun h => ?_) (fun h => ?_) <;> first | (exfalso; simp only [decide_eq_true_eq, decide_eq_false_iff_not, Bool.not_eq_true', Bool.not_eq_false'] at h; omega) | (with_reducible have hp := of_decide_eq_false h)))
        | (show KSeq _ _ _ _ _ _ _; refine KSeq.normal ?_))
      refine Vc.loopS [(1, _), (2, _), (3, _), (9, _)] (fun k : Nat => [(10, .int .i64 k)]) (fun k w => k ≤ 200 ∧ Holds I w L) (fun k _ => 200 - k) 0 ⟨rfl, trivial⟩ ⟨rfl, rfl, rfl, rfl, trivial⟩ ⟨Nat.zero_le _, H⟩ ?_
      clear H
      rintro k w ⟨hk, H⟩
      by_cases hlt : k < 200
      ·
        repeat' (first
          | rw [hwt]
          | (show VcL _ _ _ _ _ _ _ _; first
      | refine VcL.pures tabOk rfl ?_
      | refine VcL.nil ?_
      | (show VcL _ _ _ _ (⟨_, .call ⟨.value (.func F_tithingtop_stopped), _, _⟩, _, _, _, _⟩ :: _) _ _ _; (refine VcL.callF ok_tithingtop_stopped rfl rfl rfl rfl (Rets.mono (stopped_any (n := n) (torn := torn) (stop := k) H (by omega) (by omega) hv (by omega) ha hbig hd (by omega) hlt) ?_); rintro _ w ⟨over, rfl, H⟩))
      | (show VcL _ _ _ _ (⟨_, .call ⟨.value (.func F_tithinglaw16_Awake), _, _⟩, _, _, _, _⟩ :: _) _ _ _; (refine VcL.callF ok_tithinglaw16_Awake rfl rfl rfl rfl (Rets.mono (Awake_any H) ?_); rintro _ w ⟨rfl, H⟩)))
          | (show Vc _ _ _ _ _ _; first
      | refine Vc.seq ?_
      | refine Vc.region ?_
      | refine Vc.condF rfl ?_
      | refine Vc.ret ?_
      | refine Vc.skip ?_
      | refine Vc.block ?_
      | (refine Vc.cond rfl (fun h => ?_) (fun h => ?_) <;> first | (exfalso; simp only [decide_eq_true_eq, decide_eq_false_iff_not, Bool.not_eq_true', Bool.not_eq_false'] at h; omega) | (with_reducible have hp := of_decide_eq_true h) | skip))
          | (show KSeq _ _ _ _ _ _ _; first
      | refine KSeq.normal ?_
      | refine KSeq.ret ?_)
          | (show KBlock _ _ _ _ _ _; first
      | refine KBlock.normal ?_
      | refine KBlock.ret ?_)
          | refine KLoop.ret ?_
          | (show KEnd _ _ _ _ _ _ _; refine KEnd.fin (Or.inr rfl) ⟨_, (ResL.tmp rfl ResL.nil), ?_⟩))
        · exact ⟨rfl, H⟩
        · exact KLoop.again (k + 1) ⟨got_succ rfl (by omega), trivial⟩ ⟨rfl, rfl, rfl, rfl, trivial⟩ ⟨hlt, H⟩ (by omega)
      · obtain rfl : k = 200 := by omega
        repeat' (first
          | (show VcL _ _ _ _ _ _ _ _; first
      | refine VcL.pures tabOk rfl ?_
      | refine VcL.nil ?_
      | (show VcL _ _ _ _ (⟨_, .call ⟨.value (.func F_tithinglaw16_Awake), _, _⟩, _, _, _, _⟩ :: _) _ _ _; (refine VcL.callF ok_tithinglaw16_Awake rfl rfl rfl rfl (Rets.mono (Awake_any H) ?_); rintro _ w ⟨rfl, H⟩)))
          | (show Vc _ _ _ _ _ _; first
      | refine Vc.seq ?_
      | refine Vc.region ?_
      | refine Vc.condF rfl ?_
      | refine Vc.ret ?_
      | refine Vc.exit ?_)
          | (show KSeq _ _ _ _ _ _ _; first
      | refine KSeq.normal ?_
      | refine KSeq.exit ?_)
          | (show KBlock _ _ _ _ _ _; refine KBlock.here ?_)
          | refine KLoop.exit ?_
          | (show KEnd _ _ _ _ _ _ _; refine KEnd.fin (Or.inr rfl) ⟨_, (ResL.tmp rfl ResL.nil), ?_⟩))
        exact ⟨rfl, H⟩
end Go.Proofs.Ytkeapkmjkmbdpaa.V
