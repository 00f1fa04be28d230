/- Whatever crashes come, a store has what was committed. -/
import Derived.Test.YtoahfjfknljacaaVVV
namespace Go.Proofs.Ytoahfjfknljacaa.V
open Go Go.Proofs.YtoahfjfknljacaaV
set_option linter.unusedVariables false
set_option linter.unusedSimpArgs false
set_option maxHeartbeats 1000000
set_option maxRecDepth 4000
attribute [local irreducible] IntKind.wrap
variable {I : Imm} {w : World} {L : List Asn}
theorem open_new' {n : Nat} (h1 : 1 ≤ n) (h2 : n ≤ 300) : openS (newS (n + 41)) n = (newS (n + 41), 0) := by
  have ha := new_alive (n := n)
  have hl : (newS (n + 41)).blocks.length = n + 41 := List.length_replicate ..
  rw [openS_in h1 h2 (by omega)]
  have hz : rdB (newS (n + 41)) n = zeroB := (rd_now rfl n).trans ha.zero
  have e1 : recA (newS (n + 41)) n = (newS (n + 41), true) := by
    unfold recA
    rw [if_neg]
    rintro ⟨hh, _⟩
    rw [hz] at hh
    have := headOk_J hh
    rw [zero_at] at this
    exact absurd this (by decide)
  have e : recS (newS (n + 41)) n = (newS (n + 41), true) := by
    unfold recS
    rw [e1, if_neg (fun e => by cases e), if_pos hz]
  rw [e]
  rfl
theorem repL_str (n : Nat) : repL n [.string ⟨#[]⟩] = (List.replicate n ([] : By)).flatMap pgC := by
  unfold repL
  induction n with
  | zero => rfl
  | succ n ih => rw [List.replicate_succ, List.flatten_cons, ih]; rfl
def fillZ (n k : Nat) : List By := List.replicate k zeroB ++ List.replicate (n - k) []
theorem fillZ_len {n k : Nat} (h : k ≤ n) : (fillZ n k).length = n := by unfold fillZ; simp; omega
theorem fillZ_set {n k : Nat} (h : k < n) : (fillZ n k).set k zeroB = fillZ n (k + 1) := by
  unfold fillZ
  rw [List.set_append_right _ _ (by simp)]
  simp only [List.length_replicate, Nat.sub_self]
  rw [show n - k = (n - (k + 1)) + 1 by omega, List.replicate_succ, List.set_cons_zero, List.replicate_succ']
  simp
theorem fillZ_full (n : Nat) : fillZ n n = List.replicate n zeroB := by unfold fillZ; simp
theorem isS_of {D : Dk} {n : Nat} {x l : List By} (h : homeS D n = x) : isS D n false l = if x = l then 1 else 0 := by
  unfold isS
  rw [if_neg (by decide), h]
theorem JournalWhole_any (H : Holds I w L) {x : Int} (hx : 0 ≤ x ∧ x < 256) {v : Value} {l : List Pu} (hv : SlI I v 5 l.length (l.flatMap puC)) (hl : l.length ≤ 140737488355328) (ha : ∀ a ∈ l, PuOk I a) :
    Rets Try.prog F_tithinglaw16_JournalWhole #[.int .u8 x, v] w fun u w' => u = .bool true ∧ Holds I w' L := by
  cases hlo : longP l with
  | true =>
    refine ok_tithinglaw16_JournalWhole.rets rfl ?_
    repeat' (first
      | (show VcL _ _ _ _ _ _ _ _; first
      | refine VcL.pures tabOk rfl ?_
      | refine VcL.nil ?_
      | (show VcL _ _ _ _ (⟨_, .call ⟨.value (.func F_tithinglaw16_LongPuts), _, _⟩, _, _, _, _⟩ :: _) _ _ _; (refine VcL.callF ok_tithinglaw16_LongPuts rfl rfl rfl rfl (Rets.mono (LongPuts_any H hv.toR hl) ?_); rintro _ w ⟨rfl, H⟩; rw [hlo]))
      | (show VcL _ _ _ _ (⟨_, .call ⟨.value (.func F_tithinglaw16_Awake), _, _⟩, _, _, _, _⟩ :: _) _ _ _; (refine VcL.callF ok_tithinglaw16_Awake rfl rfl rfl rfl (Rets.mono (Awake_any H) ?_); rintro _ w ⟨rfl, H⟩)))
      | (show Vc _ _ _ _ _ _; first
      | refine Vc.seq ?_
      | refine Vc.region ?_
      | refine Vc.condT rfl ?_
      | refine Vc.ret ?_)
      | (show KSeq _ _ _ _ _ _ _; first
      | refine KSeq.normal ?_
      | refine KSeq.ret ?_)
      | (show KEnd _ _ _ _ _ _ _; refine KEnd.fin (Or.inr rfl) ⟨_, (ResL.tmp rfl ResL.nil), ?_⟩))
    exact ⟨rfl, H⟩
  | false =>
    have hlen : l.length ≤ 40 := by
      unfold longP at hlo
      rw [Bool.or_eq_false_iff] at hlo
      have := of_decide_eq_false hlo.2
      omega
    have hbig : ∀ p ∈ l, p.blocks.2.2.length ≤ 60 := fun p hp => by
      unfold longP at hlo
      rw [Bool.or_eq_false_iff] at hlo
      have h1 := List.any_eq_false.1 hlo.1 p hp
      unfold bigP at h1
      rw [Bool.not_eq_true, Bool.or_eq_false_iff] at h1
      have := of_decide_eq_false h1.1
      omega
    obtain ⟨m, rfl⟩ := Int.eq_ofNat_of_zero_le hx.1
    obtain ⟨n, hn⟩ : ∃ n, 1 + m % 12 = n := ⟨_, rfl⟩
    have hn1 : 1 ≤ n := by omega
    have hn3 : n ≤ 300 := by omega
    have hwm : IntKind.i64.wrap (m : Int) = m := wrap_i64 (by omega) (by omega)
    have hwn : IntKind.i64.wrap (1 + (m : Int).tmod (Int.ofNat (11 + 1))) = (n : Int) := by
      have e1 : (m : Int).tmod (Int.ofNat (11 + 1)) = ((m % 12 : Nat) : Int) := by rw [Int.tmod_eq_emod_of_nonneg (by omega)]; rfl
      rw [e1, wrap_i64 (by omega) (by omega)]
      omega
    have hw1 : IntKind.i64.wrap ((n : Int) + 1) = ((n + 1 : Nat) : Int) := wrap_i64 (by omega) (by omega)
    have hw2 : IntKind.i64.wrap (((n + 1 : Nat) : Int) + 40) = ((n + 41 : Nat) : Int) := by rw [wrap_i64 (by omega) (by omega)]; omega
    have hop := open_new' (n := n) (by omega) (by omega)
    have hk0 : Kept n (newS (n + 41)) false (List.replicate n zeroB) (List.replicate n zeroB) := new_alive.kept (List.length_replicate ..) (List.length_replicate ..)
    obtain ⟨D0, hD0⟩ : ∃ D, newS (n + 41) = D := ⟨_, rfl⟩
    have hw0 : D0.writes = 0 := by rw [← hD0]; rfl
    have hb0 : D0.blocks.length = n + 41 := by rw [← hD0]; exact List.length_replicate ..
    rw [hD0] at hop hk0
    refine ok_tithinglaw16_JournalWhole.rets rfl ?_
    repeat' (first
      | rw [hwm]
      | rw [hwn]
      | rw [hw1]
      | rw [hw2]
      | (refine VcL.makeSlice (m := n) tabOk H rfl rfl rfl (by show n * 16 ≤ _; omega) rfl rfl rfl (fun sv w H => ?_))
      | (show VcL _ _ _ _ _ _ _ _; first
      | refine VcL.pures tabOk rfl ?_
      | refine VcL.nil ?_
      | (show VcL _ _ _ _ (⟨_, .call ⟨.value (.func F_tithinglaw16_LongPuts), _, _⟩, _, _, _, _⟩ :: _) _ _ _; (refine VcL.callF ok_tithinglaw16_LongPuts rfl rfl rfl rfl (Rets.mono (LongPuts_any H hv.toR hl) ?_); rintro _ w ⟨rfl, H⟩; rw [hlo]))
      | (show VcL _ _ _ _ (⟨_, .call ⟨.value (.func F_journal_NewDisk), _, _⟩, _, _, _, _⟩ :: _) _ _ _; (refine VcL.callF ok_journal_NewDisk rfl rfl rfl rfl (Rets.mono (NewDisk_any (n := n + 41) H (by omega) (by omega)) ?_); rintro _ w ⟨d, rfl, H⟩; rw [hD0] at H))
      | (show VcL _ _ _ _ (⟨_, .call ⟨.value (.func F_journal_Open), _, _⟩, _, _, _, _⟩ :: _) _ _ _; (refine VcL.callF ok_journal_Open rfl rfl rfl rfl (Rets.mono (Open_ok (D := D0) (home := (n : Nat)) H (by omega) (by omega) (by rw [hop])) ?_); rintro _ w ⟨s, rfl, H⟩; rw [hop] at H)))
      | (show Vc _ _ _ _ _ _; first
      | refine Vc.seq ?_
      | refine Vc.region ?_
      | refine Vc.condF rfl ?_
      | refine Vc.skip ?_
      | refine Vc.block ?_)
      | (show KSeq _ _ _ _ _ _ _; refine KSeq.normal ?_))
    have H : Holds I w (own sv 9 1 n (repL n [.string ⟨#[]⟩]) :: dskA d D0 :: blk s 82 (stV d (n : Nat) false) :: L) := H
    obtain ⟨b3, o3, c3, rfl, hc3⟩ := Holds.own_some (by omega) H
    have hZ : byL zeroB = zeroB.map byteV := rfl
    refine Vc.loopS [(1, _), (5, _), (6, _), (8, _), (9, _)] (fun k : Nat => [(10, .int .i64 k)]) (fun k w => k ≤ n ∧ Holds I w (own (.slice (some ⟨b3, o3, none⟩) n c3) 9 1 n ((fillZ n k).flatMap pgC) :: dskA d D0 :: blk s 82 (stV d (n : Nat) false) :: L)) (fun k _ => n - k) 0 ⟨rfl, trivial⟩ ⟨rfl, rfl, rfl, rfl, rfl, trivial⟩ ⟨Nat.zero_le _, by rw [repL_str] at H; exact H⟩ ?_
    clear H
    rintro k w ⟨hk, H⟩
    by_cases hlt : k < n
    · have hq : (fillZ n k)[k]? = some (atD (fillZ n k) k) := atD_get (by rw [fillZ_len hk]; exact hlt)
      have hst := fillZ_set hlt
      obtain ⟨zb, hzb⟩ : ∃ zb, fullB 0 = zb := ⟨_, rfl⟩
      have hzl : zb.length = 256 := by rw [← hzb]; exact fullB_len 0
      have hst : (fillZ n k).set k zb = fillZ n (k + 1) := by rw [← hzb]; exact hst
      repeat' (first
        | (refine VcL.ofBytes (m := 256) (bs := zb) tabOk rfl rfl rfl rfl rfl rfl rfl (Holds.own_src H) ⟨_, _, rfl⟩ rfl rfl rfl ?_)
        | (refine VcL.storeOwn0 (k := k) zb tabOk pgC_len (Holds.drop H) hq rfl rfl (by exact rfl) (by exact rfl) (by exact rfl) (by exact rfl) rfl rfl (fun w H => ?_))
        | (show VcL _ _ _ _ _ _ _ _; first
      | refine VcL.pures tabOk rfl ?_
      | refine VcL.nil ?_
      | (show VcL _ _ _ _ (⟨_, .indexAddr _ _ _, _, _, _, _⟩ :: _) _ _ _; refine VcL.indexAddr tabOk rfl rfl rfl rfl rfl rfl (by omega) (by omega) ?_)
      | (show VcL _ _ _ _ (⟨_, .call ⟨.value (.func F_tithinglaw16_Full), _, _⟩, _, _, _, _⟩ :: _) _ _ _; (refine VcL.callF ok_tithinglaw16_Full rfl rfl rfl rfl (Rets.mono (Full_any H 0) ?_); rintro _ w H; rw [hzb] at H; obtain ⟨_, A7, c7, rfl⟩ := Holds.own_len H)))
        | (show Vc _ _ _ _ _ _; first
      | refine Vc.seq ?_
      | refine Vc.region ?_
      | refine Vc.skip ?_
      | refine Vc.block ?_
      | (refine Vc.cond rfl (fun h => ?_) (fun h => ?_) <;> first | (exfalso; simp only [decide_eq_true_eq, decide_eq_false_iff_not, Bool.not_eq_true', Bool.not_eq_false'] at h; omega) | (with_reducible have hp := of_decide_eq_true h)))
        | (show KSeq _ _ _ _ _ _ _; refine KSeq.normal ?_)
        | (show KBlock _ _ _ _ _ _; refine KBlock.normal ?_))
      rw [hst] at H
      exact KLoop.again (k + 1) ⟨got_succ rfl (by omega), trivial⟩ ⟨rfl, rfl, rfl, rfl, rfl, trivial⟩ ⟨hlt, H⟩ (by omega)
    · obtain rfl : k = n := by omega
      rw [fillZ_full] at H
      obtain ⟨J, hJ, H, hnow⟩ := Holds.freezeOwn H
      clear hlt hk
      have hone := pgC_one (List.replicate k zeroB)
      have hrl : (List.replicate k zeroB).length = k := List.length_replicate ..
      obtain ⟨n0, hn0⟩ : ∃ n0, List.replicate k zeroB = n0 := ⟨_, rfl⟩
      rw [hn0] at hnow hone hrl hk0
      repeat' (first
        | (refine VcL.append (m := k) (ds := n0.flatMap pgC) tabOk rfl rfl rfl rfl H (SlR.src hnow.toR (Holds.drop H)) hone (by show (_ + _) * 16 ≤ _; omega) rfl rfl rfl (fun mv w H => ?_))
        | (show VcL _ _ _ _ _ _ _ _; first
      | refine VcL.pures tabOk rfl ?_
      | refine VcL.nil ?_
      | refine VcL.buildSlice tabOk H rfl rfl rfl rfl rfl rfl (fun sv w H => ?_))
        | (show Vc _ _ _ _ _ _; first
      | refine Vc.seq ?_
      | refine Vc.region ?_
      | refine Vc.block ?_
      | refine Vc.exit ?_
      | (refine Vc.cond rfl (fun h => ?_) (fun h => ?_) <;> first | (exfalso; simp only [decide_eq_true_eq, decide_eq_false_iff_not, Bool.not_eq_true', Bool.not_eq_false'] at h; omega) | (with_reducible have hp := of_decide_eq_false h)))
        | (show KSeq _ _ _ _ _ _ _; first
      | refine KSeq.normal ?_
      | refine KSeq.exit ?_)
        | (show KBlock _ _ _ _ _ _; refine KBlock.here ?_)
        | refine KLoop.exit ?_)
      have H : Holds J w (own mv 9 1 (0 + k) (repL 0 [.string ⟨#[]⟩] ++ n0.flatMap pgC) :: dskA d D0 :: blk s 82 (stV d (k : Nat) false) :: L) := H
      rw [Nat.zero_add, repL0, List.nil_append] at H
      obtain ⟨J2, hJ2, H, hmay⟩ := Holds.freezeOwn H
      obtain ⟨A, cap, rfl, hcap⟩ := hv.form
      refine Vc.loopS [(1, _), (5, _), (6, _)] (fun q : Nat × Nat × Value × Value => [(8, ptr q.2.1), (9, q.2.2.1), (11, q.2.2.2), (12, .int .i64 q.1)]) (fun q w => q.1 ≤ l.length ∧ ∃ J D dead now maybe, Imm.Le I J ∧ Kept k D dead now maybe ∧ D.writes ≤ 450 * q.1 ∧ SlI J q.2.2.1 1 k (now.flatMap pgC) ∧ SlI J q.2.2.2 1 k (maybe.flatMap pgC) ∧ Holds J w (dskA d D :: blk q.2.1 82 (stV d (k : Nat) dead) :: L)) (fun q _ => l.length - q.1) (0, s, _, mv) ⟨rfl, rfl, rfl, rfl, trivial⟩ ⟨rfl, rfl, rfl, trivial⟩ ⟨Nat.zero_le _, J2, D0, false, n0, n0, hJ.trans hJ2, hk0, by omega, hnow.mono hJ2, hmay, H⟩ ?_
      clear hJ hJ2 H hnow hmay hone hk0 hop
      rintro ⟨j, s, nv, mv⟩ w ⟨hj, J, D, dead, now, maybe, hJ, hK, hwr, hnow, hmay, H⟩
      dsimp only at hj hwr hnow hmay H ⊢
      have hok := dsk_ok H
      have hb := hK.blocks
      have hnl := hK.nowL
      have hml := hK.maybeL
      have hnow' : SlI J nv 1 now.length (now.flatMap pgC) := by rw [hnl]; exact hnow
      have hmay' : SlI J mv 1 maybe.length (maybe.flatMap pgC) := by rw [hml]; exact hmay
      by_cases hlt : j < l.length
      · obtain ⟨b1, o1, rfl, hrI⟩ := (hv.mono hJ).at (by omega)
        have hrI := hrI.elem puC_len (atD_get hlt)
        obtain ⟨a, hat⟩ : ∃ a, atD l j = a := ⟨_, rfl⟩
        have hmem := atD_mem hlt
        rw [hat] at hrI hmem
        have hact := ha a hmem
        have h60 := hbig a hmem
        obtain ⟨what, num, ⟨A2, cap2, bs⟩, byte, ⟨A3, cap3, done⟩⟩ := a
        have hrI : RdI J b1 (o1 + j * 5) [.int .i64 what, .int .i64 num, .slice A2 bs.length cap2, .int .u8 byte, .slice A3 done.length cap3] := hrI
        have hr1 : RdW J (blk s 82 (stV d (k : Nat) dead) :: L) b1 (o1 + j * 5) [.int .i64 what, .int .i64 num, .slice A2 bs.length cap2, .int .u8 byte, .slice A3 done.length cap3] := hrI.toW
        have hnum : in64 num := hact.num
        by_cases h0 : what = 0
        · subst h0
          obtain ⟨ws, hws⟩ : ∃ ws, putW ⟨0, num, (A2, cap2, bs), byte, (A3, cap3, done)⟩ = ws := ⟨_, rfl⟩
          have hwsl : ws.length ≤ 60 := by rw [← hws, putW, putL_len]; exact h60
          obtain ⟨cOk, cCr, cNo⟩ := hK.commit hok hn3 ws
          have hcw := commitS_writes' D k dead ws
          obtain ⟨C, hC⟩ : ∃ C, commitS D k dead ws = C := ⟨_, rfl⟩
          rw [hC] at cOk cCr cNo hcw
          have hal := afterS_len now ws
          obtain ⟨C1, C2, C3⟩ := C
          dsimp only at cOk cCr cNo hcw
          by_cases c0 : C3 = 0
          · subst c0
            have hK' := cOk rfl
            repeat' (first
              | (show VcL _ _ _ _ _ _ _ _; first
      | refine VcL.pures tabOk rfl ?_
      | refine VcL.nil ?_
      | (show VcL _ _ _ _ (⟨_, .load _ _, _, _, _, _⟩ :: _) _ _ _; first
      | refine VcL.load1 tabOk rfl rfl rfl rfl rfl (by exact RdW.get0 (by assumption) rfl (Holds.drop H)) ?_
      | refine VcL.loadR tabOk rfl rfl rfl rfl rfl rfl (by exact RdW.rd (by assumption) (Holds.drop H)) rfl ?_)
      | (show VcL _ _ _ _ (⟨_, .indexAddr _ _ _, _, _, _, _⟩ :: _) _ _ _; refine VcL.indexAddr tabOk rfl rfl rfl rfl rfl rfl (by omega) (by omega) ?_)
      | (show VcL _ _ _ _ (⟨_, .call ⟨.value (.func F_tithinglaw16_writes), _, _⟩, _, _, _, _⟩ :: _) _ _ _; (refine VcL.callF ok_tithinglaw16_writes rfl rfl rfl rfl (Rets.mono (writes_any (p := ⟨0, num, (A2, cap2, bs), byte, (A3, cap3, done)⟩) H (hact.mono hJ) h60) ?_); rintro _ w ⟨wl, hwl, H⟩; obtain ⟨_, A5, c5, rfl⟩ := Holds.own_len H; have hw60 : wl.length ≤ 60 := (by rw [← wsOf_len, hwl, putW, putL_len]; exact h60)))
      | (show VcL _ _ _ _ (⟨_, .call ⟨.value (.func F_tithinglaw16_writes), _, _⟩, _, _, _, _⟩ :: _) _ _ _; (refine VcL.callF ok_tithinglaw16_writes rfl rfl rfl rfl (Rets.mono (writes_any (p := ⟨0, num, (A2, cap2, bs), byte, (A3, cap3, done)⟩) H (hact.mono (hJ.trans hJ1)) h60) ?_); rintro _ w ⟨wl, hwl, H⟩; obtain ⟨_, A5, c5, rfl⟩ := Holds.own_len H; have hw60 : wl.length ≤ 60 := (by rw [← wsOf_len, hwl, putW, putL_len]; exact h60)))
      | (show VcL _ _ _ _ (⟨_, .call ⟨.value (.func F_tithinglaw16_after), _, _⟩, _, _, _, _⟩ :: _) _ _ _; (refine VcL.callF ok_tithinglaw16_after rfl rfl rfl rfl (Rets.mono (after_any (xs := now) (wl := wl) H hnow' (by omega) (Holds.own_toR H) (fun x hx => SlR.up (bys_rd (List.mem_map_of_mem hx) (Holds.drop H))) (by omega)) ?_); rintro _ w ⟨J1, hJ1, hnext, H⟩; rw [hwl, hws] at hnext; have H := Holds.drop (Holds.drop H); have hr1 := RdI.toW (L := blk s 82 (stV d (k : Nat) dead) :: L) (RdI.mono hrI hJ1)))
      | (show VcL _ _ _ _ (⟨_, .call ⟨.value (.func F_journal_Store_Commit), _, _⟩, _, _, _, _⟩ :: _) _ _ _; (refine VcL.callF ok_journal_Store_Commit rfl rfl rfl rfl (Rets.mono (Commit_any (ho := k) (dead := dead) (wl := wl) (D := D) (Holds.re [2, 2] H rfl) (by omega) (by omega) (Holds.own_toR (Holds.drop (Holds.drop (Holds.re [2, 2] H rfl)))) (fun x hx => SlR.up (bys_rd (List.mem_map_of_mem hx) (Holds.drop (Holds.drop (Holds.drop (Holds.re [2, 2] H rfl)))))) (by omega)) ?_); rintro _ w ⟨rfl, H⟩; rw [hwl, hws, hC] at H ⊢; have H := Holds.drop2 (Holds.drop2 H))))
              | (show Vc _ _ _ _ _ _; first
      | refine Vc.seq ?_
      | refine Vc.region ?_
      | refine Vc.condT rfl ?_
      | refine Vc.skip ?_
      | refine Vc.block ?_
      | (refine Vc.cond rfl (fun h => ?_) (fun h => ?_) <;> first | (exfalso; simp only [decide_eq_true_eq, decide_eq_false_iff_not, Bool.not_eq_true', Bool.not_eq_false'] at h; omega) | (with_reducible have hp := of_decide_eq_true h)))
              | (show KSeq _ _ _ _ _ _ _; refine KSeq.normal ?_)
              | (show KBlock _ _ _ _ _ _; refine KBlock.normal ?_))
            exact KLoop.again (j + 1, s, _, _) ⟨rfl, rfl, rfl, got_succ rfl (by omega), trivial⟩ ⟨rfl, rfl, rfl, trivial⟩ ⟨hlt, J1, C1, C2, _, _, hJ.trans hJ1, hK', (by omega), (by rw [← hnl]; exact hnext), (by rw [← hnl]; exact hnext), H⟩ (by show _ < _; omega)
          · have e0 : decide (C3 = 0) = false := decide_eq_false c0
            by_cases c1 : C3 = 160
            · subst c1
              obtain ⟨c2, hK'⟩ := cCr rfl
              subst c2
              repeat' (first
                | (show VcL _ _ _ _ _ _ _ _; first
      | refine VcL.pures tabOk rfl ?_
      | refine VcL.nil ?_
      | (show VcL _ _ _ _ (⟨_, .load _ _, _, _, _, _⟩ :: _) _ _ _; first
      | refine VcL.load1 tabOk rfl rfl rfl rfl rfl (by exact RdW.get0 (by assumption) rfl (Holds.drop H)) ?_
      | refine VcL.loadR tabOk rfl rfl rfl rfl rfl rfl (by exact RdW.rd (by assumption) (Holds.drop H)) rfl ?_)
      | (show VcL _ _ _ _ (⟨_, .indexAddr _ _ _, _, _, _, _⟩ :: _) _ _ _; refine VcL.indexAddr tabOk rfl rfl rfl rfl rfl rfl (by omega) (by omega) ?_)
      | (show VcL _ _ _ _ (⟨_, .call ⟨.value (.func F_tithinglaw16_writes), _, _⟩, _, _, _, _⟩ :: _) _ _ _; (refine VcL.callF ok_tithinglaw16_writes rfl rfl rfl rfl (Rets.mono (writes_any (p := ⟨0, num, (A2, cap2, bs), byte, (A3, cap3, done)⟩) H (hact.mono hJ) h60) ?_); rintro _ w ⟨wl, hwl, H⟩; obtain ⟨_, A5, c5, rfl⟩ := Holds.own_len H; have hw60 : wl.length ≤ 60 := (by rw [← wsOf_len, hwl, putW, putL_len]; exact h60)))
      | (show VcL _ _ _ _ (⟨_, .call ⟨.value (.func F_tithinglaw16_writes), _, _⟩, _, _, _, _⟩ :: _) _ _ _; (refine VcL.callF ok_tithinglaw16_writes rfl rfl rfl rfl (Rets.mono (writes_any (p := ⟨0, num, (A2, cap2, bs), byte, (A3, cap3, done)⟩) H (hact.mono (hJ.trans hJ1)) h60) ?_); rintro _ w ⟨wl, hwl, H⟩; obtain ⟨_, A5, c5, rfl⟩ := Holds.own_len H; have hw60 : wl.length ≤ 60 := (by rw [← wsOf_len, hwl, putW, putL_len]; exact h60)))
      | (show VcL _ _ _ _ (⟨_, .call ⟨.value (.func F_tithinglaw16_after), _, _⟩, _, _, _, _⟩ :: _) _ _ _; (refine VcL.callF ok_tithinglaw16_after rfl rfl rfl rfl (Rets.mono (after_any (xs := now) (wl := wl) H hnow' (by omega) (Holds.own_toR H) (fun x hx => SlR.up (bys_rd (List.mem_map_of_mem hx) (Holds.drop H))) (by omega)) ?_); rintro _ w ⟨J1, hJ1, hnext, H⟩; rw [hwl, hws] at hnext; have H := Holds.drop (Holds.drop H); have hr1 := RdI.toW (L := blk s 82 (stV d (k : Nat) dead) :: L) (RdI.mono hrI hJ1)))
      | (show VcL _ _ _ _ (⟨_, .call ⟨.value (.func F_journal_Store_Commit), _, _⟩, _, _, _, _⟩ :: _) _ _ _; (refine VcL.callF ok_journal_Store_Commit rfl rfl rfl rfl (Rets.mono (Commit_any (ho := k) (dead := dead) (wl := wl) (D := D) (Holds.re [2, 2] H rfl) (by omega) (by omega) (Holds.own_toR (Holds.drop (Holds.drop (Holds.re [2, 2] H rfl)))) (fun x hx => SlR.up (bys_rd (List.mem_map_of_mem hx) (Holds.drop (Holds.drop (Holds.drop (Holds.re [2, 2] H rfl)))))) (by omega)) ?_); rintro _ w ⟨rfl, H⟩; rw [hwl, hws, hC] at H ⊢; have H := Holds.drop2 (Holds.drop2 H)))
      | (show VcL _ _ _ _ (⟨_, .call ⟨.value (.func F_journal_Store_Disk), _, _⟩, _, _, _, _⟩ :: _) _ _ _; (refine VcL.callF ok_journal_Store_Disk rfl rfl rfl rfl (Rets.mono (DiskP_any (d := d) (h := (k : Nat)) (dead := true) (Holds.f1 H) Holds.toW) ?_); rintro _ w ⟨rfl, H⟩; have H := Holds.f1 H))
      | (show VcL _ _ _ _ (⟨_, .call ⟨.value (.func F_journal_Disk_Waiting), _, _⟩, _, _, _, _⟩ :: _) _ _ _; (refine VcL.callF ok_journal_Disk_Waiting rfl rfl rfl rfl (Rets.mono (Waiting_any (D := C1) H) ?_); rintro _ w ⟨rfl, H⟩))
      | (show VcL _ _ _ _ (⟨_, .call ⟨.value (.func F_tithinglaw16_is), _, _⟩, _, _, _, _⟩ :: _) _ _ _; (refine VcL.callF ok_tithinglaw16_is rfl rfl rfl rfl (Rets.mono (is_any (d := d) (ho := k) (dead := true) (D := C1) H (by omega) (by have := hK'.blocks; omega) (by omega) (hnow'.mono hJ1) hnl) ?_); rintro _ w ⟨rfl, H⟩))
      | (show VcL _ _ _ _ (⟨_, .call ⟨.value (.func F_tithinglaw16_samePages), _, _⟩, _, _, _, _⟩ :: _) _ _ _; (refine VcL.callF ok_tithinglaw16_samePages rfl rfl rfl rfl (Rets.mono (samePages_any H (hnow'.mono hJ1).toR (hmay'.mono hJ1).toR (by omega) (by omega)) ?_); rintro _ w ⟨rfl, H⟩))
      | (refine VcL.guard rfl rfl rfl rfl (fun h => ?_) (fun h => ?_) <;> first | (cases h; done) | (with_reducible have hp := of_decide_eq_true h)))
                | (show Vc _ _ _ _ _ _; first
      | refine Vc.seq ?_
      | refine Vc.region ?_
      | refine Vc.condT rfl ?_
      | refine Vc.condF rfl ?_
      | refine Vc.skip ?_
      | refine Vc.block ?_
      | (refine Vc.cond rfl (fun h => ?_) (fun h => ?_) <;> first | (exfalso; simp only [decide_eq_true_eq, decide_eq_false_iff_not, Bool.not_eq_true', Bool.not_eq_false'] at h; omega) | (with_reducible have hp := of_decide_eq_true h) | (with_reducible have hp := of_decide_eq_false h)))
                | (show KSeq _ _ _ _ _ _ _; refine KSeq.normal ?_)
                | (show KBlock _ _ _ _ _ _; refine KBlock.normal ?_))
              · rw [if_pos hp] at hK'
                exact KLoop.again (j + 1, s, nv, _) ⟨rfl, rfl, rfl, got_succ rfl (by omega), trivial⟩ ⟨rfl, rfl, rfl, trivial⟩ ⟨hlt, J1, C1, true, _, _, hJ.trans hJ1, hK', (by omega), hnow.mono hJ1, (by rw [← hnl]; exact hnext), H⟩ (by show _ < _; omega)
              · rw [if_neg hp] at hK'
                exact KLoop.again (j + 1, s, nv, mv) ⟨rfl, rfl, rfl, got_succ rfl (by omega), trivial⟩ ⟨rfl, rfl, rfl, trivial⟩ ⟨hlt, J1, C1, true, _, _, hJ.trans hJ1, hK', (by omega), hnow.mono hJ1, hmay.mono hJ1, H⟩ (by show _ < _; omega)
            · have e1 : decide (C3 = 160) = false := decide_eq_false c1
              have hK' := cNo c0 c1
              repeat' (first
                | rw [e0]
                | rw [e1]
                | (show VcL _ _ _ _ _ _ _ _; first
      | refine VcL.pures tabOk rfl ?_
      | refine VcL.nil ?_
      | (show VcL _ _ _ _ (⟨_, .load _ _, _, _, _, _⟩ :: _) _ _ _; first
      | refine VcL.load1 tabOk rfl rfl rfl rfl rfl (by exact RdW.get0 (by assumption) rfl (Holds.drop H)) ?_
      | refine VcL.loadR tabOk rfl rfl rfl rfl rfl rfl (by exact RdW.rd (by assumption) (Holds.drop H)) rfl ?_)
      | (show VcL _ _ _ _ (⟨_, .indexAddr _ _ _, _, _, _, _⟩ :: _) _ _ _; refine VcL.indexAddr tabOk rfl rfl rfl rfl rfl rfl (by omega) (by omega) ?_)
      | (show VcL _ _ _ _ (⟨_, .call ⟨.value (.func F_tithinglaw16_writes), _, _⟩, _, _, _, _⟩ :: _) _ _ _; (refine VcL.callF ok_tithinglaw16_writes rfl rfl rfl rfl (Rets.mono (writes_any (p := ⟨0, num, (A2, cap2, bs), byte, (A3, cap3, done)⟩) H (hact.mono hJ) h60) ?_); rintro _ w ⟨wl, hwl, H⟩; obtain ⟨_, A5, c5, rfl⟩ := Holds.own_len H; have hw60 : wl.length ≤ 60 := (by rw [← wsOf_len, hwl, putW, putL_len]; exact h60)))
      | (show VcL _ _ _ _ (⟨_, .call ⟨.value (.func F_tithinglaw16_writes), _, _⟩, _, _, _, _⟩ :: _) _ _ _; (refine VcL.callF ok_tithinglaw16_writes rfl rfl rfl rfl (Rets.mono (writes_any (p := ⟨0, num, (A2, cap2, bs), byte, (A3, cap3, done)⟩) H (hact.mono (hJ.trans hJ1)) h60) ?_); rintro _ w ⟨wl, hwl, H⟩; obtain ⟨_, A5, c5, rfl⟩ := Holds.own_len H; have hw60 : wl.length ≤ 60 := (by rw [← wsOf_len, hwl, putW, putL_len]; exact h60)))
      | (show VcL _ _ _ _ (⟨_, .call ⟨.value (.func F_tithinglaw16_after), _, _⟩, _, _, _, _⟩ :: _) _ _ _; (refine VcL.callF ok_tithinglaw16_after rfl rfl rfl rfl (Rets.mono (after_any (xs := now) (wl := wl) H hnow' (by omega) (Holds.own_toR H) (fun x hx => SlR.up (bys_rd (List.mem_map_of_mem hx) (Holds.drop H))) (by omega)) ?_); rintro _ w ⟨J1, hJ1, hnext, H⟩; rw [hwl, hws] at hnext; have H := Holds.drop (Holds.drop H); have hr1 := RdI.toW (L := blk s 82 (stV d (k : Nat) dead) :: L) (RdI.mono hrI hJ1)))
      | (show VcL _ _ _ _ (⟨_, .call ⟨.value (.func F_journal_Store_Commit), _, _⟩, _, _, _, _⟩ :: _) _ _ _; (refine VcL.callF ok_journal_Store_Commit rfl rfl rfl rfl (Rets.mono (Commit_any (ho := k) (dead := dead) (wl := wl) (D := D) (Holds.re [2, 2] H rfl) (by omega) (by omega) (Holds.own_toR (Holds.drop (Holds.drop (Holds.re [2, 2] H rfl)))) (fun x hx => SlR.up (bys_rd (List.mem_map_of_mem hx) (Holds.drop (Holds.drop (Holds.drop (Holds.re [2, 2] H rfl)))))) (by omega)) ?_); rintro _ w ⟨rfl, H⟩; rw [hwl, hws, hC] at H ⊢; have H := Holds.drop2 (Holds.drop2 H))))
                | (show Vc _ _ _ _ _ _; first
      | refine Vc.seq ?_
      | refine Vc.region ?_
      | refine Vc.condT rfl ?_
      | refine Vc.condF rfl ?_
      | refine Vc.skip ?_
      | refine Vc.block ?_
      | (refine Vc.cond rfl (fun h => ?_) (fun h => ?_) <;> first | (exfalso; simp only [decide_eq_true_eq, decide_eq_false_iff_not, Bool.not_eq_true', Bool.not_eq_false'] at h; omega) | (with_reducible have hp := of_decide_eq_true h)))
                | (show KSeq _ _ _ _ _ _ _; refine KSeq.normal ?_)
                | (show KBlock _ _ _ _ _ _; refine KBlock.normal ?_))
              exact KLoop.again (j + 1, s, nv, mv) ⟨rfl, rfl, rfl, got_succ rfl (by omega), trivial⟩ ⟨rfl, rfl, rfl, trivial⟩ ⟨hlt, J1, C1, C2, _, _, hJ.trans hJ1, hK', (by omega), hnow.mono hJ1, hmay.mono hJ1, H⟩ (by show _ < _; omega)
        · by_cases h1 : what = 1
          · subst h1
            have hKs := hK.stop num
            obtain ⟨C, hC⟩ : ∃ C, stS D num = C := ⟨_, rfl⟩
            have hcw : C.writes = D.writes := by rw [← hC]; rfl
            rw [hC] at hKs
            repeat' (first
              | (show VcL _ _ _ _ _ _ _ _; first
      | refine VcL.pures tabOk rfl ?_
      | refine VcL.nil ?_
      | (show VcL _ _ _ _ (⟨_, .load _ _, _, _, _, _⟩ :: _) _ _ _; refine VcL.load1 tabOk rfl rfl rfl rfl rfl (by first | exact RdW.get (by assumption) rfl (Holds.drop H) | exact RdW.get0 (by assumption) rfl (Holds.drop H)) ?_)
      | (show VcL _ _ _ _ (⟨_, .indexAddr _ _ _, _, _, _, _⟩ :: _) _ _ _; refine VcL.indexAddr tabOk rfl rfl rfl rfl rfl rfl (by omega) (by omega) ?_)
      | (show VcL _ _ _ _ (⟨_, .call ⟨.value (.func F_journal_Disk_Stop), _, _⟩, _, _, _, _⟩ :: _) _ _ _; (refine VcL.callF ok_journal_Disk_Stop rfl rfl rfl rfl (Rets.mono (Stop_any (D := D) H hnum.2) ?_); rintro _ w ⟨rfl, H⟩; rw [hC] at H)))
              | (show Vc _ _ _ _ _ _; first
      | refine Vc.seq ?_
      | refine Vc.region ?_
      | refine Vc.condT rfl ?_
      | refine Vc.condF rfl ?_
      | refine Vc.skip ?_
      | refine Vc.block ?_
      | (refine Vc.cond rfl (fun h => ?_) (fun h => ?_) <;> first | (exfalso; simp only [decide_eq_true_eq, decide_eq_false_iff_not, Bool.not_eq_true', Bool.not_eq_false'] at h; omega) | (with_reducible have hp := of_decide_eq_true h)))
              | (show KSeq _ _ _ _ _ _ _; refine KSeq.normal ?_)
              | (show KBlock _ _ _ _ _ _; refine KBlock.normal ?_))
            exact KLoop.again (j + 1, s, nv, mv) ⟨rfl, rfl, rfl, got_succ rfl (by omega), trivial⟩ ⟨rfl, rfl, rfl, trivial⟩ ⟨hlt, J, C, dead, now, maybe, hJ, hKs, by omega, hnow, hmay, H⟩ (by show _ < _; omega)
          · have hgd := hK.gd
            repeat' (first
              | (show VcL _ _ _ _ _ _ _ _; first
      | refine VcL.pures tabOk rfl ?_
      | refine VcL.nil ?_
      | (show VcL _ _ _ _ (⟨_, .load _ _, _, _, _, _⟩ :: _) _ _ _; first
      | refine VcL.load1 tabOk rfl rfl rfl rfl rfl (by exact RdW.get0 (by assumption) rfl (Holds.drop H)) ?_
      | refine VcL.loadR tabOk rfl rfl rfl rfl rfl rfl (by exact RdW.rd (by assumption) (Holds.drop H)) rfl ?_)
      | (show VcL _ _ _ _ (⟨_, .indexAddr _ _ _, _, _, _, _⟩ :: _) _ _ _; refine VcL.indexAddr tabOk rfl rfl rfl rfl rfl rfl (by omega) (by omega) ?_)
      | (show VcL _ _ _ _ (⟨_, .call ⟨.value (.func F_tithinglaw16_opened), _, _⟩, _, _, _, _⟩ :: _) _ _ _; (refine VcL.callF ok_tithinglaw16_opened rfl rfl rfl rfl (Rets.mono (opened_any (ho := k) (D := D) (p := ⟨what, num, (A2, cap2, bs), byte, (A3, cap3, done)⟩) H (by omega) hn1 hn3 hb hgd (hact.mono hJ)) ?_); rintro _ w ⟨s2, D2, rfl, hb2, hw2, hA2, H⟩; have H := Holds.drop2 H; obtain ⟨x, hx, hxl, hA⟩ := Alive.pick hA2 hnl hml; have hh := Alive.homeS hA hxl))
      | (show VcL _ _ _ _ (⟨_, .call ⟨.value (.func F_tithinglaw16_is), _, _⟩, _, _, _, _⟩ :: _) _ _ _; (refine VcL.callF ok_tithinglaw16_is rfl rfl rfl rfl (Rets.mono (is_any (d := d) (ho := k) (dead := false) (D := D2) H (by omega) (by omega) (by omega) hmay' hml) ?_); rintro _ w ⟨rfl, H⟩))
      | (show VcL _ _ _ _ (⟨_, .call ⟨.value (.func F_tithinglaw16_is), _, _⟩, _, _, _, _⟩ :: _) _ _ _; (refine VcL.callF ok_tithinglaw16_is rfl rfl rfl rfl (Rets.mono (is_any (d := d) (ho := k) (dead := false) (D := D2) H (by omega) (by omega) (by omega) hnow' hnl) ?_); rintro _ w ⟨rfl, H⟩)))
              | (show Vc _ _ _ _ _ _; first
      | refine Vc.seq ?_
      | refine Vc.region ?_
      | refine Vc.condF rfl ?_
      | refine Vc.ret ?_
      | refine Vc.skip ?_
      | refine Vc.block ?_
      | (refine Vc.cond rfl (fun h => ?_) (fun h => ?_) <;> first | (exfalso; simp only [decide_eq_true_eq, decide_eq_false_iff_not, Bool.not_eq_true', Bool.not_eq_false'] at h; omega) | (with_reducible have hp := of_decide_eq_true h) | (with_reducible have hp := of_decide_eq_false h) | (with_reducible have hp := ndec_t h) | (with_reducible have hp := ndec_f h)))
              | (show KSeq _ _ _ _ _ _ _; first
      | refine KSeq.normal ?_
      | refine KSeq.ret ?_)
              | (show KBlock _ _ _ _ _ _; first
      | refine KBlock.normal ?_
      | refine KBlock.ret ?_)
              | refine KLoop.ret ?_
              | (show KEnd _ _ _ _ _ _ _; refine KEnd.fin (Or.inr rfl) ⟨_, (ResL.tmp rfl ResL.nil), ?_⟩))
            · have hxm : x = maybe := by
                refine Decidable.byContradiction fun hn => ?_
                rw [isS_of hh, if_neg hn] at hp
                exact absurd hp (by decide)
              subst hxm
              exact KLoop.again (j + 1, s2, mv, mv) ⟨rfl, rfl, rfl, got_succ rfl (by omega), trivial⟩ ⟨rfl, rfl, rfl, trivial⟩ ⟨hlt, J, D2, false, x, x, hJ, hA.kept hxl hb2, (by omega), hmay, hmay, H⟩ (by show _ < _; omega)
            · have hno : ¬ isS D2 k false maybe = 1 := by assumption
              rw [isS_of hh] at hno hp
              rcases hx with rfl | rfl
              · rw [if_pos rfl] at hp; exact absurd rfl hp
              · rw [if_pos rfl] at hno; exact absurd rfl hno
            · have hxn : x = now := by
                refine Decidable.byContradiction fun hn => ?_
                rw [isS_of hh, if_neg hn] at hp
                exact absurd hp (by decide)
              subst hxn
              exact KLoop.again (j + 1, s2, nv, nv) ⟨rfl, rfl, rfl, got_succ rfl (by omega), trivial⟩ ⟨rfl, rfl, rfl, trivial⟩ ⟨hlt, J, D2, false, x, x, hJ, hA.kept hxl hb2, (by omega), hnow, hnow, H⟩ (by show _ < _; omega)
      · obtain rfl : j = l.length := by omega
        repeat' (first
          | (show VcL _ _ _ _ _ _ _ _; first
      | refine VcL.pures tabOk rfl ?_
      | refine VcL.nil ?_
      | (show VcL _ _ _ _ (⟨_, .call ⟨.value (.func F_tithinglaw16_Awake), _, _⟩, _, _, _, _⟩ :: _) _ _ _; (refine VcL.callF ok_tithinglaw16_Awake rfl rfl rfl rfl (Rets.mono (Awake_any H) ?_); rintro _ w ⟨rfl, H⟩)))
          | (show Vc _ _ _ _ _ _; first
      | refine Vc.seq ?_
      | refine Vc.region ?_
      | refine Vc.ret ?_
      | refine Vc.exit ?_
      | (refine Vc.cond rfl (fun h => ?_) (fun h => ?_) <;> first | (exfalso; simp only [decide_eq_true_eq, decide_eq_false_iff_not, Bool.not_eq_true', Bool.not_eq_false'] at h; omega) | (with_reducible have hp := of_decide_eq_false h)))
          | (show KSeq _ _ _ _ _ _ _; first
      | refine KSeq.normal ?_
      | refine KSeq.exit ?_)
          | (show KBlock _ _ _ _ _ _; refine KBlock.here ?_)
          | refine KLoop.exit ?_
          | (show KEnd _ _ _ _ _ _ _; refine KEnd.fin (Or.inr rfl) ⟨_, (ResL.tmp rfl ResL.nil), ?_⟩))
        exact ⟨rfl, Holds.less H.drop.drop hJ⟩
end Go.Proofs.Ytoahfjfknljacaa.V
