/- The stores. -/
import Derived.Test.YtoahfjfknljacaaVII
namespace Go.Proofs.Ytoahfjfknljacaa.V
open Go Go.Proofs.YtoahfjfknljacaaV
set_option linter.unusedVariables false
set_option linter.unusedSimpArgs false
set_option maxHeartbeats 1000000
set_option maxRecDepth 4000
attribute [local irreducible] IntKind.wrap
variable {I : Imm} {w : World} {L : List Asn}
theorem asked_len {h : Nat} {ws : Ws} (h0 : asked h ws = 0) : ws.length ≤ 40 := by
  unfold asked at h0
  split at h0
  · split at h0
    · cases h0
    · omega
  · cases h0
theorem comS_writes (D : Dk) (h : Nat) (ws : Ws) : (comS D h ws).1.writes ≤ D.writes + 2 * ws.length + 2 := by
  have h1 := wsS_writes (plW h ws) D
  have h2 := wsS_writes [((h : Int), padB (headB ws))] (wsS D (plW h ws)).1
  have h3 := wsS_writes ws (wsS (wsS D (plW h ws)).1 [((h : Int), padB (headB ws))]).1
  have h4 := wsS_writes [((h : Int), zeroB)] (wsS (wsS (wsS D (plW h ws)).1 [((h : Int), padB (headB ws))]).1 ws).1
  rw [plW_len] at h1
  simp only [List.length_cons, List.length_nil] at h2 h4
  unfold comS
  dsimp only
  split
  · omega
  · split
    · omega
    · split <;> omega
theorem comS_blocks (D : Dk) (h : Nat) (ws : Ws) : (comS D h ws).1.blocks.length = D.blocks.length := by
  unfold comS
  dsimp only
  split
  · exact wsS_blocks _ _
  · split
    · rw [wsS_blocks, wsS_blocks]
    · split
      · rw [wsS_blocks, wsS_blocks, wsS_blocks]
      · rw [wsS_blocks, wsS_blocks, wsS_blocks, wsS_blocks]
theorem commitS_writes (D : Dk) (h : Nat) (dead : Bool) (ws : Ws) : (commitS D h dead ws).1.writes ≤ D.writes + 82 := by
  unfold commitS
  split
  · exact Nat.le_add_right _ _
  · split
    · exact Nat.le_add_right _ _
    · split
      · exact Nat.le_add_right _ _
      · rename_i h1 h2 h3
        have := asked_len (Decidable.not_not.1 h2)
        have := comS_writes D h ws
        show (comS D h ws).1.writes ≤ _
        omega
theorem commitS_blocks (D : Dk) (h : Nat) (dead : Bool) (ws : Ws) : (commitS D h dead ws).1.blocks.length = D.blocks.length := by
  unfold commitS
  split
  · rfl
  · split
    · rfl
    · split
      · rfl
      · exact comS_blocks D h ws
theorem openS_blocks (D : Dk) (home : Int) : (openS D home).1.blocks.length = D.blocks.length := by
  unfold openS
  split
  · exact recS_blocks _ _
  · rfl
theorem crS_blocks (D : Dk) (done : List Bool) (t : Int) : (crS D done t).1.blocks.length = D.blocks.length := by
  unfold crS
  split
  · exact crG_len _ _ _ _ _ _
  · rfl
theorem rdB_new {m n : Nat} (h : n < m) : rdB (newS m) n = zeroB := by
  unfold rdB newS
  exact atD_of (by rw [List.getElem?_replicate, if_pos h])
theorem headOk_mark {b : By} {home : Int} (h : headOk b home) : b.take 4 = markB := h.2.1
theorem zero_mark : ¬ zeroB.take 4 = markB := by decide +kernel
theorem open_new {m n : Nat} (h1 : 1 ≤ n) (h2 : n ≤ 300) (h3 : n + 41 ≤ m) : openS (newS m) n = (newS m, 0) := by
  unfold openS
  rw [if_pos ⟨by omega, by omega, by show (n : Int) + 41 ≤ ((List.replicate m zeroB).length : Nat); rw [List.length_replicate]; omega⟩]
  have hz : rdB (newS m) n = zeroB := rdB_new (by omega)
  have e : recS (newS m) n = (newS m, true) := by
    have e1 : recA (newS m) n = (newS m, true) := by
      unfold recA
      rw [if_neg]
      rintro ⟨hh, _⟩
      rw [hz] at hh
      exact zero_mark (headOk_mark hh)
    unfold recS
    rw [e1, if_neg (fun e => by cases e), if_pos hz]
  show ((recS (newS m) n).1, if (recS (newS m) n).2 = true then (0 : Int) else 160) = _
  rw [e]
  rfl
theorem JournalStores_any (H : Holds I w L) {x : Int} (hx : 0 ≤ x ∧ x < 256) {v : Value} {l : List Pu} (hv : SlI I v 5 l.length (l.flatMap puC)) (hl : l.length ≤ 140737488355328) (ha : ∀ a ∈ l, PuOk I a) :
    Rets Try.prog F_tithinglaw16_JournalStores #[.int .u8 x, v] w fun u w' => u = .bool true ∧ Holds I w' L := by
  cases hlo : longP l with
  | true =>
    refine ok_tithinglaw16_JournalStores.rets rfl ?_
    repeat' (first
      | (show VcL _ _ _ _ _ _ _ _; first
      | refine VcL.pures tabOk rfl ?_
      | refine VcL.nil ?_
      | (show VcL _ _ _ _ (⟨_, .call ⟨.value (.func F_tithinglaw16_LongPuts), _, _⟩, _, _, _, _⟩ :: _) _ _ _; (refine VcL.callF ok_tithinglaw16_LongPuts rfl rfl rfl rfl (Rets.mono (LongPuts_any H hv.toR hl) ?_); rintro _ w ⟨rfl, H⟩; rw [hlo]))
      | (show VcL _ _ _ _ (⟨_, .call ⟨.value (.func F_tithinglaw16_Awake), _, _⟩, _, _, _, _⟩ :: _) _ _ _; (refine VcL.callF ok_tithinglaw16_Awake rfl rfl rfl rfl (Rets.mono (Awake_any H) ?_); rintro _ w ⟨rfl, H⟩)))
      | (show Vc _ _ _ _ _ _; first
      | refine Vc.seq ?_
      | refine Vc.region ?_
      | refine Vc.condT rfl ?_
      | refine Vc.ret ?_)
      | (show KSeq _ _ _ _ _ _ _; first
      | refine KSeq.normal ?_
      | refine KSeq.ret ?_)
      | (show KEnd _ _ _ _ _ _ _; refine KEnd.fin (Or.inr rfl) ⟨_, (ResL.tmp rfl ResL.nil), ?_⟩))
    exact ⟨rfl, H⟩
  | false =>
    have hlen : l.length ≤ 40 := by
      unfold longP at hlo
      rw [Bool.or_eq_false_iff] at hlo
      have := of_decide_eq_false hlo.2
      omega
    have hbig : ∀ p ∈ l, p.blocks.2.2.length ≤ 60 := fun p hp => by
      unfold longP at hlo
      rw [Bool.or_eq_false_iff] at hlo
      have h1 := List.any_eq_false.1 hlo.1 p hp
      unfold bigP at h1
      rw [Bool.not_eq_true, Bool.or_eq_false_iff] at h1
      have := of_decide_eq_false h1.1
      omega
    obtain ⟨m, rfl⟩ := Int.eq_ofNat_of_zero_le hx.1
    obtain ⟨n, hn⟩ : ∃ n, 1 + m % 20 = n := ⟨_, rfl⟩
    have hwm : IntKind.i64.wrap (m : Int) = m := wrap_i64 (by omega) (by omega)
    have hwn : IntKind.i64.wrap (1 + (m : Int).tmod (Int.ofNat (19 + 1))) = (n : Int) := by
      have e1 : (m : Int).tmod (Int.ofNat (19 + 1)) = ((m % 20 : Nat) : Int) := by rw [Int.tmod_eq_emod_of_nonneg (by omega)]; rfl
      rw [e1, wrap_i64 (by omega) (by omega)]
      omega
    have hw1 : IntKind.i64.wrap ((n : Int) + 1) = ((n + 1 : Nat) : Int) := wrap_i64 (by omega) (by omega)
    have hw2 : IntKind.i64.wrap (((n + 1 : Nat) : Int) + 40) = ((n + 41 : Nat) : Int) := by rw [wrap_i64 (by omega) (by omega)]; omega
    have hop := open_new (m := n + 41) (n := n) (by omega) (by omega) (by omega)
    obtain ⟨D0, hD0⟩ : ∃ D, newS (n + 41) = D := ⟨_, rfl⟩
    have hw0 : D0.writes = 0 := by rw [← hD0]; rfl
    have hb0 : D0.blocks.length = n + 41 := by rw [← hD0]; exact List.length_replicate ..
    rw [hD0] at hop
    refine ok_tithinglaw16_JournalStores.rets rfl ?_
    repeat' (first
      | rw [hwm]
      | rw [hwn]
      | rw [hw1]
      | rw [hw2]
      | (show VcL _ _ _ _ _ _ _ _; first
      | refine VcL.pures tabOk rfl ?_
      | refine VcL.nil ?_
      | (show VcL _ _ _ _ (⟨_, .call ⟨.value (.func F_tithinglaw16_LongPuts), _, _⟩, _, _, _, _⟩ :: _) _ _ _; (refine VcL.callF ok_tithinglaw16_LongPuts rfl rfl rfl rfl (Rets.mono (LongPuts_any H hv.toR hl) ?_); rintro _ w ⟨rfl, H⟩; rw [hlo]))
      | (show VcL _ _ _ _ (⟨_, .call ⟨.value (.func F_journal_NewDisk), _, _⟩, _, _, _, _⟩ :: _) _ _ _; (refine VcL.callF ok_journal_NewDisk rfl rfl rfl rfl (Rets.mono (NewDisk_any (n := n + 41) H (by omega) (by omega)) ?_); rintro _ w ⟨d, rfl, H⟩; rw [hD0] at H))
      | (show VcL _ _ _ _ (⟨_, .call ⟨.value (.func F_tithingref16_NewDisk), _, _⟩, _, _, _, _⟩ :: _) _ _ _; (refine VcL.callF ok_tithingref16_NewDisk rfl rfl rfl rfl (Rets.mono (NewDiskR_any (n := n + 41) H (by omega) (by omega)) ?_); rintro _ w ⟨J, r, hJ, rfl, H⟩; rw [hD0] at H))
      | (show VcL _ _ _ _ (⟨_, .call ⟨.value (.func F_journal_Open), _, _⟩, _, _, _, _⟩ :: _) _ _ _; (refine VcL.callF ok_journal_Open rfl rfl rfl rfl (Rets.mono (Open_ok (D := D0) (home := (n : Nat)) (Holds.swap H) (by omega) (by omega) (by rw [hop])) ?_); rintro _ w ⟨s, rfl, H⟩; rw [hop] at H))
      | (show VcL _ _ _ _ (⟨_, .call ⟨.value (.func F_tithingref16_Open), _, _⟩, _, _, _, _⟩ :: _) _ _ _; (refine VcL.callF ok_tithingref16_Open rfl rfl rfl rfl (Rets.mono (OpenR_ok (D := D0) (home := (n : Nat)) (Holds.f2 H) (by omega) (by omega) (by rw [hop])) ?_); rintro _ w ⟨J2, t, hJ2, rfl, H⟩; rw [hop] at H)))
      | (show Vc _ _ _ _ _ _; first
      | refine Vc.seq ?_
      | refine Vc.region ?_
      | refine Vc.condF rfl ?_
      | refine Vc.skip ?_
      | refine Vc.block ?_)
      | (show KSeq _ _ _ _ _ _ _; refine KSeq.normal ?_))
    obtain ⟨A, cap, rfl, hcap⟩ := hv.form
    refine Vc.loopS [(1, _), (5, _), (6, _), (8, _)] (fun q : Nat × Nat × Nat => [(7, .int .i64 0), (10, ptr q.2.1), (11, ptr q.2.2), (12, .int .i64 0), (13, .int .i64 q.1)]) (fun q w => q.1 ≤ l.length ∧ ∃ J D dead, Imm.Le I J ∧ D.writes ≤ 200 * q.1 ∧ D.blocks.length = n + 41 ∧ Holds J w (dskA d D :: blk q.2.1 82 (stV d (n : Nat) dead) :: rdkA J r D :: blk q.2.2 97 (stV r (n : Nat) dead) :: L)) (fun q _ => l.length - q.1) (0, s, t) ⟨rfl, rfl, rfl, rfl, rfl, trivial⟩ ⟨rfl, rfl, rfl, rfl, trivial⟩ ⟨Nat.zero_le _, J2, D0, false, hJ.trans hJ2, by omega, hb0, Holds.re [2, 2, 0, 0] H rfl⟩ ?_
    clear hJ hJ2 H
    rintro ⟨k, s, t⟩ w ⟨hk, J, D, dead, hJ, hwr, hb, H⟩
    dsimp only at hk hwr H ⊢
    by_cases hlt : k < l.length
    · obtain ⟨b1, o1, rfl, hrI⟩ := (hv.mono hJ).at (by omega)
      have hrI := hrI.elem puC_len (atD_get hlt)
      obtain ⟨a, hat⟩ : ∃ a, atD l k = a := ⟨_, rfl⟩
      have hmem := atD_mem hlt
      rw [hat] at hrI hmem
      have hact := ha a hmem
      have h60 := hbig a hmem
      obtain ⟨what, num, ⟨A2, cap2, bs⟩, byte, ⟨A3, cap3, done⟩⟩ := a
      have hrI : RdI J b1 (o1 + k * 5) [.int .i64 what, .int .i64 num, .slice A2 bs.length cap2, .int .u8 byte, .slice A3 done.length cap3] := hrI
      have hr1 : RdW J (blk t 97 (stV r (n : Nat) dead) :: L) b1 (o1 + k * 5) [.int .i64 what, .int .i64 num, .slice A2 bs.length cap2, .int .u8 byte, .slice A3 done.length cap3] := hrI.toW
      have hdv : SlI I (.slice A3 done.length cap3) 1 done.length (done.flatMap boC) := hact.done
      have hnum : in64 num := hact.num
      by_cases h0 : what = 0
      · subst h0
        obtain ⟨C, hC⟩ : ∃ C, commitS D n dead (putW ⟨0, num, (A2, cap2, bs), byte, (A3, cap3, done)⟩) = C := ⟨_, rfl⟩
        have hcw := commitS_writes D n dead (putW ⟨0, num, (A2, cap2, bs), byte, (A3, cap3, done)⟩)
        have hcb := commitS_blocks D n dead (putW ⟨0, num, (A2, cap2, bs), byte, (A3, cap3, done)⟩)
        rw [hC] at hcw hcb
        repeat' (first
          | (show VcL _ _ _ _ _ _ _ _; first
      | refine VcL.pures tabOk rfl ?_
      | refine VcL.nil ?_
      | (show VcL _ _ _ _ (⟨_, .load _ _, _, _, _, _⟩ :: _) _ _ _; refine VcL.load1 tabOk rfl rfl rfl rfl rfl (by exact RdW.get0 (by assumption) rfl (Holds.drop (Holds.drop (Holds.drop H)))) ?_)
      | (show VcL _ _ _ _ (⟨_, .indexAddr _ _ _, _, _, _, _⟩ :: _) _ _ _; refine VcL.indexAddr tabOk rfl rfl rfl rfl rfl rfl (by omega) (by omega) ?_)
      | (show VcL _ _ _ _ (⟨_, .call ⟨.value (.func F_tithinglaw16_same), _, _⟩, _, _, _, _⟩ :: _) _ _ _; (refine VcL.callF ok_tithinglaw16_same rfl rfl rfl rfl (Rets.mono (same_any (L := blk s 82 (stV d (n : Nat) C.2.1) :: blk t 97 (stV r (n : Nat) C.2.1) :: L) (Holds.re [0, 1] H rfl) (by omega)) ?_); rintro _ w ⟨rfl, H⟩; have H := Holds.re [0, 1, 0] H rfl))
      | (show VcL _ _ _ _ (⟨_, .call ⟨.value (.func F_tithinglaw16_reads), _, _⟩, _, _, _, _⟩ :: _) _ _ _; (refine VcL.callF ok_tithinglaw16_reads rfl rfl rfl rfl (Rets.mono (reads_any (Holds.re [0] H rfl) (by omega) (by omega)) ?_); rintro _ w ⟨rfl, H⟩))
      | (refine VcL.guard rfl rfl rfl rfl (fun h => ?_) (fun h => ?_) <;> first | (cases h; done) | skip))
          | (show VcD _ _ _ _ _ _ _ _ _; first
      | refine VcD.pures tabOk rfl ?_
      | refine VcD.done ?_
      | (show VcD _ _ _ _ _ (.pure _ _) _ _ _; refine VcD.indexAddr tabOk rfl rfl rfl rfl rfl rfl rfl (by omega) (by omega) ?_)
      | (show VcD _ _ _ _ _ (.take _ _) _ _ _; refine VcD.loadR tabOk rfl rfl rfl rfl rfl rfl rfl (by intro w_ hw_; assumption) rfl ?_)
      | (show VcD _ _ _ _ _ (.only _ _) _ _ _; first
      | (refine VcD.callF (f := F_tithinglaw16_writes) rfl ok_tithinglaw16_writes rfl rfl rfl rfl (Rets.mono (writes_any (p := ⟨0, num, (A2, cap2, bs), byte, (A3, cap3, done)⟩) H (hact.mono hJ) h60) ?_); rintro _ w ⟨wl, hwl, H⟩; obtain ⟨_, A5, c5, rfl⟩ := Holds.own_len H; have hw60 : wl.length ≤ 60 := (by rw [← wsOf_len, hwl, putW, putL_len]; exact h60); refine ⟨(by exact RdI.rd (by assumption) H), ?_⟩)
      | (refine VcD.callF (f := F_journal_Store_Commit) rfl ok_journal_Store_Commit rfl rfl rfl rfl (Rets.mono (Commit_any (ho := n) (dead := dead) (wl := wl) (D := D) (Holds.re [2, 2] H rfl) (by omega) (by omega) (Holds.own_toR (Holds.drop (Holds.drop (Holds.re [2, 2] H rfl)))) (fun x hx => SlR.up (bys_rd (List.mem_map_of_mem hx) (Holds.drop (Holds.drop (Holds.drop (Holds.re [2, 2] H rfl)))))) (by omega)) ?_); rintro _ w ⟨rfl, H⟩; rw [hwl, hC] at H ⊢; have H := Holds.drop2 (Holds.drop2 H); refine ⟨(by exact RdI.rd (by assumption) H), ?_⟩)
      | (refine VcD.callF (f := F_tithingref16_Store_Commit) rfl ok_tithingref16_Store_Commit rfl rfl rfl rfl (Rets.mono (CommitR_any (ho := n) (dead := dead) (wl := wl) (D := D) (Holds.re [4, 4] H rfl) (by omega) (by omega) (Holds.own_toR (Holds.drop (Holds.drop (Holds.re [4, 4] H rfl)))) (fun x hx => SlR.up (bys_rd (List.mem_map_of_mem hx) (Holds.drop (Holds.drop (Holds.drop (Holds.re [4, 4] H rfl)))))) (by omega)) ?_); rintro _ w ⟨J2, hJ2, rfl, H⟩; rw [hwl, hC] at H ⊢; have H := Holds.re [2, 2] (Holds.drop2 (Holds.drop2 H)) rfl; have hrI2 := RdI.mono hrI hJ2; refine ⟨(by exact RdI.rd (by assumption) H), ?_⟩)))
          | (show Vc _ _ _ _ _ _; first
      | refine Vc.seq ?_
      | refine Vc.region ?_
      | refine Vc.condT rfl ?_
      | refine Vc.condF rfl ?_
      | refine Vc.ret ?_
      | refine Vc.skip ?_
      | refine Vc.block ?_
      | (refine Vc.drawn (id := 25) (.pure 0 (.pure 1 (.pure 2 (.pure 7 (.pure 8 (.pure 9 (.pure 3 (.take 4 (.pure 10 (.take 11 (.only 5 (.only 6 (.only 12 (.only 13 (.pure 14 (.pure 15 .done)))))))))))))))) (.one (fun w => Rd w b1 (o1 + k * 5) [.int .i64 0, .int .i64 num, .slice A2 bs.length cap2, .int .u8 byte, .slice A3 done.length cap3])) mixed (by kernel_rfl) (by exact RdI.rd (by assumption) (Holds.drew H _)) ?_; have H := H.drew (w.drawn + 1))
      | (refine Vc.cond rfl (fun h => ?_) (fun h => ?_) <;> first | (exfalso; simp only [decide_eq_true_eq, decide_eq_false_iff_not, Bool.not_eq_true', Bool.not_eq_false'] at h; omega) | (with_reducible have hp := of_decide_eq_true h) | (with_reducible have hp := ndec_t h) | (with_reducible have hp := ndec_f h)))
          | (show KSeq _ _ _ _ _ _ _; first
      | refine KSeq.normal ?_
      | refine KSeq.ret ?_)
          | (show KBlock _ _ _ _ _ _; first
      | refine KBlock.normal ?_
      | refine KBlock.ret ?_)
          | refine KLoop.ret ?_
          | (show KEnd _ _ _ _ _ _ _; refine KEnd.fin (Or.inr rfl) ⟨_, (ResL.tmp rfl ResL.nil), ?_⟩))
        · exact absurd rfl hp
        · exact KLoop.again (k + 1, s, t) ⟨rfl, rfl, rfl, rfl, got_succ rfl (by omega), trivial⟩ ⟨rfl, rfl, rfl, rfl, trivial⟩ ⟨hlt, J2, C.1, C.2.1, hJ.trans hJ2, by omega, by omega, H⟩ (by show _ < _; omega)
      · by_cases h1 : what = 1
        · subst h1
          obtain ⟨C, hC⟩ : ∃ C, stS D num = C := ⟨_, rfl⟩
          have hcw : C.writes = D.writes := by rw [← hC]; rfl
          have hcb : C.blocks.length = D.blocks.length := by rw [← hC]; rfl
          repeat' (first
            | (show VcL _ _ _ _ _ _ _ _; first
      | refine VcL.pures tabOk rfl ?_
      | refine VcL.nil ?_
      | (show VcL _ _ _ _ (⟨_, .load _ _, _, _, _, _⟩ :: _) _ _ _; refine VcL.load1 tabOk rfl rfl rfl rfl rfl (by first | exact RdW.get (by assumption) rfl (Holds.drop (Holds.drop (Holds.drop H))) | exact RdW.get0 (by assumption) rfl (Holds.drop (Holds.drop (Holds.drop H)))) ?_)
      | (show VcL _ _ _ _ (⟨_, .indexAddr _ _ _, _, _, _, _⟩ :: _) _ _ _; refine VcL.indexAddr tabOk rfl rfl rfl rfl rfl rfl (by omega) (by omega) ?_)
      | (show VcL _ _ _ _ (⟨_, .call ⟨.value (.func F_journal_Disk_Stop), _, _⟩, _, _, _, _⟩ :: _) _ _ _; (refine VcL.callF ok_journal_Disk_Stop rfl rfl rfl rfl (Rets.mono (Stop_any (D := D) H hnum.2) ?_); rintro _ w ⟨rfl, H⟩; rw [hC] at H))
      | (show VcL _ _ _ _ (⟨_, .call ⟨.value (.func F_tithingref16_Disk_Stop), _, _⟩, _, _, _, _⟩ :: _) _ _ _; (refine VcL.callF ok_tithingref16_Disk_Stop rfl rfl rfl rfl (Rets.mono (StopR_any (D := D) (Holds.f2 H) hnum.2) ?_); rintro _ w H; rw [hC] at H; have H := Holds.re [1, 1, 0] H rfl))
      | (show VcL _ _ _ _ (⟨_, .call ⟨.value (.func F_tithinglaw16_same), _, _⟩, _, _, _, _⟩ :: _) _ _ _; (refine VcL.callF ok_tithinglaw16_same rfl rfl rfl rfl (Rets.mono (same_any (L := blk s 82 (stV d (n : Nat) dead) :: blk t 97 (stV r (n : Nat) dead) :: L) (Holds.re [0, 1] H rfl) (by omega)) ?_); rintro _ w ⟨rfl, H⟩; have H := Holds.re [0, 1, 0] H rfl))
      | (show VcL _ _ _ _ (⟨_, .call ⟨.value (.func F_tithinglaw16_reads), _, _⟩, _, _, _, _⟩ :: _) _ _ _; (refine VcL.callF ok_tithinglaw16_reads rfl rfl rfl rfl (Rets.mono (reads_any (Holds.re [0] H rfl) (by omega) (by omega)) ?_); rintro _ w ⟨rfl, H⟩))
      | (refine VcL.guard rfl rfl rfl rfl (fun h => ?_) (fun h => ?_) <;> first | (cases h; done) | skip))
            | (show Vc _ _ _ _ _ _; first
      | refine Vc.seq ?_
      | refine Vc.region ?_
      | refine Vc.condT rfl ?_
      | refine Vc.condF rfl ?_
      | refine Vc.skip ?_
      | refine Vc.block ?_
      | (refine Vc.cond rfl (fun h => ?_) (fun h => ?_) <;> first | (exfalso; simp only [decide_eq_true_eq, decide_eq_false_iff_not, Bool.not_eq_true', Bool.not_eq_false'] at h; omega) | (with_reducible have hp := of_decide_eq_true h)))
            | (show KSeq _ _ _ _ _ _ _; refine KSeq.normal ?_)
            | (show KBlock _ _ _ _ _ _; refine KBlock.normal ?_))
          exact KLoop.again (k + 1, s, t) ⟨rfl, rfl, rfl, rfl, got_succ rfl (by omega), trivial⟩ ⟨rfl, rfl, rfl, rfl, trivial⟩ ⟨hlt, J, C, dead, hJ, by omega, by omega, H⟩ (by show _ < _; omega)
        · obtain ⟨C, hC⟩ : ∃ C, crS D done num = C := ⟨_, rfl⟩
          have hcw := crS_writes D done num
          have hcb := crS_blocks D done num
          rw [hC] at hcw hcb
          obtain ⟨oe, hoe⟩ : ∃ oe, openS C.1 (n : Nat) = oe := ⟨_, rfl⟩
          have how := openS_writes C.1 (n : Nat)
          have hob := openS_blocks C.1 (n : Nat)
          rw [hoe] at how hob
          by_cases he : oe.2 = 0
          ·
            repeat' (first
              | (show VcL _ _ _ _ _ _ _ _; first
      | refine VcL.pures tabOk rfl ?_
      | refine VcL.nil ?_
      | (show VcL _ _ _ _ (⟨_, .load _ _, _, _, _, _⟩ :: _) _ _ _; refine VcL.load1 tabOk rfl rfl rfl rfl rfl (by exact RdW.get0 (by assumption) rfl (Holds.drop (Holds.drop (Holds.drop H)))) ?_)
      | (show VcL _ _ _ _ (⟨_, .indexAddr _ _ _, _, _, _, _⟩ :: _) _ _ _; refine VcL.indexAddr tabOk rfl rfl rfl rfl rfl rfl (by omega) (by omega) ?_)
      | (show VcL _ _ _ _ (⟨_, .call ⟨.value (.func F_journal_Open), _, _⟩, _, _, _, _⟩ :: _) _ _ _; (refine VcL.callF ok_journal_Open rfl rfl rfl rfl (Rets.mono (Open_ok (D := C.1) (home := (n : Nat)) H (by omega) (by omega) (by rw [hoe]; exact he)) ?_); rintro _ w ⟨s2, rfl, H⟩; rw [hoe] at H))
      | (show VcL _ _ _ _ (⟨_, .call ⟨.value (.func F_tithingref16_Open), _, _⟩, _, _, _, _⟩ :: _) _ _ _; (refine VcL.callF ok_tithingref16_Open rfl rfl rfl rfl (Rets.mono (OpenR_ok (D := C.1) (home := (n : Nat)) (Holds.re [3] H rfl) (by omega) (by omega) (by rw [hoe]; exact he)) ?_); rintro _ w ⟨J3, t2, hJ3, rfl, H⟩; rw [hoe] at H; have H := Holds.re [2, 2, 0, 0] H rfl; have H := Holds.drop4 (Holds.drop4 H)))
      | (show VcL _ _ _ _ (⟨_, .call ⟨.value (.func F_tithinglaw16_same), _, _⟩, _, _, _, _⟩ :: _) _ _ _; (refine VcL.callF ok_tithinglaw16_same rfl rfl rfl rfl (Rets.mono (same_any (L := blk s2 82 (stV d (n : Nat) false) :: blk t2 97 (stV r (n : Nat) false) :: L) (Holds.re [0, 1] H rfl) (by omega)) ?_); rintro _ w ⟨rfl, H⟩; have H := Holds.re [0, 1, 0] H rfl))
      | (show VcL _ _ _ _ (⟨_, .call ⟨.value (.func F_tithinglaw16_reads), _, _⟩, _, _, _, _⟩ :: _) _ _ _; (refine VcL.callF ok_tithinglaw16_reads rfl rfl rfl rfl (Rets.mono (reads_any (Holds.re [0] H rfl) (by omega) (by omega)) ?_); rintro _ w ⟨rfl, H⟩))
      | (refine VcL.guard rfl rfl rfl rfl (fun h => ?_) (fun h => ?_) <;> first | (cases h; done) | skip))
              | (show VcD _ _ _ _ _ _ _ _ _; first
      | refine VcD.pures tabOk rfl ?_
      | refine VcD.done ?_
      | (show VcD _ _ _ _ _ (.pure _ _) _ _ _; refine VcD.indexAddr tabOk rfl rfl rfl rfl rfl rfl rfl (by omega) (by omega) ?_)
      | (show VcD _ _ _ _ _ (.take _ _) _ _ _; refine VcD.load1 tabOk rfl rfl rfl rfl rfl rfl (by intro w_ hw_; exact hw_ _ _ rfl) (by exact rfl) ?_)
      | (show VcD _ _ _ _ _ (.only _ _) _ _ _; first
      | (refine VcD.callF (f := F_journal_Disk_Crash) rfl ok_journal_Disk_Crash rfl rfl rfl rfl (Rets.mono (CrashP_any (D := D) H (by omega) (SlI.toR (hdv.mono hJ)) num) ?_); rintro _ w ⟨rfl, H⟩; rw [hC] at H ⊢; refine ⟨(by exact RdI.rd (by assumption) H), ?_⟩)
      | (refine VcD.callF (f := F_tithingref16_Disk_Crash) rfl ok_tithingref16_Disk_Crash rfl rfl rfl rfl (Rets.mono (CrashR_any (D := D) (Holds.f2 H) (by omega) (SlI.toR (hdv.mono hJ)) num) ?_); rintro _ w ⟨J2, hJ2, rfl, H⟩; rw [hC] at H ⊢; have H := Holds.re [1, 1, 0] H rfl; have hrI2 := RdI.mono hrI hJ2; refine ⟨(by exact RdI.rd (by assumption) H), ?_⟩)))
              | (show Vc _ _ _ _ _ _; first
      | refine Vc.seq ?_
      | refine Vc.region ?_
      | refine Vc.condF rfl ?_
      | refine Vc.ret ?_
      | refine Vc.skip ?_
      | refine Vc.block ?_
      | (refine Vc.drawn (id := 16) (.pure 0 (.pure 1 (.pure 2 (.pure 6 (.pure 7 (.pure 12 (.pure 13 (.pure 14 (.pure 18 (.pure 19 (.pure 3 (.pure 4 (.take 5 (.pure 8 (.pure 9 (.take 10 (.pure 15 (.pure 16 (.take 17 (.pure 20 (.pure 21 (.take 22 (.only 11 (.only 23 (.pure 24 .done))))))))))))))))))))))))) (.one (fun w => Rd w b1 (o1 + k * 5) [.int .i64 what, .int .i64 num, .slice A2 bs.length cap2, .int .u8 byte, .slice A3 done.length cap3])) mixed (by kernel_rfl) (by exact RdI.rd (by assumption) (Holds.drew H _)) ?_; have H := H.drew (w.drawn + 1))
      | (refine Vc.cond rfl (fun h => ?_) (fun h => ?_) <;> first | (exfalso; simp only [decide_eq_true_eq, decide_eq_false_iff_not, Bool.not_eq_true', Bool.not_eq_false'] at h; omega) | (with_reducible have hp := of_decide_eq_true h) | (with_reducible have hp := of_decide_eq_false h) | (with_reducible have hp := ndec_t h) | (with_reducible have hp := ndec_f h)))
              | (show KSeq _ _ _ _ _ _ _; first
      | refine KSeq.normal ?_
      | refine KSeq.ret ?_)
              | (show KBlock _ _ _ _ _ _; first
      | refine KBlock.normal ?_
      | refine KBlock.ret ?_)
              | refine KLoop.ret ?_
              | (show KEnd _ _ _ _ _ _ _; refine KEnd.fin (Or.inr rfl) ⟨_, (ResL.tmp rfl ResL.nil), ?_⟩))
            all_goals first | (exact absurd rfl hp) | skip
            exact KLoop.again (k + 1, s2, t2) ⟨rfl, rfl, rfl, rfl, got_succ rfl (by omega), trivial⟩ ⟨rfl, rfl, rfl, rfl, trivial⟩ ⟨hlt, J3, oe.1, false, (hJ.trans hJ2).trans hJ3, by omega, by omega, H⟩ (by show _ < _; omega)
          ·
            repeat' (first
              | (show VcL _ _ _ _ _ _ _ _; first
      | refine VcL.pures tabOk rfl ?_
      | refine VcL.nil ?_
      | (show VcL _ _ _ _ (⟨_, .load _ _, _, _, _, _⟩ :: _) _ _ _; refine VcL.load1 tabOk rfl rfl rfl rfl rfl (by exact RdW.get0 (by assumption) rfl (Holds.drop (Holds.drop (Holds.drop H)))) ?_)
      | (show VcL _ _ _ _ (⟨_, .indexAddr _ _ _, _, _, _, _⟩ :: _) _ _ _; refine VcL.indexAddr tabOk rfl rfl rfl rfl rfl rfl (by omega) (by omega) ?_)
      | (show VcL _ _ _ _ (⟨_, .call ⟨.value (.func F_journal_Open), _, _⟩, _, _, _, _⟩ :: _) _ _ _; (refine VcL.callF ok_journal_Open rfl rfl rfl rfl (Rets.mono (Open_no (D := C.1) (home := (n : Nat)) H (by omega) (by omega) (by rw [hoe]; exact he)) ?_); rintro _ w ⟨rfl, H⟩; rw [hoe] at H ⊢))
      | (show VcL _ _ _ _ (⟨_, .call ⟨.value (.func F_tithingref16_Open), _, _⟩, _, _, _, _⟩ :: _) _ _ _; (refine VcL.callF ok_tithingref16_Open rfl rfl rfl rfl (Rets.mono (OpenR_no (D := C.1) (home := (n : Nat)) (Holds.f2 H) (by omega) (by omega) (by rw [hoe]; exact he)) ?_); rintro _ w ⟨J3, hJ3, rfl, H⟩; rw [hoe] at H ⊢))
      | (show VcL _ _ _ _ (⟨_, .call ⟨.value (.func F_tithinglaw16_Awake), _, _⟩, _, _, _, _⟩ :: _) _ _ _; (refine VcL.callF ok_tithinglaw16_Awake rfl rfl rfl rfl (Rets.mono (Awake_any H) ?_); rintro _ w ⟨rfl, H⟩)))
              | (show VcD _ _ _ _ _ _ _ _ _; first
      | refine VcD.pures tabOk rfl ?_
      | refine VcD.done ?_
      | (show VcD _ _ _ _ _ (.pure _ _) _ _ _; refine VcD.indexAddr tabOk rfl rfl rfl rfl rfl rfl rfl (by omega) (by omega) ?_)
      | (show VcD _ _ _ _ _ (.take _ _) _ _ _; refine VcD.load1 tabOk rfl rfl rfl rfl rfl rfl (by intro w_ hw_; exact hw_ _ _ rfl) (by exact rfl) ?_)
      | (show VcD _ _ _ _ _ (.only _ _) _ _ _; first
      | (refine VcD.callF (f := F_journal_Disk_Crash) rfl ok_journal_Disk_Crash rfl rfl rfl rfl (Rets.mono (CrashP_any (D := D) H (by omega) (SlI.toR (hdv.mono hJ)) num) ?_); rintro _ w ⟨rfl, H⟩; rw [hC] at H ⊢; refine ⟨(by exact RdI.rd (by assumption) H), ?_⟩)
      | (refine VcD.callF (f := F_tithingref16_Disk_Crash) rfl ok_tithingref16_Disk_Crash rfl rfl rfl rfl (Rets.mono (CrashR_any (D := D) (Holds.f2 H) (by omega) (SlI.toR (hdv.mono hJ)) num) ?_); rintro _ w ⟨J2, hJ2, rfl, H⟩; rw [hC] at H ⊢; have H := Holds.re [1, 1, 0] H rfl; have hrI2 := RdI.mono hrI hJ2; refine ⟨(by exact RdI.rd (by assumption) H), ?_⟩)))
              | (show Vc _ _ _ _ _ _; first
      | refine Vc.seq ?_
      | refine Vc.region ?_
      | refine Vc.condF rfl ?_
      | refine Vc.ret ?_
      | refine Vc.skip ?_
      | refine Vc.block ?_
      | (refine Vc.drawn (id := 16) (.pure 0 (.pure 1 (.pure 2 (.pure 6 (.pure 7 (.pure 12 (.pure 13 (.pure 14 (.pure 18 (.pure 19 (.pure 3 (.pure 4 (.take 5 (.pure 8 (.pure 9 (.take 10 (.pure 15 (.pure 16 (.take 17 (.pure 20 (.pure 21 (.take 22 (.only 11 (.only 23 (.pure 24 .done))))))))))))))))))))))))) (.one (fun w => Rd w b1 (o1 + k * 5) [.int .i64 what, .int .i64 num, .slice A2 bs.length cap2, .int .u8 byte, .slice A3 done.length cap3])) mixed (by kernel_rfl) (by exact RdI.rd (by assumption) (Holds.drew H _)) ?_; have H := H.drew (w.drawn + 1))
      | (refine Vc.cond rfl (fun h => ?_) (fun h => ?_) <;> first | (exfalso; simp only [decide_eq_true_eq, decide_eq_false_iff_not, Bool.not_eq_true', Bool.not_eq_false'] at h; omega) | (with_reducible have hp := of_decide_eq_true h) | (with_reducible have hp := of_decide_eq_false h) | (with_reducible have hp := ndec_t h) | (with_reducible have hp := ndec_f h)))
              | (show KSeq _ _ _ _ _ _ _; first
      | refine KSeq.normal ?_
      | refine KSeq.ret ?_)
              | (show KBlock _ _ _ _ _ _; refine KBlock.ret ?_)
              | refine KLoop.ret ?_
              | (show KEnd _ _ _ _ _ _ _; refine KEnd.fin (Or.inr rfl) ⟨_, (ResL.tmp rfl ResL.nil), ?_⟩))
            all_goals first | (exact absurd rfl hp) | (exact absurd (by rw [decide_eq_false he]; rfl) hp) | (exact ⟨by simp [resVal], Holds.less H.drop.drop.drop.drop ((hJ.trans hJ2).trans hJ3)⟩)
    · obtain rfl : k = l.length := by omega
      repeat' (first
        | (show VcL _ _ _ _ _ _ _ _; first
      | refine VcL.pures tabOk rfl ?_
      | refine VcL.nil ?_
      | (show VcL _ _ _ _ (⟨_, .call ⟨.value (.func F_tithinglaw16_Awake), _, _⟩, _, _, _, _⟩ :: _) _ _ _; (refine VcL.callF ok_tithinglaw16_Awake rfl rfl rfl rfl (Rets.mono (Awake_any H) ?_); rintro _ w ⟨rfl, H⟩)))
        | (show Vc _ _ _ _ _ _; first
      | refine Vc.seq ?_
      | refine Vc.region ?_
      | refine Vc.ret ?_
      | refine Vc.exit ?_
      | (refine Vc.cond rfl (fun h => ?_) (fun h => ?_) <;> first | (exfalso; simp only [decide_eq_true_eq, decide_eq_false_iff_not, Bool.not_eq_true', Bool.not_eq_false'] at h; omega) | (with_reducible have hp := of_decide_eq_false h)))
        | (show KSeq _ _ _ _ _ _ _; first
      | refine KSeq.normal ?_
      | refine KSeq.exit ?_)
        | (show KBlock _ _ _ _ _ _; refine KBlock.here ?_)
        | refine KLoop.exit ?_
        | (show KEnd _ _ _ _ _ _ _; refine KEnd.fin (Or.inr rfl) ⟨_, (ResL.tmp rfl ResL.nil), ?_⟩))
      exact ⟨rfl, Holds.less H.drop.drop.drop.drop hJ⟩
end Go.Proofs.Ytoahfjfknljacaa.V
