/- The program's end: small deeds. -/
import Derived.Test.YtpfgcchammlpgaaVB
namespace Go.Proofs.Ytpfgcchammlpgaa.V
open Go Go.Proofs.YtpfgcchammlpgaaV
set_option linter.unusedVariables false
set_option linter.unusedSimpArgs false
set_option maxHeartbeats 1000000
set_option maxRecDepth 4000
attribute [local irreducible] IntKind.wrap
variable {I : Imm} {w : World} {L : List Asn}
/-- What a part of memory says, wherever it stands in the list. -/
theorem RdW.mem {b e : Nat} {cs : List Value} (h : blk b e cs ∈ L) : RdW I L b 0 cs := by
  induction L with
  | nil => cases h
  | cons A r ih =>
    rcases List.mem_cons.1 h with rfl | h
    · exact Holds.toW
    · exact (ih h).up
theorem window_any (H : Holds I w L) {e : Nat} {E : En} {m : EnM} (hd : RdW I L e 0 (endV E m)) {A : Option Addr} {c : Nat} {k : Nat} (h9 : m.iv = .slice A k c) (hk : k = E.inn.length) (hn : E.inn.length ≤ 200) : Rets Try.prog F_stream_End_window #[ptr e] w fun u w' => u = .int .i64 (winS E : Nat) ∧ Holds I w' L := by
  obtain ⟨ov, ev, iv, mv, nv, cv, cd⟩ := m
  dsimp only at h9
  subst h9
  subst hk
  have e1 : IntKind.i64.wrap (200 - (E.inn.length : Int)) = ((winS E : Nat) : Int) := by unfold winS; rw [wrap_i64 (by omega) (by omega)]; omega
  refine ok_stream_End_window.rets rfl ?_
  repeat' (first
    | rw [e1]
    | (show VcL _ _ _ _ _ _ _ _; first
      | refine VcL.pures tabOk rfl ?_
      | refine VcL.nil ?_
      | (show VcL _ _ _ _ (⟨_, .load _ _, _, _, _, _⟩ :: _) _ _ _; refine VcL.load1 tabOk rfl rfl rfl rfl rfl (by exact RdW.get (by assumption) rfl H) ?_))
    | (show Vc _ _ _ _ _ _; first
      | refine Vc.seq ?_
      | refine Vc.region ?_
      | refine Vc.ret ?_)
    | (show KSeq _ _ _ _ _ _ _; refine KSeq.normal ?_)
    | (show KEnd _ _ _ _ _ _ _; refine KEnd.fin (Or.inr rfl) ⟨_, (ResL.tmp rfl ResL.nil), ?_⟩))
  exact ⟨rfl, H⟩
theorem tail_any (H : Holds I w L) {e : Nat} {E : En} {m : EnM} (hd : RdW I L e 0 (endV E m)) {A : Option Addr} {c : Nat} {k : Nat} (h9 : m.iv = .slice A k c) (hk : k = E.inn.length) (hn : E.inn.length ≤ 200) : Rets Try.prog F_stream_End_tail #[ptr e] w fun u w' => Holds I w' (own u 5 1 2 (byL (tailS E)) :: L) := by
  have hw : winS E ≤ 200 := by unfold winS; omega
  unfold tailS
  obtain ⟨n, hn2⟩ : ∃ n, winS E = n := ⟨_, rfl⟩
  have hwin := fun w H => window_any (w := w) (I := I) (L := L) H hd h9 hk hn
  rw [hn2] at hw hwin ⊢
  have e1 : Value.int .u8 (IntKind.u8.wrap ((n : Int).fdiv (2 ^ min 8 IntKind.i64.bits))) = byteV (UInt8.ofNat (n / 256)) := by
    rw [u8_of _ (by omega), show (2 : Int) ^ min 8 IntKind.i64.bits = 256 from rfl, Int.fdiv_eq_ediv_of_nonneg _ (by omega), wrap_u8]
    congr 1
    omega
  have e2 : Value.int .u8 (IntKind.u8.wrap (n : Int)) = byteV (UInt8.ofNat (n % 256)) := by
    rw [u8_of _ (by omega), wrap_u8]
    congr 1
  refine ok_stream_End_tail.rets rfl ?_
  repeat' (first
    | rw [e1]
    | rw [e2]
    | (show VcL _ _ _ _ _ _ _ _; first
      | refine VcL.pures tabOk rfl ?_
      | refine VcL.nil ?_
      | refine VcL.buildSlice tabOk H rfl rfl rfl rfl rfl rfl (fun sv w H => ?_)
      | (show VcL _ _ _ _ (⟨_, .call ⟨.value (.func F_stream_End_window), _, _⟩, _, _, _, _⟩ :: _) _ _ _; (refine VcL.callF ok_stream_End_window rfl rfl rfl rfl (Rets.mono (hwin _ H) ?_); rintro _ w ⟨rfl, H⟩)))
    | (show Vc _ _ _ _ _ _; first
      | refine Vc.seq ?_
      | refine Vc.region ?_
      | refine Vc.ret ?_)
    | (show KSeq _ _ _ _ _ _ _; refine KSeq.normal ?_)
    | (show KEnd _ _ _ _ _ _ _; refine KEnd.fin (Or.inr rfl) ⟨_, (ResL.tmp rfl ResL.nil), ?_⟩))
  exact H
theorem frame_any (H : Holds I w L) {e : Nat} {E : En} {m : EnM} (hd : RdW I L e 0 (endV E m)) {kind seq : Int} {A : Option Addr} {n c : Nat} :
    Rets Try.prog F_stream_End_frame #[ptr e, .int .i64 kind, .int .i64 seq, .slice A n c] w fun u w' => u = .agg #[.int .i64 kind, .int .i64 (E.num : Nat), .int .i64 seq, .int .i64 (E.want : Nat), .slice A n c] ∧ Holds I w' L := by
  refine ok_stream_End_frame.rets rfl ?_
  repeat' (first
    | (show VcL _ _ _ _ _ _ _ _; first
      | refine VcL.nil ?_
      | refine VcL.alloc tabOk H rfl rfl rfl rfl (fun b w H => ?_))
    | (show VcD _ _ _ _ _ _ _ _ _; first
      | refine VcD.pures tabOk rfl ?_
      | refine VcD.done ?_
      | (show VcD _ _ _ _ _ (.take _ _) _ _ _; refine VcD.load1 tabOk rfl rfl rfl rfl rfl rfl (by intro w_ hw_; first | exact hw_ _ _ rfl | exact hw_ 0 _ rfl) (by exact rfl) ?_)
      | (show VcD _ _ _ _ _ (.only _ _) _ _ _; (refine VcD.eff rfl rfl rfl rfl (OpE.store tabOk (by exact H) rfl rfl rfl (by exact rfl) (by exact rfl) (by exact rfl) (by exact rfl)) ?_; rintro _ w ⟨_, H⟩; refine ⟨(by trivial), ?_⟩)))
    | (show Vc _ _ _ _ _ _; first
      | refine Vc.seq ?_
      | refine Vc.region ?_
      | refine Vc.ret ?_
      | (refine Vc.drawn (id := 1) (.pure 0 (.pure 1 (.pure 2 (.pure 3 (.pure 5 (.pure 6 (.pure 7 (.pure 8 (.pure 10 (.take 4 (.take 9 (.pure 11 (.only 12 .done))))))))))))) (.till (fun w => Rd w e 0 (endV E m)) 12 (.one (fun _ => True))) mixed (by kernel_rfl) (by exact RdW.rd (by assumption) (Holds.drop (Holds.drew H _))) ?_; have H := H.drew (w.drawn + 1)))
    | (show KSeq _ _ _ _ _ _ _; refine KSeq.normal ?_)
    | (show KEnd _ _ _ _ _ _ _; refine KEnd.fin (Or.inr rfl) ⟨_, (ResL.cell rfl (LoadV.aggH tabOk rfl rfl (by exact H) (by exact rfl)) ResL.nil), ?_⟩))
  exact ⟨rfl, H.drop⟩
theorem opening_any (H : Holds I w L) {e : Nat} {E : En} {m : EnM} (hd : RdW I L e 0 (endV E m)) {A : Option Addr} {c : Nat} {k : Nat} (h9 : m.iv = .slice A k c) (hk : k = E.inn.length) (hn : E.inn.length ≤ 200) {kind : Int} :
    Rets Try.prog F_stream_End_opening #[ptr e, .int .i64 kind] w fun u w' => u = .agg #[.int .i64 kind, .int .i64 (E.num : Nat), .int .i64 (E.first : Nat), .int .i64 (winS E : Nat), .slice none 0 0] ∧ Holds I w' L := by
  refine ok_stream_End_opening.rets rfl ?_
  repeat' (first
    | (show VcL _ _ _ _ _ _ _ _; first
      | refine VcL.nil ?_
      | refine VcL.alloc tabOk H rfl rfl rfl rfl (fun b w H => ?_))
    | (show VcD _ _ _ _ _ _ _ _ _; first
      | refine VcD.pures tabOk rfl ?_
      | refine VcD.done ?_
      | (show VcD _ _ _ _ _ (.take _ _) _ _ _; refine VcD.load1 tabOk rfl rfl rfl rfl rfl rfl (by intro w_ hw_; first | exact hw_ _ _ rfl | exact hw_ 0 _ rfl) (by exact rfl) ?_)
      | (show VcD _ _ _ _ _ (.only _ _) _ _ _; first
      | (refine VcD.callF (f := F_stream_End_window) rfl ok_stream_End_window rfl rfl rfl rfl (Rets.mono (window_any H (hd.ups [_]) h9 hk hn) ?_); rintro _ w ⟨rfl, H⟩; refine ⟨(by exact RdW.rd (by assumption) (Holds.drop H)), ?_⟩)
      | (refine VcD.eff rfl rfl rfl rfl (OpE.store tabOk (by exact H) rfl rfl rfl (by exact rfl) (by exact rfl) (by exact rfl) (by exact rfl)) ?_; rintro _ w ⟨_, H⟩; refine ⟨(by trivial), ?_⟩)))
    | (show Vc _ _ _ _ _ _; first
      | refine Vc.seq ?_
      | refine Vc.region ?_
      | refine Vc.ret ?_
      | (refine Vc.drawn (id := 1) (.pure 0 (.pure 1 (.pure 2 (.pure 3 (.pure 5 (.pure 6 (.pure 7 (.pure 9 (.take 4 (.take 8 (.only 10 (.pure 11 (.only 12 .done))))))))))))) (.till (fun w => Rd w e 0 (endV E m)) 12 (.one (fun _ => True))) mixed (by kernel_rfl) (by exact RdW.rd (by assumption) (Holds.drop (Holds.drew H _))) ?_; have H := H.drew (w.drawn + 1)))
    | (show KSeq _ _ _ _ _ _ _; refine KSeq.normal ?_)
    | (show KEnd _ _ _ _ _ _ _; refine KEnd.fin (Or.inr rfl) ⟨_, (ResL.cell rfl (LoadV.aggH tabOk rfl rfl (by exact H) (by exact rfl)) ResL.nil), ?_⟩))
  exact ⟨rfl, H.drop⟩
theorem newS_ok {n f : Nat} (h0 : 0 < n) (h1 : n ≤ 65535) (hf : f < M) : EnOk (newS n f) := by
  constructor
  all_goals (first | exact ⟨h0, h1⟩ | exact hf | exact Nat.zero_le _ | (intro b hb; cases hb; done) | (exact ⟨Nat.zero_le _, fun b hb => by cases hb⟩) | (unfold M newS; show 0 < _; decide) | (show (0 : Nat) < 65536; decide))
theorem New_any (H : Holds I w L) {n f : Nat} (h0 : 0 < n) (h1 : n ≤ 65535) (hf : f < M) : Rets Try.prog F_stream_New #[.int .i64 (n : Nat), .int .i64 (f : Nat)] w fun u w' => ∃ e, u = .tuple #[ptr e, .int .i64 0] ∧ Holds I w' (endA I e (newS n f) :: L) := by
  have hf' : f < 4294967296 := hf
  refine ok_stream_New.rets rfl ?_
  repeat' (first
    | (show VcL _ _ _ _ _ _ _ _; first
      | refine VcL.pures tabOk rfl ?_
      | refine VcL.nil ?_
      | refine VcL.box H rfl rfl rfl rfl rfl (fun b w H => ?_)
      | (refine VcL.guard rfl rfl rfl rfl (fun h => ?_) (fun h => ?_) <;> first | (cases h; done) | (exfalso; simp only [decide_eq_true_eq, decide_eq_false_iff_not, Bool.not_eq_true', Bool.not_eq_false'] at h; omega) | (with_reducible have hp := of_decide_eq_false h)))
    | (show Vc _ _ _ _ _ _; first
      | refine Vc.seq ?_
      | refine Vc.region ?_
      | refine Vc.ret ?_
      | refine Vc.skip ?_
      | (refine Vc.cond rfl (fun h => ?_) (fun h => ?_) <;> first | (exfalso; simp only [decide_eq_true_eq, decide_eq_false_iff_not, Bool.not_eq_true', Bool.not_eq_false'] at h; omega) | (with_reducible have hp := of_decide_eq_false h)))
    | (show KSeq _ _ _ _ _ _ _; refine KSeq.normal ?_)
    | (show KEnd _ _ _ _ _ _ _; refine KEnd.fin (Or.inr rfl) ⟨_, (ResL.tmp rfl (ResL.tmp rfl ResL.nil)), ?_⟩))
  obtain ⟨e, rfl⟩ : ∃ e, e = b := ⟨b, rfl⟩
  refine ⟨e, rfl, end_close ⟨.slice none 0 0, .slice none 0 0, .slice none 0 0, .slice none 0 0, .slice none 0 0, .slice none 0 0, []⟩ ⟨newS_ok h0 h1 hf, rfl, rfl, fun c hc => by cases hc⟩ ⟨rfl, rfl, rfl, rfl⟩ ?_⟩
  exact Holds.re [5, 4, 3, 2, 1, 0] (Holds.own_nil (Holds.own_nil (Holds.own_nil (Holds.own_nil (Holds.own_nil H))))) rfl
theorem New_bad (H : Holds I w L) {n f : Int} (hb : ¬ (1 ≤ n ∧ n ≤ 65535 ∧ 0 ≤ f ∧ f < 4294967296)) : Rets Try.prog F_stream_New #[.int .i64 n, .int .i64 f] w fun u w' => u = .tuple #[.pointer none, .int .i64 2] ∧ Holds I w' L := by
  refine ok_stream_New.rets rfl ?_
  repeat' (first
    | (show VcL _ _ _ _ _ _ _ _; first
      | refine VcL.pures tabOk rfl ?_
      | refine VcL.nil ?_
      | (refine VcL.guard rfl rfl rfl rfl (fun h => ?_) (fun h => ?_) <;> first | (cases h; done) | (with_reducible have hp := of_decide_eq_true h) | (with_reducible have hp := of_decide_eq_false h) | skip))
    | (show Vc _ _ _ _ _ _; first
      | refine Vc.seq ?_
      | refine Vc.region ?_
      | refine Vc.condT rfl ?_
      | refine Vc.ret ?_
      | (refine Vc.cond rfl (fun h => ?_) (fun h => ?_) <;> first | (exfalso; simp only [decide_eq_true_eq, decide_eq_false_iff_not, Bool.not_eq_true', Bool.not_eq_false'] at h; omega) | (with_reducible have hp := of_decide_eq_true h)))
    | (show KSeq _ _ _ _ _ _ _; first
      | refine KSeq.normal ?_
      | refine KSeq.ret ?_)
    | (show KEnd _ _ _ _ _ _ _; refine KEnd.fin (Or.inr rfl) ⟨_, (ResL.tmp rfl (ResL.tmp rfl ResL.nil)), ?_⟩))
  all_goals exact ⟨rfl, H⟩
theorem State_any {e : Nat} {E : En} (H : Holds I w (endA I e E :: L)) : Rets Try.prog F_stream_End_State #[ptr e] w fun u w' => u = .int .i64 (E.state : Nat) ∧ Holds I w' (endA I e E :: L) := by
  obtain ⟨A1, c1, A2, c2, A3, c3, A4, c4, A5, c5, nv, cd, ob, es, ib, ms, hl, hm, HB⟩ := end_open H
  clear H
  have H := HB
  clear HB
  refine ok_stream_End_State.rets rfl ?_
  repeat' (first
    | (show VcL _ _ _ _ _ _ _ _; first
      | refine VcL.pures tabOk rfl ?_
      | refine VcL.nil ?_
      | (show VcL _ _ _ _ (⟨_, .load _ _, _, _, _, _⟩ :: _) _ _ _; refine VcL.load1 tabOk rfl rfl rfl rfl rfl (by exact Holds.cell H rfl) ?_)
      | (show VcL _ _ _ _ (⟨_, .call ⟨.value (.func F_stream_End_none), _, _⟩, _, _, _, _⟩ :: _) _ _ _; (refine VcL.callF ok_stream_End_none rfl rfl rfl rfl (Rets.mono (none_any H Holds.toW hm.ok.num.1) ?_); rintro _ w ⟨rfl, H⟩)))
    | (show Vc _ _ _ _ _ _; first
      | refine Vc.seq ?_
      | refine Vc.region ?_
      | refine Vc.condF rfl ?_
      | refine Vc.ret ?_
      | refine Vc.skip ?_)
    | (show KSeq _ _ _ _ _ _ _; refine KSeq.normal ?_)
    | (show KEnd _ _ _ _ _ _ _; refine KEnd.fin (Or.inr rfl) ⟨_, (ResL.tmp rfl ResL.nil), ?_⟩))
  exact ⟨rfl, end_close _ hm hl H⟩
theorem Waiting_any {e : Nat} {E : En} (H : Holds I w (endA I e E :: L)) : Rets Try.prog F_stream_End_Waiting #[ptr e] w fun u w' => u = .int .i64 (E.out.length : Nat) ∧ Holds I w' (endA I e E :: L) := by
  -- how much was put and is not seen
  obtain ⟨A1, c1, A2, c2, A3, c3, A4, c4, A5, c5, nv, cd, ob, es, ib, ms, hl, hm, HB⟩ := end_open H
  clear H
  have H := HB
  clear HB
  refine ok_stream_End_Waiting.rets rfl ?_
  repeat' (first
    | (show VcL _ _ _ _ _ _ _ _; first
      | refine VcL.pures tabOk rfl ?_
      | refine VcL.nil ?_
      | (show VcL _ _ _ _ (⟨_, .load _ _, _, _, _, _⟩ :: _) _ _ _; refine VcL.load1 tabOk rfl rfl rfl rfl rfl (by exact Holds.cell H rfl) ?_)
      | (show VcL _ _ _ _ (⟨_, .call ⟨.value (.func F_stream_End_none), _, _⟩, _, _, _, _⟩ :: _) _ _ _; (refine VcL.callF ok_stream_End_none rfl rfl rfl rfl (Rets.mono (none_any H Holds.toW hm.ok.num.1) ?_); rintro _ w ⟨rfl, H⟩)))
    | (show Vc _ _ _ _ _ _; first
      | refine Vc.seq ?_
      | refine Vc.region ?_
      | refine Vc.condF rfl ?_
      | refine Vc.ret ?_
      | refine Vc.skip ?_)
    | (show KSeq _ _ _ _ _ _ _; refine KSeq.normal ?_)
    | (show KEnd _ _ _ _ _ _ _; refine KEnd.fin (Or.inr rfl) ⟨_, (ResL.tmp rfl ResL.nil), ?_⟩))
  exact ⟨by rw [← hl.outL]; rfl, end_close _ hm hl H⟩
theorem Ready_any {e : Nat} {E : En} (H : Holds I w (endA I e E :: L)) : Rets Try.prog F_stream_End_Ready #[ptr e] w fun u w' => u = .int .i64 (E.inn.length : Nat) ∧ Holds I w' (endA I e E :: L) := by
  obtain ⟨A1, c1, A2, c2, A3, c3, A4, c4, A5, c5, nv, cd, ob, es, ib, ms, hl, hm, HB⟩ := end_open H
  clear H
  have H := HB
  clear HB
  refine ok_stream_End_Ready.rets rfl ?_
  repeat' (first
    | (show VcL _ _ _ _ _ _ _ _; first
      | refine VcL.pures tabOk rfl ?_
      | refine VcL.nil ?_
      | (show VcL _ _ _ _ (⟨_, .load _ _, _, _, _, _⟩ :: _) _ _ _; refine VcL.load1 tabOk rfl rfl rfl rfl rfl (by exact Holds.cell H rfl) ?_)
      | (show VcL _ _ _ _ (⟨_, .call ⟨.value (.func F_stream_End_none), _, _⟩, _, _, _, _⟩ :: _) _ _ _; (refine VcL.callF ok_stream_End_none rfl rfl rfl rfl (Rets.mono (none_any H Holds.toW hm.ok.num.1) ?_); rintro _ w ⟨rfl, H⟩)))
    | (show Vc _ _ _ _ _ _; first
      | refine Vc.seq ?_
      | refine Vc.region ?_
      | refine Vc.condF rfl ?_
      | refine Vc.ret ?_
      | refine Vc.skip ?_)
    | (show KSeq _ _ _ _ _ _ _; refine KSeq.normal ?_)
    | (show KEnd _ _ _ _ _ _ _; refine KEnd.fin (Or.inr rfl) ⟨_, (ResL.tmp rfl ResL.nil), ?_⟩))
  exact ⟨by rw [← hl.innL]; rfl, end_close _ hm hl H⟩
theorem Reset_any {e : Nat} {E : En} (H : Holds I w (endA I e E :: L)) : Rets Try.prog F_stream_End_Reset #[ptr e] w fun u w' => u = .int .i64 (resetS E).2 ∧ Holds I w' (endA I e (resetS E).1 :: L) := by
  obtain ⟨A1, c1, A2, c2, A3, c3, A4, c4, A5, c5, nv, cd, ob, es, ib, ms, hl, hm, HB⟩ := end_open H
  clear H
  have H := HB
  clear HB
  have ok := hm.ok
  have hb := ok.base
  have ho := ok.out
  have hol := hl.outL
  unfold M at hb
  by_cases h3 : E.state = 3
  · have h3' : ¬ (E.state ≠ 3) := fun h => h h3
    unfold resetS
    rw [if_neg h3']
    refine ok_stream_End_Reset.rets rfl ?_
    repeat' (first
      | (show VcL _ _ _ _ _ _ _ _; first
      | refine VcL.pures tabOk rfl ?_
      | refine VcL.nil ?_
      | (show VcL _ _ _ _ (⟨_, .load _ _, _, _, _, _⟩ :: _) _ _ _; refine VcL.load1 tabOk rfl rfl rfl rfl rfl (by exact Holds.cell H rfl) ?_)
      | (show VcL _ _ _ _ (⟨_, .store _ _ _, _, _, _, _⟩ :: _) _ _ _; refine VcL.store tabOk rfl (by exact H) rfl rfl (by exact rfl) (by exact rfl) (by exact rfl) (by exact rfl) (fun w H => ?_))
      | (show VcL _ _ _ _ (⟨_, .call ⟨.value (.func F_stream_End_asked), _, _⟩, _, _, _, _⟩ :: _) _ _ _; (refine VcL.callF ok_stream_End_asked rfl rfl rfl rfl (Rets.mono (asked_any (E := E) H Holds.toW ok) ?_); rintro _ w ⟨rfl, H⟩; rw [if_neg h3'])))
      | (show VcD _ _ _ _ _ _ _ _ _; first
      | refine VcD.pures tabOk rfl ?_
      | refine VcD.done ?_
      | (show VcD _ _ _ _ _ (.take _ _) _ _ _; refine VcD.load1 tabOk rfl rfl rfl rfl rfl rfl (by intro w_ hw_; exact hw_ _ _ rfl) (by exact rfl) ?_)
      | (show VcD _ _ _ _ _ (.only _ _) _ _ _; first
      | (refine VcD.callF (f := F_stream_plus) rfl ok_stream_plus rfl rfl rfl rfl (Rets.mono (plus_any (a := E.base) (b := ob.length) H (by omega) (by omega)) ?_); rintro _ w ⟨rfl, H⟩; refine ⟨(by exact Holds.rdWhole H), ?_⟩)
      | (refine VcD.eff rfl rfl rfl rfl (OpE.store tabOk (by exact H) rfl rfl rfl (by exact rfl) (by exact rfl) (by exact rfl) (by exact rfl)) ?_; rintro _ w ⟨_, H⟩; refine ⟨(by trivial), ?_⟩)))
      | (show Vc _ _ _ _ _ _; first
      | refine Vc.seq ?_
      | refine Vc.region ?_
      | refine Vc.condF rfl ?_
      | refine Vc.ret ?_
      | refine Vc.skip ?_
      | (refine Vc.drawn (id := 4) (.pure 0 (.pure 1 (.pure 2 (.pure 3 (.pure 5 (.pure 6 (.pure 7 (.take 4 (.take 8 (.pure 9 (.only 10 (.pure 11 (.pure 12 (.only 13 .done)))))))))))))) (.till (fun w => Rd w e 0 (endV E ⟨.slice A1 ob.length c1, .slice A2 es.length c2, .slice A3 ib.length c3, .slice A4 ms.length c4, nv, .slice A5 cd.length c5, cd⟩)) 13 (.one (fun _ => True))) mixed (by kernel_rfl) (by exact Holds.rdWhole (Holds.drew H _)) ?_; have H := H.drew (w.drawn + 1)))
      | (show KSeq _ _ _ _ _ _ _; refine KSeq.normal ?_)
      | (show KEnd _ _ _ _ _ _ _; refine KEnd.fin (Or.inr rfl) ⟨_, (ResL.tmp rfl ResL.nil), ?_⟩))
    rw [hol] at H
    exact ⟨rfl, end_close ⟨.slice none 0 0, .slice none 0 0, .slice A3 ib.length c3, .slice A4 ms.length c4, nv, .slice A5 cd.length c5, cd⟩ ⟨{ ok with base := plusS_lt _ _, out := Nat.zero_le _, resetAt := plusS_lt _ _ }, hm.news, hm.codes, hm.each⟩ ⟨rfl, rfl, hl.inn, hl.marks⟩ (Holds.re [2, 1, 0] (Holds.own_nil (Holds.own_nil (H.drop1.drop1))) rfl)⟩
  · unfold resetS
    rw [if_pos h3]
    refine ok_stream_End_Reset.rets rfl ?_
    repeat' (first
      | (show VcL _ _ _ _ _ _ _ _; first
      | refine VcL.pures tabOk rfl ?_
      | refine VcL.nil ?_
      | (show VcL _ _ _ _ (⟨_, .call ⟨.value (.func F_stream_End_asked), _, _⟩, _, _, _, _⟩ :: _) _ _ _; (refine VcL.callF ok_stream_End_asked rfl rfl rfl rfl (Rets.mono (asked_any (E := E) H Holds.toW ok) ?_); rintro _ w ⟨rfl, H⟩; rw [if_pos h3])))
      | (show Vc _ _ _ _ _ _; first
      | refine Vc.seq ?_
      | refine Vc.region ?_
      | refine Vc.condT rfl ?_
      | refine Vc.ret ?_)
      | (show KSeq _ _ _ _ _ _ _; first
      | refine KSeq.normal ?_
      | refine KSeq.ret ?_)
      | (show KEnd _ _ _ _ _ _ _; refine KEnd.fin (Or.inr rfl) ⟨_, (ResL.tmp rfl ResL.nil), ?_⟩))
    exact ⟨rfl, end_close _ hm hl H⟩
theorem Attend_any {e : Nat} {E : En} (H : Holds I w (endA I e E :: L)) {v : Value} {l : By} (hv : SlR I L v 1 l.length (byL l)) : Rets Try.prog F_stream_End_Attend #[ptr e, v] w fun u w' => ∃ J, Imm.Le I J ∧ u = .int .i64 (attendS E l).2 ∧ Holds J w' (endA J e (attendS E l).1 :: L) := by
  obtain ⟨A, cap, rfl, hcap⟩ := hv.form
  obtain ⟨A1, c1, A2, c2, A3, c3, A4, c4, A5, c5, nv, cd, ob, es, ib, ms, hl, hm, HB⟩ := end_open H
  clear H
  have H := HB
  clear HB
  have ok := hm.ok
  have hv' := hv.ups [blk e 56 (endV E ⟨.slice A1 ob.length c1, .slice A2 es.length c2, .slice A3 ib.length c3, .slice A4 ms.length c4, nv, .slice A5 cd.length c5, cd⟩), own (.slice A1 ob.length c1) 5 1 ob.length (byL ob), own (.slice A2 es.length c2) 3 1 es.length (es.flatMap ntC), own (.slice A3 ib.length c3) 5 1 ib.length (byL ib), own (.slice A4 ms.length c4) 3 1 ms.length (ms.flatMap ntC), own (.slice A5 cd.length c5) 22 1 cd.length (cd.flatMap bkC)]
  by_cases h3 : E.state = 3
  · have h3' : ¬ (E.state ≠ 3) := fun h => h h3
    unfold attendS
    rw [if_neg h3']
    refine ok_stream_End_Attend.rets rfl ?_
    repeat' (first
      | (show VcL _ _ _ _ _ _ _ _; first
      | refine VcL.pures tabOk rfl ?_
      | refine VcL.nil ?_
      | (show VcL _ _ _ _ (⟨_, .load _ _, _, _, _, _⟩ :: _) _ _ _; refine VcL.load1 tabOk rfl rfl rfl rfl rfl (by exact Holds.cell H rfl) ?_)
      | (show VcL _ _ _ _ (⟨_, .store _ _ _, _, _, _, _⟩ :: _) _ _ _; refine VcL.store tabOk rfl (by first | exact H | exact (Holds.f1 H)) rfl rfl (by exact rfl) (by exact rfl) (by exact rfl) (by exact rfl) (fun w H => ?_))
      | (show VcL _ _ _ _ (⟨_, .call ⟨.value (.func F_stream_End_asked), _, _⟩, _, _, _, _⟩ :: _) _ _ _; (refine VcL.callF ok_stream_End_asked rfl rfl rfl rfl (Rets.mono (asked_any (E := E) H Holds.toW ok) ?_); rintro _ w ⟨rfl, H⟩; rw [if_neg h3']))
      | (show VcL _ _ _ _ (⟨_, .call ⟨.value (.func F_slices_Clone_byte_byte), _, _⟩, _, _, _, _⟩ :: _) _ _ _; (refine VcL.callF ok_slices_Clone_byte_byte rfl rfl rfl rfl (Rets.mono (CloneB_any H hv' (byL_one l) (by omega)) ?_); rintro _ w H; obtain ⟨_, A7, c7, rfl⟩ := Holds.own_len H)))
      | (show Vc _ _ _ _ _ _; first
      | refine Vc.seq ?_
      | refine Vc.region ?_
      | refine Vc.condF rfl ?_
      | refine Vc.ret ?_
      | refine Vc.skip ?_
      | refine Vc.block ?_
      | (refine Vc.cond rfl (fun h => ?_) (fun h => ?_) <;> first | (with_reducible have hp := of_decide_eq_true h) | (with_reducible have hp := of_decide_eq_false h) | skip))
      | (show KSeq _ _ _ _ _ _ _; first
      | refine KSeq.normal ?_
      | refine KSeq.ret ?_)
      | (show KBlock _ _ _ _ _ _; first
      | refine KBlock.normal ?_
      | refine KBlock.ret ?_)
      | (show KEnd _ _ _ _ _ _ _; refine KEnd.fin (Or.inr rfl) ⟨_, (ResL.tmp rfl ResL.nil), ?_⟩))
    · rw [if_pos (by assumption)]
      exact ⟨I, Imm.Le.rfl' I, rfl, end_close _ hm hl H⟩
    · rw [if_neg (by simp_all), if_pos (by omega)]
      exact ⟨I, Imm.Le.rfl' I, rfl, end_close _ hm hl H⟩
    · rw [if_neg (by simp_all), if_neg (by omega)]
      obtain ⟨J, hJ, H, hs⟩ := Holds.freezeOwn (Holds.f1 H)
      exact ⟨J, hJ, rfl, end_close ⟨_, _, _, _, _, _, cd⟩ ⟨{ ok with news := fun b hb => (by cases hb; omega) }, hs, hm.codes, fun c hc => (hm.each c hc).mono hJ⟩ ⟨hl.out, hl.ends, hl.inn, hl.marks⟩ H⟩
  · unfold attendS
    rw [if_pos h3]
    refine ok_stream_End_Attend.rets rfl ?_
    repeat' (first
      | (show VcL _ _ _ _ _ _ _ _; first
      | refine VcL.pures tabOk rfl ?_
      | refine VcL.nil ?_
      | (show VcL _ _ _ _ (⟨_, .call ⟨.value (.func F_stream_End_asked), _, _⟩, _, _, _, _⟩ :: _) _ _ _; (refine VcL.callF ok_stream_End_asked rfl rfl rfl rfl (Rets.mono (asked_any (E := E) H Holds.toW ok) ?_); rintro _ w ⟨rfl, H⟩; rw [if_pos h3])))
      | (show Vc _ _ _ _ _ _; first
      | refine Vc.seq ?_
      | refine Vc.region ?_
      | refine Vc.condT rfl ?_
      | refine Vc.ret ?_)
      | (show KSeq _ _ _ _ _ _ _; first
      | refine KSeq.normal ?_
      | refine KSeq.ret ?_)
      | (show KEnd _ _ _ _ _ _ _; refine KEnd.fin (Or.inr rfl) ⟨_, (ResL.tmp rfl ResL.nil), ?_⟩))
    exact ⟨I, Imm.Le.rfl' I, rfl, end_close _ hm hl H⟩
theorem Close_any {e : Nat} {E : En} (H : Holds I w (endA I e E :: L)) : Rets Try.prog F_stream_End_Close #[ptr e] w fun u w' => u = .tuple #[.agg #[.int .i64 (closeS E).2.1.kind, .int .i64 (closeS E).2.1.id, .int .i64 (closeS E).2.1.seq, .int .i64 (closeS E).2.1.n, .slice none 0 0], .int .i64 (closeS E).2.2] ∧ Holds I w' (endA I e (closeS E).1 :: L) := by
  obtain ⟨A1, c1, A2, c2, A3, c3, A4, c4, A5, c5, nv, cd, ob, es, ib, ms, hl, hm, HB⟩ := end_open H
  clear H
  have H := HB
  clear HB
  have ok := hm.ok
  by_cases h3 : E.state = 3
  · have h3' : ¬ (E.state ≠ 3) := fun h => h h3
    unfold closeS
    rw [if_neg h3']
    refine ok_stream_End_Close.rets rfl ?_
    repeat' (first
      | (show VcL _ _ _ _ _ _ _ _; first
      | refine VcL.pures tabOk rfl ?_
      | refine VcL.nil ?_
      | (show VcL _ _ _ _ (⟨_, .load _ _, _, _, _, _⟩ :: _) _ _ _; refine VcL.load1 tabOk rfl rfl rfl rfl rfl (by exact Holds.cell H rfl) ?_)
      | refine VcL.alloc tabOk H rfl rfl rfl rfl (fun b w H => ?_)
      | (show VcL _ _ _ _ (⟨_, .store _ _ _, _, _, _, _⟩ :: _) _ _ _; refine VcL.store tabOk rfl (by exact (Holds.f1 H)) rfl rfl (by exact rfl) (by exact rfl) (by exact rfl) (by exact rfl) (fun w H => ?_))
      | (show VcL _ _ _ _ (⟨_, .call ⟨.value (.func F_stream_End_asked), _, _⟩, _, _, _, _⟩ :: _) _ _ _; (refine VcL.callF ok_stream_End_asked rfl rfl rfl rfl (Rets.mono (asked_any (E := E) H (Holds.toW.ups [_]) ok) ?_); rintro _ w ⟨rfl, H⟩; rw [if_neg h3'])))
      | (show Vc _ _ _ _ _ _; first
      | refine Vc.seq ?_
      | refine Vc.region ?_
      | refine Vc.condF rfl ?_
      | refine Vc.ret ?_
      | refine Vc.skip ?_)
      | (show KSeq _ _ _ _ _ _ _; refine KSeq.normal ?_)
      | (show KEnd _ _ _ _ _ _ _; refine KEnd.fin (Or.inr rfl) ⟨_, (ResL.cell rfl (LoadV.aggH tabOk rfl rfl (by exact H) (by exact rfl)) (ResL.tmp rfl ResL.nil)), ?_⟩))
    exact ⟨rfl, end_close _ ⟨{ ok with state := Nat.le_refl _ }, hm.news, hm.codes, hm.each⟩ ⟨hl.out, hl.ends, hl.inn, hl.marks⟩ (Holds.drop H)⟩
  · unfold closeS
    rw [if_pos h3]
    refine ok_stream_End_Close.rets rfl ?_
    repeat' (first
      | (show VcL _ _ _ _ _ _ _ _; first
      | refine VcL.pures tabOk rfl ?_
      | refine VcL.nil ?_
      | refine VcL.alloc tabOk H rfl rfl rfl rfl (fun b w H => ?_)
      | (show VcL _ _ _ _ (⟨_, .store _ _ _, _, _, _, _⟩ :: _) _ _ _; refine VcL.store tabOk rfl (by exact H) rfl rfl (by exact rfl) (by exact rfl) (by exact rfl) (by exact rfl) (fun w H => ?_))
      | (show VcL _ _ _ _ (⟨_, .call ⟨.value (.func F_stream_End_asked), _, _⟩, _, _, _, _⟩ :: _) _ _ _; (refine VcL.callF ok_stream_End_asked rfl rfl rfl rfl (Rets.mono (asked_any (E := E) H (Holds.toW.ups [_]) ok) ?_); rintro _ w ⟨rfl, H⟩; rw [if_pos h3])))
      | (show Vc _ _ _ _ _ _; first
      | refine Vc.seq ?_
      | refine Vc.region ?_
      | refine Vc.condT rfl ?_
      | refine Vc.ret ?_)
      | (show KSeq _ _ _ _ _ _ _; first
      | refine KSeq.normal ?_
      | refine KSeq.ret ?_)
      | (show KEnd _ _ _ _ _ _ _; refine KEnd.fin (Or.inr rfl) ⟨_, (ResL.cell rfl (LoadV.aggH tabOk rfl rfl (by exact H) (by exact rfl)) (ResL.tmp rfl ResL.nil)), ?_⟩))
    exact ⟨rfl, end_close _ hm hl (Holds.drop H)⟩
end Go.Proofs.Ytpfgcchammlpgaa.V
