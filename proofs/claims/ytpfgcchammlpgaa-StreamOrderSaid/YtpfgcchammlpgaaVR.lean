/- The document's end in memory, and small deeds. -/
import Derived.Test.YtpfgcchammlpgaaVP
namespace Go.Proofs.Ytpfgcchammlpgaa.V
open Go Go.Proofs.YtpfgcchammlpgaaV
set_option linter.unusedVariables false
set_option linter.unusedSimpArgs false
set_option maxHeartbeats 1000000
set_option maxRecDepth 4000
attribute [local irreducible] IntKind.wrap
variable {I : Imm} {w : World} {L : List Asn}
def bfC (x : Bf) : List Value := [byteV x.1, .bool x.2]
theorem bfC_len (x : Bf) : (bfC x).length = 2 := rfl
structure RnM where mk ::
  ov : Value
  iv : Value
  av : Value
  cv : Value
  cd : List Vb
def refV (E : En) (m : RnM) : List Value := [.int .i64 (E.num : Nat), .int .i64 (E.other : Nat), .int .i64 (E.state : Nat), .int .i64 (E.first : Nat), .int .i64 (E.base : Nat), m.ov, .int .i64 (E.room : Nat), .int .i64 (E.want : Nat), m.iv, .int .i64 (E.age : Nat), .int .i64 (E.quiet : Nat), .bool E.resets, .int .i64 (E.resetAt : Nat), .bool E.news.isSome, m.av, .int .i64 (E.seq : Nat), .int .i64 (E.next : Nat), m.cv]
/-- Attention on its way: what stays of an earlier one does not matter. -/
def newR (I : Imm) (v : Value) (o : Option By) : Prop := ∀ b ∈ o, SlI I v 1 b.length (byL b)
theorem newR.mono {I J : Imm} {v : Value} {o : Option By} (h : newR I v o) (hl : Imm.Le I J) : newR J v o := fun b hb => SlI.mono (h b hb) hl
structure RnF (I : Imm) (E : En) (m : RnM) : Prop where mk ::
  ok : EnOk E
  still : E.state ≤ 2 → E.quiet = 0
  news : newR I m.av E.news
  codes : m.cd.map (·.2) = E.codes
  each : ∀ c ∈ m.cd, SlI I c.1 1 c.2.length (byL c.2)
theorem RnF.mono {I J : Imm} {E : En} {m : RnM} (h : RnF I E m) (hl : Imm.Le I J) : RnF J E m := ⟨h.ok, h.still, h.news.mono hl, h.codes, fun c hc => (h.each c hc).mono hl⟩
abbrev refQ (e : Nat) (E : En) (m : RnM) (L : List Asn) : List Asn :=
  blk e 88 (refV E m) :: own m.ov 105 2 E.out.length (E.out.flatMap bfC) :: own m.iv 105 2 E.inn.length (E.inn.flatMap bfC) :: own m.cv 22 1 m.cd.length (m.cd.flatMap bkC) :: L
def refA (I : Imm) (e : Nat) (E : En) : Asn := ex fun m : RnM => fact (RnF I E m) (star (blk e 88 (refV E m)) (star (own m.ov 105 2 E.out.length (E.out.flatMap bfC)) (star (own m.iv 105 2 E.inn.length (E.inn.flatMap bfC)) (own m.cv 22 1 m.cd.length (m.cd.flatMap bkC)))))
theorem ref_iff {J : Imm} {e : Nat} {E : En} : Holds I w (refA J e E :: L) ↔ ∃ m, RnF J E m ∧ Holds I w (refQ e E m L) := by
  unfold refA
  rw [Holds.ex]
  constructor
  · rintro ⟨m, H⟩
    obtain ⟨h, H⟩ := Holds.fact.1 H
    refine ⟨m, h, ?_⟩
    have H := (Holds.star.1 H).swap
    have H := (Holds.star.1 H).swap
    have H := Holds.star.1 H
    exact H.re [3, 2, 0, 0] rfl
  · rintro ⟨m, h, H⟩
    refine ⟨m, Holds.fact.2 ⟨h, ?_⟩⟩
    refine Holds.star.2 (Holds.swap ?_)
    refine Holds.star.2 (Holds.swap ?_)
    refine Holds.star.2 ?_
    exact H.re [2, 2, 1, 0] rfl
theorem ref_open {e : Nat} {E : En} (H : Holds I w (refA I e E :: L)) : ∃ A1 c1 A2 c2 av A3 c3, ∃ cd : List Vb, RnF I E ⟨.slice A1 E.out.length c1, .slice A2 E.inn.length c2, av, .slice A3 cd.length c3, cd⟩ ∧
    Holds I w (refQ e E ⟨.slice A1 E.out.length c1, .slice A2 E.inn.length c2, av, .slice A3 cd.length c3, cd⟩ L) := by
  obtain ⟨⟨ov, iv, av, cv, cd⟩, hm, H⟩ := ref_iff.1 H
  obtain ⟨_, A1, c1, rfl⟩ := Holds.own_len (Holds.f1 H)
  obtain ⟨_, A2, c2, rfl⟩ := Holds.own_len (Holds.f2 H)
  obtain ⟨_, A3, c3, h3⟩ := Holds.own_len (Holds.f3 H)
  have h3 : cv = .slice A3 cd.length c3 := h3
  subst h3
  exact ⟨A1, c1, A2, c2, av, A3, c3, cd, hm, H⟩
theorem ref_close {e : Nat} {E : En} (m : RnM) (h : RnF I E m) (H : Holds I w (refQ e E m L)) : Holds I w (refA I e E :: L) := ref_iff.2 ⟨m, h, H⟩
theorem Holds.refUp {J : Imm} {e : Nat} {E : En} (hl : Imm.Le I J) (H : Holds J w (refA I e E :: L)) : Holds J w (refA J e E :: L) := by
  obtain ⟨m, h, H⟩ := ref_iff.1 H
  exact ref_iff.2 ⟨m, h.mono hl, H⟩
theorem NewR_any (H : Holds I w L) {n f : Nat} (h0 : 0 < n) (h1 : n ≤ 65535) (hf : f < M) : Rets Try.prog F_tithingref12_New #[.int .i64 (n : Nat), .int .i64 (f : Nat)] w fun u w' => ∃ e, u = .tuple #[ptr e, .int .i64 0] ∧ Holds I w' (refA I e (newS n f) :: L) := by
  have hf' : f < 4294967296 := hf
  refine ok_tithingref12_New.rets rfl ?_
  repeat' (first
    | (show VcL _ _ _ _ _ _ _ _; first
      | refine VcL.pures tabOk rfl ?_
      | refine VcL.nil ?_
      | refine VcL.box H rfl rfl rfl rfl rfl (fun b w H => ?_)
      | (show VcL _ _ _ _ (⟨_, .call ⟨.value (.func F_tithingref12_in), _, _⟩, _, _, _, _⟩ :: _) _ _ _; (refine VcL.callF ok_tithingref12_in rfl rfl rfl rfl (Rets.mono (in_any H) ?_); rintro _ w ⟨rfl, H⟩; rw [decide_eq_true (by omega)]))
      | (refine VcL.guard rfl rfl rfl rfl (fun h => ?_) (fun h => ?_) <;> first | (cases h; done) | skip))
    | (show Vc _ _ _ _ _ _; first
      | refine Vc.seq ?_
      | refine Vc.region ?_
      | refine Vc.condF rfl ?_
      | refine Vc.ret ?_
      | refine Vc.skip ?_)
    | (show KSeq _ _ _ _ _ _ _; refine KSeq.normal ?_)
    | (show KEnd _ _ _ _ _ _ _; refine KEnd.fin (Or.inr rfl) ⟨_, (ResL.tmp rfl (ResL.tmp rfl ResL.nil)), ?_⟩))
  obtain ⟨e, rfl⟩ : ∃ e, e = b := ⟨b, rfl⟩
  refine ⟨e, rfl, ref_close ⟨.slice none 0 0, .slice none 0 0, .slice none 0 0, .slice none 0 0, []⟩ ⟨newS_ok h0 h1 hf, fun _ => rfl, fun b hb => by (cases hb), rfl, fun c hc => by cases hc⟩ ?_⟩
  exact Holds.re [3, 2, 1, 0] (Holds.own_nil (Holds.own_nil (Holds.own_nil H))) rfl
theorem NewR_bad (H : Holds I w L) {n f : Int} (hb : ¬ (1 ≤ n ∧ n ≤ 65535 ∧ 0 ≤ f ∧ f < 4294967296)) : Rets Try.prog F_tithingref12_New #[.int .i64 n, .int .i64 f] w fun u w' => u = .tuple #[.pointer none, .int .i64 2] ∧ Holds I w' L := by
  by_cases h1 : 1 ≤ n ∧ n ≤ 65535
  ·
    refine ok_tithingref12_New.rets rfl ?_
    repeat' (first
      | (show VcL _ _ _ _ _ _ _ _; first
      | refine VcL.pures tabOk rfl ?_
      | refine VcL.nil ?_
      | (show VcL _ _ _ _ (⟨_, .call ⟨.value (.func F_tithingref12_in), _, _⟩, _, _, _, _⟩ :: _) _ _ _; (refine VcL.callF ok_tithingref12_in rfl rfl rfl rfl (Rets.mono (in_any (n := n) (a := 1) (b := 65535) H) ?_); rintro _ w ⟨rfl, H⟩; rw [decide_eq_true h1]))
      | (show VcL _ _ _ _ (⟨_, .call ⟨.value (.func F_tithingref12_in), _, _⟩, _, _, _, _⟩ :: _) _ _ _; (refine VcL.callF ok_tithingref12_in rfl rfl rfl rfl (Rets.mono (in_any (n := f) (a := 0) (b := 4294967295) H) ?_); rintro _ w ⟨rfl, H⟩; rw [decide_eq_false (by omega)]))
      | (refine VcL.guard rfl rfl rfl rfl (fun h => ?_) (fun h => ?_) <;> first | (cases h; done) | skip))
      | (show Vc _ _ _ _ _ _; first
      | refine Vc.seq ?_
      | refine Vc.region ?_
      | refine Vc.condT rfl ?_
      | refine Vc.ret ?_)
      | (show KSeq _ _ _ _ _ _ _; first
      | refine KSeq.normal ?_
      | refine KSeq.ret ?_)
      | (show KEnd _ _ _ _ _ _ _; refine KEnd.fin (Or.inr rfl) ⟨_, (ResL.tmp rfl (ResL.tmp rfl ResL.nil)), ?_⟩))
    exact ⟨rfl, H⟩
  ·
    refine ok_tithingref12_New.rets rfl ?_
    repeat' (first
      | (show VcL _ _ _ _ _ _ _ _; first
      | refine VcL.pures tabOk rfl ?_
      | refine VcL.nil ?_
      | (show VcL _ _ _ _ (⟨_, .call ⟨.value (.func F_tithingref12_in), _, _⟩, _, _, _, _⟩ :: _) _ _ _; (refine VcL.callF ok_tithingref12_in rfl rfl rfl rfl (Rets.mono (in_any (n := n) (a := 1) (b := 65535) H) ?_); rintro _ w ⟨rfl, H⟩; rw [decide_eq_false h1]))
      | (refine VcL.guard rfl rfl rfl rfl (fun h => ?_) (fun h => ?_) <;> first | (cases h; done) | skip))
      | (show Vc _ _ _ _ _ _; first
      | refine Vc.seq ?_
      | refine Vc.region ?_
      | refine Vc.condT rfl ?_
      | refine Vc.ret ?_)
      | (show KSeq _ _ _ _ _ _ _; first
      | refine KSeq.normal ?_
      | refine KSeq.ret ?_)
      | (show KEnd _ _ _ _ _ _ _; refine KEnd.fin (Or.inr rfl) ⟨_, (ResL.tmp rfl (ResL.tmp rfl ResL.nil)), ?_⟩))
    exact ⟨rfl, H⟩
theorem beginR_any {e : Nat} {E : En} (H : Holds I w (refA I e E :: L)) {s : Nat} (hs : s ≤ 4) : Rets Try.prog F_tithingref12_End_begin #[ptr e, .int .i64 (s : Nat)] w fun u w' => u = .int .i64 (beginS E s).2 ∧ Holds I w' (refA I e (beginS E s).1 :: L) := by
  obtain ⟨A1, c1, A2, c2, av, A3, c3, cd, hm, HB⟩ := ref_open H
  clear H
  have H := HB
  clear HB
  have ok := hm.ok
  refine ok_tithingref12_End_begin.rets rfl ?_
  repeat' (first
    | (show VcL _ _ _ _ _ _ _ _; first
      | refine VcL.pures tabOk rfl ?_
      | refine VcL.nil ?_
      | (show VcL _ _ _ _ (⟨_, .load _ _, _, _, _, _⟩ :: _) _ _ _; refine VcL.load1 tabOk rfl rfl rfl rfl rfl (by exact Holds.cell H rfl) ?_)
      | (show VcL _ _ _ _ (⟨_, .store _ _ _, _, _, _, _⟩ :: _) _ _ _; refine VcL.store tabOk rfl (by exact H) rfl rfl (by exact rfl) (by exact rfl) (by exact rfl) (by exact rfl) (fun w H => ?_)))
    | (show Vc _ _ _ _ _ _; first
      | refine Vc.seq ?_
      | refine Vc.region ?_
      | refine Vc.ret ?_
      | refine Vc.skip ?_
      | (refine Vc.cond rfl (fun h => ?_) (fun h => ?_) <;> first | (with_reducible have hp := ndec_t h) | (with_reducible have hp := ndec_f h)))
    | (show KSeq _ _ _ _ _ _ _; first
      | refine KSeq.normal ?_
      | refine KSeq.ret ?_)
    | (show KEnd _ _ _ _ _ _ _; refine KEnd.fin (Or.inr rfl) ⟨_, (ResL.tmp rfl ResL.nil), ?_⟩))
  · have h0 : E.state ≠ 0 := by omega
    unfold beginS
    rw [if_pos h0]
    exact ⟨rfl, ref_close _ hm H⟩
  · have h0 : ¬ E.state ≠ 0 := by omega
    unfold beginS
    rw [if_neg h0]
    exact ⟨rfl, ref_close _ ⟨{ ok with state := hs }, fun _ => hm.still (by omega), hm.news, hm.codes, hm.each⟩ H⟩
theorem OpenR_any {e : Nat} {E : En} (H : Holds I w (refA I e E :: L)) : Rets Try.prog F_tithingref12_End_Open #[ptr e] w fun u w' => u = .int .i64 (beginS E 2).2 ∧ Holds I w' (refA I e (beginS E 2).1 :: L) := by
  refine ok_tithingref12_End_Open.rets rfl ?_
  repeat' (first
    | (show VcL _ _ _ _ _ _ _ _; first
      | refine VcL.pures tabOk rfl ?_
      | refine VcL.nil ?_
      | (show VcL _ _ _ _ (⟨_, .call ⟨.value (.func F_tithingref12_End_begin), _, _⟩, _, _, _, _⟩ :: _) _ _ _; (refine VcL.callF ok_tithingref12_End_begin rfl rfl rfl rfl (Rets.mono (beginR_any (s := 2) H (by omega)) ?_); rintro _ w ⟨rfl, H⟩)))
    | (show Vc _ _ _ _ _ _; first
      | refine Vc.seq ?_
      | refine Vc.region ?_
      | refine Vc.ret ?_)
    | (show KSeq _ _ _ _ _ _ _; refine KSeq.normal ?_)
    | (show KEnd _ _ _ _ _ _ _; refine KEnd.fin (Or.inr rfl) ⟨_, (ResL.tmp rfl ResL.nil), ?_⟩))
  exact ⟨rfl, H⟩
theorem ListenR_any {e : Nat} {E : En} (H : Holds I w (refA I e E :: L)) : Rets Try.prog F_tithingref12_End_Listen #[ptr e] w fun u w' => u = .int .i64 (beginS E 1).2 ∧ Holds I w' (refA I e (beginS E 1).1 :: L) := by
  refine ok_tithingref12_End_Listen.rets rfl ?_
  repeat' (first
    | (show VcL _ _ _ _ _ _ _ _; first
      | refine VcL.pures tabOk rfl ?_
      | refine VcL.nil ?_
      | (show VcL _ _ _ _ (⟨_, .call ⟨.value (.func F_tithingref12_End_begin), _, _⟩, _, _, _, _⟩ :: _) _ _ _; (refine VcL.callF ok_tithingref12_End_begin rfl rfl rfl rfl (Rets.mono (beginR_any (s := 1) H (by omega)) ?_); rintro _ w ⟨rfl, H⟩)))
    | (show Vc _ _ _ _ _ _; first
      | refine Vc.seq ?_
      | refine Vc.region ?_
      | refine Vc.ret ?_)
    | (show KSeq _ _ _ _ _ _ _; refine KSeq.normal ?_)
    | (show KEnd _ _ _ _ _ _ _; refine KEnd.fin (Or.inr rfl) ⟨_, (ResL.tmp rfl ResL.nil), ?_⟩))
  exact ⟨rfl, H⟩
theorem roomR_any (H : Holds I w L) {e : Nat} {E : En} {m : RnM} (hd : RdW I L e 0 (refV E m)) {A : Option Addr} {c : Nat} {k : Nat} (h9 : m.iv = .slice A k c) (hk : k = E.inn.length) (hn : E.inn.length ≤ 200) : Rets Try.prog F_tithingref12_End_room #[ptr e] w fun u w' => u = .int .i64 (winS E : Nat) ∧ Holds I w' L := by
  obtain ⟨ov, iv, av, cv, cd⟩ := m
  dsimp only at h9
  subst h9
  subst hk
  have e1 : IntKind.i64.wrap (200 - (E.inn.length : Int)) = ((winS E : Nat) : Int) := by unfold winS; rw [wrap_i64 (by omega) (by omega)]; omega
  refine ok_tithingref12_End_room.rets rfl ?_
  repeat' (first
    | rw [e1]
    | (show VcL _ _ _ _ _ _ _ _; first
      | refine VcL.pures tabOk rfl ?_
      | refine VcL.nil ?_
      | (show VcL _ _ _ _ (⟨_, .load _ _, _, _, _, _⟩ :: _) _ _ _; refine VcL.load1 tabOk rfl rfl rfl rfl rfl (by exact RdW.get (by assumption) rfl H) ?_))
    | (show Vc _ _ _ _ _ _; first
      | refine Vc.seq ?_
      | refine Vc.region ?_
      | refine Vc.ret ?_)
    | (show KSeq _ _ _ _ _ _ _; refine KSeq.normal ?_)
    | (show KEnd _ _ _ _ _ _ _; refine KEnd.fin (Or.inr rfl) ⟨_, (ResL.tmp rfl ResL.nil), ?_⟩))
  exact ⟨rfl, H⟩
theorem windowR_any (H : Holds I w L) {e : Nat} {E : En} {m : RnM} (hd : RdW I L e 0 (refV E m)) {A : Option Addr} {c : Nat} {k : Nat} (h9 : m.iv = .slice A k c) (hk : k = E.inn.length) (hn : E.inn.length ≤ 200) : Rets Try.prog F_tithingref12_End_window #[ptr e] w fun u w' => Holds I w' (own u 5 1 2 (byL (tailS E)) :: L) := by
  have hw : winS E ≤ 200 := by unfold winS; omega
  unfold tailS
  obtain ⟨n, hn2⟩ : ∃ n, winS E = n := ⟨_, rfl⟩
  have hwin := fun w H => roomR_any (w := w) (I := I) (L := L) H hd h9 hk hn
  rw [hn2] at hw hwin ⊢
  have e1 : Value.int .u8 (IntKind.u8.wrap (IntKind.i64.wrap ((n : Int).tdiv (Int.ofNat (255 + 1))))) = byteV (UInt8.ofNat (n / 256)) := by
    rw [u8_of _ (by omega), show (Int.ofNat (255 + 1)) = 256 from rfl, Int.tdiv_eq_ediv_of_nonneg (by omega), wrap_i64 (by omega) (by omega), wrap_u8]
    congr 1
    omega
  have e2 : Value.int .u8 (IntKind.u8.wrap ((n : Int).tmod (Int.ofNat (255 + 1)))) = byteV (UInt8.ofNat (n % 256)) := by
    rw [u8_of _ (by omega), show (Int.ofNat (255 + 1)) = 256 from rfl, Int.tmod_eq_emod_of_nonneg (by omega), wrap_u8]
    congr 1
    omega
  refine ok_tithingref12_End_window.rets rfl ?_
  repeat' (first
    | rw [e1]
    | rw [e2]
    | (show VcL _ _ _ _ _ _ _ _; first
      | refine VcL.pures tabOk rfl ?_
      | refine VcL.nil ?_
      | refine VcL.buildSlice tabOk H rfl rfl rfl rfl rfl rfl (fun sv w H => ?_)
      | (show VcL _ _ _ _ (⟨_, .call ⟨.value (.func F_tithingref12_End_room), _, _⟩, _, _, _, _⟩ :: _) _ _ _; (refine VcL.callF ok_tithingref12_End_room rfl rfl rfl rfl (Rets.mono (hwin _ H) ?_); rintro _ w ⟨rfl, H⟩)))
    | (show Vc _ _ _ _ _ _; first
      | refine Vc.seq ?_
      | refine Vc.region ?_
      | refine Vc.ret ?_)
    | (show KSeq _ _ _ _ _ _ _; refine KSeq.normal ?_)
    | (show KEnd _ _ _ _ _ _ _; refine KEnd.fin (Or.inr rfl) ⟨_, (ResL.tmp rfl ResL.nil), ?_⟩))
  exact H
theorem frameR_any (H : Holds I w L) {e : Nat} {E : En} {m : RnM} (hd : RdW I L e 0 (refV E m)) {kind seq : Int} {A : Option Addr} {n c : Nat} :
    Rets Try.prog F_tithingref12_End_frame #[ptr e, .int .i64 kind, .int .i64 seq, .slice A n c] w fun u w' => u = .agg #[.int .i64 kind, .int .i64 (E.num : Nat), .int .i64 seq, .int .i64 (E.want : Nat), .slice A n c] ∧ Holds I w' L := by
  refine ok_tithingref12_End_frame.rets rfl ?_
  repeat' (first
    | (show VcL _ _ _ _ _ _ _ _; first
      | refine VcL.nil ?_
      | refine VcL.alloc tabOk H rfl rfl rfl rfl (fun b w H => ?_))
    | (show VcD _ _ _ _ _ _ _ _ _; first
      | refine VcD.pures tabOk rfl ?_
      | refine VcD.done ?_
      | (show VcD _ _ _ _ _ (.take _ _) _ _ _; refine VcD.load1 tabOk rfl rfl rfl rfl rfl rfl (by intro w_ hw_; first | exact hw_ _ _ rfl | exact hw_ 0 _ rfl) (by exact rfl) ?_)
      | (show VcD _ _ _ _ _ (.only _ _) _ _ _; (refine VcD.eff rfl rfl rfl rfl (OpE.store tabOk (by exact H) rfl rfl rfl (by exact rfl) (by exact rfl) (by exact rfl) (by exact rfl)) ?_; rintro _ w ⟨_, H⟩; refine ⟨(by trivial), ?_⟩)))
    | (show Vc _ _ _ _ _ _; first
      | refine Vc.seq ?_
      | refine Vc.region ?_
      | refine Vc.ret ?_
      | (refine Vc.drawn (id := 1) (.pure 0 (.pure 1 (.pure 2 (.pure 3 (.pure 5 (.pure 6 (.pure 7 (.pure 8 (.pure 10 (.take 4 (.take 9 (.pure 11 (.only 12 .done))))))))))))) (.till (fun w => Rd w e 0 (refV E m)) 12 (.one (fun _ => True))) mixed (by kernel_rfl) (by exact RdW.rd (by assumption) (Holds.drop (Holds.drew H _))) ?_; have H := H.drew (w.drawn + 1)))
    | (show KSeq _ _ _ _ _ _ _; refine KSeq.normal ?_)
    | (show KEnd _ _ _ _ _ _ _; refine KEnd.fin (Or.inr rfl) ⟨_, (ResL.cell rfl (LoadV.aggH tabOk rfl rfl (by exact H) (by exact rfl)) ResL.nil), ?_⟩))
  exact ⟨rfl, H.drop⟩
theorem helloR_any (H : Holds I w L) {e : Nat} {E : En} {m : RnM} (hd : RdW I L e 0 (refV E m)) {A : Option Addr} {c : Nat} {k : Nat} (h9 : m.iv = .slice A k c) (hk : k = E.inn.length) (hn : E.inn.length ≤ 200) {kind : Int} :
    Rets Try.prog F_tithingref12_End_hello #[ptr e, .int .i64 kind] w fun u w' => u = .agg #[.int .i64 kind, .int .i64 (E.num : Nat), .int .i64 (E.first : Nat), .int .i64 (winS E : Nat), .slice none 0 0] ∧ Holds I w' L := by
  refine ok_tithingref12_End_hello.rets rfl ?_
  repeat' (first
    | (show VcL _ _ _ _ _ _ _ _; first
      | refine VcL.nil ?_
      | refine VcL.alloc tabOk H rfl rfl rfl rfl (fun b w H => ?_))
    | (show VcD _ _ _ _ _ _ _ _ _; first
      | refine VcD.pures tabOk rfl ?_
      | refine VcD.done ?_
      | (show VcD _ _ _ _ _ (.take _ _) _ _ _; refine VcD.load1 tabOk rfl rfl rfl rfl rfl rfl (by intro w_ hw_; first | exact hw_ _ _ rfl | exact hw_ 0 _ rfl) (by exact rfl) ?_)
      | (show VcD _ _ _ _ _ (.only _ _) _ _ _; first
      | (refine VcD.callF (f := F_tithingref12_End_room) rfl ok_tithingref12_End_room rfl rfl rfl rfl (Rets.mono (roomR_any H (hd.ups [_]) h9 hk hn) ?_); rintro _ w ⟨rfl, H⟩; refine ⟨(by exact RdW.rd (by assumption) (Holds.drop H)), ?_⟩)
      | (refine VcD.eff rfl rfl rfl rfl (OpE.store tabOk (by exact H) rfl rfl rfl (by exact rfl) (by exact rfl) (by exact rfl) (by exact rfl)) ?_; rintro _ w ⟨_, H⟩; refine ⟨(by trivial), ?_⟩)))
    | (show Vc _ _ _ _ _ _; first
      | refine Vc.seq ?_
      | refine Vc.region ?_
      | refine Vc.ret ?_
      | (refine Vc.drawn (id := 1) (.pure 0 (.pure 1 (.pure 2 (.pure 3 (.pure 5 (.pure 6 (.pure 7 (.pure 9 (.take 4 (.take 8 (.only 10 (.pure 11 (.only 12 .done))))))))))))) (.till (fun w => Rd w e 0 (refV E m)) 12 (.one (fun _ => True))) mixed (by kernel_rfl) (by exact RdW.rd (by assumption) (Holds.drop (Holds.drew H _))) ?_; have H := H.drew (w.drawn + 1)))
    | (show KSeq _ _ _ _ _ _ _; refine KSeq.normal ?_)
    | (show KEnd _ _ _ _ _ _ _; refine KEnd.fin (Or.inr rfl) ⟨_, (ResL.cell rfl (LoadV.aggH tabOk rfl rfl (by exact H) (by exact rfl)) ResL.nil), ?_⟩))
  exact ⟨rfl, H.drop⟩
theorem aheadR_any (H : Holds I w L) {a b : Nat} (ha : a < M) (hb : b < M) : Rets Try.prog F_tithingref12_ahead #[.int .i64 (b : Nat), .int .i64 (a : Nat)] w fun u w' => u = .int .i64 (fromS a b : Nat) ∧ Holds I w' L := by
  unfold M at ha hb
  have e1 : IntKind.i64.wrap ((b : Int) - a) = (b : Int) - a := wrap_i64 (by omega) (by omega)
  have e3 : IntKind.i64.wrap ((b : Int) - a + 4294967296) = ((b + M - a : Nat) : Int) := by unfold M; rw [wrap_i64 (by omega) (by omega)]; omega
  have e2 : ((b + M - a : Nat) : Int).tmod 4294967296 = ((fromS a b : Nat) : Int) := by rw [Int.tmod_eq_emod_of_nonneg (by omega)]; rfl
  refine ok_tithingref12_ahead.rets rfl ?_
  repeat' (first
    | rw [e1]
    | rw [e3]
    | (show VcL _ _ _ _ _ _ _ _; first
      | refine VcL.pures tabOk rfl ?_
      | refine VcL.nil ?_)
    | (show Vc _ _ _ _ _ _; first
      | refine Vc.seq ?_
      | refine Vc.region ?_
      | refine Vc.ret ?_)
    | (show KSeq _ _ _ _ _ _ _; refine KSeq.normal ?_)
    | (show KEnd _ _ _ _ _ _ _; refine KEnd.fin (Or.inr rfl) ⟨_, (ResL.tmp rfl ResL.nil), ?_⟩))
  exact ⟨rfl, H⟩
theorem ResetR_any {e : Nat} {E : En} (H : Holds I w (refA I e E :: L)) : Rets Try.prog F_tithingref12_End_Reset #[ptr e] w fun u w' => u = .int .i64 (resetS E).2 ∧ Holds I w' (refA I e (resetS E).1 :: L) := by
  obtain ⟨A1, c1, A2, c2, av, A3, c3, cd, hm, HB⟩ := ref_open H
  clear H
  have H := HB
  clear HB
  have ok := hm.ok
  have hb := ok.base
  have ho := ok.out
  unfold M at hb
  have e1 : IntKind.i64.wrap ((E.base : Int) + (E.out.length : Nat)) = ((E.base + E.out.length : Nat) : Int) := by rw [wrap_i64 (by omega) (by omega)]; omega
  have e2 : ((E.base + E.out.length : Nat) : Int).tmod 4294967296 = ((plusS E.base E.out.length : Nat) : Int) := by rw [Int.tmod_eq_emod_of_nonneg (by omega)]; rfl
  unfold resetS
  refine ok_tithingref12_End_Reset.rets rfl ?_
  repeat' (first
    | rw [e1]
    | (show VcL _ _ _ _ _ _ _ _; first
      | refine VcL.pures tabOk rfl ?_
      | refine VcL.nil ?_
      | (show VcL _ _ _ _ (⟨_, .load _ _, _, _, _, _⟩ :: _) _ _ _; refine VcL.load1 tabOk rfl rfl rfl rfl rfl (by exact Holds.cell H rfl) ?_)
      | (show VcL _ _ _ _ (⟨_, .store _ _ _, _, _, _, _⟩ :: _) _ _ _; refine VcL.store tabOk rfl (by exact H) rfl rfl (by exact rfl) (by exact rfl) (by exact rfl) (by exact rfl) (fun w H => ?_)))
    | (show VcD _ _ _ _ _ _ _ _ _; first
      | refine VcD.pures tabOk rfl ?_
      | refine VcD.done ?_
      | (show VcD _ _ _ _ _ (.take _ _) _ _ _; refine VcD.load1 tabOk rfl rfl rfl rfl rfl rfl (by intro w_ hw_; exact hw_ _ _ rfl) (by exact rfl) ?_)
      | (show VcD _ _ _ _ _ (.only _ _) _ _ _; (refine VcD.eff rfl rfl rfl rfl (OpE.store tabOk (by exact H) rfl rfl rfl (by exact rfl) (by exact rfl) (by exact rfl) (by exact rfl)) ?_; rintro _ w ⟨_, H⟩; refine ⟨(by trivial), ?_⟩)))
    | (show Vc _ _ _ _ _ _; first
      | refine Vc.seq ?_
      | refine Vc.region ?_
      | refine Vc.ret ?_
      | refine Vc.skip ?_
      | (refine Vc.drawn (id := 3) (.pure 0 (.pure 1 (.pure 2 (.pure 3 (.pure 5 (.pure 6 (.pure 7 (.take 4 (.take 8 (.pure 9 (.pure 10 (.pure 11 (.pure 12 (.pure 13 (.only 14 .done))))))))))))))) (.till (fun w => Rd w e 0 (refV E ⟨.slice A1 E.out.length c1, .slice A2 E.inn.length c2, av, .slice A3 cd.length c3, cd⟩)) 14 (.one (fun _ => True))) mixed (by kernel_rfl) (by exact Holds.rdWhole (Holds.drew H _)) ?_; have H := H.drew (w.drawn + 1))
      | (refine Vc.cond rfl (fun h => ?_) (fun h => ?_) <;> first | (with_reducible have hp := ndec_t h) | (with_reducible have hp := ndec_f h)))
    | (show KSeq _ _ _ _ _ _ _; first
      | refine KSeq.normal ?_
      | refine KSeq.ret ?_)
    | (show KEnd _ _ _ _ _ _ _; refine KEnd.fin (Or.inr rfl) ⟨_, (ResL.tmp rfl ResL.nil), ?_⟩))
  · rw [if_pos (by omega)]
    exact ⟨rfl, ref_close _ hm H⟩
  · rw [if_neg (by omega)]
    exact ⟨rfl, ref_close ⟨.slice none 0 0, .slice A2 E.inn.length c2, av, .slice A3 cd.length c3, cd⟩ ⟨{ ok with base := plusS_lt _ _, out := Nat.zero_le _, resetAt := plusS_lt _ _ }, hm.still, hm.news, hm.codes, hm.each⟩ (Holds.re [1, 0] (Holds.own_nil (H.drop1)) rfl)⟩
theorem AttendR_any {e : Nat} {E : En} (H : Holds I w (refA I e E :: L)) {v : Value} {l : By} (hv : SlR I L v 1 l.length (byL l)) : Rets Try.prog F_tithingref12_End_Attend #[ptr e, v] w fun u w' => ∃ J, Imm.Le I J ∧ u = .int .i64 (attendS E l).2 ∧ Holds J w' (refA J e (attendS E l).1 :: L) := by
  obtain ⟨A, cap, rfl, hcap⟩ := hv.form
  obtain ⟨A1, c1, A2, c2, av, A3, c3, cd, hm, HB⟩ := ref_open H
  clear H
  have H := HB
  clear HB
  have ok := hm.ok
  have hv' := hv.ups [blk e 88 (refV E ⟨.slice A1 E.out.length c1, .slice A2 E.inn.length c2, av, .slice A3 cd.length c3, cd⟩), own (.slice A1 E.out.length c1) 105 2 E.out.length (E.out.flatMap bfC), own (.slice A2 E.inn.length c2) 105 2 E.inn.length (E.inn.flatMap bfC), own (.slice A3 cd.length c3) 22 1 cd.length (cd.flatMap bkC)]
  unfold attendS
  refine ok_tithingref12_End_Attend.rets rfl ?_
  repeat' (first
    | (refine VcL.append (m := l.length) (ds := byL l) tabOk rfl rfl rfl rfl H (SlR.src (v := .slice A l.length cap) (hv'.ups [_]) H) (byL_one l) (by show (_ + _) * 1 ≤ _; omega) rfl rfl rfl (fun v_ w H => ?_); obtain ⟨_, A7, c7, rfl⟩ := Holds.own_len H)
    | (show VcL _ _ _ _ _ _ _ _; first
      | refine VcL.pures tabOk rfl ?_
      | refine VcL.nil ?_
      | (show VcL _ _ _ _ (⟨_, .load _ _, _, _, _, _⟩ :: _) _ _ _; refine VcL.load1 tabOk rfl rfl rfl rfl rfl (by exact Holds.cell H rfl) ?_)
      | refine VcL.buildSlice tabOk H rfl rfl rfl rfl rfl rfl (fun sv w H => ?_)
      | (show VcL _ _ _ _ (⟨_, .store _ _ _, _, _, _, _⟩ :: _) _ _ _; refine VcL.store tabOk rfl (by first | exact H | exact (Holds.f1 H)) rfl rfl (by exact rfl) (by exact rfl) (by exact rfl) (by exact rfl) (fun w H => ?_)))
    | (show Vc _ _ _ _ _ _; first
      | refine Vc.seq ?_
      | refine Vc.region ?_
      | refine Vc.ret ?_
      | refine Vc.skip ?_
      | refine Vc.block ?_
      | (refine Vc.cond rfl (fun h => ?_) (fun h => ?_) <;> first | (with_reducible have hp := of_decide_eq_true h) | (with_reducible have hp := of_decide_eq_false h) | (with_reducible have hp := ndec_t h) | (with_reducible have hp := ndec_f h) | skip))
    | (show KSeq _ _ _ _ _ _ _; first
      | refine KSeq.normal ?_
      | refine KSeq.ret ?_)
    | (show KBlock _ _ _ _ _ _; first
      | refine KBlock.normal ?_
      | refine KBlock.ret ?_)
    | (show KEnd _ _ _ _ _ _ _; refine KEnd.fin (Or.inr rfl) ⟨_, (ResL.tmp rfl ResL.nil), ?_⟩))
  · rw [if_pos (by omega)]
    exact ⟨I, Imm.Le.rfl' I, rfl, ref_close _ hm H⟩
  · rw [if_neg (by omega), if_pos (by assumption)]
    exact ⟨I, Imm.Le.rfl' I, rfl, ref_close _ hm H⟩
  · rw [if_neg (by omega), if_neg (by simp_all), if_pos (by omega)]
    exact ⟨I, Imm.Le.rfl' I, rfl, ref_close _ hm H⟩
  · rw [if_neg (by omega), if_neg (by simp_all), if_neg (by omega)]
    rw [repL0, List.nil_append, Nat.zero_add l.length] at H
    obtain ⟨J, hJ, H, hs⟩ := Holds.freezeOwn (Holds.f1 H)
    exact ⟨J, hJ, rfl, ref_close ⟨.slice A1 E.out.length c1, .slice A2 E.inn.length c2, .slice A7 l.length c7, .slice A3 cd.length c3, cd⟩ ⟨{ ok with news := fun b hb => (by cases hb; omega) }, hm.still, fun b hb => (by cases hb; exact hs), hm.codes, fun c hc => (hm.each c hc).mono hJ⟩ H⟩
theorem CloseR_any {e : Nat} {E : En} (H : Holds I w (refA I e E :: L)) : Rets Try.prog F_tithingref12_End_Close #[ptr e] w fun u w' => u = .tuple #[.agg #[.int .i64 (closeS E).2.1.kind, .int .i64 (closeS E).2.1.id, .int .i64 (closeS E).2.1.seq, .int .i64 (closeS E).2.1.n, .slice none 0 0], .int .i64 (closeS E).2.2] ∧ Holds I w' (refA I e (closeS E).1 :: L) := by
  obtain ⟨A1, c1, A2, c2, av, A3, c3, cd, hm, HB⟩ := ref_open H
  clear H
  have H := HB
  clear HB
  have ok := hm.ok
  unfold closeS
  refine ok_tithingref12_End_Close.rets rfl ?_
  repeat' (first
    | (show VcL _ _ _ _ _ _ _ _; first
      | refine VcL.pures tabOk rfl ?_
      | refine VcL.nil ?_
      | (show VcL _ _ _ _ (⟨_, .load _ _, _, _, _, _⟩ :: _) _ _ _; refine VcL.load1 tabOk rfl rfl rfl rfl rfl (by first | exact Holds.cell H rfl | exact Holds.cell (Holds.f1 H) rfl) ?_)
      | refine VcL.alloc tabOk H rfl rfl rfl rfl (fun b w H => ?_)
      | (show VcL _ _ _ _ (⟨_, .store _ _ _, _, _, _, _⟩ :: _) _ _ _; refine VcL.store tabOk rfl (by first | exact H | exact (Holds.f1 H)) rfl rfl (by exact rfl) (by exact rfl) (by exact rfl) (by exact rfl) (fun w H => ?_)))
    | (show Vc _ _ _ _ _ _; first
      | refine Vc.seq ?_
      | refine Vc.region ?_
      | refine Vc.ret ?_
      | refine Vc.skip ?_
      | (refine Vc.cond rfl (fun h => ?_) (fun h => ?_) <;> first | (with_reducible have hp := ndec_t h) | (with_reducible have hp := ndec_f h)))
    | (show KSeq _ _ _ _ _ _ _; first
      | refine KSeq.normal ?_
      | refine KSeq.ret ?_)
    | (show KEnd _ _ _ _ _ _ _; refine KEnd.fin (Or.inr rfl) ⟨_, (ResL.cell rfl (LoadV.aggH tabOk rfl rfl (by exact H) (by exact rfl)) (ResL.tmp rfl ResL.nil)), ?_⟩))
  · rw [if_pos (by omega)]
    exact ⟨rfl, ref_close _ hm (Holds.drop H)⟩
  · rw [if_neg (by omega)]
    exact ⟨rfl, ref_close _ ⟨{ ok with state := Nat.le_refl _ }, fun h => absurd h (by show ¬ 4 ≤ 2; omega), hm.news, hm.codes, hm.each⟩ (Holds.drop H)⟩
end Go.Proofs.Ytpfgcchammlpgaa.V
