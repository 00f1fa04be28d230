/- The program's end in memory, and what is asked of it. -/
import Derived.Test.YtpfgcchammlpgaaVA
namespace Go.Proofs.Ytpfgcchammlpgaa.V
open Go Go.Proofs.YtpfgcchammlpgaaV
set_option linter.unusedVariables false
set_option linter.unusedSimpArgs false
set_option maxHeartbeats 1000000
set_option maxRecDepth 4000
attribute [local irreducible] IntKind.wrap
variable {I : Imm} {w : World} {L : List Asn}
def ntC (n : Nat) : List Value := [.int .i64 (n : Int)]
theorem ntC_len (n : Nat) : (ntC n).length = 1 := rfl
theorem ntC_one (l : List Nat) : ∀ u ∈ l.flatMap ntC, oneC u = true := fun u hu => by
  obtain ⟨x, _, hu⟩ := List.mem_flatMap.1 hu
  simp only [ntC, List.mem_singleton] at hu
  rw [hu]; rfl
abbrev Vb := Value × By
def bkC (x : Vb) : List Value := [x.1]
theorem bkC_len (x : Vb) : (bkC x).length = 1 := rfl
theorem CloneB_any (H : Holds I w L) {v : Value} {n : Nat} {cs : List Value} (hv : SlR I L v 1 n cs) (h1 : ∀ u ∈ cs, oneC u = true) (hn : n * 1 ≤ 2 ^ 46) : Rets Try.prog F_slices_Clone_byte_byte #[v] w fun u w' => Holds I w' (own u 5 1 n cs :: L) := by
  obtain ⟨A, cap, rfl, hcap⟩ := hv.form
  have hlen := hv.len
  cases A with
  | none =>
    refine ok_slices_Clone_byte_byte.rets rfl ?_
    repeat' (first
      | (show VcL _ _ _ _ _ _ _ _; first
      | refine VcL.pures tabOk rfl ?_
      | refine VcL.nil ?_)
      | (show Vc _ _ _ _ _ _; first
      | refine Vc.seq ?_
      | refine Vc.region ?_
      | refine Vc.condT rfl ?_
      | refine Vc.ret ?_)
      | (show KSeq _ _ _ _ _ _ _; first
      | refine KSeq.normal ?_
      | refine KSeq.ret ?_)
      | (show KEnd _ _ _ _ _ _ _; refine KEnd.fin (Or.inr rfl) ⟨_, (ResL.tmp rfl ResL.nil), ?_⟩))
    obtain ⟨A', cap', e, h2, h3, h4, h5⟩ := hv.out
    injection e with e1 e2 e3
    obtain ⟨rfl, _⟩ := h4 e1.symm
    have : cs = [] := by simpa using hlen
    subst this
    exact H.own_nil
  | some a =>
    refine ok_slices_Clone_byte_byte.rets rfl ?_
    repeat' (first
      | (refine VcL.append tabOk rfl rfl rfl rfl H (SlR.src hv (Holds.drop H)) h1 (by show (0 + n) * 1 ≤ 2 ^ 46; omega) rfl rfl rfl (fun sv w H => ?_))
      | (show VcL _ _ _ _ _ _ _ _; first
      | refine VcL.pures tabOk rfl ?_
      | refine VcL.nil ?_
      | refine VcL.buildSlice tabOk H rfl rfl rfl rfl rfl rfl (fun sv w H => ?_))
      | (show Vc _ _ _ _ _ _; first
      | refine Vc.seq ?_
      | refine Vc.region ?_
      | refine Vc.condF rfl ?_
      | refine Vc.ret ?_
      | refine Vc.skip ?_)
      | (show KSeq _ _ _ _ _ _ _; refine KSeq.normal ?_)
      | (show KEnd _ _ _ _ _ _ _; refine KEnd.fin (Or.inr rfl) ⟨_, (ResL.tmp rfl ResL.nil), ?_⟩))
    simpa [repL, resVal] using H
structure EnM where mk ::
  ov : Value
  ev : Value
  iv : Value
  mv : Value
  nv : Value
  cv : Value
  cd : List Vb
def endV (E : En) (m : EnM) : List Value := [.int .i64 (E.num : Nat), .int .i64 (E.other : Nat), .int .i64 (E.state : Nat), .int .i64 (E.first : Nat), .int .i64 (E.base : Nat), m.ov, m.ev, .int .i64 (E.room : Nat), .int .i64 (E.want : Nat), m.iv, m.mv, .bool E.resets, .int .i64 (E.resetAt : Nat), m.nv, .bool E.news.isSome, .int .i64 (E.seq : Nat), .int .i64 (E.next : Nat), m.cv, .int .i64 (E.age : Nat), .int .i64 (E.quiet : Nat)]
/-- Attention on its way. -/
def newsOk (I : Imm) (v : Value) : Option By → Prop
  | none => v = .slice none 0 0
  | some b => SlI I v 1 b.length (byL b)
theorem newsOk.mono {I J : Imm} {v : Value} {o : Option By} (h : newsOk I v o) (hl : Imm.Le I J) : newsOk J v o := by
  cases o with
  | none => exact h
  | some b => exact SlI.mono h hl
structure EnF (I : Imm) (E : En) (m : EnM) : Prop where mk ::
  ok : EnOk E
  news : newsOk I m.nv E.news
  codes : m.cd.map (·.2) = E.codes
  each : ∀ c ∈ m.cd, SlI I c.1 1 c.2.length (byL c.2)
theorem EnF.mono {I J : Imm} {E : En} {m : EnM} (h : EnF I E m) (hl : Imm.Le I J) : EnF J E m := ⟨h.ok, h.news.mono hl, h.codes, fun c hc => (h.each c hc).mono hl⟩
/-- The parts of an end. -/
abbrev endQ (e : Nat) (E : En) (m : EnM) (ob : By) (es : List Nat) (ib : By) (ms : List Nat) (L : List Asn) : List Asn :=
  blk e 56 (endV E m) :: own m.ov 5 1 ob.length (byL ob) :: own m.ev 3 1 es.length (es.flatMap ntC) ::
  own m.iv 5 1 ib.length (byL ib) :: own m.mv 3 1 ms.length (ms.flatMap ntC) :: own m.cv 22 1 m.cd.length (m.cd.flatMap bkC) :: L
structure EnL (E : En) (ob : By) (es : List Nat) (ib : By) (ms : List Nat) : Prop where mk ::
  out : E.out.map (·.1) = ob
  ends : endsL E.base E.out = es
  inn : E.inn.map (·.1) = ib
  marks : marksL 0 E.inn = ms
theorem EnL.outL {E : En} {ob : By} {es : List Nat} {ib : By} {ms : List Nat} (h : EnL E ob es ib ms) : ob.length = E.out.length := by rw [← h.out, List.length_map]
theorem EnL.innL {E : En} {ob : By} {es : List Nat} {ib : By} {ms : List Nat} (h : EnL E ob es ib ms) : ib.length = E.inn.length := by rw [← h.inn, List.length_map]
def endA (I : Imm) (e : Nat) (E : En) : Asn := ex fun m : EnM => fact (EnF I E m) (star (blk e 56 (endV E m)) (star (own m.ov 5 1 (E.out.map (·.1)).length (byL (E.out.map (·.1)))) (star (own m.ev 3 1 (endsL E.base E.out).length ((endsL E.base E.out).flatMap ntC))
  (star (own m.iv 5 1 (E.inn.map (·.1)).length (byL (E.inn.map (·.1)))) (star (own m.mv 3 1 (marksL 0 E.inn).length ((marksL 0 E.inn).flatMap ntC)) (own m.cv 22 1 m.cd.length (m.cd.flatMap bkC)))))))
theorem end_iff {J : Imm} {e : Nat} {E : En} : Holds I w (endA J e E :: L) ↔ ∃ m, EnF J E m ∧ Holds I w (endQ e E m (E.out.map (·.1)) (endsL E.base E.out) (E.inn.map (·.1)) (marksL 0 E.inn) L) := by
  unfold endA
  rw [Holds.ex]
  constructor
  · rintro ⟨m, H⟩
    obtain ⟨h, H⟩ := Holds.fact.1 H
    refine ⟨m, h, ?_⟩
    have H := (Holds.star.1 H).swap
    have H := (Holds.star.1 H).swap
    have H := (Holds.star.1 H).swap
    have H := (Holds.star.1 H).swap
    have H := Holds.star.1 H
    exact H.re [5, 4, 3, 2, 0, 0] rfl
  · rintro ⟨m, h, H⟩
    refine ⟨m, Holds.fact.2 ⟨h, ?_⟩⟩
    refine Holds.star.2 (Holds.swap ?_)
    refine Holds.star.2 (Holds.swap ?_)
    refine Holds.star.2 (Holds.swap ?_)
    refine Holds.star.2 (Holds.swap ?_)
    refine Holds.star.2 ?_
    exact H.re [4, 4, 3, 2, 1, 0] rfl
/-- An end laid open: its slices have the form of slices. -/
theorem end_open {e : Nat} {E : En} (H : Holds I w (endA I e E :: L)) : ∃ A1 c1 A2 c2 A3 c3 A4 c4 A5 c5 nv, ∃ cd : List Vb, ∃ ob es ib ms, EnL E ob es ib ms ∧ EnF I E ⟨.slice A1 ob.length c1, .slice A2 es.length c2, .slice A3 ib.length c3, .slice A4 ms.length c4, nv, .slice A5 cd.length c5, cd⟩ ∧
    Holds I w (endQ e E ⟨.slice A1 ob.length c1, .slice A2 es.length c2, .slice A3 ib.length c3, .slice A4 ms.length c4, nv, .slice A5 cd.length c5, cd⟩ ob es ib ms L) := by
  obtain ⟨⟨ov, ev, iv, mv, nv, cv, cd⟩, hm, H⟩ := end_iff.1 H
  obtain ⟨_, A1, c1, rfl⟩ := Holds.own_len (Holds.f1 H)
  obtain ⟨_, A2, c2, rfl⟩ := Holds.own_len (Holds.f2 H)
  obtain ⟨_, A3, c3, rfl⟩ := Holds.own_len (Holds.f3 H)
  obtain ⟨_, A4, c4, rfl⟩ := Holds.own_len (Holds.f4 H)
  obtain ⟨_, A5, c5, h5⟩ := Holds.own_len (Holds.f5 H)
  have h5 : cv = .slice A5 cd.length c5 := h5
  subst h5
  exact ⟨A1, c1, A2, c2, A3, c3, A4, c4, A5, c5, nv, cd, _, _, _, _, ⟨rfl, rfl, rfl, rfl⟩, hm, H⟩
theorem end_close {e : Nat} {E : En} {ob : By} {es : List Nat} {ib : By} {ms : List Nat} (m : EnM) (h : EnF I E m) (hl : EnL E ob es ib ms) (H : Holds I w (endQ e E m ob es ib ms L)) : Holds I w (endA I e E :: L) := by
  obtain ⟨rfl, rfl, rfl, rfl⟩ := hl
  exact end_iff.2 ⟨m, h, H⟩
theorem Holds.endUp {J : Imm} {e : Nat} {E : En} (hl : Imm.Le I J) (H : Holds J w (endA I e E :: L)) : Holds J w (endA J e E :: L) := by
  obtain ⟨m, h, H⟩ := end_iff.1 H
  exact end_iff.2 ⟨m, h.mono hl, H⟩
theorem none_any (H : Holds I w L) {e : Nat} {E : En} {m : EnM} (hd : RdW I L e 0 (endV E m)) (h0 : 0 < E.num) : Rets Try.prog F_stream_End_none #[ptr e] w fun u w' => u = .bool false ∧ Holds I w' L := by
  have e0 : decide ((E.num : Int) = 0) = false := decide_eq_false (by omega)
  have hd := RdW.one hd (k := 0) rfl
  refine ok_stream_End_none.rets rfl ?_
  repeat' (first
    | rw [e0]
    | (show VcL _ _ _ _ _ _ _ _; first
      | refine VcL.pures tabOk rfl ?_
      | refine VcL.nil ?_
      | (show VcL _ _ _ _ (⟨_, .load _ _, _, _, _, _⟩ :: _) _ _ _; refine VcL.load1 tabOk rfl rfl rfl rfl rfl (by exact RdW.get0 (by assumption) rfl H) ?_)
      | (refine VcL.guard rfl rfl rfl rfl (fun h => ?_) (fun h => ?_) <;> first | (cases h; done) | skip))
    | (show Vc _ _ _ _ _ _; first
      | refine Vc.seq ?_
      | refine Vc.region ?_
      | refine Vc.ret ?_)
    | (show KSeq _ _ _ _ _ _ _; refine KSeq.normal ?_)
    | (show KEnd _ _ _ _ _ _ _; refine KEnd.fin (Or.inr rfl) ⟨_, (ResL.tmp rfl ResL.nil), ?_⟩))
  exact ⟨rfl, H⟩
theorem noneZ_any (H : Holds I w L) {e : Nat} (hd : RdW I L e 0 [.int .i64 0]) : Rets Try.prog F_stream_End_none #[ptr e] w fun u w' => u = .bool true ∧ Holds I w' L := by
  refine ok_stream_End_none.rets rfl ?_
  repeat' (first
    | (show VcL _ _ _ _ _ _ _ _; first
      | refine VcL.pures tabOk rfl ?_
      | refine VcL.nil ?_
      | (show VcL _ _ _ _ (⟨_, .load _ _, _, _, _, _⟩ :: _) _ _ _; refine VcL.load1 tabOk rfl rfl rfl rfl rfl (by exact RdW.get0 (by assumption) rfl H) ?_)
      | (refine VcL.guard rfl rfl rfl rfl (fun h => ?_) (fun h => ?_) <;> first | (cases h; done) | skip))
    | (show Vc _ _ _ _ _ _; first
      | refine Vc.seq ?_
      | refine Vc.region ?_
      | refine Vc.ret ?_)
    | (show KSeq _ _ _ _ _ _ _; refine KSeq.normal ?_)
    | (show KEnd _ _ _ _ _ _ _; refine KEnd.fin (Or.inr rfl) ⟨_, (ResL.tmp rfl ResL.nil), ?_⟩))
  exact ⟨rfl, H⟩
theorem noneN_any (H : Holds I w L) : Rets Try.prog F_stream_End_none #[.pointer none] w fun u w' => u = .bool true ∧ Holds I w' L := by
  refine ok_stream_End_none.rets rfl ?_
  repeat' (first
    | (show VcL _ _ _ _ _ _ _ _; first
      | refine VcL.pures tabOk rfl ?_
      | refine VcL.nil ?_
      | (refine VcL.guard rfl rfl rfl rfl (fun h => ?_) (fun h => ?_) <;> first | (cases h; done) | skip))
    | (show Vc _ _ _ _ _ _; first
      | refine Vc.seq ?_
      | refine Vc.region ?_
      | refine Vc.ret ?_)
    | (show KSeq _ _ _ _ _ _ _; refine KSeq.normal ?_)
    | (show KEnd _ _ _ _ _ _ _; refine KEnd.fin (Or.inr rfl) ⟨_, (ResL.tmp rfl ResL.nil), ?_⟩))
  exact ⟨rfl, H⟩
theorem plus_any (H : Holds I w L) {a b : Nat} (ha : a < 2 ^ 61) (hb : b < 2 ^ 61) : Rets Try.prog F_stream_plus #[.int .i64 (a : Nat), .int .i64 (b : Nat)] w fun u w' => u = .int .i64 (plusS a b : Nat) ∧ Holds I w' L := by
  have e1 : IntKind.i64.wrap ((a : Int) + b) = ((a + b : Nat) : Int) := by rw [wrap_i64 (by omega) (by omega)]; omega
  have e2 : ((a + b : Nat) : Int).tmod (Int.ofNat (4294967295 + 1)) = ((plusS a b : Nat) : Int) := by rw [Int.tmod_eq_emod_of_nonneg (by omega)]; rfl
  refine ok_stream_plus.rets rfl ?_
  repeat' (first
    | rw [e1]
    | rw [e2]
    | (show VcL _ _ _ _ _ _ _ _; first
      | refine VcL.pures tabOk rfl ?_
      | refine VcL.nil ?_)
    | (show Vc _ _ _ _ _ _; first
      | refine Vc.seq ?_
      | refine Vc.region ?_
      | refine Vc.ret ?_)
    | (show KSeq _ _ _ _ _ _ _; refine KSeq.normal ?_)
    | (show KEnd _ _ _ _ _ _ _; refine KEnd.fin (Or.inr rfl) ⟨_, (ResL.tmp rfl ResL.nil), ?_⟩))
  exact ⟨rfl, H⟩
theorem from_any (H : Holds I w L) {a b : Nat} (ha : a < M) (hb : b < M) : Rets Try.prog F_stream_from #[.int .i64 (a : Nat), .int .i64 (b : Nat)] w fun u w' => u = .int .i64 (fromS a b : Nat) ∧ Holds I w' L := by
  unfold M at ha hb
  have e1 : IntKind.i64.wrap ((b : Int) - a) = (b : Int) - a := wrap_i64 (by omega) (by omega)
  have e3 : IntKind.i64.wrap ((b : Int) - a + 4294967296) = ((b + M - a : Nat) : Int) := by unfold M; rw [wrap_i64 (by omega) (by omega)]; omega
  have e2 : ((b + M - a : Nat) : Int).tmod (Int.ofNat (4294967295 + 1)) = ((fromS a b : Nat) : Int) := by rw [Int.tmod_eq_emod_of_nonneg (by omega)]; rfl
  refine ok_stream_from.rets rfl ?_
  repeat' (first
    | rw [e1]
    | rw [e3]
    | rw [e2]
    | (show VcL _ _ _ _ _ _ _ _; first
      | refine VcL.pures tabOk rfl ?_
      | refine VcL.nil ?_)
    | (show Vc _ _ _ _ _ _; first
      | refine Vc.seq ?_
      | refine Vc.region ?_
      | refine Vc.ret ?_)
    | (show KSeq _ _ _ _ _ _ _; refine KSeq.normal ?_)
    | (show KEnd _ _ _ _ _ _ _; refine KEnd.fin (Or.inr rfl) ⟨_, (ResL.tmp rfl ResL.nil), ?_⟩))
  exact ⟨rfl, H⟩
theorem begin_any {e : Nat} {E : En} (H : Holds I w (endA I e E :: L)) {s : Nat} (hs : s ≤ 4) : Rets Try.prog F_stream_End_begin #[ptr e, .int .i64 (s : Nat)] w fun u w' => u = .int .i64 (beginS E s).2 ∧ Holds I w' (endA I e (beginS E s).1 :: L) := by
  obtain ⟨A1, c1, A2, c2, A3, c3, A4, c4, A5, c5, nv, cd, ob, es, ib, ms, hl, hm, HB⟩ := end_open H
  clear H
  have H := HB
  clear HB
  have ok := hm.ok
  refine ok_stream_End_begin.rets rfl ?_
  repeat' (first
    | (show VcL _ _ _ _ _ _ _ _; first
      | refine VcL.pures tabOk rfl ?_
      | refine VcL.nil ?_
      | (show VcL _ _ _ _ (⟨_, .load _ _, _, _, _, _⟩ :: _) _ _ _; refine VcL.load1 tabOk rfl rfl rfl rfl rfl (by exact Holds.cell H rfl) ?_)
      | (show VcL _ _ _ _ (⟨_, .store _ _ _, _, _, _, _⟩ :: _) _ _ _; refine VcL.store tabOk rfl (by exact H) rfl rfl (by exact rfl) (by exact rfl) (by exact rfl) (by exact rfl) (fun w H => ?_))
      | (show VcL _ _ _ _ (⟨_, .call ⟨.value (.func F_stream_End_none), _, _⟩, _, _, _, _⟩ :: _) _ _ _; (refine VcL.callF ok_stream_End_none rfl rfl rfl rfl (Rets.mono (none_any H Holds.toW ok.num.1) ?_); rintro _ w ⟨rfl, H⟩)))
    | (show Vc _ _ _ _ _ _; first
      | refine Vc.seq ?_
      | refine Vc.region ?_
      | refine Vc.condF rfl ?_
      | refine Vc.ret ?_
      | refine Vc.skip ?_
      | refine Vc.block ?_
      | (refine Vc.cond rfl (fun h => ?_) (fun h => ?_) <;> first | (with_reducible have hp := ndec_t h) | (with_reducible have hp := ndec_f h)))
    | (show KSeq _ _ _ _ _ _ _; first
      | refine KSeq.normal ?_
      | refine KSeq.ret ?_)
    | (show KBlock _ _ _ _ _ _; first
      | refine KBlock.normal ?_
      | refine KBlock.ret ?_)
    | (show KEnd _ _ _ _ _ _ _; refine KEnd.fin (Or.inr rfl) ⟨_, (ResL.tmp rfl ResL.nil), ?_⟩))
  · have h0 : E.state ≠ 0 := by omega
    unfold beginS
    rw [if_pos h0]
    exact ⟨rfl, end_close _ hm hl H⟩
  · have h0 : ¬ E.state ≠ 0 := by omega
    unfold beginS
    rw [if_neg h0]
    exact ⟨rfl, end_close _ ⟨{ ok with state := hs }, hm.news, hm.codes, hm.each⟩ ⟨hl.out, hl.ends, hl.inn, hl.marks⟩ H⟩
theorem Open_any {e : Nat} {E : En} (H : Holds I w (endA I e E :: L)) : Rets Try.prog F_stream_End_Open #[ptr e] w fun u w' => u = .int .i64 (beginS E 2).2 ∧ Holds I w' (endA I e (beginS E 2).1 :: L) := by
  refine ok_stream_End_Open.rets rfl ?_
  repeat' (first
    | (show VcL _ _ _ _ _ _ _ _; first
      | refine VcL.pures tabOk rfl ?_
      | refine VcL.nil ?_
      | (show VcL _ _ _ _ (⟨_, .call ⟨.value (.func F_stream_End_begin), _, _⟩, _, _, _, _⟩ :: _) _ _ _; (refine VcL.callF ok_stream_End_begin rfl rfl rfl rfl (Rets.mono (begin_any (s := 2) H (by omega)) ?_); rintro _ w ⟨rfl, H⟩)))
    | (show Vc _ _ _ _ _ _; first
      | refine Vc.seq ?_
      | refine Vc.region ?_
      | refine Vc.ret ?_)
    | (show KSeq _ _ _ _ _ _ _; refine KSeq.normal ?_)
    | (show KEnd _ _ _ _ _ _ _; refine KEnd.fin (Or.inr rfl) ⟨_, (ResL.tmp rfl ResL.nil), ?_⟩))
  exact ⟨rfl, H⟩
theorem Listen_any {e : Nat} {E : En} (H : Holds I w (endA I e E :: L)) : Rets Try.prog F_stream_End_Listen #[ptr e] w fun u w' => u = .int .i64 (beginS E 1).2 ∧ Holds I w' (endA I e (beginS E 1).1 :: L) := by
  refine ok_stream_End_Listen.rets rfl ?_
  repeat' (first
    | (show VcL _ _ _ _ _ _ _ _; first
      | refine VcL.pures tabOk rfl ?_
      | refine VcL.nil ?_
      | (show VcL _ _ _ _ (⟨_, .call ⟨.value (.func F_stream_End_begin), _, _⟩, _, _, _, _⟩ :: _) _ _ _; (refine VcL.callF ok_stream_End_begin rfl rfl rfl rfl (Rets.mono (begin_any (s := 1) H (by omega)) ?_); rintro _ w ⟨rfl, H⟩)))
    | (show Vc _ _ _ _ _ _; first
      | refine Vc.seq ?_
      | refine Vc.region ?_
      | refine Vc.ret ?_)
    | (show KSeq _ _ _ _ _ _ _; refine KSeq.normal ?_)
    | (show KEnd _ _ _ _ _ _ _; refine KEnd.fin (Or.inr rfl) ⟨_, (ResL.tmp rfl ResL.nil), ?_⟩))
  exact ⟨rfl, H⟩
theorem asked_any (H : Holds I w L) {e : Nat} {E : En} {m : EnM} (hd : RdW I L e 0 (endV E m)) (ok : EnOk E) : Rets Try.prog F_stream_End_asked #[ptr e] w fun u w' => u = .int .i64 (if E.state ≠ 3 then 110 else 0) ∧ Holds I w' L := by
  refine ok_stream_End_asked.rets rfl ?_
  repeat' (first
    | (show VcL _ _ _ _ _ _ _ _; first
      | refine VcL.pures tabOk rfl ?_
      | refine VcL.nil ?_
      | (show VcL _ _ _ _ (⟨_, .load _ _, _, _, _, _⟩ :: _) _ _ _; refine VcL.load1 tabOk rfl rfl rfl rfl rfl (by exact RdW.get (by assumption) rfl H) ?_)
      | (show VcL _ _ _ _ (⟨_, .call ⟨.value (.func F_stream_End_none), _, _⟩, _, _, _, _⟩ :: _) _ _ _; (refine VcL.callF ok_stream_End_none rfl rfl rfl rfl (Rets.mono (none_any H hd ok.num.1) ?_); rintro _ w ⟨rfl, H⟩)))
    | (show Vc _ _ _ _ _ _; first
      | refine Vc.seq ?_
      | refine Vc.region ?_
      | refine Vc.condF rfl ?_
      | refine Vc.ret ?_
      | refine Vc.skip ?_
      | refine Vc.block ?_
      | (refine Vc.cond rfl (fun h => ?_) (fun h => ?_) <;> first | (with_reducible have hp := ndec_t h) | (with_reducible have hp := ndec_f h)))
    | (show KSeq _ _ _ _ _ _ _; first
      | refine KSeq.normal ?_
      | refine KSeq.ret ?_)
    | (show KBlock _ _ _ _ _ _; first
      | refine KBlock.normal ?_
      | refine KBlock.ret ?_)
    | (show KEnd _ _ _ _ _ _ _; refine KEnd.fin (Or.inr rfl) ⟨_, (ResL.tmp rfl ResL.nil), ?_⟩))
  · rw [if_pos (by omega)]
    exact ⟨rfl, H⟩
  · rw [if_neg (by omega)]
    exact ⟨rfl, H⟩
end Go.Proofs.Ytpfgcchammlpgaa.V
