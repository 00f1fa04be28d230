/- The pair: a deed. -/
import Derived.Test.YtpfgcchammlpgaaVAG
namespace Go.Proofs.Ytpfgcchammlpgaa.V
open Go Go.Proofs.YtpfgcchammlpgaaV
set_option linter.unusedVariables false
set_option linter.unusedSimpArgs false
set_option maxHeartbeats 8000000
set_option maxRecDepth 4000
attribute [local irreducible] IntKind.wrap refA endA
variable {I : Imm} {w : World} {L : List Asn}
def stC (x : By) : List Value := [.string ⟨x.toArray⟩]
theorem stC_len (x : By) : (stC x).length = 1 := rfl
theorem stC_one (x : By) : ∀ u ∈ stC x, oneC u = true := fun u hu => by
  simp only [stC, List.mem_singleton] at hu
  rw [hu]; rfl
/-- One side: its end, what flies to it, what it has put and read, what attention it has sent. -/
structure Hf where mk ::
  E : En
  fly : List Fr
  put : List Bf
  rd : List Bf
  sent : List By
structure Mv where mk ::
  d : Int
  n : Int
  a : Bool
  data : By
structure HfF (I : Imm) (X : Hf) (fm : List Fm) : Prop where mk ::
  fly : fm.map (·.fr) = X.fly
  ok : ∀ x ∈ fm, FmOk I x
theorem HfF.mono {J : Imm} {X : Hf} {fm : List Fm} (h : HfF I X fm) (hl : Imm.Le I J) : HfF J X fm := ⟨h.fly, fun x hx => (h.ok x hx).mono hl⟩
theorem HfF.len {X : Hf} {fm : List Fm} (h : HfF I X fm) : fm.length = X.fly.length := by rw [← h.fly, List.length_map]
abbrev hfQ (I : Imm) (x : Sd) (X : Hf) (fm : List Fm) (L : List Asn) : List Asn :=
  endA I x.e X.E :: refA I x.r X.E :: own x.f 24 5 fm.length (fm.flatMap fmC) :: own x.p 102 2 X.put.length (X.put.flatMap bfC) :: own x.q 102 2 X.rd.length (X.rd.flatMap bfC) :: own x.s 9 1 X.sent.length (X.sent.flatMap stC) :: L
/-- What is bounded behind so many deeds. -/
structure Bd (k : Nat) (X : Hf) : Prop where mk ::
  codes : X.E.codes.length ≤ k
  quiet : X.E.quiet ≤ k
  age : X.E.state = 4 ∨ X.E.age ≤ 40
  fly : X.fly.length ≤ 203 * k
  flyD : ∀ f ∈ X.fly, f.data.length ≤ 300
  put : X.put.length ≤ 300 * k
  rd : X.rd.length ≤ 300 * k
  sent : X.sent.length ≤ k
def attN (E : En) (l : By) : List By := if (attendS E l).2 = 0 then [l] else []
def closeN (E : En) : List Fr := if (closeS E).2.2 = 0 then [(closeS E).2.1] else []
def rdK (E : En) (n : Int) : Nat := cutN E.inn (max n 1).toNat
def deedX (m : Mv) (X Y : Hf) : Hf × Hf :=
  if m.d = 2 then ({ X with E := (putS X.E m.data (oddB m.n)).1, put := X.put ++ putN X.E m.data (oddB m.n) }, Y)
  else if m.d = 3 then ({ X with E := { X.E with inn := X.E.inn.drop (rdK X.E m.n) }, rd := X.rd ++ X.E.inn.take (rdK X.E m.n) }, Y)
  else if m.d = 5 then ({ X with E := (attendS X.E m.data).1, sent := X.sent ++ attN X.E m.data }, Y)
  else if m.d = 6 then ({ X with E := (closeS X.E).1 }, { Y with fly := Y.fly ++ closeN X.E })
  else if m.d < 7 then ({ X with E := doE m.d X.E }, Y)
  else if m.d < 9 then ({ X with E := (tickS X.E).1 }, { Y with fly := Y.fly ++ (tickS X.E).2 })
  else if X.fly = [] then (X, Y)
  else ({ X with E := flyE m.d m.n X.E X.fly, fly := flyA m.d m.n X.fly }, { Y with fly := flyB m.d m.n X.E X.fly Y.fly })
theorem Holds.endOk {e : Nat} {E : En} (H : Holds I w (endA I e E :: L)) : EnOk E := by
  obtain ⟨_, _, _, _, _, _, _, _, _, _, _, _, _, _, _, _, _, hm, _⟩ := end_open H
  exact hm.ok
theorem hf_up {J : Imm} {x : Sd} {X : Hf} {fm : List Fm} (hl : Imm.Le I J) (H : Holds J w (hfQ I x X fm L)) : Holds J w (hfQ J x X fm L) :=
  Holds.endUp hl (Holds.swap (Holds.refUp hl (Holds.swap H)))
theorem hf_front {J : Imm} {x y : Sd} {X Y : Hf} {fx fy : List Fm} {P : Asn} (H : Holds J w (P :: hfQ I x X fx (hfQ I y Y fy L))) : Holds J w (hfQ I y Y fy (P :: hfQ I x X fx L)) := Holds.re [7, 7, 7, 7, 7, 7, 0, 0] H rfl
theorem hf_back {J K : Imm} {x y : Sd} {X Y : Hf} {fx fy : List Fm} {P : Asn} (H : Holds J w (hfQ K y Y fy (P :: hfQ I x X fx L))) : Holds J w (P :: hfQ I x X fx (hfQ K y Y fy L)) := Holds.re [6, 6, 6, 6, 6, 6, 6, 0] H rfl
theorem hf_up2 {J : Imm} {x y : Sd} {X Y : Hf} {fx fy : List Fm} {P : Asn} (hl : Imm.Le I J) (H : Holds J w (P :: hfQ J x X fx (hfQ I y Y fy L))) : Holds J w (P :: hfQ J x X fx (hfQ J y Y fy L)) :=
  hf_back (hf_up hl (Holds.re [7, 7, 7, 7, 7, 7, 0, 0] H rfl))
theorem Do0_put {p k : Nat} {a b : Sd} {X Y : Hf} {fa fb : List Fm} {n : Int} {v : Value} {l : By} (H : Holds I w (blk p 47 (pcl 0 a b) :: hfQ I a X fa (hfQ I b Y fb L))) (hx : Bd k X) (hk : k ≤ 900000) (hv : SlI I v 1 l.length (byL l)) (hl : l.length ≤ 300) :
    Rets Try.prog F_tithinglaw12_Pair_Do #[ptr p, .agg #[.int .i64 2, .int .i64 n, .bool false, v]] w fun u w' => ∃ a2 : Sd, Holds I w' (blk p 47 (pcl 0 a2 b) :: hfQ I a2 { X with E := (putS X.E l (oddB n)).1, put := X.put ++ putN X.E l (oddB n) } fa (hfQ I b Y fb L)) := by
  obtain ⟨A, cap, rfl, hcap⟩ := hv.form
  have hpl := hx.put
  refine ok_tithinglaw12_Pair_Do.rets rfl ?_
  repeat' (first
    | (show VcL _ _ _ _ (⟨_, .box 35 _, _, _, _, _⟩ :: _) _ _ _; refine VcL.box H rfl rfl rfl rfl rfl (fun mb w H => ?_))
    | (show VcL _ _ _ _ _ _ _ _; first
      | refine VcL.pures tabOk rfl ?_
      | refine VcL.nil ?_
      | (show VcL _ _ _ _ (⟨_, .load _ _, _, _, _, _⟩ :: _) _ _ _; first
      | refine VcL.load1 tabOk rfl rfl rfl rfl rfl (by exact Holds.cell H rfl) ?_
      | refine VcL.loadN tabOk rfl rfl rfl rfl rfl rfl (by exact H) (by exact rfl) ?_)
      | (show VcL _ _ _ _ (⟨_, .call ⟨.value (.func F_tithinglaw12_Pair_puts), _, _⟩, _, _, _, _⟩ :: _) _ _ _; (refine VcL.callF ok_tithinglaw12_Pair_puts rfl rfl rfl rfl (Rets.mono (puts_any (i := 0) (by decide) (a := a) (b := b) (Holds.re [1, 1, 1, 2] H rfl) hv hl (by omega)) ?_); rintro _ w ⟨pv, H⟩)))
    | (show Vc _ _ _ _ _ _; first
      | refine Vc.seq ?_
      | refine Vc.region ?_
      | refine Vc.condT rfl ?_
      | refine Vc.condF rfl ?_
      | refine Vc.skip ?_
      | refine Vc.block ?_)
    | (show KSeq _ _ _ _ _ _ _; refine KSeq.normal ?_)
    | (show KBlock _ _ _ _ _ _; refine KBlock.normal ?_)
    | (show KEnd _ _ _ _ _ _ _; refine KEnd.fin (Or.inl rfl) ⟨_, ResL.nil, ?_⟩))
  exact ⟨{ a with p := pv }, Holds.re [0, 0, 0, 1, 0] (Holds.drop (Holds.re [4] H rfl)) rfl⟩
theorem Do0_read {p k : Nat} {a b : Sd} {X Y : Hf} {fa fb : List Fm} {n : Int} {v : Option Addr} {kk c : Nat} (H : Holds I w (blk p 47 (pcl 0 a b) :: hfQ I a X fa (hfQ I b Y fb L))) (hx : Bd k X) (hk : k ≤ 900000) (hn : n ≤ 9223372036854775807) :
    Rets Try.prog F_tithinglaw12_Pair_Do #[ptr p, .agg #[.int .i64 3, .int .i64 n, .bool false, .slice v kk c]] w fun u w' => ∃ a2 : Sd, Holds I w' (blk p 47 (pcl 0 a2 b) :: hfQ I a2 { X with E := { X.E with inn := X.E.inn.drop (rdK X.E n) }, rd := X.rd ++ X.E.inn.take (rdK X.E n) } fa (hfQ I b Y fb L)) := by
  have hpl := hx.rd
  have ok := Holds.endOk (Holds.drop H)
  have g1 : max n 1 = (((max n 1).toNat : Nat) : Int) := by omega
  unfold rdK
  obtain ⟨n1, hn1⟩ : ∃ n1, (max n 1).toNat = n1 := ⟨_, rfl⟩
  rw [hn1] at g1 ⊢
  refine ok_tithinglaw12_Pair_Do.rets rfl ?_
  repeat' (first
    | rw [g1]
    | (show VcL _ _ _ _ (⟨_, .box 35 _, _, _, _, _⟩ :: _) _ _ _; refine VcL.box H rfl rfl rfl rfl rfl (fun mb w H => ?_))
    | (show VcL _ _ _ _ _ _ _ _; first
      | refine VcL.pures tabOk rfl ?_
      | refine VcL.nil ?_
      | (show VcL _ _ _ _ (⟨_, .load _ _, _, _, _, _⟩ :: _) _ _ _; refine VcL.load1 tabOk rfl rfl rfl rfl rfl (by exact Holds.cell H rfl) ?_)
      | (show VcL _ _ _ _ (⟨_, .call ⟨.value (.func F_tithinglaw12_Pair_reads), _, _⟩, _, _, _, _⟩ :: _) _ _ _; (refine VcL.callF ok_tithinglaw12_Pair_reads rfl rfl rfl rfl (Rets.mono (reads_any (i := 0) (by decide) (a := a) (b := b) (n := n1) (by omega) (by omega) (Holds.re [1, 1, 1, 3] H rfl) ok.inn (by omega)) ?_); rintro _ w ⟨rfl, qv, H⟩)))
    | (show Vc _ _ _ _ _ _; first
      | refine Vc.seq ?_
      | refine Vc.region ?_
      | refine Vc.condT rfl ?_
      | refine Vc.condF rfl ?_
      | refine Vc.skip ?_
      | refine Vc.block ?_)
    | (show KSeq _ _ _ _ _ _ _; refine KSeq.normal ?_)
    | (show KBlock _ _ _ _ _ _; refine KBlock.normal ?_)
    | (show KEnd _ _ _ _ _ _ _; refine KEnd.fin (Or.inl rfl) ⟨_, ResL.nil, ?_⟩))
  exact ⟨{ a with q := qv }, Holds.re [0, 0, 0, 1, 1, 0] (Holds.drop (Holds.re [4] H rfl)) rfl⟩
theorem Do0_do {p k : Nat} {a b : Sd} {X Y : Hf} {fa fb : List Fm} {d n : Int} {v : Option Addr} {kk c : Nat} (H : Holds I w (blk p 47 (pcl 0 a b) :: hfQ I a X fa (hfQ I b Y fb L))) (hx : Bd k X) (hk : k ≤ 900000) (hd : d ≠ 2 ∧ d ≠ 3 ∧ d ≠ 5 ∧ d ≠ 6 ∧ d < 7) :
    Rets Try.prog F_tithinglaw12_Pair_Do #[ptr p, .agg #[.int .i64 d, .int .i64 n, .bool false, .slice v kk c]] w fun u w' => ∃ J, Imm.Le I J ∧ Holds J w' (blk p 47 (pcl 0 a b) :: hfQ J a { X with E := doE d X.E } fa (hfQ J b Y fb L)) := by
  have hq := hx.quiet
  have ok := Holds.endOk (Holds.drop H)
  refine ok_tithinglaw12_Pair_Do.rets rfl ?_
  repeat' (first
    | (refine VcD.load1 tabOk rfl rfl rfl rfl rfl rfl (by intro w_ hw_; exact rdAt0 hw_.1 rfl) (by exact rfl) ?_)
    | (show VcL _ _ _ _ (⟨_, .box 35 _, _, _, _, _⟩ :: _) _ _ _; refine VcL.box H rfl rfl rfl rfl rfl (fun mb w H => ?_))
    | (show VcL _ _ _ _ _ _ _ _; first
      | refine VcL.pures tabOk rfl ?_
      | refine VcL.nil ?_
      | (show VcL _ _ _ _ (⟨_, .load _ _, _, _, _, _⟩ :: _) _ _ _; refine VcL.load1 tabOk rfl rfl rfl rfl rfl (by exact Holds.cell H rfl) ?_))
    | (show VcD _ _ _ _ _ _ _ _ _; first
      | refine VcD.pures tabOk rfl ?_
      | refine VcD.done ?_
      | (show VcD _ _ _ _ _ (.pure _ _) _ _ _; first
      | refine VcD.indexArr0 tabOk rfl rfl rfl rfl rfl rfl rfl (by omega) (by omega) ?_
      | refine VcD.indexArr tabOk rfl rfl rfl rfl rfl rfl rfl (by omega) (by omega) ?_)
      | (show VcD _ _ _ _ _ (.take _ _) _ _ _; refine VcD.load1 tabOk rfl rfl rfl rfl rfl rfl (by intro w_ hw_; exact hw_.2 0 _ rfl) (by exact rfl) ?_)
      | (show VcD _ _ _ _ _ (.only _ _) _ _ _; first
      | (refine VcD.callF (f := F_tithinglaw12_do) rfl ok_tithinglaw12_do rfl rfl rfl rfl (Rets.mono (do_any (d := d) (Holds.re [2, 2] H rfl) (by omega) hx.age ok.out (by omega)) ?_); rintro _ w ⟨rfl, J, hJ, H⟩; refine ⟨(by (refine ⟨?_, ?_⟩ <;> first | exact Holds.rdWhole (Holds.f2 H) | exact Holds.rdWhole (Holds.f3 H))), ?_⟩)
      | (refine VcD.callF (f := F_tithinglaw12_Pair_differ) rfl ok_tithinglaw12_Pair_differ rfl rfl rfl rfl (Rets.mono (differ_any (a := a) (b := b) (Holds.f3 H)) ?_); rintro _ w H; refine ⟨(by (refine ⟨?_, ?_⟩ <;> first | exact Holds.rdWhole H | exact Holds.rdWhole (Holds.f3 H))), ?_⟩)))
    | (show Vc _ _ _ _ _ _; first
      | refine Vc.seq ?_
      | refine Vc.region ?_
      | refine Vc.condF rfl ?_
      | refine Vc.skip ?_
      | refine Vc.block ?_
      | (refine Vc.drawn (id := 21) (.pure 0 (.pure 1 (.pure 2 (.pure 3 (.pure 4 (.pure 7 (.pure 8 (.pure 9 (.pure 10 (.pure 13 (.pure 5 (.take 6 (.pure 11 (.take 12 (.take 14 (.pure 15 (.only 16 (.only 17 .done)))))))))))))))))) (.one (fun w => Rd w p 0 (pcl 0 a b) ∧ Rd w mb 0 [.int .i64 d, .int .i64 n, .bool false, .slice v kk c])) mixed (by kernel_rfl) (by (refine ⟨?_, ?_⟩ <;> first | exact Holds.rdWhole (Holds.drew H _) | exact Holds.rdWhole (Holds.f1 (Holds.drew H _)))) ?_; have H := H.drew (w.drawn + 1))
      | (refine Vc.cond rfl (fun h => ?_) (fun h => ?_) <;> first | (exfalso; simp only [decide_eq_true_eq, decide_eq_false_iff_not, Bool.not_eq_true', Bool.not_eq_false'] at h; omega) | (with_reducible have hp := of_decide_eq_true h) | (with_reducible have hp := of_decide_eq_false h)))
    | (show KSeq _ _ _ _ _ _ _; refine KSeq.normal ?_)
    | (show KBlock _ _ _ _ _ _; refine KBlock.normal ?_)
    | (show KEnd _ _ _ _ _ _ _; refine KEnd.fin (Or.inl rfl) ⟨_, ResL.nil, ?_⟩))
  all_goals exact ⟨J, hJ, hf_up2 hJ (Holds.drop (Holds.re [3] H rfl))⟩
theorem Do0_tick {p k : Nat} {a b : Sd} {X Y : Hf} {fa fb : List Fm} {d n : Int} {v : Option Addr} {kk c : Nat} (H : Holds I w (blk p 47 (pcl 0 a b) :: hfQ I a X fa (hfQ I b Y fb L))) (hx : Bd k X) (hy : Bd k Y) (hfy : HfF I Y fb) (hk : k ≤ 900000) (hd : 7 ≤ d ∧ d < 9) :
    Rets Try.prog F_tithinglaw12_Pair_Do #[ptr p, .agg #[.int .i64 d, .int .i64 n, .bool false, .slice v kk c]] w fun u w' => ∃ J, Imm.Le I J ∧ ∃ (b2 : Sd) (fb2 : List Fm), HfF J { Y with fly := Y.fly ++ (tickS X.E).2 } fb2 ∧ Holds J w' (blk p 47 (pcl 0 a b2) :: hfQ J a { X with E := (tickS X.E).1 } fa (hfQ J b2 { Y with fly := Y.fly ++ (tickS X.E).2 } fb2 L)) := by
  have hq := hx.quiet
  have ok := Holds.endOk (Holds.drop H)
  have hlen := tickS_len ok.out
  have hyf := hy.fly
  have hyl := hfy.len
  obtain ⟨_, P2, pc2, hp2⟩ := Holds.own_len (Holds.re [9] H rfl)
  obtain ⟨e2, r2, f2, pp2, q2, s2⟩ := b
  dsimp only at hp2
  subst hp2
  have htk := fun (w : World) (L : List Asn) (H : Holds I w (endA I a.e X.E :: L)) => Tick_any H (by omega) hx.age
  have htr := fun (J : Imm) (w : World) (L : List Asn) (H : Holds J w (refA J a.r X.E :: L)) => TickR_any H (by omega) hx.age
  obtain ⟨T, hT⟩ : ∃ T, tickS X.E = T := ⟨_, rfl⟩
  rw [hT] at htk htr hlen ⊢
  have g3 : IntKind.i64.wrap (1 - 0) = 1 := wrap_i64 (by omega) (by omega)
  refine ok_tithinglaw12_Pair_Do.rets rfl ?_
  repeat' (first
    | rw [g3]
    | (show VcL _ _ _ _ (⟨_, .box 35 _, _, _, _, _⟩ :: _) _ _ _; refine VcL.box H rfl rfl rfl rfl rfl (fun mb w H => ?_))
    | (refine VcD.load1 tabOk rfl rfl rfl rfl rfl rfl (by intro w_ hw_; exact rdAt0 hw_ rfl) (by exact rfl) ?_)
    | (refine VcD.append (m := fl.length) (ds := fl.flatMap fmC) tabOk rfl rfl rfl rfl rfl (Holds.re [10] H rfl) (SlI.src (hsv.mono hJ2) H) (fmC_ones hflo) (by show (_ + _) * 56 ≤ _; omega) rfl rfl rfl (fun v_ w H => ⟨Holds.rdWhole (Holds.f1 H), ?_⟩); obtain ⟨_, A9, c9, rfl⟩ := Holds.own_len H)
    | (show VcL _ _ _ _ _ _ _ _; first
      | refine VcL.pures tabOk rfl ?_
      | refine VcL.nil ?_
      | (show VcL _ _ _ _ (⟨_, .load _ _, _, _, _, _⟩ :: _) _ _ _; refine VcL.load1 tabOk rfl rfl rfl rfl rfl (by first | exact Holds.cell H rfl | exact Holds.cell (Holds.f1 H) rfl | exact Holds.cell (Holds.f2 H) rfl) ?_)
      | (show VcL _ _ _ _ (⟨_, .indexAddr _ _ _, _, _, _, _⟩ :: _) _ _ _; first
      | refine VcL.indexArr0 tabOk rfl rfl rfl rfl rfl rfl (by omega) (by omega) ?_
      | refine VcL.indexArr tabOk rfl rfl rfl rfl rfl rfl (by omega) (by omega) ?_)
      | (show VcL _ _ _ _ (⟨_, .call ⟨.value (.func F_stream_End_Tick), _, _⟩, _, _, _, _⟩ :: _) _ _ _; (refine VcL.callF ok_stream_End_Tick rfl rfl rfl rfl (Rets.mono (htk _ _ (Holds.f2 H)) ?_); rintro _ w ⟨J, sv, hJ, rfl, hfr, H⟩; obtain ⟨fl, hfl, hsv, hflo⟩ := hfr.out; obtain ⟨SA, sc, rfl, hsc⟩ := hsv.form; have hfll : fl.length = T.2.length := (by rw [← hfl, List.length_map])))
      | (show VcL _ _ _ _ (⟨_, .call ⟨.value (.func F_tithingref12_End_Tick), _, _⟩, _, _, _, _⟩ :: _) _ _ _; (refine VcL.callF ok_tithingref12_End_Tick rfl rfl rfl rfl (Rets.mono (htr _ _ _ (Holds.refUp hJ (Holds.f3 H))) ?_); rintro _ w ⟨J2, hJ2, hfr2, H⟩))
      | (show VcL _ _ _ _ (⟨_, .call ⟨.value (.func F_tithingref12_SameFrames), _, _⟩, _, _, _, _⟩ :: _) _ _ _; (refine VcL.callF ok_tithingref12_SameFrames rfl rfl rfl rfl (Rets.mono (SameFrames_any H (hfr.mono hJ2) hfr2 (by omega)) ?_); rintro _ w ⟨rfl, H⟩))
      | (show VcL _ _ _ _ (⟨_, .call ⟨.value (.func F_tithinglaw12_Pair_differ), _, _⟩, _, _, _, _⟩ :: _) _ _ _; (refine VcL.callF ok_tithinglaw12_Pair_differ rfl rfl rfl rfl (Rets.mono (differ_any (a := a) (b := ⟨e2, r2, .slice P2 fb.length pc2, pp2, q2, s2⟩) (Holds.f3 H)) ?_); rintro _ w H))
      | (refine VcL.guard rfl rfl rfl rfl (fun h => ?_) (fun h => ?_) <;> first | (cases h; done) | skip))
    | (show VcD _ _ _ _ _ _ _ _ _; first
      | refine VcD.pures tabOk rfl ?_
      | refine VcD.done ?_
      | (show VcD _ _ _ _ _ (.pure _ _) _ _ _; refine VcD.indexArr tabOk rfl rfl rfl rfl rfl rfl rfl (by omega) (by omega) ?_)
      | (show VcD _ _ _ _ _ (.only _ _) _ _ _; (refine VcD.eff rfl rfl rfl rfl (OpE.store tabOk (by exact (Holds.f1 H)) rfl rfl rfl (by exact rfl) (by exact rfl) (by exact rfl) (by exact rfl)) ?_; rintro _ w ⟨_, H⟩; refine ⟨(by trivial), ?_⟩)))
    | (show Vc _ _ _ _ _ _; first
      | refine Vc.seq ?_
      | refine Vc.region ?_
      | refine Vc.condF rfl ?_
      | refine Vc.skip ?_
      | refine Vc.block ?_
      | (refine Vc.drawn (id := 25) (.pure 0 (.pure 1 (.pure 2 (.pure 3 (.pure 4 (.pure 5 (.pure 6 (.pure 7 (.pure 10 (.pure 12 (.pure 13 (.pure 8 (.take 9 (.only 11 (.pure 14 (.only 15 .done)))))))))))))))) (.till (fun w => Rd w p 0 (pcl 0 a ⟨e2, r2, .slice P2 fb.length pc2, pp2, q2, s2⟩)) 15 (.one (fun _ => True))) mixed (by kernel_rfl) (by first | exact Holds.rdWhole (Holds.drew H _) | exact Holds.rdWhole (Holds.f1 (Holds.drew H _))) ?_; have H := H.drew (w.drawn + 1))
      | (refine Vc.cond rfl (fun h => ?_) (fun h => ?_) <;> first | (exfalso; simp only [decide_eq_true_eq, decide_eq_false_iff_not, Bool.not_eq_true', Bool.not_eq_false'] at h; omega) | (with_reducible have hp := of_decide_eq_true h) | (with_reducible have hp := of_decide_eq_false h)))
    | (show KSeq _ _ _ _ _ _ _; refine KSeq.normal ?_)
    | (show KBlock _ _ _ _ _ _; refine KBlock.normal ?_)
    | (show KEnd _ _ _ _ _ _ _; refine KEnd.fin (Or.inl rfl) ⟨_, ResL.nil, ?_⟩))
  all_goals
    have H := Holds.drop (Holds.re [4] H rfl)
    rw [← List.length_append, ← List.flatMap_append] at H
    exact ⟨J2, hJ.trans hJ2, ⟨e2, r2, .slice A9 (fb ++ fl).length c9, pp2, q2, s2⟩, fb ++ fl, ⟨by rw [List.map_append, hfl, hfy.fly], fun x hx => (by rcases List.mem_append.1 hx with hx | hx; exact (hfy.ok x hx).mono (hJ.trans hJ2); exact (hflo x hx).mono hJ2)⟩, hf_up2 (hJ.trans hJ2) (Holds.re [1, 0, 1, 1, 1, 1, 1, 1, 1, 0] (Holds.endUp hJ2 (Holds.re [3] H rfl)) rfl)⟩
theorem Do0_fly {p k : Nat} {a b : Sd} {X Y : Hf} {fa fb : List Fm} {d n : Int} {v : Option Addr} {kk c : Nat} (H : Holds I w (blk p 47 (pcl 0 a b) :: hfQ I a X fa (hfQ I b Y fb L))) (hx : Bd k X) (hy : Bd k Y) (hfx : HfF I X fa) (hfy : HfF I Y fb) (hk : k ≤ 900000) (hd : 9 ≤ d) (hne : X.fly ≠ []) :
    Rets Try.prog F_tithinglaw12_Pair_Do #[ptr p, .agg #[.int .i64 d, .int .i64 n, .bool false, .slice v kk c]] w fun u w' => ∃ J, Imm.Le I J ∧ ∃ (a2 b2 : Sd) (fa2 fb2 : List Fm), HfF J { X with E := flyE d n X.E X.fly, fly := flyA d n X.fly } fa2 ∧ HfF J { Y with fly := flyB d n X.E X.fly Y.fly } fb2 ∧
      Holds J w' (blk p 47 (pcl 0 a2 b2) :: hfQ J a2 { X with E := flyE d n X.E X.fly, fly := flyA d n X.fly } fa2 (hfQ J b2 { Y with fly := flyB d n X.E X.fly Y.fly } fb2 L)) := by
  have hxl := hfx.len
  have hyl := hfy.len
  have hxf := hx.fly
  have hyf := hy.fly
  have hcd := hx.codes
  have h0 : 0 < fa.length := by
    rw [hxl]
    rcases hX : X.fly with _ | ⟨_, _⟩
    · exact absurd hX hne
    · exact Nat.succ_pos _
  have hfl := hfx.fly
  have hfl2 := hfy.fly
  have hda : ∀ x ∈ fa, x.fr.data.length ≤ 140737488355328 := fun x hx1 => by
    have := hx.flyD x.fr (by rw [← hfl]; exact List.mem_map_of_mem hx1)
    omega
  have hfly := fun (w : World) (L : List Asn) (H : Holds I w (blk p 47 (pcl 0 a b) :: endA I a.e X.E :: refA I a.r X.E :: own a.f 24 5 fa.length (fa.flatMap fmC) :: own b.f 24 5 fb.length (fb.flatMap fmC) :: L)) => flies_any (i := 0) (by decide) (d := d) (n := n) (ab := false) (v := v) (kk := kk) (c := c) H h0 (by omega) (by omega) hfx.ok hfy.ok hda (by omega)
  rw [hfl, hfl2] at hfly
  refine ok_tithinglaw12_Pair_Do.rets rfl ?_
  repeat' (first
    | (show VcL _ _ _ _ (⟨_, .box 35 _, _, _, _, _⟩ :: _) _ _ _; refine VcL.box H rfl rfl rfl rfl rfl (fun mb w H => ?_))
    | (show VcL _ _ _ _ _ _ _ _; first
      | refine VcL.pures tabOk rfl ?_
      | refine VcL.nil ?_
      | (show VcL _ _ _ _ (⟨_, .load _ _, _, _, _, _⟩ :: _) _ _ _; first
      | refine VcL.load1 tabOk rfl rfl rfl rfl rfl (by exact Holds.cell H rfl) ?_
      | refine VcL.loadN tabOk rfl rfl rfl rfl rfl rfl (by exact H) (by exact rfl) ?_)
      | (show VcL _ _ _ _ (⟨_, .call ⟨.value (.func F_tithinglaw12_Pair_flies), _, _⟩, _, _, _, _⟩ :: _) _ _ _; (refine VcL.callF ok_tithinglaw12_Pair_flies rfl rfl rfl rfl (Rets.mono (hfly _ _ (Holds.re [1, 1, 1, 1, 6] H rfl)) ?_); rintro _ w ⟨J, hJ, fv, fv2, fa2, fb2, q1, q2, q3, q4, H⟩)))
    | (show Vc _ _ _ _ _ _; first
      | refine Vc.seq ?_
      | refine Vc.region ?_
      | refine Vc.condF rfl ?_
      | refine Vc.skip ?_
      | refine Vc.block ?_
      | (refine Vc.cond rfl (fun h => ?_) (fun h => ?_) <;> first | (exfalso; simp only [decide_eq_true_eq, decide_eq_false_iff_not, Bool.not_eq_true', Bool.not_eq_false'] at h; omega) | (with_reducible have hp := of_decide_eq_false h)))
    | (show KSeq _ _ _ _ _ _ _; refine KSeq.normal ?_)
    | (show KBlock _ _ _ _ _ _; refine KBlock.normal ?_)
    | (show KEnd _ _ _ _ _ _ _; refine KEnd.fin (Or.inl rfl) ⟨_, ResL.nil, ?_⟩))
  all_goals
    exact ⟨J, hJ, { a with f := fv }, { b with f := fv2 }, fa2, fb2, ⟨q1, q3⟩, ⟨q2, q4⟩, hf_up2 (x := { a with f := fv }) (y := { b with f := fv2 }) hJ (Holds.re [0, 0, 0, 0, 1, 1, 1, 1, 1, 0] (Holds.drop (Holds.re [5] H rfl)) rfl)⟩
theorem Do0_still {p : Nat} {a b : Sd} {X Y : Hf} {fa fb : List Fm} {d n : Int} {v : Option Addr} {kk c : Nat} (H : Holds I w (blk p 47 (pcl 0 a b) :: hfQ I a X fa (hfQ I b Y fb L))) (hfx : HfF I X fa) (hd : 9 ≤ d) (hne : X.fly = []) :
    Rets Try.prog F_tithinglaw12_Pair_Do #[ptr p, .agg #[.int .i64 d, .int .i64 n, .bool false, .slice v kk c]] w fun u w' => Holds I w' (blk p 47 (pcl 0 a b) :: hfQ I a X fa (hfQ I b Y fb L)) := by
  have h0 : fa = [] := by
    have := hfx.len
    rw [hne] at this
    exact List.eq_nil_of_length_eq_zero this
  subst h0
  refine ok_tithinglaw12_Pair_Do.rets rfl ?_
  repeat' (first
    | (show VcL _ _ _ _ (⟨_, .box 35 _, _, _, _, _⟩ :: _) _ _ _; refine VcL.box H rfl rfl rfl rfl rfl (fun mb w H => ?_))
    | (show VcL _ _ _ _ _ _ _ _; first
      | refine VcL.pures tabOk rfl ?_
      | refine VcL.nil ?_
      | (show VcL _ _ _ _ (⟨_, .load _ _, _, _, _, _⟩ :: _) _ _ _; first
      | refine VcL.load1 tabOk rfl rfl rfl rfl rfl (by exact Holds.cell H rfl) ?_
      | refine VcL.loadN tabOk rfl rfl rfl rfl rfl rfl (by exact H) (by exact rfl) ?_)
      | (show VcL _ _ _ _ (⟨_, .call ⟨.value (.func F_tithinglaw12_Pair_flies), _, _⟩, _, _, _, _⟩ :: _) _ _ _; (refine VcL.callF ok_tithinglaw12_Pair_flies rfl rfl rfl rfl (Rets.mono (flies_none (i := 0) (by decide) (a := a) (b := b) rfl ⟨d, n, false, v, kk, c, rfl⟩ (Holds.re [1, 3] H rfl)) ?_); rintro _ w H)))
    | (show Vc _ _ _ _ _ _; first
      | refine Vc.seq ?_
      | refine Vc.region ?_
      | refine Vc.condF rfl ?_
      | refine Vc.skip ?_
      | refine Vc.block ?_
      | (refine Vc.cond rfl (fun h => ?_) (fun h => ?_) <;> first | (exfalso; simp only [decide_eq_true_eq, decide_eq_false_iff_not, Bool.not_eq_true', Bool.not_eq_false'] at h; omega) | (with_reducible have hp := of_decide_eq_false h)))
    | (show KSeq _ _ _ _ _ _ _; refine KSeq.normal ?_)
    | (show KBlock _ _ _ _ _ _; refine KBlock.normal ?_)
    | (show KEnd _ _ _ _ _ _ _; refine KEnd.fin (Or.inl rfl) ⟨_, ResL.nil, ?_⟩))
  all_goals
    exact Holds.re [0, 1, 1, 0] (Holds.drop (Holds.re [2] H rfl)) rfl
theorem Do0_att {p k : Nat} {a b : Sd} {X Y : Hf} {fa fb : List Fm} {n : Int} {v : Value} {l : By} (H : Holds I w (blk p 47 (pcl 0 a b) :: hfQ I a X fa (hfQ I b Y fb L))) (hx : Bd k X) (hk : k ≤ 900000) (hv : SlI I v 1 l.length (byL l)) (hl : l.length ≤ 300) :
    Rets Try.prog F_tithinglaw12_Pair_Do #[ptr p, .agg #[.int .i64 5, .int .i64 n, .bool false, v]] w fun u w' => ∃ J, Imm.Le I J ∧ ∃ a2 : Sd, Holds J w' (blk p 47 (pcl 0 a2 b) :: hfQ J a2 { X with E := (attendS X.E l).1, sent := X.sent ++ attN X.E l } fa (hfQ J b Y fb L)) := by
  obtain ⟨A, cap, rfl, hcap⟩ := hv.form
  have hsl := hx.sent
  obtain ⟨_, P1, pc1, hp1⟩ := Holds.own_len (Holds.f6 H)
  obtain ⟨e, r, f, pp, q, s⟩ := a
  dsimp only at hp1
  subst hp1
  have hat := fun (w : World) (L : List Asn) (H : Holds I w (endA I e X.E :: L)) => Attend_any H hv.toR
  have har := fun (J : Imm) (hJ : Imm.Le I J) (w : World) (L : List Asn) (H : Holds J w (refA J r X.E :: L)) => AttendR_any H (hv.mono hJ).toR
  unfold attN
  obtain ⟨T, hT⟩ : ∃ T, attendS X.E l = T := ⟨_, rfl⟩
  rw [hT] at hat har ⊢
  have g1 : decide (T.2 = T.2) = true := decide_eq_true rfl
  refine ok_tithinglaw12_Pair_Do.rets rfl ?_
  repeat' (first
    | rw [g1]
    | (refine VcD.load1 tabOk rfl rfl rfl rfl rfl rfl (by intro w_ hw_; exact rdAt0 hw_.1 rfl) (by exact rfl) ?_)
    | (show VcL _ _ _ _ (⟨_, .box 35 _, _, _, _, _⟩ :: _) _ _ _; refine VcL.box H rfl rfl rfl rfl rfl (fun mb w H => ?_))
    | (refine VcD.eff rfl rfl rfl rfl (OpE.ofBytes (m := l.length) (bs := l) tabOk rfl rfl rfl rfl rfl rfl rfl rfl (SlI.src ((hv.mono hJ).mono hJ2) H) ⟨_, _, rfl⟩) ?_; rintro _ w ⟨rfl, he⟩; subst he; refine ⟨⟨Holds.rdWhole H, Holds.rdWhole (Holds.f3 H)⟩, ?_⟩)
    | (refine VcD.append tabOk rfl rfl rfl rfl rfl (Holds.re [8] H rfl) (Src.slice rfl (Holds.pt_rd H)) (stC_one l) (by show (_ + 1) * 16 ≤ _; omega) rfl rfl rfl (fun v_ w H => ⟨⟨Holds.rdWhole (Holds.f2 H), Holds.rdWhole (Holds.f5 H)⟩, ?_⟩); obtain ⟨_, A9, c9, rfl⟩ := Holds.own_len H)
    | (show VcL _ _ _ _ _ _ _ _; first
      | refine VcL.pures tabOk rfl ?_
      | refine VcL.nil ?_
      | (show VcL _ _ _ _ (⟨_, .load _ _, _, _, _, _⟩ :: _) _ _ _; refine VcL.load1 tabOk rfl rfl rfl rfl rfl (by exact Holds.cell H rfl) ?_)
      | (show VcL _ _ _ _ (⟨_, .call ⟨.value (.func F_tithinglaw12_Pair_differ), _, _⟩, _, _, _, _⟩ :: _) _ _ _; (refine VcL.callF ok_tithinglaw12_Pair_differ rfl rfl rfl rfl (Rets.mono (differ_any (a := ⟨e, r, f, pp, q, .slice P1 X.sent.length pc1⟩) (b := b) (Holds.f3 H)) ?_); rintro _ w H)))
    | (show VcD _ _ _ _ _ _ _ _ _; first
      | refine VcD.pures tabOk rfl ?_
      | refine VcD.done ?_
      | (show VcD _ _ _ _ _ (.pure _ _) _ _ _; first
      | refine VcD.indexArr0 tabOk rfl rfl rfl rfl rfl rfl rfl (by omega) (by omega) ?_
      | refine VcD.indexArr tabOk rfl rfl rfl rfl rfl rfl rfl (by omega) (by omega) ?_)
      | (show VcD _ _ _ _ _ (.take _ _) _ _ _; refine VcD.load1 tabOk rfl rfl rfl rfl rfl rfl (by intro w_ hw_; exact hw_.2 _ _ rfl) (by exact rfl) ?_)
      | (show VcD _ _ _ _ _ (.only _ _) _ _ _; first
      | (refine VcD.callF (f := F_stream_End_Attend) rfl ok_stream_End_Attend rfl rfl rfl rfl (Rets.mono (hat _ _ (Holds.f2 H)) ?_); rintro _ w ⟨J, hJ, rfl, H⟩; refine ⟨(by (refine ⟨?_, ?_⟩ <;> first | exact Holds.rdWhole (Holds.f1 H) | exact Holds.rdWhole (Holds.f2 H))), ?_⟩)
      | (refine VcD.callF (f := F_tithingref12_End_Attend) rfl ok_tithingref12_End_Attend rfl rfl rfl rfl (Rets.mono (har _ hJ _ _ (Holds.refUp hJ (Holds.f3 H))) ?_); rintro _ w ⟨J2, hJ2, rfl, H⟩; refine ⟨(by (refine ⟨?_, ?_⟩ <;> first | exact Holds.rdWhole (Holds.f2 H) | exact Holds.rdWhole (Holds.f3 H))), ?_⟩)
      | (refine VcD.eff rfl rfl rfl rfl (OpE.buildSliceP tabOk H rfl rfl rfl rfl) ?_; rintro _ w ⟨b_, rfl, H⟩; refine ⟨(by (refine ⟨?_, ?_⟩ <;> first | exact Holds.rdWhole (Holds.f1 H) | exact Holds.rdWhole (Holds.f4 H))), ?_⟩)
      | (refine VcD.eff rfl rfl rfl rfl (OpE.store tabOk (by exact (Holds.f2 H)) rfl rfl rfl (by exact rfl) (by exact rfl) (by exact rfl) (by exact rfl)) ?_; rintro _ w ⟨_, H⟩; refine ⟨(by trivial), ?_⟩)))
    | (show Vc _ _ _ _ _ _; first
      | refine Vc.seq ?_
      | refine Vc.region ?_
      | refine Vc.condT rfl ?_
      | refine Vc.condF rfl ?_
      | refine Vc.skip ?_
      | refine Vc.block ?_
      | (refine Vc.drawn (id := 10) (.pure 0 (.pure 1 (.pure 2 (.pure 3 (.pure 6 (.pure 9 (.pure 10 (.pure 11 (.pure 12 (.pure 15 (.pure 4 (.take 5 (.take 7 (.pure 13 (.take 14 (.take 16 (.only 8 (.only 17 (.pure 18 (.pure 19 .done)))))))))))))))))))) (.one (fun w => Rd w p 0 (pcl 0 ⟨e, r, f, pp, q, .slice P1 X.sent.length pc1⟩ b) ∧ Rd w mb 0 [.int .i64 5, .int .i64 n, .bool false, .slice A l.length cap])) mixed (by kernel_rfl) (by (refine ⟨?_, ?_⟩ <;> first | exact Holds.rdWhole (Holds.drew H _) | exact Holds.rdWhole (Holds.f1 (Holds.drew H _)) | exact Holds.rdWhole (Holds.f3 (Holds.drew H _)))) ?_; have H := H.drew (w.drawn + 1))
      | (refine Vc.drawn (id := 13) (.pure 0 (.pure 1 (.pure 2 (.pure 3 (.pure 4 (.pure 5 (.pure 8 (.pure 13 (.pure 14 (.pure 6 (.take 7 (.take 9 (.only 10 (.only 11 (.only 12 (.pure 15 (.only 16 .done))))))))))))))))) (.till (fun w => Rd w p 0 (pcl 0 ⟨e, r, f, pp, q, .slice P1 X.sent.length pc1⟩ b) ∧ Rd w mb 0 [.int .i64 5, .int .i64 n, .bool false, .slice A l.length cap]) 16 (.one (fun _ => True))) mixed (by kernel_rfl) (by (refine ⟨?_, ?_⟩ <;> first | exact Holds.rdWhole (Holds.drew H _) | exact Holds.rdWhole (Holds.f3 (Holds.drew H _)))) ?_; have H := H.drew (w.drawn + 1))
      | (refine Vc.cond rfl (fun h => ?_) (fun h => ?_) <;> first | (with_reducible have hp := of_decide_eq_true h) | (with_reducible have hp := of_decide_eq_false h)))
    | (show KSeq _ _ _ _ _ _ _; refine KSeq.normal ?_)
    | (show KBlock _ _ _ _ _ _; refine KBlock.normal ?_)
    | (show KEnd _ _ _ _ _ _ _; refine KEnd.fin (Or.inl rfl) ⟨_, ResL.nil, ?_⟩))
  · have H := Holds.drop (Holds.re [4] (Holds.drop2 H) rfl)
    have H := Holds.endUp hJ2 (Holds.re [3] H rfl)
    have hz : T.2 = 0 := by omega
    rw [if_pos hz]
    have hres : ∀ Q : List Asn, Holds J2 w (own (.slice A9 (X.sent.length + 1) c9) 9 1 (X.sent.length + 1) (X.sent.flatMap stC ++ stC l) :: Q) → Holds J2 w (own (.slice A9 (X.sent.length + 1) c9) 9 1 (X.sent ++ [l]).length ((X.sent ++ [l]).flatMap stC) :: Q) := fun Q H => by
      rw [List.length_append, flat_snoc]; exact H
    have H := hres _ (Holds.re [2] H rfl)
    exact ⟨J2, hJ.trans hJ2, ⟨e, r, f, pp, q, .slice A9 (X.sent.length + 1) c9⟩, hf_up2 (hJ.trans hJ2) (Holds.re [2, 1, 1, 1, 1, 1, 0] H rfl)⟩
  · have H := Holds.drop (Holds.re [3] H rfl)
    have H := Holds.endUp hJ2 (Holds.re [2] H rfl)
    have hz : ¬ T.2 = 0 := by omega
    rw [if_neg hz, List.append_nil]
    exact ⟨J2, hJ.trans hJ2, ⟨e, r, f, pp, q, .slice P1 X.sent.length pc1⟩, hf_up2 (hJ.trans hJ2) (Holds.re [1, 0] H rfl)⟩
theorem Do0_close {p k : Nat} {a b : Sd} {X Y : Hf} {fa fb : List Fm} {n : Int} {v : Option Addr} {kk c : Nat} (H : Holds I w (blk p 47 (pcl 0 a b) :: hfQ I a X fa (hfQ I b Y fb L))) (hy : Bd k Y) (hfy : HfF I Y fb) (hk : k ≤ 900000) :
    Rets Try.prog F_tithinglaw12_Pair_Do #[ptr p, .agg #[.int .i64 6, .int .i64 n, .bool false, .slice v kk c]] w fun u w' => ∃ (b2 : Sd) (fb2 : List Fm), HfF I { Y with fly := Y.fly ++ closeN X.E } fb2 ∧ Holds I w' (blk p 47 (pcl 0 a b2) :: hfQ I a { X with E := (closeS X.E).1 } fa (hfQ I b2 { Y with fly := Y.fly ++ closeN X.E } fb2 L)) := by
  have hyf := hy.fly
  have hyl := hfy.len
  obtain ⟨_, P2, pc2, hp2⟩ := Holds.own_len (Holds.re [9] H rfl)
  obtain ⟨e2, r2, f2, pp2, q2, s2⟩ := b
  dsimp only at hp2
  subst hp2
  have hcl := fun (w : World) (L : List Asn) (H : Holds I w (endA I a.e X.E :: L)) => Close_any H
  have hcr := fun (w : World) (L : List Asn) (H : Holds I w (refA I a.r X.E :: L)) => CloseR_any H
  have g3 : IntKind.i64.wrap (1 - 0) = 1 := wrap_i64 (by omega) (by omega)
  unfold closeN
  by_cases h3 : X.E.state ≠ 3
  · have hT : closeS X.E = (X.E, ⟨0, 0, 0, 0, []⟩, 110) := by unfold closeS; rw [if_pos h3]
    rw [hT] at hcl hcr ⊢
    dsimp only at hcl hcr ⊢
    refine ok_tithinglaw12_Pair_Do.rets rfl ?_
    repeat' (first
      | (show VcL _ _ _ _ (⟨_, .box 35 _, _, _, _, _⟩ :: _) _ _ _; refine VcL.box H rfl rfl rfl rfl rfl (fun mb w H => ?_))
      | (show VcL _ _ _ _ _ _ _ _; first
      | refine VcL.pures tabOk rfl ?_
      | refine VcL.nil ?_
      | (show VcL _ _ _ _ (⟨_, .load _ _, _, _, _, _⟩ :: _) _ _ _; first
      | refine VcL.load1 tabOk rfl rfl rfl rfl rfl (by first | exact Holds.cell H rfl | exact Holds.cell (Holds.f1 H) rfl | exact Holds.cell (Holds.f2 H) rfl | exact Holds.cell (Holds.f3 H) rfl) ?_
      | refine VcL.loadN tabOk rfl rfl rfl rfl rfl rfl (by first | exact H | exact (Holds.f2 H)) (by exact rfl) ?_)
      | (show VcL _ _ _ _ (⟨_, .indexAddr _ _ _, _, _, _, _⟩ :: _) _ _ _; first
      | refine VcL.indexArr0 tabOk rfl rfl rfl rfl rfl rfl (by omega) (by omega) ?_
      | refine VcL.indexArr tabOk rfl rfl rfl rfl rfl rfl (by omega) (by omega) ?_)
      | refine VcL.alloc tabOk H rfl rfl rfl rfl (fun b w H => ?_)
      | (show VcL _ _ _ _ (⟨_, .store _ _ _, _, _, _, _⟩ :: _) _ _ _; refine VcL.store tabOk rfl (by exact H) rfl rfl (by exact rfl) (by exact rfl) (by exact rfl) (by exact rfl) (fun w H => ?_))
      | (show VcL _ _ _ _ (⟨_, .call ⟨.value (.func F_stream_End_Close), _, _⟩, _, _, _, _⟩ :: _) _ _ _; (refine VcL.callF ok_stream_End_Close rfl rfl rfl rfl (Rets.mono (hcl _ _ (Holds.f2 H)) ?_); rintro _ w ⟨rfl, H⟩))
      | (show VcL _ _ _ _ (⟨_, .call ⟨.value (.func F_tithingref12_End_Close), _, _⟩, _, _, _, _⟩ :: _) _ _ _; (refine VcL.callF ok_tithingref12_End_Close rfl rfl rfl rfl (Rets.mono (hcr _ _ (Holds.f4 H)) ?_); rintro _ w ⟨rfl, H⟩))
      | (show VcL _ _ _ _ (⟨_, .call ⟨.value (.func F_tithingref12_SameFrame), _, _⟩, _, _, _, _⟩ :: _) _ _ _; (refine VcL.callF ok_tithingref12_SameFrame rfl rfl rfl rfl (Rets.mono (SameFrame_any (a := ⟨0, 0, 0, 0, []⟩) (b := ⟨0, 0, 0, 0, []⟩) H SlI.nil SlI.nil) ?_); rintro _ w ⟨rfl, H⟩; rw [sameF_self]))
      | (show VcL _ _ _ _ (⟨_, .call ⟨.value (.func F_tithinglaw12_Pair_differ), _, _⟩, _, _, _, _⟩ :: _) _ _ _; (refine VcL.callF ok_tithinglaw12_Pair_differ rfl rfl rfl rfl (Rets.mono (differ_any (a := a) (b := ⟨e2, r2, .slice P2 fb.length pc2, pp2, q2, s2⟩) (Holds.f5 H)) ?_); rintro _ w H))
      | (refine VcL.guard rfl rfl rfl rfl (fun h => ?_) (fun h => ?_) <;> first | (cases h; done) | skip))
      | (show Vc _ _ _ _ _ _; first
      | refine Vc.seq ?_
      | refine Vc.region ?_
      | refine Vc.condT rfl ?_
      | refine Vc.condF rfl ?_
      | refine Vc.skip ?_
      | refine Vc.block ?_)
      | (show KSeq _ _ _ _ _ _ _; refine KSeq.normal ?_)
      | (show KBlock _ _ _ _ _ _; refine KBlock.normal ?_)
      | (show KEnd _ _ _ _ _ _ _; refine KEnd.fin (Or.inl rfl) ⟨_, ResL.nil, ?_⟩))
    rw [if_neg (by decide), List.append_nil]
    have H := Holds.drop (Holds.re [3] (Holds.drop2 (Holds.drop1 H)) rfl)
    exact ⟨⟨e2, r2, .slice P2 fb.length pc2, pp2, q2, s2⟩, fb, hfy, Holds.re [0, 1, 0] H rfl⟩
  · obtain ⟨E', hE'⟩ : ∃ E', ({ X.E with state := 4 } : En) = E' := ⟨_, rfl⟩
    have hT : closeS X.E = (E', ⟨9, X.E.num, 0, 0, []⟩, 0) := by unfold closeS; rw [if_neg h3, ← hE']
    rw [hT] at hcl hcr ⊢
    dsimp only at hcl hcr ⊢
    clear hT hE' h3
    refine ok_tithinglaw12_Pair_Do.rets rfl ?_
    repeat' (first
      | rw [g3]
      | (show VcL _ _ _ _ (⟨_, .box 35 _, _, _, _, _⟩ :: _) _ _ _; refine VcL.box H rfl rfl rfl rfl rfl (fun mb w H => ?_))
      | (show VcL _ _ _ _ (⟨some 7, .alloc _, _, _, _, _⟩ :: _) _ _ _; refine VcL.alloc tabOk H rfl rfl rfl rfl (fun g7 w H => ?_))
      | (refine VcD.load1 tabOk rfl rfl rfl rfl rfl rfl (by intro w_ hw_; exact rdAt0 hw_.1 rfl) (by exact rfl) ?_)
      | (refine VcD.append tabOk rfl rfl rfl rfl rfl (Holds.re [13] H rfl) (Src.slice rfl (Holds.pt_rd H)) (fmC_slice ⟨9, X.E.num, 0, 0, []⟩ (A := none) (n := 0) (c := 0)) (by show (_ + 1) * 56 ≤ _; omega) rfl rfl rfl (fun v_ w H => ⟨⟨Holds.rdWhole (Holds.f2 H), Holds.rdWhole (Holds.f5 H)⟩, ?_⟩); obtain ⟨_, A9, c9, rfl⟩ := Holds.own_len H)
      | (show VcL _ _ _ _ _ _ _ _; first
      | refine VcL.pures tabOk rfl ?_
      | refine VcL.nil ?_
      | (show VcL _ _ _ _ (⟨_, .load _ _, _, _, _, _⟩ :: _) _ _ _; first
      | refine VcL.load1 tabOk rfl rfl rfl rfl rfl (by first | exact Holds.cell H rfl | exact Holds.cell (Holds.f1 H) rfl | exact Holds.cell (Holds.f2 H) rfl | exact Holds.cell (Holds.f3 H) rfl) ?_
      | refine VcL.loadN tabOk rfl rfl rfl rfl rfl rfl (by first | exact H | exact (Holds.f2 H)) (by exact rfl) ?_)
      | (show VcL _ _ _ _ (⟨_, .indexAddr _ _ _, _, _, _, _⟩ :: _) _ _ _; first
      | refine VcL.indexArr0 tabOk rfl rfl rfl rfl rfl rfl (by omega) (by omega) ?_
      | refine VcL.indexArr tabOk rfl rfl rfl rfl rfl rfl (by omega) (by omega) ?_)
      | refine VcL.alloc tabOk H rfl rfl rfl rfl (fun b w H => ?_)
      | (show VcL _ _ _ _ (⟨_, .store _ _ _, _, _, _, _⟩ :: _) _ _ _; refine VcL.store tabOk rfl (by exact H) rfl rfl (by exact rfl) (by exact rfl) (by exact rfl) (by exact rfl) (fun w H => ?_))
      | (show VcL _ _ _ _ (⟨_, .call ⟨.value (.func F_stream_End_Close), _, _⟩, _, _, _, _⟩ :: _) _ _ _; (refine VcL.callF ok_stream_End_Close rfl rfl rfl rfl (Rets.mono (hcl _ _ (Holds.f2 H)) ?_); rintro _ w ⟨rfl, H⟩))
      | (show VcL _ _ _ _ (⟨_, .call ⟨.value (.func F_tithingref12_End_Close), _, _⟩, _, _, _, _⟩ :: _) _ _ _; (refine VcL.callF ok_tithingref12_End_Close rfl rfl rfl rfl (Rets.mono (hcr _ _ (Holds.f4 H)) ?_); rintro _ w ⟨rfl, H⟩))
      | (show VcL _ _ _ _ (⟨_, .call ⟨.value (.func F_tithingref12_SameFrame), _, _⟩, _, _, _, _⟩ :: _) _ _ _; (refine VcL.callF ok_tithingref12_SameFrame rfl rfl rfl rfl (Rets.mono (SameFrame_any (a := ⟨9, X.E.num, 0, 0, []⟩) (b := ⟨9, X.E.num, 0, 0, []⟩) H SlI.nil SlI.nil) ?_); rintro _ w ⟨rfl, H⟩; rw [sameF_self]))
      | (show VcL _ _ _ _ (⟨_, .call ⟨.value (.func F_tithinglaw12_Pair_differ), _, _⟩, _, _, _, _⟩ :: _) _ _ _; (refine VcL.callF ok_tithinglaw12_Pair_differ rfl rfl rfl rfl (Rets.mono (differ_any (a := a) (b := ⟨e2, r2, .slice P2 fb.length pc2, pp2, q2, s2⟩) (Holds.f5 H)) ?_); rintro _ w H))
      | (refine VcL.guard rfl rfl rfl rfl (fun h => ?_) (fun h => ?_) <;> first | (cases h; done) | skip))
      | (show VcD _ _ _ _ _ _ _ _ _; first
      | refine VcD.pures tabOk rfl ?_
      | refine VcD.done ?_
      | (show VcD _ _ _ _ _ (.pure _ _) _ _ _; refine VcD.indexArr tabOk rfl rfl rfl rfl rfl rfl rfl (by omega) (by omega) ?_)
      | (show VcD _ _ _ _ _ (.take _ _) _ _ _; refine VcD.loadR tabOk rfl rfl rfl rfl rfl rfl rfl (by intro w_ hw_; exact hw_.2) rfl ?_)
      | (show VcD _ _ _ _ _ (.only _ _) _ _ _; first
      | (refine VcD.eff rfl rfl rfl rfl (OpE.buildSliceP tabOk H rfl rfl rfl rfl) ?_; rintro _ w ⟨b_, rfl, H⟩; refine ⟨(by (refine ⟨?_, ?_⟩ <;> first | exact Holds.rdWhole (Holds.f1 H) | exact Holds.rdWhole (Holds.f4 H))), ?_⟩)
      | (refine VcD.eff rfl rfl rfl rfl (OpE.store tabOk (by exact (Holds.f2 H)) rfl rfl rfl (by exact rfl) (by exact rfl) (by exact rfl) (by exact rfl)) ?_; rintro _ w ⟨_, H⟩; refine ⟨(by trivial), ?_⟩)))
      | (show Vc _ _ _ _ _ _; first
      | refine Vc.seq ?_
      | refine Vc.region ?_
      | refine Vc.condT rfl ?_
      | refine Vc.condF rfl ?_
      | refine Vc.skip ?_
      | refine Vc.block ?_
      | (refine Vc.drawn (id := 19) (.pure 0 (.pure 1 (.pure 2 (.pure 3 (.pure 4 (.pure 5 (.pure 6 (.pure 7 (.pure 13 (.pure 14 (.pure 8 (.take 9 (.take 10 (.only 11 (.only 12 (.pure 15 (.only 16 .done))))))))))))))))) (.till (fun w => Rd w p 0 (pcl 0 a ⟨e2, r2, .slice P2 fb.length pc2, pp2, q2, s2⟩) ∧ Rd w g7 0 [.int .i64 9, .int .i64 (X.E.num : Nat), .int .i64 0, .int .i64 0, .slice none 0 0]) 16 (.one (fun _ => True))) mixed (by kernel_rfl) (by (refine ⟨?_, ?_⟩ <;> first | exact Holds.rdWhole (Holds.drew H _) | exact Holds.rdWhole (Holds.f3 (Holds.drew H _)))) ?_; have H := H.drew (w.drawn + 1)))
      | (show KSeq _ _ _ _ _ _ _; refine KSeq.normal ?_)
      | (show KBlock _ _ _ _ _ _; refine KBlock.normal ?_)
      | (show KEnd _ _ _ _ _ _ _; refine KEnd.fin (Or.inl rfl) ⟨_, ResL.nil, ?_⟩))
    have H := Holds.drop (Holds.re [4] (Holds.drop3 (Holds.drop2 (Holds.drop2 H))) rfl)
    rw [if_pos rfl]
    have hres : ∀ Q : List Asn, Holds I w (own (.slice A9 (fb.length + 1) c9) 24 5 (fb.length + 1) (fb.flatMap fmC ++ fmC ⟨⟨9, X.E.num, 0, 0, []⟩, .slice none 0 0⟩) :: Q) → Holds I w (own (.slice A9 (fb.length + 1) c9) 24 5 (fb ++ [(⟨⟨9, X.E.num, 0, 0, []⟩, .slice none 0 0⟩ : Fm)]).length ((fb ++ [(⟨⟨9, X.E.num, 0, 0, []⟩, .slice none 0 0⟩ : Fm)]).flatMap fmC) :: Q) := fun Q H => by
      rw [List.length_append, flat_snoc]; exact H
    have H := hres _ (Holds.re [1] H rfl)
    exact ⟨⟨e2, r2, .slice A9 (fb.length + 1) c9, pp2, q2, s2⟩, fb ++ [⟨⟨9, X.E.num, 0, 0, []⟩, .slice none 0 0⟩], ⟨by rw [List.map_append, hfy.fly]; rfl, fun x hx => (by rcases List.mem_append.1 hx with hx | hx; exact hfy.ok x hx; rw [List.mem_singleton] at hx; subst hx; exact SlI.nil)⟩, Holds.re [1, 2, 1, 1, 1, 1, 1, 1, 1, 0] H rfl⟩
end Go.Proofs.Ytpfgcchammlpgaa.V
