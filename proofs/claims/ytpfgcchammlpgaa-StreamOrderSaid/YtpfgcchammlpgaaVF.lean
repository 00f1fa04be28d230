/- The program's end: attention and what was heard. -/
import Derived.Test.YtpfgcchammlpgaaVE
namespace Go.Proofs.Ytpfgcchammlpgaa.V
open Go Go.Proofs.YtpfgcchammlpgaaV
set_option linter.unusedVariables false
set_option linter.unusedSimpArgs false
set_option maxHeartbeats 1000000
set_option maxRecDepth 4000
attribute [local irreducible] IntKind.wrap
variable {I : Imm} {w : World} {L : List Asn}
/-- A frame as it lies in memory. -/
structure Fm where mk ::
  fr : Fr
  dv : Value
instance : Inhabited Fm := ⟨⟨default, default⟩⟩
def fmC (x : Fm) : List Value := [.int .i64 x.fr.kind, .int .i64 x.fr.id, .int .i64 x.fr.seq, .int .i64 x.fr.n, x.dv]
theorem fmC_len (x : Fm) : (fmC x).length = 5 := rfl
def FmOk (I : Imm) (x : Fm) : Prop := SlI I x.dv 1 x.fr.data.length (byL x.fr.data)
theorem FmOk.mono {I J : Imm} {x : Fm} (h : FmOk I x) (hl : Imm.Le I J) : FmOk J x := SlI.mono h hl
theorem fmC_one {I : Imm} {x : Fm} (h : FmOk I x) : ∀ u ∈ fmC x, oneC u = true := fun u hu => by
  obtain ⟨A, c, e, _⟩ := SlI.form h
  simp only [fmC, List.mem_cons, List.not_mem_nil, or_false] at hu
  rcases hu with rfl | rfl | rfl | rfl | rfl
  · rfl
  · rfl
  · rfl
  · rfl
  · rw [e]; rfl
theorem fmC_ones {I : Imm} {l : List Fm} (h : ∀ x ∈ l, FmOk I x) : ∀ u ∈ l.flatMap fmC, oneC u = true := fun u hu => by
  obtain ⟨x, hx, hu⟩ := List.mem_flatMap.1 hu
  exact fmC_one (h x hx) u hu
/-- A list of frames that is told: nobody writes it again. -/
structure FrsI (I : Imm) (v : Value) (fs : List Fr) : Prop where mk ::
  out : ∃ fl : List Fm, fl.map (·.fr) = fs ∧ SlI I v 5 fl.length (fl.flatMap fmC) ∧ ∀ x ∈ fl, FmOk I x
theorem FrsI.nil {I : Imm} : FrsI I (.slice none 0 0) [] := ⟨[], rfl, SlI.nil, fun x hx => by cases hx⟩
theorem FrsI.mono {I J : Imm} {v : Value} {fs : List Fr} (h : FrsI I v fs) (hl : Imm.Le I J) : FrsI J v fs := by
  obtain ⟨fl, h1, h2, h3⟩ := h.out
  exact ⟨fl, h1, h2.mono hl, fun x hx => (h3 x hx).mono hl⟩
abbrev frV (f : Fr) (v : Value) : Value := .agg #[.int .i64 f.kind, .int .i64 f.id, .int .i64 f.seq, .int .i64 f.n, v]
theorem frsI_one {J : Imm} {v : Value} {f : Fr} {dv : Value} (h : FmOk J ⟨f, dv⟩) (hs : SlI J v 5 1 (fmC ⟨f, dv⟩)) : FrsI J v [f] := ⟨[⟨f, dv⟩], rfl, by simpa using hs, fun x hx => by rw [List.mem_singleton] at hx; subst hx; exact h⟩
theorem bk_one (x : Vb) {A : Option Addr} {m c : Nat} (h : x.1 = .slice A m c) : ∀ u ∈ bkC x, oneC u = true := by
  intro u hu
  simp only [bkC, List.mem_singleton] at hu
  rw [hu, h]
  rfl
theorem heed_any {e : Nat} {E : En} (H : Holds I w (endA I e E :: L)) {f : Fr} {dv : Value} (hdv : SlI I dv 1 f.data.length (byL f.data)) (h60 : f.data.length ≤ 60) (hsq : 0 ≤ f.seq ∧ f.seq < 65536) (hcl : E.codes.length < 1000000) :
    Rets Try.prog F_stream_End_heed #[ptr e, frV f dv] w fun u w' => ∃ J, Imm.Le I J ∧ FrsI J u (heedS E f).2 ∧ Holds J w' (endA J e (heedS E f).1 :: L) := by
  obtain ⟨A, cap, rfl, hcap⟩ := hdv.form
  obtain ⟨A1, c1, A2, c2, A3, c3, A4, c4, A5, c5, nv, cd, ob, es, ib, ms, hl, hm, HB⟩ := end_open H
  clear H
  have H := HB
  clear HB
  have ok := hm.ok
  have hnx := ok.next
  have hcdl : cd.length = E.codes.length := by rw [← hm.codes, List.length_map]
  obtain ⟨kind, id, seq, n, data⟩ := f
  dsimp only at hdv h60 hsq hcap
  obtain ⟨sq, rfl⟩ := Int.eq_ofNat_of_zero_le hsq.1
  have e1 : IntKind.i64.wrap ((E.next : Int) + 1) = ((E.next + 1 : Nat) : Int) := by rw [wrap_i64 (by omega) (by omega)]; omega
  have e2 : ((E.next + 1 : Nat) : Int).tmod (Int.ofNat (65535 + 1)) = (((E.next + 1) % 65536 : Nat) : Int) := by rw [Int.tmod_eq_emod_of_nonneg (by omega)]; rfl
  have e3 : IntKind.i64.wrap ((sq : Int) + 1) = ((sq + 1 : Nat) : Int) := by rw [wrap_i64 (by omega) (by omega)]; omega
  have e4 : ((sq + 1 : Nat) : Int).tmod (Int.ofNat (65535 + 1)) = (((sq + 1) % 65536 : Nat) : Int) := by rw [Int.tmod_eq_emod_of_nonneg (by omega)]; rfl
  by_cases h1 : sq = E.next
  · have hE : heedS E ⟨kind, id, (sq : Nat), n, data⟩ = ({ E with codes := E.codes ++ [data], next := (E.next + 1) % 65536 }, [frameS E 8 (sq : Nat) []]) := if_pos (by show ((sq : Nat) : Int) = _; omega)
    rw [hE]
    have d1 : decide ((sq : Int) = (E.next : Int)) = true := decide_eq_true (by omega)
    refine ok_stream_End_heed.rets rfl ?_
    repeat' (first
      | rw [d1]
      | rw [e1]
      | rw [e2]
      | (refine VcD.append tabOk rfl rfl rfl rfl rfl (Holds.f8 H) (Src.slice rfl (Holds.pt_rd H)) (bk_one (.slice A7 data.length c7, data) rfl) (by show (cd.length + 1) * 24 ≤ _; omega) rfl rfl rfl (fun v_ w H => ⟨⟨Holds.rdWhole (Holds.f4 H), Holds.rdWhole (Holds.f3 H)⟩, ?_⟩); obtain ⟨_, A8, c8, rfl⟩ := Holds.own_len H)
      | (show VcL _ _ _ _ _ _ _ _; first
      | refine VcL.pures tabOk rfl ?_
      | refine VcL.nil ?_
      | (show VcL _ _ _ _ (⟨_, .load _ _, _, _, _, _⟩ :: _) _ _ _; refine VcL.load1 tabOk rfl rfl rfl rfl rfl (by first | exact Holds.cell H rfl | exact Holds.cell (Holds.f4 H) rfl) ?_)
      | refine VcL.box H rfl rfl rfl rfl rfl (fun b w H => ?_)
      | refine VcL.buildSlice tabOk H rfl rfl rfl rfl rfl rfl (fun sv w H => ?_)
      | (show VcL _ _ _ _ (⟨_, .store _ _ _, _, _, _, _⟩ :: _) _ _ _; refine VcL.store tabOk rfl (by exact H) rfl rfl (by exact rfl) (by exact rfl) (by exact rfl) (by exact rfl) (fun w H => ?_))
      | (show VcL _ _ _ _ (⟨_, .call ⟨.value (.func F_stream_End_frame), _, _⟩, _, _, _, _⟩ :: _) _ _ _; (refine VcL.callF ok_stream_End_frame rfl rfl rfl rfl (Rets.mono (frame_any (E := { E with codes := E.codes ++ [data], next := (E.next + 1) % 65536 }) (m := ⟨.slice A1 ob.length c1, .slice A2 es.length c2, .slice A3 ib.length c3, .slice A4 ms.length c4, nv, .slice A8 (cd.length + 1) c8, cd⟩) H (RdW.mem (by repeat (exact .head _)))) ?_); rintro _ w ⟨rfl, H⟩)))
      | (show VcD _ _ _ _ _ _ _ _ _; first
      | refine VcD.pures tabOk rfl ?_
      | refine VcD.done ?_
      | (show VcD _ _ _ _ _ (.take _ _) _ _ _; refine VcD.load1 tabOk rfl rfl rfl rfl rfl rfl (by intro w_ hw_; first | exact Holds.cell hw_ rfl | exact Holds.cell (Holds.f1 hw_) rfl | exact hw_.1 _ _ rfl | exact hw_.2 _ _ rfl) (by exact rfl) ?_)
      | (show VcD _ _ _ _ _ (.only _ _) _ _ _; first
      | (refine VcD.callF (f := F_slices_Clone_byte_byte) rfl ok_slices_Clone_byte_byte rfl rfl rfl rfl (Rets.mono (CloneB_any H (SlI.toR hdv) (byL_one data) (by omega)) ?_); rintro _ w H; obtain ⟨_, A7, c7, rfl⟩ := Holds.own_len H; refine ⟨(by (refine ⟨?_, ?_⟩ <;> first | exact Holds.rdWhole (Holds.f1 H) | exact Holds.rdWhole (Holds.f2 H))), ?_⟩)
      | (refine VcD.eff rfl rfl rfl rfl (OpE.buildSliceP tabOk H rfl rfl rfl rfl) ?_; rintro _ w ⟨b_, rfl, H⟩; refine ⟨(by (refine ⟨?_, ?_⟩ <;> first | exact Holds.rdWhole (Holds.f2 H) | exact Holds.rdWhole (Holds.f3 H))), ?_⟩)
      | (refine VcD.eff rfl rfl rfl rfl (OpE.store tabOk (by exact (Holds.f4 H)) rfl rfl rfl (by exact rfl) (by exact rfl) (by exact rfl) (by exact rfl)) ?_; rintro _ w ⟨_, H⟩; refine ⟨(by trivial), ?_⟩)))
      | (show Vc _ _ _ _ _ _; first
      | refine Vc.seq ?_
      | refine Vc.region ?_
      | refine Vc.condT rfl ?_
      | refine Vc.ret ?_
      | refine Vc.drawnH (id := 1) H (.pure 0 (.pure 2 (.pure 3 (.pure 4 (.take 1 (.take 5 (.pure 6 .done))))))) mixed (by kernel_rfl) (fun w H => ?_)
      | (refine Vc.drawn (id := 2) (.pure 0 (.pure 1 (.pure 2 (.pure 3 (.pure 5 (.take 4 (.take 6 (.only 7 (.only 8 (.only 9 (.pure 10 (.pure 11 (.only 12 .done))))))))))))) (.till (fun w => Rd w e 0 (endV E ⟨.slice A1 ob.length c1, .slice A2 es.length c2, .slice A3 ib.length c3, .slice A4 ms.length c4, nv, .slice A5 cd.length c5, cd⟩) ∧ Rd w b 0 [.int .i64 kind, .int .i64 id, .int .i64 (sq : Nat), .int .i64 n, .slice A data.length cap]) 12 (.one (fun _ => True))) mixed (by kernel_rfl) (by (refine ⟨?_, ?_⟩ <;> first | exact Holds.rdWhole (Holds.drew H _) | exact Holds.rdWhole (Holds.f1 (Holds.drew H _)))) ?_; have H := H.drew (w.drawn + 1)))
      | (show KSeq _ _ _ _ _ _ _; refine KSeq.normal ?_)
      | (show KEnd _ _ _ _ _ _ _; refine KEnd.fin (Or.inr rfl) ⟨_, (ResL.tmp rfl ResL.nil), ?_⟩))
    obtain ⟨J1, hJ1, H, hsv⟩ := Holds.freezeOwn H
    obtain ⟨J2, hJ2, H, hs7⟩ := Holds.freezeOwn (Holds.f3 H)
    refine ⟨J2, hJ1.trans hJ2, frsI_one (f := frameS E 8 (sq : Nat) []) SlI.nil (hsv.mono hJ2), end_close ⟨.slice A1 ob.length c1, .slice A2 es.length c2, .slice A3 ib.length c3, .slice A4 ms.length c4, nv, .slice A8 (cd.length + 1) c8, cd ++ [(.slice A7 data.length c7, data)]⟩ ⟨{ ok with next := Nat.mod_lt _ (by decide), codes := ⟨by show (E.codes ++ [data]).length ≤ _; rw [List.length_append]; show _ + 1 ≤ _; omega, fun b hb => ?_⟩ }, hm.news.mono (hJ1.trans hJ2), ?_, fun c hc => ?_⟩ ⟨hl.out, hl.ends, hl.inn, hl.marks⟩ ?_⟩
    · rcases List.mem_append.1 hb with hb | hb
      · exact ok.codes.2 b hb
      · rw [List.mem_singleton] at hb; rw [hb]; exact h60
    · rw [List.map_append, hm.codes]; rfl
    · rcases List.mem_append.1 hc with hc | hc
      · exact (hm.each c hc).mono (hJ1.trans hJ2)
      · rw [List.mem_singleton] at hc; subst hc; exact hs7
    · show Holds J2 w (blk e _ _ :: own _ _ 1 ob.length _ :: own _ _ 1 es.length _ :: own _ _ 1 ib.length _ :: own _ _ 1 ms.length _ :: own _ _ 1 (cd ++ [((.slice A7 data.length c7, data) : Vb)]).length ((cd ++ [((.slice A7 data.length c7, data) : Vb)]).flatMap bkC) :: L)
      rw [List.length_append, flat_snoc]
      exact Holds.re [0, 1, 1, 1, 1, 0] (Holds.drop2 (Holds.drop2 H)) rfl
  · have d1 : decide ((sq : Int) = (E.next : Int)) = false := decide_eq_false (by omega)
    by_cases h2 : (sq + 1) % 65536 = E.next
    · have hE : heedS E ⟨kind, id, (sq : Nat), n, data⟩ = (E, [frameS E 8 (sq : Nat) []]) := by
        unfold heedS
        rw [if_neg (by show ¬ ((sq : Nat) : Int) = _; omega), if_neg (fun h => h (by show (sq + 1) % 65536 = _; exact h2))]
      rw [hE]
      have d2 : decide ((((sq + 1) % 65536 : Nat) : Int) = (E.next : Int)) = true := decide_eq_true (by omega)
      refine ok_stream_End_heed.rets rfl ?_
      repeat' (first
        | rw [d1]
        | rw [e3]
        | rw [e4]
        | rw [d2]
        | (show VcL _ _ _ _ _ _ _ _; first
      | refine VcL.pures tabOk rfl ?_
      | refine VcL.nil ?_
      | (show VcL _ _ _ _ (⟨_, .load _ _, _, _, _, _⟩ :: _) _ _ _; refine VcL.load1 tabOk rfl rfl rfl rfl rfl (by exact Holds.cell H rfl) ?_)
      | refine VcL.box H rfl rfl rfl rfl rfl (fun b w H => ?_)
      | refine VcL.buildSlice tabOk H rfl rfl rfl rfl rfl rfl (fun sv w H => ?_)
      | (show VcL _ _ _ _ (⟨_, .call ⟨.value (.func F_stream_End_frame), _, _⟩, _, _, _, _⟩ :: _) _ _ _; (refine VcL.callF ok_stream_End_frame rfl rfl rfl rfl (Rets.mono (frame_any (E := E) (m := ⟨.slice A1 ob.length c1, .slice A2 es.length c2, .slice A3 ib.length c3, .slice A4 ms.length c4, nv, .slice A5 cd.length c5, cd⟩) H (RdW.mem (by repeat (first | exact .head _ | apply List.Mem.tail)))) ?_); rintro _ w ⟨rfl, H⟩)))
        | (show VcD _ _ _ _ _ _ _ _ _; first
      | refine VcD.pures tabOk rfl ?_
      | refine VcD.done ?_
      | (show VcD _ _ _ _ _ (.take _ _) _ _ _; refine VcD.load1 tabOk rfl rfl rfl rfl rfl rfl (by intro w_ hw_; first | exact Holds.cell hw_ rfl | exact Holds.cell (Holds.f1 hw_) rfl) (by exact rfl) ?_))
        | (show Vc _ _ _ _ _ _; first
      | refine Vc.seq ?_
      | refine Vc.region ?_
      | refine Vc.condF rfl ?_
      | refine Vc.ret ?_
      | refine Vc.skip ?_
      | refine Vc.drawnH (id := 1) H (.pure 0 (.pure 2 (.pure 3 (.pure 4 (.take 1 (.take 5 (.pure 6 .done))))))) mixed (by kernel_rfl) (fun w H => ?_)
      | refine Vc.drawnH (id := 4) H (.pure 0 (.pure 4 (.pure 5 (.pure 6 (.take 1 (.pure 2 (.pure 3 (.take 7 (.pure 8 .done))))))))) mixed (by kernel_rfl) (fun w H => ?_))
        | (show KSeq _ _ _ _ _ _ _; refine KSeq.normal ?_)
        | (show KEnd _ _ _ _ _ _ _; refine KEnd.fin (Or.inr rfl) ⟨_, (ResL.tmp rfl ResL.nil), ?_⟩))
      obtain ⟨J1, hJ1, H, hsv⟩ := Holds.freezeOwn H
      exact ⟨J1, hJ1, frsI_one (f := frameS E 8 (sq : Nat) []) SlI.nil hsv, end_close _ (hm.mono hJ1) hl (Holds.drop H)⟩
    · have hE : heedS E ⟨kind, id, (sq : Nat), n, data⟩ = (E, []) := by
        unfold heedS
        rw [if_neg (by show ¬ ((sq : Nat) : Int) = _; omega), if_pos (by show (sq + 1) % 65536 ≠ _; exact h2)]
      rw [hE]
      have d2 : decide ((((sq + 1) % 65536 : Nat) : Int) = (E.next : Int)) = false := decide_eq_false (by omega)
      refine ok_stream_End_heed.rets rfl ?_
      repeat' (first
        | rw [d1]
        | rw [e3]
        | rw [e4]
        | rw [d2]
        | (show VcL _ _ _ _ _ _ _ _; first
      | refine VcL.pures tabOk rfl ?_
      | refine VcL.nil ?_
      | refine VcL.box H rfl rfl rfl rfl rfl (fun b w H => ?_))
        | (show VcD _ _ _ _ _ _ _ _ _; first
      | refine VcD.pures tabOk rfl ?_
      | refine VcD.done ?_
      | (show VcD _ _ _ _ _ (.take _ _) _ _ _; refine VcD.load1 tabOk rfl rfl rfl rfl rfl rfl (by intro w_ hw_; first | exact Holds.cell hw_ rfl | exact Holds.cell (Holds.f1 hw_) rfl) (by exact rfl) ?_))
        | (show Vc _ _ _ _ _ _; first
      | refine Vc.seq ?_
      | refine Vc.region ?_
      | refine Vc.condT rfl ?_
      | refine Vc.condF rfl ?_
      | refine Vc.ret ?_
      | refine Vc.drawnH (id := 1) H (.pure 0 (.pure 2 (.pure 3 (.pure 4 (.take 1 (.take 5 (.pure 6 .done))))))) mixed (by kernel_rfl) (fun w H => ?_)
      | refine Vc.drawnH (id := 4) H (.pure 0 (.pure 4 (.pure 5 (.pure 6 (.take 1 (.pure 2 (.pure 3 (.take 7 (.pure 8 .done))))))))) mixed (by kernel_rfl) (fun w H => ?_))
        | (show KSeq _ _ _ _ _ _ _; first
      | refine KSeq.normal ?_
      | refine KSeq.ret ?_)
        | (show KEnd _ _ _ _ _ _ _; refine KEnd.fin (Or.inr rfl) ⟨_, (ResL.tmp rfl ResL.nil), ?_⟩))
      exact ⟨I, Imm.Le.rfl' I, FrsI.nil, end_close _ hm hl (Holds.drop H)⟩
/-! ### What was heard -/
theorem ends_mem : ∀ (l : List Bf) (b : Nat), ∀ x ∈ endsL b l, b < M → ∃ i, i < l.length ∧ x = plusS b i
  | [], _, x, hx, _ => by cases hx
  | y :: r, b, x, hx, hb => by
    have ih := ends_mem r (plusS b 1) x
    unfold endsL at hx
    have hcase : x = b ∨ x ∈ endsL (plusS b 1) r := by
      split at hx
      · exact List.mem_cons.1 hx
      · exact .inr hx
    rcases hcase with rfl | hx
    · exact ⟨0, by rw [List.length_cons]; omega, (plusS_zero hb).symm⟩
    · obtain ⟨i, hi, e⟩ := ih hx (plusS_lt _ _)
      exact ⟨1 + i, by rw [List.length_cons]; omega, by rw [e, plusS_plus]⟩
theorem from_near {b i : Nat} (hb : b < M) (hi : i < M) : fromS b (plusS b i) = i := by unfold fromS plusS; unfold M at *; omega
theorem from_far {b i n : Nat} (hb : b < M) (hi : i < n) (hn : n ≤ 200) : 2147483648 ≤ fromS (plusS b n) (plusS b i) := by unfold fromS plusS; unfold M at *; omega
theorem plus_from {b n : Nat} (hb : b < M) (hn : n < M) : plusS b (fromS b n) = n := by unfold fromS plusS; unfold M at *; omega
/-- The ends that are left. -/
theorem ends_heard {E : En} (ok : EnOk E) {n : Nat} (hn : n < M) (hle : fromS E.base n ≤ E.out.length) : ∃ xs, endsL E.base E.out = xs ++ endsL n (E.out.drop (fromS E.base n)) ∧ (∀ x ∈ xs, x < M ∧ 2147483648 ≤ fromS n x) ∧ ∀ x ∈ endsL n (E.out.drop (fromS E.base n)), x < M ∧ fromS n x < 2147483648 := by
  have hb := ok.base
  have ho := ok.out
  obtain ⟨k, hk⟩ : ∃ k, fromS E.base n = k := ⟨_, rfl⟩
  have hp : plusS E.base k = n := by rw [← hk]; exact plus_from hb hn
  rw [hk] at hle ⊢
  have e := endsL_append (E.out.take k) (E.out.drop k) E.base hb
  rw [List.take_append_drop, List.length_take, Nat.min_eq_left hle, hp] at e
  refine ⟨_, e, fun x hx => ⟨endsL_lt _ _ hb x hx, ?_⟩, fun x hx => ⟨endsL_lt _ _ hn x hx, ?_⟩⟩
  · obtain ⟨i, hi, rfl⟩ := ends_mem _ _ x hx hb
    rw [List.length_take] at hi
    rw [← hp]
    exact from_far hb (by omega) (by omega)
  · obtain ⟨i, hi, rfl⟩ := ends_mem _ _ x hx hn
    rw [List.length_drop] at hi
    rw [from_near hn (by unfold M; omega)]
    omega
end Go.Proofs.Ytpfgcchammlpgaa.V
