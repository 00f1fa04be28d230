/- The program's end: the frames with bytes. -/
import Derived.Test.YtpfgcchammlpgaaVH
namespace Go.Proofs.Ytpfgcchammlpgaa.V
open Go Go.Proofs.YtpfgcchammlpgaaV
set_option linter.unusedVariables false
set_option linter.unusedSimpArgs false
set_option maxHeartbeats 8000000
set_option maxRecDepth 4000
attribute [local irreducible] IntKind.wrap
variable {I : Imm} {w : World} {L : List Asn}
theorem ends_marks : ∀ (l : List Bf) (b j : Nat), b < M → endsL (plusS b j) l = (marksL j l).map fun m => plusS b (m - 1)
  | [], _, _, _ => rfl
  | x :: r, b, j, hb => by
    have ih := ends_marks r b (j + 1) hb
    unfold endsL marksL
    rw [plusS_plus, ih]
    split
    · rw [List.map_cons, Nat.add_sub_cancel]
    · rfl
theorem marks_mem : ∀ (l : List Bf) (j p : Nat), p ∈ marksL j l ↔ ∃ i, i < l.length ∧ p = j + i + 1 ∧ ∃ x, l[i]? = some x ∧ x.2 = true
  | [], j, p => ⟨fun h => (by cases h), fun ⟨i, h, _⟩ => absurd h (Nat.not_lt_zero _)⟩
  | y :: r, j, p => by
    have ih := marks_mem r (j + 1) p
    have h1 : p ∈ marksL j (y :: r) ↔ (p = j + 1 ∧ y.2 = true) ∨ p ∈ marksL (j + 1) r := by
      show p ∈ (if y.2 = true then (j + 1) :: marksL (j + 1) r else marksL (j + 1) r) ↔ _
      split
      · rename_i h; rw [List.mem_cons]; exact ⟨fun hh => hh.imp_left fun e => ⟨e, h⟩, fun hh => hh.imp_left fun e => e.1⟩
      · rename_i h; exact ⟨.inr, fun hh => hh.resolve_left fun e => h e.2⟩
    rw [h1, ih]
    constructor
    · rintro (⟨rfl, h⟩ | ⟨i, hi, rfl, x, hx, h⟩)
      · exact ⟨0, by rw [List.length_cons]; omega, rfl, y, rfl, h⟩
      · exact ⟨i + 1, by rw [List.length_cons]; omega, by omega, x, hx, h⟩
    · rintro ⟨i, hi, rfl, x, hx, h⟩
      cases i with
      | zero =>
        simp only [List.getElem?_cons_zero, Option.some.injEq] at hx
        subst hx
        exact .inl ⟨rfl, h⟩
      | succ i => exact .inr ⟨i, by rw [List.length_cons] at hi; omega, by omega, x, hx, h⟩
theorem marks_gt (l : List Bf) (j : Nat) : ∀ y ∈ marksL j l, j < y := fun y hy => by
  obtain ⟨i, _, rfl, _⟩ := (marks_mem l j y).1 hy
  omega
theorem marks_sorted : ∀ (l : List Bf) (j : Nat), (marksL j l).Pairwise (· < ·)
  | [], _ => List.Pairwise.nil
  | x :: r, j => by
    have ih := marks_sorted r (j + 1)
    unfold marksL
    split
    · exact List.Pairwise.cons (fun y hy => marks_gt r _ y hy) ih
    · exact ih
theorem marks_part {out : List Bf} {at_ n p : Nat} (hn : n ≤ out.length) : p ∈ marksL at_ ((out.take n).drop at_) ↔ p ∈ marksL 0 out ∧ at_ < p ∧ p ≤ n := by
  rw [marks_mem, marks_mem]
  constructor
  · rintro ⟨i, hi, rfl, x, hx, h⟩
    rw [List.length_drop, List.length_take] at hi
    rw [List.getElem?_drop, List.getElem?_take_of_lt (by omega)] at hx
    exact ⟨⟨at_ + i, by omega, by omega, x, hx, h⟩, by omega, by omega⟩
  · rintro ⟨⟨i, hi, rfl, x, hx, h⟩, h1, h2⟩
    refine ⟨i - at_, by rw [List.length_drop, List.length_take]; omega, by omega, x, ?_, h⟩
    rw [List.getElem?_drop, List.getElem?_take_of_lt (by omega), show at_ + (i - at_) = i by omega]
    exact hx
theorem cut_found {out : List Bf} {at_ n to x : Nat} (hn : n ≤ out.length) (hto : to ≤ at_ + 60) (hto2 : to ≤ n) (hx : x ∈ marksL 0 out) (h1 : at_ < x) (h2 : x ≤ to) (hmin : ∀ y ∈ marksL 0 out, at_ < y → x ≤ y) :
    cutN ((out.take n).drop at_) 60 = x - at_ ∧ cutE ((out.take n).drop at_) (x - at_) = true := by
  have hm := (marks_part (at_ := at_) (p := x) hn).2 ⟨hx, h1, by omega⟩
  have hs := marks_sorted ((out.take n).drop at_) at_
  rcases hl : marksL at_ ((out.take n).drop at_) with _ | ⟨x', r⟩
  · rw [hl] at hm; cases hm
  · rw [hl] at hm hs
    have hx' := (marks_part (at_ := at_) (p := x') hn).1 (by rw [hl]; exact List.mem_cons_self)
    have hle := hmin x' hx'.1 hx'.2.1
    have : x' = x := by
      rcases List.mem_cons.1 hm with rfl | hr
      · rfl
      · have := (List.pairwise_cons.1 hs).1 x hr
        omega
    subst this
    obtain ⟨_, _, h3, _⟩ := marks_cons _ at_ 60 x' r hl
    obtain ⟨k1, k2, _⟩ := h3 (by omega)
    exact ⟨k1, k2⟩
theorem cut_none {out : List Bf} {at_ n to : Nat} (hn : n ≤ out.length) (hat : at_ < n) (hto : to = min (at_ + 60) n) (h : ∀ y ∈ marksL 0 out, at_ < y → to < y) :
    cutN ((out.take n).drop at_) 60 = to - at_ ∧ cutE ((out.take n).drop at_) (to - at_) = false := by
  have hlen : ((out.take n).drop at_).length = n - at_ := by rw [List.length_drop, List.length_take]; omega
  rcases hl : marksL at_ ((out.take n).drop at_) with _ | ⟨x, r⟩
  · have := none_cut _ 60 (marks_none _ _ hl)
    rw [this.1, hlen]
    exact ⟨by omega, this.2 _⟩
  · have hx := (marks_part (at_ := at_) (p := x) hn).1 (by rw [hl]; exact List.mem_cons_self)
    have := h x hx.1 hx.2.1
    obtain ⟨_, _, _, h4⟩ := marks_cons _ at_ 60 x r hl
    obtain ⟨k1, _, k3, _⟩ := h4 (by omega)
    have e : to - at_ = 60 := by omega
    rw [e]
    exact ⟨k1, k3⟩
theorem sentG_fuel (E : En) : ∀ (g g' at_ : Nat) (l : List Bf), l.length ≤ g → l.length ≤ g' → sentG E g at_ l = sentG E g' at_ l
  | g, g', at_, [], _, _ => by cases g <;> cases g' <;> rfl
  | 0, _, _, x :: r, h, _ => by rw [List.length_cons] at h; omega
  | _, 0, _, x :: r, _, h => by rw [List.length_cons] at h; omega
  | g + 1, g' + 1, at_, x :: r, h, h' => by
    have hp : 0 < cutN (x :: r) 60 := cutN_pos (by simp) (by decide)
    rw [List.length_cons] at h h'
    unfold sentG
    dsimp only
    rw [sentG_fuel E g g' _ _ (by rw [List.length_drop, List.length_cons]; omega) (by rw [List.length_drop, List.length_cons]; omega)]
/-- One step. -/
theorem sentG_step (E : En) {n at_ k : Nat} {e : Bool} (hn : n ≤ E.out.length) (hat : at_ < n) (hk : cutN ((E.out.take n).drop at_) 60 = k) (he : cutE ((E.out.take n).drop at_) k = e) :
    sentG E (n - at_) at_ ((E.out.take n).drop at_) = frameS E 4 (plusS E.base at_) ((bitB e :: (((E.out.take n).drop at_).take k).map (·.1)) ++ tailS E) :: sentG E (n - (at_ + k)) (at_ + k) ((E.out.take n).drop (at_ + k)) := by
  have hlen : ((E.out.take n).drop at_).length = n - at_ := by rw [List.length_drop, List.length_take]; omega
  have hdd : ((E.out.take n).drop at_).drop k = (E.out.take n).drop (at_ + k) := List.drop_drop
  rcases hl : (E.out.take n).drop at_ with _ | ⟨x, r⟩
  · rw [hl] at hlen; simp at hlen; omega
  · rw [hl] at hk he hlen hdd
    have hp : 0 < cutN (x :: r) 60 := cutN_pos (by simp) (by decide)
    have hle := (cutN_le (x :: r) 60).2
    rw [hk] at hp hle
    rw [hlen] at hle
    obtain ⟨g, hg⟩ : ∃ g, n - at_ = g + 1 := ⟨n - at_ - 1, by omega⟩
    rw [hg]
    show (let k := cutN (x :: r) 60; frameS E 4 (plusS E.base at_) ((bitB (cutE (x :: r) k) :: ((x :: r).take k).map (·.1)) ++ tailS E) :: sentG E g (at_ + k) ((x :: r).drop k)) = _
    dsimp only
    rw [hk, he, hdd]
    congr 1
    have hl2 : ((E.out.take n).drop (at_ + k)).length = n - (at_ + k) := by rw [List.length_drop, List.length_take]; omega
    exact sentG_fuel E _ _ _ _ (by omega) (by omega)
theorem fmC_slice (f : Fr) {A : Option Addr} {n c : Nat} : ∀ u ∈ fmC ⟨f, .slice A n c⟩, oneC u = true := fun u hu => by
  simp only [fmC, List.mem_cons, List.not_mem_nil, or_false] at hu
  rcases hu with rfl | rfl | rfl | rfl | rfl <;> rfl
theorem sent_any {e : Nat} {E : En} (H : Holds I w (endA I e E :: L)) {n : Nat} (hn : n ≤ E.out.length) :
    Rets Try.prog F_stream_End_sent #[ptr e, .int .i64 (n : Nat)] w fun u w' => ∃ J, Imm.Le I J ∧ ∃ fl : List Fm, fl.map (·.fr) = sentS E n ∧ (∀ x ∈ fl, FmOk J x) ∧ fl.length ≤ 200 ∧ Holds J w' (own u 24 5 fl.length (fl.flatMap fmC) :: endA J e E :: L) := by
  obtain ⟨A1, c1, A2, c2, A3, c3, A4, c4, A5, c5, nv, cd, ob, es, ib, ms, hl, hm, HB⟩ := end_open H
  clear H
  have H := HB
  clear HB
  have ok := hm.ok
  have hol := hl.outL
  have hil := hl.innL
  have hin := ok.inn
  have hob := ok.out
  have hb := ok.base
  obtain ⟨ps, hps⟩ : ∃ ps, marksL 0 E.out = ps := ⟨_, rfl⟩
  have hes : es = ps.map fun m => plusS E.base (m - 1) := by
    rw [← hps, ← hl.ends]
    have := ends_marks E.out E.base 0 hb
    rw [plusS_zero hb] at this
    exact this
  have hsort := marks_sorted E.out 0
  have hpr : ∀ p ∈ ps, 0 < p ∧ p ≤ 200 := fun p hp => by
    rw [← hps] at hp
    have h1 := marks_le E.out 0 p hp
    have h2 := marks_gt E.out 0 p hp
    omega
  have hpl : ps.length = es.length := by rw [hes, List.length_map]
  have hel := endsL_len E.out E.base
  rw [hl.ends] at hel
  rw [hps] at hsort
  have hcf := @cut_found E.out
  have hcn := @cut_none E.out
  rw [hps] at hcf hcn
  refine ok_stream_End_sent.rets rfl ?_
  repeat' (first
    | (show VcL _ _ _ _ _ _ _ _; first
      | refine VcL.pures tabOk rfl ?_
      | refine VcL.nil ?_)
    | (show Vc _ _ _ _ _ _; first
      | refine Vc.seq ?_
      | refine Vc.region ?_
      | refine Vc.block ?_)
    | (show KSeq _ _ _ _ _ _ _; refine KSeq.normal ?_))
  refine Vc.loopS [(0, _), (1, _)] (fun q : Nat × Value => [(5, q.2), (6, .int .i64 q.1)]) (fun q w => q.1 ≤ n ∧ ∃ J, Imm.Le I J ∧ ∃ fl : List Fm, fl.map (·.fr) ++ sentG E (n - q.1) q.1 ((E.out.take n).drop q.1) = sentS E n ∧ (∀ x ∈ fl, FmOk J x) ∧ fl.length ≤ q.1 ∧ Holds J w (own q.2 24 5 fl.length (fl.flatMap fmC) :: endQ e E ⟨.slice A1 ob.length c1, .slice A2 es.length c2, .slice A3 ib.length c3, .slice A4 ms.length c4, nv, .slice A5 cd.length c5, cd⟩ ob es ib ms L)) (fun q _ => n - q.1) (0, .slice none 0 0) ⟨rfl, rfl, trivial⟩ ⟨rfl, rfl, trivial⟩ ⟨Nat.zero_le _, I, Imm.Le.rfl' I, [], rfl, fun x hx => (by cases hx), Nat.zero_le _, Holds.own_nil H⟩ ?_
  clear H
  rintro ⟨at_, ov⟩ w ⟨hat, J, hJ, fl, hfl, hfo, hfll, H⟩
  dsimp only at hat hfl hfll H ⊢
  by_cases hlt : at_ < n
  · obtain ⟨b1, o1, _, e4, hc1⟩ := Holds.own_some (by omega) (Holds.f2 H)
    injection e4 with e5 e6 e7
    subst e5; subst e7
    obtain ⟨to, hto⟩ : ∃ to, min (at_ + 60) n = to := ⟨_, rfl⟩
    have e1 : IntKind.i64.wrap ((at_ : Int) + 60) = ((at_ + 60 : Nat) : Int) := by rw [wrap_i64 (by omega) (by omega)]; omega
    have e2 : min ((at_ + 60 : Nat) : Int) (n : Int) = (to : Int) := by omega
    repeat' (first
      | rw [e1]
      | rw [e2]
      | (show VcL _ _ _ _ _ _ _ _; first
      | refine VcL.pures tabOk rfl ?_
      | refine VcL.nil ?_
      | (show VcL _ _ _ _ (⟨_, .load _ _, _, _, _, _⟩ :: _) _ _ _; refine VcL.load1 tabOk rfl rfl rfl rfl rfl (by exact Holds.cell (Holds.f1 H) rfl) ?_))
      | (show Vc _ _ _ _ _ _; first
      | refine Vc.seq ?_
      | refine Vc.region ?_
      | refine Vc.skip ?_
      | refine Vc.block ?_
      | (refine Vc.cond rfl (fun h => ?_) (fun h => ?_) <;> first | (exfalso; simp only [decide_eq_true_eq, decide_eq_false_iff_not, Bool.not_eq_true', Bool.not_eq_false'] at h; omega) | (with_reducible have hp := of_decide_eq_true h)))
      | (show KSeq _ _ _ _ _ _ _; refine KSeq.normal ?_))
    refine Vc.loopS [(0, _), (1, _), (5, _), (6, _), (23, _), (24, _)] (fun i : Nat => [(7, .int .i64 to), (8, .int .u8 0), (25, .int .i64 i)]) (fun i w => i ≤ es.length ∧ (∀ j, j < i → ¬ (at_ < atD ps j ∧ atD ps j ≤ to)) ∧ Holds J w (own ov 24 5 fl.length (fl.flatMap fmC) :: endQ e E ⟨.slice (some ⟨b1, o1, none⟩) ob.length c1, .slice A2 es.length c2, .slice A3 ib.length c3, .slice A4 ms.length c4, nv, .slice A5 cd.length c5, cd⟩ ob es ib ms L)) (fun i _ => es.length - i) 0 ⟨rfl, rfl, rfl, trivial⟩ ⟨rfl, rfl, rfl, rfl, rfl, rfl, trivial⟩ ⟨Nat.zero_le _, fun j hj => absurd hj (Nat.not_lt_zero _), H⟩ ?_
    clear H
    rintro i w ⟨hi, hno, H⟩
    by_cases hli : i < es.length
    · have hpm := atD_mem (show i < ps.length by omega)
      obtain ⟨p, hpi⟩ : ∃ p, atD ps i = p := ⟨_, rfl⟩
      rw [hpi] at hpm
      obtain ⟨hp0, hp2⟩ := hpr p hpm
      have hqe : es[i]? = some (plusS E.base (p - 1)) := by rw [hes, List.getElem?_map, atD_get (by omega), hpi]; rfl
      have hfr : fromS E.base (plusS E.base (p - 1)) = p - 1 := from_near hb (by unfold M; omega)
      have hfrom := fun (w : World) (L : List Asn) (H : Holds J w L) => from_any (a := E.base) (b := plusS E.base (p - 1)) H hb (plusS_lt _ _)
      rw [hfr] at hfrom
      obtain ⟨b4, o4, _, e4, hc4⟩ := Holds.own_some (by omega) (Holds.f3 H)
      injection e4 with e5 e6 e7
      subst e5
      by_cases hin2 : at_ < p ∧ p ≤ to
      · have d1 : decide ((at_ : Int) ≤ ((p - 1 : Nat) : Int)) = true := decide_eq_true (by omega)
        have d2 : decide (((p - 1 : Nat) : Int) < (to : Int)) = true := decide_eq_true (by omega)
        have e3 : IntKind.i64.wrap (((p - 1 : Nat) : Int) + 1) = (p : Int) := by rw [wrap_i64 (by omega) (by omega)]; omega
        obtain ⟨hk1, hk2⟩ := hcf (n := n) (to := to) hn (by omega) (by omega) hpm hin2.1 hin2.2 (fun y hy hy1 => by
          obtain ⟨i', hi', rfl⟩ := mem_atD hy
          rcases Nat.lt_trichotomy i' i with h | h | h
          · have := hno i' h; omega
          · subst h; rw [hpi]; exact Nat.le_refl _
          · have := List.pairwise_iff_getElem.1 hsort i i' (by omega) (by omega) h
            have g1 : ps[i]'(by omega) = p := by rw [← hpi]; exact (atD_of (List.getElem?_eq_getElem _)).symm
            have g2 : ps[i']'(by omega) = atD ps i' := (atD_of (List.getElem?_eq_getElem _)).symm
            omega)
        obtain ⟨to2, hto2⟩ : ∃ t, t = p := ⟨_, rfl⟩
        rw [← hto2] at hk1 hk2 hin2
        have e3 : IntKind.i64.wrap (((p - 1 : Nat) : Int) + 1) = (to2 : Int) := by rw [wrap_i64 (by omega) (by omega)]; omega
        obtain ⟨pc, hpc⟩ : ∃ pc, (((E.out.take n).drop at_).take (to2 - at_)).map (·.1) = pc := ⟨_, rfl⟩
        have hpo : (ob.take to2).drop at_ = pc := by
          rw [← hpc, ← hl.out, List.drop_take, List.drop_take, List.take_take, Nat.min_eq_left (by omega), List.map_take, List.map_drop]
        have hpcl : pc.length = to2 - at_ := by rw [← hpo, List.length_drop, List.length_take]; omega
        have hstep := sentG_step E hn hlt hk1 hk2
        rw [hpc, show at_ + (to2 - at_) = to2 by omega] at hstep
        repeat' (first
          | rw [d1]
          | rw [d2]
          | rw [e3]
          | (refine VcL.sliceN (l := at_) (h := to2) tabOk rfl rfl rfl rfl rfl rfl rfl (by omega) (by omega) (fun q1 hq1 => ?_))
          | (refine VcL.append (m := to2 - at_) (ds := byL pc) tabOk rfl rfl rfl rfl H (SlR.src (v := .slice (some ⟨b1, q1, none⟩) (to2 - at_) (c1 - at_)) (by rw [← hpo, ← byL_drop, ← byL_take]; exact SlR.drop (SlR.take (SlR.mem (e := 5) (Holds.drop H) (by repeat (first | exact .head _ | apply List.Mem.tail))) (by omega)) (by omega) hq1) (Holds.drop H)) (byL_one pc) (by show (_ + _) * 1 ≤ _; omega) rfl rfl rfl (fun v_ w H => ?_); obtain ⟨_, A7, c7, rfl⟩ := Holds.own_len H)
          | (refine VcL.append (m := 2) (ds := byL (tailS E)) tabOk rfl rfl rfl rfl (Holds.f1 H) (Holds.own_src H) (byL_one _) (by show (_ + _) * 1 ≤ _; omega) rfl rfl rfl (fun v_ w H => ?_); obtain ⟨_, A9, c9, rfl⟩ := Holds.own_len H)
          | (refine VcL.append (m := 1) (ds := fmC ⟨frameS E 4 (plusS E.base at_ : Nat) ((bitB true :: pc) ++ tailS E), .slice A9 (1 + (to2 - at_) + 2) c9⟩) tabOk rfl rfl rfl rfl (Holds.f3 H) (Holds.own_src H) (fmC_slice _) (by show (_ + 1) * 56 ≤ _; omega) rfl rfl rfl (fun ov2 w H => ?_))
          | (show VcL _ _ _ _ _ _ _ _; first
      | refine VcL.pures tabOk rfl ?_
      | refine VcL.nil ?_
      | (show VcL _ _ _ _ (⟨_, .load _ _, _, _, _, _⟩ :: _) _ _ _; refine VcL.load1 tabOk rfl rfl rfl rfl rfl (by first | exact Holds.cell (Holds.f1 H) rfl | exact Holds.cell (Holds.f2 H) rfl | exact Holds.ownCell0 (Holds.f3 H) (fun _ => rfl) (by assumption) rfl) ?_)
      | (show VcL _ _ _ _ (⟨_, .indexAddr _ _ _, _, _, _, _⟩ :: _) _ _ _; refine VcL.indexAddr tabOk rfl rfl rfl rfl rfl rfl (by omega) (by omega) ?_)
      | refine VcL.buildSlice tabOk H rfl rfl rfl rfl rfl rfl (fun sv w H => ?_)
      | (show VcL _ _ _ _ (⟨_, .call ⟨.value (.func F_stream_from), _, _⟩, _, _, _, _⟩ :: _) _ _ _; (refine VcL.callF ok_stream_from rfl rfl rfl rfl (Rets.mono (hfrom _ _ H) ?_); rintro _ w ⟨rfl, H⟩))
      | (show VcL _ _ _ _ (⟨_, .call ⟨.value (.func F_stream_plus), _, _⟩, _, _, _, _⟩ :: _) _ _ _; (refine VcL.callF ok_stream_plus rfl rfl rfl rfl (Rets.mono (plus_any (a := E.base) (b := at_) H (by unfold M at hb; omega) (by omega)) ?_); rintro _ w ⟨rfl, H⟩))
      | (show VcL _ _ _ _ (⟨_, .call ⟨.value (.func F_stream_End_tail), _, _⟩, _, _, _, _⟩ :: _) _ _ _; (refine VcL.callF ok_stream_End_tail rfl rfl rfl rfl (Rets.mono (tail_any (E := E) (m := ⟨.slice (some ⟨b1, o1, none⟩) ob.length c1, .slice (some ⟨b4, o4, none⟩) es.length c2, .slice A3 ib.length c3, .slice A4 ms.length c4, nv, .slice A5 cd.length c5, cd⟩) H (RdW.mem (by repeat (first | exact .head _ | apply List.Mem.tail))) rfl hil hin) ?_); rintro _ w H; obtain ⟨_, A8, c8, rfl⟩ := Holds.own_len H))
      | (show VcL _ _ _ _ (⟨_, .call ⟨.value (.func F_stream_End_frame), _, _⟩, _, _, _, _⟩ :: _) _ _ _; (refine VcL.callF ok_stream_End_frame rfl rfl rfl rfl (Rets.mono (frame_any (E := E) (m := ⟨.slice (some ⟨b1, o1, none⟩) ob.length c1, .slice (some ⟨b4, o4, none⟩) es.length c2, .slice A3 ib.length c3, .slice A4 ms.length c4, nv, .slice A5 cd.length c5, cd⟩) H (RdW.mem (by repeat (first | exact .head _ | apply List.Mem.tail)))) ?_); rintro _ w ⟨rfl, H⟩))
      | (refine VcL.guard rfl rfl rfl rfl (fun h => ?_) (fun h => ?_) <;> first | (cases h; done) | skip))
          | (show Vc _ _ _ _ _ _; first
      | refine Vc.seq ?_
      | refine Vc.region ?_
      | refine Vc.condT rfl ?_
      | refine Vc.skip ?_
      | refine Vc.block ?_
      | refine Vc.exit ?_
      | (refine Vc.cond rfl (fun h => ?_) (fun h => ?_) <;> first | (exfalso; simp only [decide_eq_true_eq, decide_eq_false_iff_not, Bool.not_eq_true', Bool.not_eq_false'] at h; omega) | (with_reducible have hp := of_decide_eq_true h)))
          | (show KSeq _ _ _ _ _ _ _; first
      | refine KSeq.normal ?_
      | refine KSeq.exit ?_)
          | (show KBlock _ _ _ _ _ _; first
      | refine KBlock.normal ?_
      | refine KBlock.here ?_
      | refine KBlock.on rfl ?_)
          | refine KLoop.exit ?_)
        have H : Holds J w (own ov2 24 5 (fl.length + 1) (fl.flatMap fmC ++ fmC ⟨frameS E 4 (plusS E.base at_ : Nat) ((bitB true :: pc) ++ tailS E), .slice A9 (1 + (to2 - at_) + 2) c9⟩) :: own (.slice A9 (1 + (to2 - at_) + 2) c9) 5 1 (1 + (to2 - at_) + 2) (byL ((bitB true :: pc) ++ tailS E)) :: endQ e E ⟨.slice (some ⟨b1, o1, none⟩) ob.length c1, .slice (some ⟨b4, o4, none⟩) es.length c2, .slice A3 ib.length c3, .slice A4 ms.length c4, nv, .slice A5 cd.length c5, cd⟩ ob es ib ms L) := by
          rw [show byL ((bitB true :: pc) ++ tailS E) = byteV (bitB true) :: byL pc ++ byL (tailS E) from List.map_append]
          exact Holds.drop2 (Holds.drop1 H)
        obtain ⟨J2, hJ2, H, hs9⟩ := Holds.freezeOwn (Holds.f1 H)
        have hFm : FmOk J2 ⟨frameS E 4 (plusS E.base at_ : Nat) ((bitB true :: pc) ++ tailS E), .slice A9 (1 + (to2 - at_) + 2) c9⟩ := by
          have e9 : ((bitB true :: pc) ++ tailS E).length = 1 + (to2 - at_) + 2 := by rw [List.length_append, List.length_cons, hpcl]; show _ + 1 + 2 = _; omega
          show SlI J2 _ 1 ((bitB true :: pc) ++ tailS E).length (byL ((bitB true :: pc) ++ tailS E))
          rw [e9]
          exact hs9
        refine KLoop.again (to2, ov2) ⟨rfl, rfl, trivial⟩ ⟨rfl, rfl, trivial⟩ ⟨by show to2 ≤ n; omega, J2, hJ.trans hJ2, fl ++ [⟨frameS E 4 (plusS E.base at_ : Nat) ((bitB true :: pc) ++ tailS E), .slice A9 (1 + (to2 - at_) + 2) c9⟩], ?_, fun x hx => ?_, by rw [List.length_append]; show fl.length + 1 ≤ to2; omega, ?_⟩ (by show _ < _; omega)
        · rw [List.map_append, List.append_assoc, ← hfl, hstep]
          rfl
        · rcases List.mem_append.1 hx with hx | hx
          · exact (hfo x hx).mono hJ2
          · rw [List.mem_singleton] at hx; subst hx; exact hFm
        · rw [List.length_append, flat_snoc]
          exact H
      · have hdd : (decide ((at_ : Int) ≤ ((p - 1 : Nat) : Int)) && decide (((p - 1 : Nat) : Int) < (to : Int))) = false := by
          rw [Bool.and_eq_false_iff]
          rcases Nat.lt_or_ge at_ p with h | h
          · exact .inr (decide_eq_false (by omega))
          · exact .inl (decide_eq_false (by omega))
        by_cases hap : at_ < p
        · have d1 : decide ((at_ : Int) ≤ ((p - 1 : Nat) : Int)) = true := decide_eq_true (by omega)
          have d2 : decide (((p - 1 : Nat) : Int) < (to : Int)) = false := decide_eq_false (by omega)
          repeat' (first
            | rw [d1]
            | rw [d2]
            | (show VcL _ _ _ _ _ _ _ _; first
      | refine VcL.pures tabOk rfl ?_
      | refine VcL.nil ?_
      | (show VcL _ _ _ _ (⟨_, .load _ _, _, _, _, _⟩ :: _) _ _ _; refine VcL.load1 tabOk rfl rfl rfl rfl rfl (by first | exact Holds.cell (Holds.f1 H) rfl | exact Holds.ownCell0 (Holds.f3 H) (fun _ => rfl) (by assumption) rfl) ?_)
      | (show VcL _ _ _ _ (⟨_, .indexAddr _ _ _, _, _, _, _⟩ :: _) _ _ _; refine VcL.indexAddr tabOk rfl rfl rfl rfl rfl rfl (by omega) (by omega) ?_)
      | (show VcL _ _ _ _ (⟨_, .call ⟨.value (.func F_stream_from), _, _⟩, _, _, _, _⟩ :: _) _ _ _; (refine VcL.callF ok_stream_from rfl rfl rfl rfl (Rets.mono (hfrom _ _ H) ?_); rintro _ w ⟨rfl, H⟩))
      | (refine VcL.guard rfl rfl rfl rfl (fun h => ?_) (fun h => ?_) <;> first | (cases h; done) | skip))
            | (show Vc _ _ _ _ _ _; first
      | refine Vc.seq ?_
      | refine Vc.region ?_
      | refine Vc.condF rfl ?_
      | refine Vc.skip ?_
      | refine Vc.block ?_
      | (refine Vc.cond rfl (fun h => ?_) (fun h => ?_) <;> first | (exfalso; simp only [decide_eq_true_eq, decide_eq_false_iff_not, Bool.not_eq_true', Bool.not_eq_false'] at h; omega) | (with_reducible have hp := of_decide_eq_true h)))
            | (show KSeq _ _ _ _ _ _ _; refine KSeq.normal ?_)
            | (show KBlock _ _ _ _ _ _; refine KBlock.normal ?_))
          exact KLoop.again (i + 1) ⟨rfl, rfl, got_succ rfl (by omega), trivial⟩ ⟨rfl, rfl, rfl, rfl, rfl, rfl, trivial⟩ ⟨hli, fun j hj => by
            rcases Nat.lt_or_ge j i with h | h
            · exact hno j h
            · obtain rfl : j = i := by omega
              rw [hpi]; exact hin2, H⟩ (by omega)
        · have d1 : decide ((at_ : Int) ≤ ((p - 1 : Nat) : Int)) = false := decide_eq_false (by omega)
          repeat' (first
            | rw [d1]
            | (show VcL _ _ _ _ _ _ _ _; first
      | refine VcL.pures tabOk rfl ?_
      | refine VcL.nil ?_
      | (show VcL _ _ _ _ (⟨_, .load _ _, _, _, _, _⟩ :: _) _ _ _; refine VcL.load1 tabOk rfl rfl rfl rfl rfl (by first | exact Holds.cell (Holds.f1 H) rfl | exact Holds.ownCell0 (Holds.f3 H) (fun _ => rfl) (by assumption) rfl) ?_)
      | (show VcL _ _ _ _ (⟨_, .indexAddr _ _ _, _, _, _, _⟩ :: _) _ _ _; refine VcL.indexAddr tabOk rfl rfl rfl rfl rfl rfl (by omega) (by omega) ?_)
      | (show VcL _ _ _ _ (⟨_, .call ⟨.value (.func F_stream_from), _, _⟩, _, _, _, _⟩ :: _) _ _ _; (refine VcL.callF ok_stream_from rfl rfl rfl rfl (Rets.mono (hfrom _ _ H) ?_); rintro _ w ⟨rfl, H⟩))
      | (refine VcL.guard rfl rfl rfl rfl (fun h => ?_) (fun h => ?_) <;> first | (cases h; done) | skip))
            | (show Vc _ _ _ _ _ _; first
      | refine Vc.seq ?_
      | refine Vc.region ?_
      | refine Vc.condF rfl ?_
      | refine Vc.skip ?_
      | refine Vc.block ?_
      | (refine Vc.cond rfl (fun h => ?_) (fun h => ?_) <;> first | (exfalso; simp only [decide_eq_true_eq, decide_eq_false_iff_not, Bool.not_eq_true', Bool.not_eq_false'] at h; omega) | (with_reducible have hp := of_decide_eq_true h)))
            | (show KSeq _ _ _ _ _ _ _; refine KSeq.normal ?_)
            | (show KBlock _ _ _ _ _ _; refine KBlock.normal ?_))
          exact KLoop.again (i + 1) ⟨rfl, rfl, got_succ rfl (by omega), trivial⟩ ⟨rfl, rfl, rfl, rfl, rfl, rfl, trivial⟩ ⟨hli, fun j hj => by
            rcases Nat.lt_or_ge j i with h | h
            · exact hno j h
            · obtain rfl : j = i := by omega
              rw [hpi]; exact hin2, H⟩ (by omega)
    · obtain rfl : i = es.length := by omega
      obtain ⟨hk1, hk2⟩ := hcn (n := n) (to := to) hn hlt hto.symm (fun y hy hy1 => by
        obtain ⟨i', hi', rfl⟩ := mem_atD hy
        have := hno i' (by omega)
        omega)
      obtain ⟨to2, hto2⟩ : ∃ t, t = to := ⟨_, rfl⟩
      rw [← hto2] at hk1 hk2
      subst hto2
      obtain ⟨pc, hpc⟩ : ∃ pc, (((E.out.take n).drop at_).take (to2 - at_)).map (·.1) = pc := ⟨_, rfl⟩
      have hpo : (ob.take to2).drop at_ = pc := by
        rw [← hpc, ← hl.out, List.drop_take, List.drop_take, List.take_take, Nat.min_eq_left (by omega), List.map_take, List.map_drop]
      have hpcl : pc.length = to2 - at_ := by rw [← hpo, List.length_drop, List.length_take]; omega
      have hstep := sentG_step E hn hlt hk1 hk2
      rw [hpc, show at_ + (to2 - at_) = to2 by omega] at hstep
      repeat' (first
        | (refine VcL.sliceN (l := at_) (h := to2) tabOk rfl rfl rfl rfl rfl rfl rfl (by omega) (by omega) (fun q1 hq1 => ?_))
        | (refine VcL.append (m := to2 - at_) (ds := byL pc) tabOk rfl rfl rfl rfl H (SlR.src (v := .slice (some ⟨b1, q1, none⟩) (to2 - at_) (c1 - at_)) (by rw [← hpo, ← byL_drop, ← byL_take]; exact SlR.drop (SlR.take (SlR.mem (e := 5) (Holds.drop H) (by repeat (first | exact .head _ | apply List.Mem.tail))) (by omega)) (by omega) hq1) (Holds.drop H)) (byL_one pc) (by show (_ + _) * 1 ≤ _; omega) rfl rfl rfl (fun v_ w H => ?_); obtain ⟨_, A7, c7, rfl⟩ := Holds.own_len H)
        | (refine VcL.append (m := 2) (ds := byL (tailS E)) tabOk rfl rfl rfl rfl (Holds.f1 H) (Holds.own_src H) (byL_one _) (by show (_ + _) * 1 ≤ _; omega) rfl rfl rfl (fun v_ w H => ?_); obtain ⟨_, A9, c9, rfl⟩ := Holds.own_len H)
        | (refine VcL.append (m := 1) (ds := fmC ⟨frameS E 4 (plusS E.base at_ : Nat) ((bitB false :: pc) ++ tailS E), .slice A9 (1 + (to2 - at_) + 2) c9⟩) tabOk rfl rfl rfl rfl (Holds.f3 H) (Holds.own_src H) (fmC_slice _) (by show (_ + 1) * 56 ≤ _; omega) rfl rfl rfl (fun ov2 w H => ?_))
        | (show VcL _ _ _ _ _ _ _ _; first
      | refine VcL.pures tabOk rfl ?_
      | refine VcL.nil ?_
      | (show VcL _ _ _ _ (⟨_, .load _ _, _, _, _, _⟩ :: _) _ _ _; refine VcL.load1 tabOk rfl rfl rfl rfl rfl (by exact Holds.cell (Holds.f2 H) rfl) ?_)
      | refine VcL.buildSlice tabOk H rfl rfl rfl rfl rfl rfl (fun sv w H => ?_)
      | (show VcL _ _ _ _ (⟨_, .call ⟨.value (.func F_stream_plus), _, _⟩, _, _, _, _⟩ :: _) _ _ _; (refine VcL.callF ok_stream_plus rfl rfl rfl rfl (Rets.mono (plus_any (a := E.base) (b := at_) H (by unfold M at hb; omega) (by omega)) ?_); rintro _ w ⟨rfl, H⟩))
      | (show VcL _ _ _ _ (⟨_, .call ⟨.value (.func F_stream_End_tail), _, _⟩, _, _, _, _⟩ :: _) _ _ _; (refine VcL.callF ok_stream_End_tail rfl rfl rfl rfl (Rets.mono (tail_any (E := E) (m := ⟨.slice (some ⟨b1, o1, none⟩) ob.length c1, .slice A2 es.length c2, .slice A3 ib.length c3, .slice A4 ms.length c4, nv, .slice A5 cd.length c5, cd⟩) H (RdW.mem (by repeat (first | exact .head _ | apply List.Mem.tail))) rfl hil hin) ?_); rintro _ w H; obtain ⟨_, A8, c8, rfl⟩ := Holds.own_len H))
      | (show VcL _ _ _ _ (⟨_, .call ⟨.value (.func F_stream_End_frame), _, _⟩, _, _, _, _⟩ :: _) _ _ _; (refine VcL.callF ok_stream_End_frame rfl rfl rfl rfl (Rets.mono (frame_any (E := E) (m := ⟨.slice (some ⟨b1, o1, none⟩) ob.length c1, .slice A2 es.length c2, .slice A3 ib.length c3, .slice A4 ms.length c4, nv, .slice A5 cd.length c5, cd⟩) H (RdW.mem (by repeat (first | exact .head _ | apply List.Mem.tail)))) ?_); rintro _ w ⟨rfl, H⟩)))
        | (show Vc _ _ _ _ _ _; first
      | refine Vc.seq ?_
      | refine Vc.region ?_
      | refine Vc.exit ?_
      | (refine Vc.cond rfl (fun h => ?_) (fun h => ?_) <;> first | (exfalso; simp only [decide_eq_true_eq, decide_eq_false_iff_not, Bool.not_eq_true', Bool.not_eq_false'] at h; omega) | (with_reducible have hp := of_decide_eq_false h)))
        | (show KSeq _ _ _ _ _ _ _; first
      | refine KSeq.normal ?_
      | refine KSeq.exit ?_)
        | (show KBlock _ _ _ _ _ _; first
      | refine KBlock.normal ?_
      | refine KBlock.here ?_)
        | refine KLoop.exit ?_)
      have H : Holds J w (own ov2 24 5 (fl.length + 1) (fl.flatMap fmC ++ fmC ⟨frameS E 4 (plusS E.base at_ : Nat) ((bitB false :: pc) ++ tailS E), .slice A9 (1 + (to2 - at_) + 2) c9⟩) :: own (.slice A9 (1 + (to2 - at_) + 2) c9) 5 1 (1 + (to2 - at_) + 2) (byL ((bitB false :: pc) ++ tailS E)) :: endQ e E ⟨.slice (some ⟨b1, o1, none⟩) ob.length c1, .slice A2 es.length c2, .slice A3 ib.length c3, .slice A4 ms.length c4, nv, .slice A5 cd.length c5, cd⟩ ob es ib ms L) := by
        rw [show byL ((bitB false :: pc) ++ tailS E) = byteV (bitB false) :: byL pc ++ byL (tailS E) from List.map_append]
        exact Holds.drop2 (Holds.drop1 H)
      obtain ⟨J2, hJ2, H, hs9⟩ := Holds.freezeOwn (Holds.f1 H)
      have hFm : FmOk J2 ⟨frameS E 4 (plusS E.base at_ : Nat) ((bitB false :: pc) ++ tailS E), .slice A9 (1 + (to2 - at_) + 2) c9⟩ := by
        have e9 : ((bitB false :: pc) ++ tailS E).length = 1 + (to2 - at_) + 2 := by rw [List.length_append, List.length_cons, hpcl]; show _ + 1 + 2 = _; omega
        show SlI J2 _ 1 ((bitB false :: pc) ++ tailS E).length (byL ((bitB false :: pc) ++ tailS E))
        rw [e9]
        exact hs9
      refine KLoop.again (to2, ov2) ⟨rfl, rfl, trivial⟩ ⟨rfl, rfl, trivial⟩ ⟨by show to2 ≤ n; omega, J2, hJ.trans hJ2, fl ++ [⟨frameS E 4 (plusS E.base at_ : Nat) ((bitB false :: pc) ++ tailS E), .slice A9 (1 + (to2 - at_) + 2) c9⟩], ?_, fun x hx => ?_, by rw [List.length_append]; show fl.length + 1 ≤ to2; omega, ?_⟩ (by show _ < _; omega)
      · rw [List.map_append, List.append_assoc, ← hfl, hstep]
        rfl
      · rcases List.mem_append.1 hx with hx | hx
        · exact (hfo x hx).mono hJ2
        · rw [List.mem_singleton] at hx; subst hx; exact hFm
      · rw [List.length_append, flat_snoc]
        exact H
  · obtain rfl : at_ = n := by omega
    repeat' (first
      | (show VcL _ _ _ _ _ _ _ _; first
      | refine VcL.pures tabOk rfl ?_
      | refine VcL.nil ?_)
      | (show Vc _ _ _ _ _ _; first
      | refine Vc.seq ?_
      | refine Vc.region ?_
      | refine Vc.ret ?_
      | refine Vc.exit ?_
      | (refine Vc.cond rfl (fun h => ?_) (fun h => ?_) <;> first | (exfalso; simp only [decide_eq_true_eq, decide_eq_false_iff_not, Bool.not_eq_true', Bool.not_eq_false'] at h; omega) | (with_reducible have hp := of_decide_eq_false h)))
      | (show KSeq _ _ _ _ _ _ _; first
      | refine KSeq.normal ?_
      | refine KSeq.exit ?_)
      | (show KBlock _ _ _ _ _ _; refine KBlock.here ?_)
      | refine KLoop.exit ?_
      | (show KEnd _ _ _ _ _ _ _; refine KEnd.fin (Or.inr rfl) ⟨_, (ResL.tmp rfl ResL.nil), ?_⟩))
    refine ⟨J, hJ, fl, ?_, hfo, by omega, Holds.swap (end_close _ (hm.mono hJ) hl (Holds.re [1, 1, 1, 1, 1, 1, 0] H rfl))⟩
    rw [Nat.sub_self] at hfl
    simpa [sentG] using hfl
end Go.Proofs.Ytpfgcchammlpgaa.V
