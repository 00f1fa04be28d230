/- The program's end: bytes are read. -/
import Derived.Test.YtpfgcchammlpgaaVD
namespace Go.Proofs.Ytpfgcchammlpgaa.V
open Go Go.Proofs.YtpfgcchammlpgaaV
set_option linter.unusedVariables false
set_option linter.unusedSimpArgs false
set_option maxHeartbeats 1000000
set_option maxRecDepth 4000
attribute [local irreducible] IntKind.wrap
variable {I : Imm} {w : World} {L : List Asn}
theorem SlR.mem {v : Value} {e sz n : Nat} {cs : List Value} (H : Holds I w L) (h : own v e sz n cs ∈ L) : SlR I L v sz n cs := by
  obtain ⟨s, t, rfl⟩ := List.append_of_mem h
  exact SlR.more (Holds.own_toR (Holds.perm H List.perm_middle)) fun w H => Holds.perm H List.perm_middle
theorem byL_drop (l : By) (k : Nat) : (byL l).drop (k * 1) = byL (l.drop k) := by rw [Nat.mul_one]; exact List.map_drop.symm
theorem byL_take (l : By) (k : Nat) : (byL l).take (k * 1) = byL (l.take k) := by rw [Nat.mul_one]; exact List.map_take.symm
theorem marks_le : ∀ (l : List Bf) (j : Nat), ∀ y ∈ marksL j l, y ≤ j + l.length
  | [], _, y, hy => by cases hy
  | x :: r, j, y, hy => by
    have ih := marks_le r (j + 1)
    unfold marksL at hy
    rw [List.length_cons]
    split at hy
    · rcases List.mem_cons.1 hy with rfl | hy
      · omega
      · have := ih y hy; omega
    · have := ih y hy; omega
theorem Read_any {e : Nat} {E : En} (H : Holds I w (endA I e E :: L)) {n : Nat} (hn : 1 ≤ n) (hnb : n ≤ 9223372036854775807) :
    Rets Try.prog F_stream_End_Read #[ptr e, .int .i64 (n : Nat)] w fun u w' => ∃ bv, u = .tuple #[bv, .bool (cutE E.inn (cutN E.inn n)), .int .i64 0] ∧ Holds I w' (own bv 5 1 (cutN E.inn n) (byL ((E.inn.take (cutN E.inn n)).map (·.1))) :: endA I e { E with inn := E.inn.drop (cutN E.inn n) } :: L) := by
  obtain ⟨A1, c1, A2, c2, A3, c3, A4, c4, A5, c5, nv, cd, ob, es, ib, ms, hl, hm, HB⟩ := end_open H
  clear H
  have H := HB
  clear HB
  have ok := hm.ok
  have hil := hl.innL
  have hin := ok.inn
  have hmin : min (n : Int) (ib.length : Int) = ((min n ib.length : Nat) : Int) := by omega
  have hmsl := marksL_len E.inn 0
  rw [hl.marks] at hmsl
  rcases marks_read E.inn n hl.marks with ⟨rfl, hk, hce, hml⟩ | ⟨x, r, rfl, hxl, ⟨hxn, hk, hce, hml, hgt⟩ | ⟨hxn, hk, hce, hml, hgt⟩⟩
  · obtain ⟨k, hkk⟩ : ∃ k, min n ib.length = k := ⟨_, rfl⟩
    rw [← hil, hkk] at hk
    rw [hk] at hce hml ⊢
    rw [hce]
    rw [hkk] at hmin
    refine ok_stream_End_Read.rets rfl ?_
    repeat' (first
      | rw [hmin]
      | (refine VcL.sliceToA (h := k) (A := A3) (len := ib.length) (cap := c3) (cs := byL ib) tabOk (Holds.f3 H) rfl rfl rfl rfl rfl rfl (by omega) ?_)
      | (refine VcL.sliceOwn (l := k) (A := A3) (len := ib.length) (cap := c3) (cs := byL ib) tabOk (Holds.f4 H) rfl rfl rfl rfl rfl rfl (by omega) (fun A7 c7 H => ?_))
      | (show VcL _ _ _ _ _ _ _ _; first
      | refine VcL.pures tabOk rfl ?_
      | refine VcL.nil ?_
      | (show VcL _ _ _ _ (⟨_, .load _ _, _, _, _, _⟩ :: _) _ _ _; refine VcL.load1 tabOk rfl rfl rfl rfl rfl (by first | exact Holds.cell H rfl | exact Holds.cell (Holds.f1 H) rfl) ?_)
      | (show VcL _ _ _ _ (⟨_, .store _ _ _, _, _, _, _⟩ :: _) _ _ _; refine VcL.store tabOk rfl (by exact (Holds.f2 H)) rfl rfl (by exact rfl) (by exact rfl) (by exact rfl) (by exact rfl) (fun w H => ?_))
      | (show VcL _ _ _ _ (⟨_, .call ⟨.value (.func F_stream_End_none), _, _⟩, _, _, _, _⟩ :: _) _ _ _; (refine VcL.callF ok_stream_End_none rfl rfl rfl rfl (Rets.mono (none_any (E := E) H Holds.toW ok.num.1) ?_); rintro _ w ⟨rfl, H⟩))
      | (show VcL _ _ _ _ (⟨_, .call ⟨.value (.func F_slices_Clone_byte_byte), _, _⟩, _, _, _, _⟩ :: _) _ _ _; (refine VcL.callF ok_slices_Clone_byte_byte rfl rfl rfl rfl (Rets.mono (CloneB_any H (SlR.take (SlR.mem (e := 5) (v := .slice A3 ib.length c3) (n := ib.length) (cs := byL ib) H (by repeat (first | exact .head _ | apply List.Mem.tail))) (k := k) (by omega)) (fun u hu => byL_one _ u (List.mem_of_mem_take hu)) (by omega)) ?_); rintro _ w H; obtain ⟨_, A8, c8, rfl⟩ := Holds.own_len H))
      | (refine VcL.guard rfl rfl rfl rfl (fun h => ?_) (fun h => ?_) <;> first | (cases h; done) | (with_reducible have hp := of_decide_eq_false h)))
      | (show Vc _ _ _ _ _ _; first
      | refine Vc.seq ?_
      | refine Vc.region ?_
      | refine Vc.condF rfl ?_
      | refine Vc.skip ?_
      | refine Vc.block ?_
      | (refine Vc.cond rfl (fun h => ?_) (fun h => ?_) <;> first | (exfalso; simp only [decide_eq_true_eq, decide_eq_false_iff_not, Bool.not_eq_true', Bool.not_eq_false'] at h; omega) | (with_reducible have hp := of_decide_eq_false h)))
      | (show KSeq _ _ _ _ _ _ _; refine KSeq.normal ?_)
      | (show KBlock _ _ _ _ _ _; refine KBlock.normal ?_))
    obtain ⟨r, hr0⟩ : ∃ r : List Nat, r = [] := ⟨_, rfl⟩
    rw [← hr0] at H hml
    have hml : marksL 0 (E.inn.drop k) = r.map (· - k) := by rw [hml, hr0]; rfl
    have hgt : ∀ y ∈ r, k < y := fun y hy => by rw [hr0] at hy; cases hy
    have hrb : ∀ y ∈ r, y ≤ 200 := fun y hy => by rw [hr0] at hy; cases hy
    have hEn : EnL { E with inn := E.inn.drop k } ob es (ib.drop k) (r.map (· - k)) := ⟨hl.out, hl.ends, by rw [← hl.inn]; exact List.map_drop, hml⟩
    have H : Holds I w (own (.slice A4 r.length c4) 3 1 r.length ((lessL r k 0).flatMap ntC) :: blk e 56 (endV { E with inn := E.inn.drop k } ⟨.slice A1 ob.length c1, .slice A2 es.length c2, .slice A7 (ib.length - k) c7, .slice A4 r.length c4, nv, .slice A5 cd.length c5, cd⟩) :: own (.slice A7 (ib.length - k) c7) 5 1 (ib.length - k) (byL (ib.drop k)) :: own (.slice A8 k c8) 5 1 k (byL (ib.take k)) :: own (.slice A1 ob.length c1) 5 1 ob.length (byL ob) :: own (.slice A2 es.length c2) 3 1 es.length (es.flatMap ntC) :: own (.slice A5 cd.length c5) 22 1 cd.length (cd.flatMap bkC) :: L) := by
      rw [← byL_drop, ← byL_take]
      rw [lessL_zero]; exact Holds.re [5, 0, 0, 0, 0, 0, 0] H rfl
    refine Vc.loopS [(0, _), (1, _), (4, _), (5, _), (71, _)] (fun i : Nat => [(72, .int .i64 i)]) (fun i w => i ≤ r.length ∧ Holds I w (own (.slice A4 r.length c4) 3 1 r.length ((lessL r k i).flatMap ntC) :: blk e 56 (endV { E with inn := E.inn.drop k } ⟨.slice A1 ob.length c1, .slice A2 es.length c2, .slice A7 (ib.length - k) c7, .slice A4 r.length c4, nv, .slice A5 cd.length c5, cd⟩) :: own (.slice A7 (ib.length - k) c7) 5 1 (ib.length - k) (byL (ib.drop k)) :: own (.slice A8 k c8) 5 1 k (byL (ib.take k)) :: own (.slice A1 ob.length c1) 5 1 ob.length (byL ob) :: own (.slice A2 es.length c2) 3 1 es.length (es.flatMap ntC) :: own (.slice A5 cd.length c5) 22 1 cd.length (cd.flatMap bkC) :: L)) (fun i _ => r.length - i) 0 ⟨rfl, trivial⟩ ⟨rfl, rfl, rfl, rfl, rfl, trivial⟩ ⟨Nat.zero_le _, H⟩ ?_
    clear H
    rintro i w ⟨hi, H⟩
    by_cases hlt : i < r.length
    · exfalso; rw [hr0] at hlt; exact absurd hlt (Nat.not_lt_zero _)
    · obtain rfl : i = r.length := by omega
      repeat' (first
        | (show VcL _ _ _ _ _ _ _ _; first
      | refine VcL.pures tabOk rfl ?_
      | refine VcL.nil ?_)
        | (show Vc _ _ _ _ _ _; first
      | refine Vc.seq ?_
      | refine Vc.region ?_
      | refine Vc.condF rfl ?_
      | refine Vc.ret ?_
      | refine Vc.exit ?_)
        | (show KSeq _ _ _ _ _ _ _; first
      | refine KSeq.normal ?_
      | refine KSeq.exit ?_)
        | (show KBlock _ _ _ _ _ _; refine KBlock.here ?_)
        | refine KLoop.exit ?_
        | (show KEnd _ _ _ _ _ _ _; refine KEnd.fin (Or.inr rfl) ⟨_, (ResL.tmp rfl (ResL.tmp rfl (ResL.tmp rfl ResL.nil))), ?_⟩))
      rw [lessL_full] at H
      refine ⟨_, rfl, ?_⟩
      have hkl : (E.inn.take k).map (·.1) = ib.take k := by rw [← hl.inn]; exact List.map_take.symm ▸ rfl
      rw [hkl]
      refine Holds.swap (end_close ⟨.slice A1 ob.length c1, .slice A2 es.length c2, .slice A7 (ib.length - k) c7, .slice A4 r.length c4, nv, .slice A5 cd.length c5, cd⟩ ⟨{ ok with inn := by show (E.inn.drop k).length ≤ 200; rw [List.length_drop]; omega }, hm.news, hm.codes, hm.each⟩ hEn ?_)
      show Holds I w (blk e _ _ :: own _ _ 1 ob.length _ :: own _ _ 1 es.length _ :: own _ _ 1 (ib.drop k).length _ :: own _ _ 1 (r.map (· - k)).length _ :: own _ _ 1 cd.length _ :: own _ _ 1 k _ :: L)
      rw [List.length_drop, List.length_map]
      exact Holds.re [1, 3, 3, 1, 0, 1, 0] H rfl
  · obtain ⟨k, rfl⟩ : ∃ k, k = x := ⟨_, rfl⟩
    have hrl : r.length + 1 ≤ E.inn.length := hmsl
    rw [hk] at ⊢
    rw [hce]
    have hrb : ∀ y ∈ r, y ≤ 200 := fun y hy => by
      have := marks_le E.inn 0 y (by rw [hl.marks]; exact List.mem_cons_of_mem _ hy)
      omega
    obtain ⟨ml, hm2⟩ : ∃ ml, k :: r = ml := ⟨_, rfl⟩
    have hml1 : ml.length = r.length + 1 := by rw [← hm2]; rfl
    have hq0 : ml[0]? = some k := by rw [← hm2]; rfl
    have hmc : (ml.flatMap ntC).drop (1 * 1) = r.flatMap ntC := by rw [← hm2]; rfl
    rw [hm2] at H
    obtain ⟨b4, o4, _, e4, hc4⟩ := Holds.own_some (by omega) (Holds.f4 H)
    injection e4 with e5 e6 e7
    subst e5
    have hd1 : decide ((k : Int) ≤ ((min n ib.length : Nat) : Int)) = true := decide_eq_true (by omega)
    have hd0 : decide ((0 : Int) < (ml.length : Nat)) = true := decide_eq_true (by omega)
    refine ok_stream_End_Read.rets rfl ?_
    repeat' (first
      | rw [hmin]
      | rw [hd1]
      | rw [hd0]
      | (refine VcL.sliceOwn (l := 1) (A := some ⟨b4, o4, none⟩) (len := ml.length) (cap := c4) (cs := ml.flatMap ntC) tabOk (Holds.f4 H) rfl rfl rfl rfl rfl rfl (by omega) (fun A9 c9 H => ?_))
      | (refine VcL.sliceToA (h := k) (A := A3) (len := ib.length) (cap := c3) (cs := byL ib) tabOk (Holds.f4 H) rfl rfl rfl rfl rfl rfl (by omega) ?_)
      | (refine VcL.sliceOwn (l := k) (A := A3) (len := ib.length) (cap := c3) (cs := byL ib) tabOk (Holds.f5 H) rfl rfl rfl rfl rfl rfl (by omega) (fun A7 c7 H => ?_))
      | (show VcL _ _ _ _ _ _ _ _; first
      | refine VcL.pures tabOk rfl ?_
      | refine VcL.nil ?_
      | (show VcL _ _ _ _ (⟨_, .load _ _, _, _, _, _⟩ :: _) _ _ _; refine VcL.load1 tabOk rfl rfl rfl rfl rfl (by first | exact Holds.cell H rfl | exact Holds.cell (Holds.f1 H) rfl | exact Holds.ownCell0 (Holds.f4 H) (fun _ => rfl) (by assumption) rfl) ?_)
      | (show VcL _ _ _ _ (⟨_, .indexAddr _ _ _, _, _, _, _⟩ :: _) _ _ _; refine VcL.indexAddr tabOk rfl rfl rfl rfl rfl rfl (by omega) (by omega) ?_)
      | (show VcL _ _ _ _ (⟨_, .store _ _ _, _, _, _, _⟩ :: _) _ _ _; refine VcL.store tabOk rfl (by first | exact (Holds.f1 H) | exact (Holds.f2 H)) rfl rfl (by exact rfl) (by exact rfl) (by exact rfl) (by exact rfl) (fun w H => ?_))
      | (show VcL _ _ _ _ (⟨_, .call ⟨.value (.func F_stream_End_none), _, _⟩, _, _, _, _⟩ :: _) _ _ _; (refine VcL.callF ok_stream_End_none rfl rfl rfl rfl (Rets.mono (none_any (E := E) H Holds.toW ok.num.1) ?_); rintro _ w ⟨rfl, H⟩))
      | (show VcL _ _ _ _ (⟨_, .call ⟨.value (.func F_slices_Clone_byte_byte), _, _⟩, _, _, _, _⟩ :: _) _ _ _; (refine VcL.callF ok_slices_Clone_byte_byte rfl rfl rfl rfl (Rets.mono (CloneB_any H (SlR.take (SlR.mem (e := 5) (v := .slice A3 ib.length c3) (n := ib.length) (cs := byL ib) H (by repeat (first | exact .head _ | apply List.Mem.tail))) (k := k) (by omega)) (fun u hu => byL_one _ u (List.mem_of_mem_take hu)) (by omega)) ?_); rintro _ w H; obtain ⟨_, A8, c8, rfl⟩ := Holds.own_len H))
      | (refine VcL.guard rfl rfl rfl rfl (fun h => ?_) (fun h => ?_) <;> first | (cases h; done) | skip))
      | (show Vc _ _ _ _ _ _; first
      | refine Vc.seq ?_
      | refine Vc.region ?_
      | refine Vc.condT rfl ?_
      | refine Vc.condF rfl ?_
      | refine Vc.skip ?_
      | refine Vc.block ?_
      | (refine Vc.cond rfl (fun h => ?_) (fun h => ?_) <;> first | (exfalso; simp only [decide_eq_true_eq, decide_eq_false_iff_not, Bool.not_eq_true', Bool.not_eq_false'] at h; omega) | (with_reducible have hp := of_decide_eq_false h)))
      | (show KSeq _ _ _ _ _ _ _; refine KSeq.normal ?_)
      | (show KBlock _ _ _ _ _ _; refine KBlock.normal ?_))
    have hml3 : ml.length - 1 = r.length := by omega
    have hEn : EnL { E with inn := E.inn.drop k } ob es (ib.drop k) (r.map (· - k)) := ⟨hl.out, hl.ends, by rw [← hl.inn]; exact List.map_drop, hml⟩
    have H : Holds I w (own (.slice A9 r.length c9) 3 1 r.length ((lessL r k 0).flatMap ntC) :: blk e 56 (endV { E with inn := E.inn.drop k } ⟨.slice A1 ob.length c1, .slice A2 es.length c2, .slice A7 (ib.length - k) c7, .slice A9 r.length c9, nv, .slice A5 cd.length c5, cd⟩) :: own (.slice A7 (ib.length - k) c7) 5 1 (ib.length - k) (byL (ib.drop k)) :: own (.slice A8 k c8) 5 1 k (byL (ib.take k)) :: own (.slice A1 ob.length c1) 5 1 ob.length (byL ob) :: own (.slice A2 es.length c2) 3 1 es.length (es.flatMap ntC) :: own (.slice A5 cd.length c5) 22 1 cd.length (cd.flatMap bkC) :: L) := by
      rw [← byL_drop, ← byL_take]
      rw [lessL_zero, ← hmc, ← hml3]; exact Holds.re [3, 0, 0, 0, 0, 0, 0] H rfl
    refine Vc.loopS [(0, _), (1, _), (4, _), (5, _), (71, _)] (fun i : Nat => [(72, .int .i64 i)]) (fun i w => i ≤ r.length ∧ Holds I w (own (.slice A9 r.length c9) 3 1 r.length ((lessL r k i).flatMap ntC) :: blk e 56 (endV { E with inn := E.inn.drop k } ⟨.slice A1 ob.length c1, .slice A2 es.length c2, .slice A7 (ib.length - k) c7, .slice A9 r.length c9, nv, .slice A5 cd.length c5, cd⟩) :: own (.slice A7 (ib.length - k) c7) 5 1 (ib.length - k) (byL (ib.drop k)) :: own (.slice A8 k c8) 5 1 k (byL (ib.take k)) :: own (.slice A1 ob.length c1) 5 1 ob.length (byL ob) :: own (.slice A2 es.length c2) 3 1 es.length (es.flatMap ntC) :: own (.slice A5 cd.length c5) 22 1 cd.length (cd.flatMap bkC) :: L)) (fun i _ => r.length - i) 0 ⟨rfl, trivial⟩ ⟨rfl, rfl, rfl, rfl, rfl, trivial⟩ ⟨Nat.zero_le _, H⟩ ?_
    clear H
    rintro i w ⟨hi, H⟩
    by_cases hlt : i < r.length
    · obtain ⟨b4, o4, _, e4, hc4⟩ := Holds.own_some (by omega) H
      injection e4 with e5 e6 e7
      subst e5
      have hq := lessL_at (n := k) hlt
      obtain ⟨y, hy⟩ : ∃ y, atD r i = y := ⟨_, rfl⟩
      have hky := hgt _ (atD_mem hlt)
      have hset := lessL_set (n := k) hlt
      rw [hy] at hq hky hset
      have hyb := hrb y (hy ▸ atD_mem hlt)
      have hsub : IntKind.i64.wrap ((y : Int) - k) = ((y - k : Nat) : Int) := by rw [wrap_i64 (by omega) (by omega)]; omega
      repeat' (first
        | rw [hsub]
        | (refine VcL.storeOwn0 (k := i) (y - k) tabOk ntC_len H hq rfl rfl (by exact rfl) (by exact rfl) (by exact rfl) (by exact rfl) rfl rfl (fun w H => ?_))
        | (show VcL _ _ _ _ _ _ _ _; first
      | refine VcL.pures tabOk rfl ?_
      | refine VcL.nil ?_
      | (show VcL _ _ _ _ (⟨_, .load _ _, _, _, _, _⟩ :: _) _ _ _; refine VcL.load1 tabOk rfl rfl rfl rfl rfl (by first | exact Holds.cell (Holds.f1 H) rfl | exact Holds.ownCell0 H (fun _ => rfl) (by assumption) rfl) ?_)
      | (show VcL _ _ _ _ (⟨_, .indexAddr _ _ _, _, _, _, _⟩ :: _) _ _ _; refine VcL.indexAddr tabOk rfl rfl rfl rfl rfl rfl (by omega) (by omega) ?_))
        | (show Vc _ _ _ _ _ _; first
      | refine Vc.seq ?_
      | refine Vc.region ?_
      | refine Vc.skip ?_
      | refine Vc.block ?_
      | (refine Vc.cond rfl (fun h => ?_) (fun h => ?_) <;> first | (exfalso; simp only [decide_eq_true_eq, decide_eq_false_iff_not, Bool.not_eq_true', Bool.not_eq_false'] at h; omega) | (with_reducible have hp := of_decide_eq_true h)))
        | (show KSeq _ _ _ _ _ _ _; refine KSeq.normal ?_)
        | (show KBlock _ _ _ _ _ _; refine KBlock.normal ?_))
      rw [hset] at H
      exact KLoop.again (i + 1) ⟨got_succ rfl (by omega), trivial⟩ ⟨rfl, rfl, rfl, rfl, rfl, trivial⟩ ⟨hlt, H⟩ (by omega)
    · obtain rfl : i = r.length := by omega
      repeat' (first
        | (show VcL _ _ _ _ _ _ _ _; first
      | refine VcL.pures tabOk rfl ?_
      | refine VcL.nil ?_)
        | (show Vc _ _ _ _ _ _; first
      | refine Vc.seq ?_
      | refine Vc.region ?_
      | refine Vc.ret ?_
      | refine Vc.exit ?_
      | (refine Vc.cond rfl (fun h => ?_) (fun h => ?_) <;> first | (exfalso; simp only [decide_eq_true_eq, decide_eq_false_iff_not, Bool.not_eq_true', Bool.not_eq_false'] at h; omega) | (with_reducible have hp := of_decide_eq_false h)))
        | (show KSeq _ _ _ _ _ _ _; first
      | refine KSeq.normal ?_
      | refine KSeq.exit ?_)
        | (show KBlock _ _ _ _ _ _; refine KBlock.here ?_)
        | refine KLoop.exit ?_
        | (show KEnd _ _ _ _ _ _ _; refine KEnd.fin (Or.inr rfl) ⟨_, (ResL.tmp rfl (ResL.tmp rfl (ResL.tmp rfl ResL.nil))), ?_⟩))
      rw [lessL_full] at H
      refine ⟨_, rfl, ?_⟩
      have hkl : (E.inn.take k).map (·.1) = ib.take k := by rw [← hl.inn]; exact List.map_take.symm ▸ rfl
      rw [hkl]
      refine Holds.swap (end_close ⟨.slice A1 ob.length c1, .slice A2 es.length c2, .slice A7 (ib.length - k) c7, .slice A9 r.length c9, nv, .slice A5 cd.length c5, cd⟩ ⟨{ ok with inn := by show (E.inn.drop k).length ≤ 200; rw [List.length_drop]; omega }, hm.news, hm.codes, hm.each⟩ hEn ?_)
      show Holds I w (blk e _ _ :: own _ _ 1 ob.length _ :: own _ _ 1 es.length _ :: own _ _ 1 (ib.drop k).length _ :: own _ _ 1 (r.map (· - k)).length _ :: own _ _ 1 cd.length _ :: own _ _ 1 k _ :: L)
      rw [List.length_drop, List.length_map]
      exact Holds.re [1, 3, 3, 1, 0, 1, 0] H rfl
  · obtain ⟨k, rfl⟩ : ∃ k, k = n := ⟨_, rfl⟩
    rw [hk, hce]
    obtain ⟨ml, hm2⟩ : ∃ ml, x :: r = ml := ⟨_, rfl⟩
    have hml1 : ml.length = r.length + 1 := by rw [← hm2]; rfl
    have hq0 : ml[0]? = some x := by rw [← hm2]; rfl
    have hrb : ∀ y ∈ ml, y ≤ 200 := fun y hy => by
      have := marks_le E.inn 0 y (by rw [hl.marks, hm2]; exact hy)
      omega
    rw [hm2] at H hml hgt hmsl
    clear hm2
    obtain ⟨b4, o4, _, e4, hc4⟩ := Holds.own_some (by omega) (Holds.f4 H)
    injection e4 with e5 e6 e7
    subst e5
    have hmk : min k ib.length = k := by omega
    rw [hmk] at hmin
    have hd1 : decide ((x : Int) ≤ (k : Int)) = false := decide_eq_false (by omega)
    have hd0 : decide ((0 : Int) < (ml.length : Nat)) = true := decide_eq_true (by omega)
    refine ok_stream_End_Read.rets rfl ?_
    repeat' (first
      | rw [hmin]
      | rw [hd1]
      | rw [hd0]
      | (refine VcL.sliceToA (h := k) (A := A3) (len := ib.length) (cap := c3) (cs := byL ib) tabOk (Holds.f3 H) rfl rfl rfl rfl rfl rfl (by omega) ?_)
      | (refine VcL.sliceOwn (l := k) (A := A3) (len := ib.length) (cap := c3) (cs := byL ib) tabOk (Holds.f4 H) rfl rfl rfl rfl rfl rfl (by omega) (fun A7 c7 H => ?_))
      | (show VcL _ _ _ _ _ _ _ _; first
      | refine VcL.pures tabOk rfl ?_
      | refine VcL.nil ?_
      | (show VcL _ _ _ _ (⟨_, .load _ _, _, _, _, _⟩ :: _) _ _ _; refine VcL.load1 tabOk rfl rfl rfl rfl rfl (by first | exact Holds.cell H rfl | exact Holds.cell (Holds.f1 H) rfl | exact Holds.ownCell0 (Holds.f4 H) (fun _ => rfl) (by assumption) rfl) ?_)
      | (show VcL _ _ _ _ (⟨_, .indexAddr _ _ _, _, _, _, _⟩ :: _) _ _ _; refine VcL.indexAddr tabOk rfl rfl rfl rfl rfl rfl (by omega) (by omega) ?_)
      | (show VcL _ _ _ _ (⟨_, .store _ _ _, _, _, _, _⟩ :: _) _ _ _; refine VcL.store tabOk rfl (by exact (Holds.f2 H)) rfl rfl (by exact rfl) (by exact rfl) (by exact rfl) (by exact rfl) (fun w H => ?_))
      | (show VcL _ _ _ _ (⟨_, .call ⟨.value (.func F_stream_End_none), _, _⟩, _, _, _, _⟩ :: _) _ _ _; (refine VcL.callF ok_stream_End_none rfl rfl rfl rfl (Rets.mono (none_any (E := E) H Holds.toW ok.num.1) ?_); rintro _ w ⟨rfl, H⟩))
      | (show VcL _ _ _ _ (⟨_, .call ⟨.value (.func F_slices_Clone_byte_byte), _, _⟩, _, _, _, _⟩ :: _) _ _ _; (refine VcL.callF ok_slices_Clone_byte_byte rfl rfl rfl rfl (Rets.mono (CloneB_any H (SlR.take (SlR.mem (e := 5) (v := .slice A3 ib.length c3) (n := ib.length) (cs := byL ib) H (by repeat (first | exact .head _ | apply List.Mem.tail))) (k := k) (by omega)) (fun u hu => byL_one _ u (List.mem_of_mem_take hu)) (by omega)) ?_); rintro _ w H; obtain ⟨_, A8, c8, rfl⟩ := Holds.own_len H))
      | (refine VcL.guard rfl rfl rfl rfl (fun h => ?_) (fun h => ?_) <;> first | (cases h; done) | skip))
      | (show Vc _ _ _ _ _ _; first
      | refine Vc.seq ?_
      | refine Vc.region ?_
      | refine Vc.condF rfl ?_
      | refine Vc.skip ?_
      | refine Vc.block ?_
      | (refine Vc.cond rfl (fun h => ?_) (fun h => ?_) <;> first | (exfalso; simp only [decide_eq_true_eq, decide_eq_false_iff_not, Bool.not_eq_true', Bool.not_eq_false'] at h; omega) | (with_reducible have hp := of_decide_eq_false h)))
      | (show KSeq _ _ _ _ _ _ _; refine KSeq.normal ?_)
      | (show KBlock _ _ _ _ _ _; refine KBlock.normal ?_))
    obtain ⟨r, rfl⟩ : ∃ q, q = ml := ⟨_, rfl⟩
    have hEn : EnL { E with inn := E.inn.drop k } ob es (ib.drop k) (r.map (· - k)) := ⟨hl.out, hl.ends, by rw [← hl.inn]; exact List.map_drop, hml⟩
    have H : Holds I w (own (.slice (some ⟨b4, o4, none⟩) r.length c4) 3 1 r.length ((lessL r k 0).flatMap ntC) :: blk e 56 (endV { E with inn := E.inn.drop k } ⟨.slice A1 ob.length c1, .slice A2 es.length c2, .slice A7 (ib.length - k) c7, .slice (some ⟨b4, o4, none⟩) r.length c4, nv, .slice A5 cd.length c5, cd⟩) :: own (.slice A7 (ib.length - k) c7) 5 1 (ib.length - k) (byL (ib.drop k)) :: own (.slice A8 k c8) 5 1 k (byL (ib.take k)) :: own (.slice A1 ob.length c1) 5 1 ob.length (byL ob) :: own (.slice A2 es.length c2) 3 1 es.length (es.flatMap ntC) :: own (.slice A5 cd.length c5) 22 1 cd.length (cd.flatMap bkC) :: L) := by
      rw [← byL_drop, ← byL_take]
      rw [lessL_zero]; exact Holds.re [5, 0, 0, 0, 0, 0, 0] H rfl
    refine Vc.loopS [(0, _), (1, _), (4, _), (5, _), (71, _)] (fun i : Nat => [(72, .int .i64 i)]) (fun i w => i ≤ r.length ∧ Holds I w (own (.slice (some ⟨b4, o4, none⟩) r.length c4) 3 1 r.length ((lessL r k i).flatMap ntC) :: blk e 56 (endV { E with inn := E.inn.drop k } ⟨.slice A1 ob.length c1, .slice A2 es.length c2, .slice A7 (ib.length - k) c7, .slice (some ⟨b4, o4, none⟩) r.length c4, nv, .slice A5 cd.length c5, cd⟩) :: own (.slice A7 (ib.length - k) c7) 5 1 (ib.length - k) (byL (ib.drop k)) :: own (.slice A8 k c8) 5 1 k (byL (ib.take k)) :: own (.slice A1 ob.length c1) 5 1 ob.length (byL ob) :: own (.slice A2 es.length c2) 3 1 es.length (es.flatMap ntC) :: own (.slice A5 cd.length c5) 22 1 cd.length (cd.flatMap bkC) :: L)) (fun i _ => r.length - i) 0 ⟨rfl, trivial⟩ ⟨rfl, rfl, rfl, rfl, rfl, trivial⟩ ⟨Nat.zero_le _, H⟩ ?_
    clear H
    rintro i w ⟨hi, H⟩
    by_cases hlt : i < r.length
    · skip
      have hq := lessL_at (n := k) hlt
      obtain ⟨y, hy⟩ : ∃ y, atD r i = y := ⟨_, rfl⟩
      have hky := hgt _ (atD_mem hlt)
      have hset := lessL_set (n := k) hlt
      rw [hy] at hq hky hset
      have hyb := hrb y (hy ▸ atD_mem hlt)
      have hsub : IntKind.i64.wrap ((y : Int) - k) = ((y - k : Nat) : Int) := by rw [wrap_i64 (by omega) (by omega)]; omega
      repeat' (first
        | rw [hsub]
        | (refine VcL.storeOwn0 (k := i) (y - k) tabOk ntC_len H hq rfl rfl (by exact rfl) (by exact rfl) (by exact rfl) (by exact rfl) rfl rfl (fun w H => ?_))
        | (show VcL _ _ _ _ _ _ _ _; first
      | refine VcL.pures tabOk rfl ?_
      | refine VcL.nil ?_
      | (show VcL _ _ _ _ (⟨_, .load _ _, _, _, _, _⟩ :: _) _ _ _; refine VcL.load1 tabOk rfl rfl rfl rfl rfl (by first | exact Holds.cell (Holds.f1 H) rfl | exact Holds.ownCell0 H (fun _ => rfl) (by assumption) rfl) ?_)
      | (show VcL _ _ _ _ (⟨_, .indexAddr _ _ _, _, _, _, _⟩ :: _) _ _ _; refine VcL.indexAddr tabOk rfl rfl rfl rfl rfl rfl (by omega) (by omega) ?_))
        | (show Vc _ _ _ _ _ _; first
      | refine Vc.seq ?_
      | refine Vc.region ?_
      | refine Vc.skip ?_
      | refine Vc.block ?_
      | (refine Vc.cond rfl (fun h => ?_) (fun h => ?_) <;> first | (exfalso; simp only [decide_eq_true_eq, decide_eq_false_iff_not, Bool.not_eq_true', Bool.not_eq_false'] at h; omega) | (with_reducible have hp := of_decide_eq_true h)))
        | (show KSeq _ _ _ _ _ _ _; refine KSeq.normal ?_)
        | (show KBlock _ _ _ _ _ _; refine KBlock.normal ?_))
      rw [hset] at H
      exact KLoop.again (i + 1) ⟨got_succ rfl (by omega), trivial⟩ ⟨rfl, rfl, rfl, rfl, rfl, trivial⟩ ⟨hlt, H⟩ (by omega)
    · obtain rfl : i = r.length := by omega
      repeat' (first
        | (show VcL _ _ _ _ _ _ _ _; first
      | refine VcL.pures tabOk rfl ?_
      | refine VcL.nil ?_)
        | (show Vc _ _ _ _ _ _; first
      | refine Vc.seq ?_
      | refine Vc.region ?_
      | refine Vc.ret ?_
      | refine Vc.exit ?_
      | (refine Vc.cond rfl (fun h => ?_) (fun h => ?_) <;> first | (exfalso; simp only [decide_eq_true_eq, decide_eq_false_iff_not, Bool.not_eq_true', Bool.not_eq_false'] at h; omega) | (with_reducible have hp := of_decide_eq_false h)))
        | (show KSeq _ _ _ _ _ _ _; first
      | refine KSeq.normal ?_
      | refine KSeq.exit ?_)
        | (show KBlock _ _ _ _ _ _; refine KBlock.here ?_)
        | refine KLoop.exit ?_
        | (show KEnd _ _ _ _ _ _ _; refine KEnd.fin (Or.inr rfl) ⟨_, (ResL.tmp rfl (ResL.tmp rfl (ResL.tmp rfl ResL.nil))), ?_⟩))
      rw [lessL_full] at H
      refine ⟨_, rfl, ?_⟩
      have hkl : (E.inn.take k).map (·.1) = ib.take k := by rw [← hl.inn]; exact List.map_take.symm ▸ rfl
      rw [hkl]
      refine Holds.swap (end_close ⟨.slice A1 ob.length c1, .slice A2 es.length c2, .slice A7 (ib.length - k) c7, .slice (some ⟨b4, o4, none⟩) r.length c4, nv, .slice A5 cd.length c5, cd⟩ ⟨{ ok with inn := by show (E.inn.drop k).length ≤ 200; rw [List.length_drop]; omega }, hm.news, hm.codes, hm.each⟩ hEn ?_)
      show Holds I w (blk e _ _ :: own _ _ 1 ob.length _ :: own _ _ 1 es.length _ :: own _ _ 1 (ib.drop k).length _ :: own _ _ 1 (r.map (· - k)).length _ :: own _ _ 1 cd.length _ :: own _ _ 1 k _ :: L)
      rw [List.length_drop, List.length_map]
      exact Holds.re [1, 3, 3, 1, 0, 1, 0] H rfl
end Go.Proofs.Ytpfgcchammlpgaa.V
