-- PRINTED by print.py (a twelfth state) out of the translation. Not trusted: Lean checks it.
import Derived.Test.YtkmbcjpedmlhfaaUx0
import Derived.Test.YtkmbcjpedmlhfaaUx2
import Derived.Test.YtkmbcjpedmlhfaaUx17
import Derived.Test.YtkmbcjpedmlhfaaUx42
namespace Go.Proofs.Ytkmbcjpedmlhfaa.U
open Go.RowKit Go.Proofs.YtkmbcjpedmlhfaaW.PrintWords Go.Proofs.YtkmbcjpedmlhfaaW.PrintLast Go.Proofs.YtkmbcjpedmlhfaaW.PrintMore
attribute [local go_sem] max2_int min2_int max_two min_two max_three min_three max_four min_four   -- for this text's walks alone
set_option linter.unusedVariables false
set_option linter.unusedSimpArgs false

/-! ### tithinglaw21_RightsMore: function 9 -/
mutual
def tithinglaw21_RightsMore.j0 : Nat → List (S37) → List (S24) → Bool → Int → ByteArray → Option (Bool)
  | 0, _, _, _, _, _ => none
  | k + 1, x0, x2, x34, x291000, x291001 => if x34 = true then ((tithinglaw21_First.f k).bind fun t295 => (some t295)) else (tithinglaw21_RightsMore.l0 k x0 x2 0 x291000 x291001)
def tithinglaw21_RightsMore.l0 : Nat → List (S37) → List (S24) → Int → Int → ByteArray → Option (Bool)
  | 0, _, _, _, _, _ => none
  | k + 1, x0, x2, x9, x291000, x291001 => if x9 < (x2.length : Int) then (tithinglaw21_RightsMore.l1 k x0 x2 x9 0 x291000 x291001) else ((tithinglaw21_First.f k).bind fun t296 => (some t296))
def tithinglaw21_RightsMore.l1 : Nat → List (S37) → List (S24) → Int → Int → Int → ByteArray → Option (Bool)
  | 0, _, _, _, _, _, _ => none
  | k + 1, x0, x2, x9, x10, x291000, x291001 => if x10 < 3 then ((some (([] : List (S24)) : List (S24))).bind fun y297 => (if y297.length + x2.length < 2932031007402 then ((some (y297 ++ x2 : List (S24))).bind fun y300 => (if 0 ≤ x9 then (if x9 < (y300.length : Int) then (if 0 ≤ x10 then ((some (y300.set (x9 : Int).toNat (⟨(rd_T24 y300 x9).f0, (rd_T24 y300 x9).f1, Go.bits .or .i64 ((rd_T24 y300 x9).f2) (shl .i64 1 x10), (rd_T24 y300 x9).f3, (rd_T24 y300 x9).f4, (rd_T24 y300 x9).f5⟩ : S24) : List (S24))).bind fun y304 => ((rights_May.f k x0 x291000 x291001 (y304.set (x9 : Int).toNat (⟨(rd_T24 y304 x9).f0, (rd_T24 y304 x9).f1, (rd_T24 y304 x9).f2, (rd_T24 y304 x9).f3, Go.bits .or .i64 ((rd_T24 y304 x9).f4) (shr .i64 4 x10), (rd_T24 y304 x9).f5⟩ : S24))).bind fun bt307 => (if bt307.2 = 0 then (if bt307.1 = true then (tithinglaw21_RightsMore.l1 k x0 x2 x9 (wrap64 (x10 + 1)) x291000 x291001) else (some false)) else (some false)))) else (none)) else (none)) else (none))) else (none))) else (tithinglaw21_RightsMore.l0 k x0 x2 (wrap64 (x9 + 1)) x291000 x291001)
end
def tithinglaw21_RightsMore.f (k : Nat) (l0 : List (S37)) (a1_0 : Int) (a1_1 : ByteArray) (l2 : List (S24)) : Option (Bool) := (tithinglaw21_few.f k l0 l2).bind fun t291 => (if t291 = true then ((rights_May.f k l0 a1_0 a1_1 l2).bind fun bt293 => (if bt293.2 = 0 then (tithinglaw21_RightsMore.j0 k l0 l2 (!bt293.1) a1_0 a1_1) else (tithinglaw21_RightsMore.j0 k l0 l2 true a1_0 a1_1))) else ((tithinglaw21_First.f k).bind fun t292 => (some t292)))
theorem tithinglaw21_RightsMore.mono_l : ∀ k, (∀ y0 y1 y2 y3 y4, LeO (tithinglaw21_RightsMore.j0 k y0 y1 y2 y3 y4) (tithinglaw21_RightsMore.j0 (k + 1) y0 y1 y2 y3 y4)) ∧ (∀ y0 y1 y2 y3 y4, LeO (tithinglaw21_RightsMore.l0 k y0 y1 y2 y3 y4) (tithinglaw21_RightsMore.l0 (k + 1) y0 y1 y2 y3 y4)) ∧ (∀ y0 y1 y2 y3 y4 y5, LeO (tithinglaw21_RightsMore.l1 k y0 y1 y2 y3 y4 y5) (tithinglaw21_RightsMore.l1 (k + 1) y0 y1 y2 y3 y4 y5))
  | 0 => ⟨fun _ _ _ _ _ r h => by simp [tithinglaw21_RightsMore.j0] at h, fun _ _ _ _ _ r h => by simp [tithinglaw21_RightsMore.l0] at h, fun _ _ _ _ _ _ r h => by simp [tithinglaw21_RightsMore.l1] at h⟩
  | k + 1 => by
    obtain ⟨ih0, ih1, ih2⟩ := tithinglaw21_RightsMore.mono_l k
    refine ⟨?_, ?_, ?_⟩
    · intro y0 y1 y2 y3 y4
      unfold tithinglaw21_RightsMore.j0
      repeat' first
      | (with_reducible exact ih0 _ _ _ _ _)
      | (with_reducible exact ih1 _ _ _ _ _)
      | (with_reducible exact ih2 _ _ _ _ _ _)
      | (with_reducible exact rights_May.mono _ _ _ _ _)
      | (with_reducible exact tithinglaw21_First.mono _)
      | (with_reducible exact tithinglaw21_few.mono _ _ _)
      | (with_reducible exact LeO.refl _)
      | (with_reducible exact LeO.none _)
      | (with_reducible refine LeO.ite ?_ ?_)
      | (with_reducible refine LeO.bind ?_ (fun _ => ?_))
      | exact ih0 _ _ _ _ _
      | exact ih1 _ _ _ _ _
      | exact ih2 _ _ _ _ _ _
      | exact rights_May.mono _ _ _ _ _
      | exact tithinglaw21_First.mono _
      | exact tithinglaw21_few.mono _ _ _
      | exact LeO.none _
      | refine LeO.ite ?_ ?_
      | refine LeO.bind ?_ (fun _ => ?_)
    · intro y0 y1 y2 y3 y4
      unfold tithinglaw21_RightsMore.l0
      repeat' first
      | (with_reducible exact ih0 _ _ _ _ _)
      | (with_reducible exact ih1 _ _ _ _ _)
      | (with_reducible exact ih2 _ _ _ _ _ _)
      | (with_reducible exact rights_May.mono _ _ _ _ _)
      | (with_reducible exact tithinglaw21_First.mono _)
      | (with_reducible exact tithinglaw21_few.mono _ _ _)
      | (with_reducible exact LeO.refl _)
      | (with_reducible exact LeO.none _)
      | (with_reducible refine LeO.ite ?_ ?_)
      | (with_reducible refine LeO.bind ?_ (fun _ => ?_))
      | exact ih0 _ _ _ _ _
      | exact ih1 _ _ _ _ _
      | exact ih2 _ _ _ _ _ _
      | exact rights_May.mono _ _ _ _ _
      | exact tithinglaw21_First.mono _
      | exact tithinglaw21_few.mono _ _ _
      | exact LeO.none _
      | refine LeO.ite ?_ ?_
      | refine LeO.bind ?_ (fun _ => ?_)
    · intro y0 y1 y2 y3 y4 y5
      unfold tithinglaw21_RightsMore.l1
      repeat' first
      | (with_reducible exact ih0 _ _ _ _ _)
      | (with_reducible exact ih1 _ _ _ _ _)
      | (with_reducible exact ih2 _ _ _ _ _ _)
      | (with_reducible exact rights_May.mono _ _ _ _ _)
      | (with_reducible exact tithinglaw21_First.mono _)
      | (with_reducible exact tithinglaw21_few.mono _ _ _)
      | (with_reducible exact LeO.refl _)
      | (with_reducible exact LeO.none _)
      | (with_reducible refine LeO.ite ?_ ?_)
      | (with_reducible refine LeO.bind ?_ (fun _ => ?_))
      | exact ih0 _ _ _ _ _
      | exact ih1 _ _ _ _ _
      | exact ih2 _ _ _ _ _ _
      | exact rights_May.mono _ _ _ _ _
      | exact tithinglaw21_First.mono _
      | exact tithinglaw21_few.mono _ _ _
      | exact LeO.none _
      | refine LeO.ite ?_ ?_
      | refine LeO.bind ?_ (fun _ => ?_)
theorem tithinglaw21_RightsMore.mono : ∀ a0 a1 a2 a3 k, LeO (tithinglaw21_RightsMore.f k a0 a1 a2 a3) (tithinglaw21_RightsMore.f (k + 1) a0 a1 a2 a3) := by
  intro a0 a1 a2 a3 k
  obtain ⟨ih0, ih1, ih2⟩ := tithinglaw21_RightsMore.mono_l k
  unfold tithinglaw21_RightsMore.f
  repeat' first
      | (with_reducible exact ih0 _ _ _ _ _)
      | (with_reducible exact ih1 _ _ _ _ _)
      | (with_reducible exact ih2 _ _ _ _ _ _)
      | (with_reducible exact rights_May.mono _ _ _ _ _)
      | (with_reducible exact tithinglaw21_First.mono _)
      | (with_reducible exact tithinglaw21_few.mono _ _ _)
      | (with_reducible exact LeO.refl _)
      | (with_reducible exact LeO.none _)
      | (with_reducible refine LeO.ite ?_ ?_)
      | (with_reducible refine LeO.bind ?_ (fun _ => ?_))
      | exact ih0 _ _ _ _ _
      | exact ih1 _ _ _ _ _
      | exact ih2 _ _ _ _ _ _
      | exact rights_May.mono _ _ _ _ _
      | exact tithinglaw21_First.mono _
      | exact tithinglaw21_few.mono _ _ _
      | exact LeO.none _
      | refine LeO.ite ?_ ?_
      | refine LeO.bind ?_ (fun _ => ?_)
def tithinglaw21_RightsMore.T13 : Bool × List (List Nat × List Nat) := (true, [([], []), ([], []), ([0, 1], [0, 1]), ([2], [2]), ([3], [3]), ([], []), ([5], [5]), ([4, 6], [4, 6]), ([0, 1, 0, 1, 2, 3, 4, 5, 6, 7], [0, 1]), ([8, 0, 1, 2, 3, 4, 5, 6, 7], [8]), ([9, 7, 0, 1, 2, 3, 4, 5, 6, 7], [7, 9])])
def tithinglaw21_RightsMore.B13 : List Nat := [0, 0, 3, 7, 15, 0, 32, 127, 255, 511, 1023]
theorem tithinglaw21_RightsMore.tab13 : rtab .any (opsOf Try.f9 13) = tithinglaw21_RightsMore.T13 := by kernel_rfl
theorem tithinglaw21_RightsMore.bits13 : waitsOk tithinglaw21_RightsMore.T13.2 tithinglaw21_RightsMore.B13 = true := by kernel_rfl
def tithinglaw21_RightsMore.T14 : Bool × List (List Nat × List Nat) := (true, [([], []), ([], []), ([0, 1], [0, 1]), ([2], [2]), ([3], [3]), ([], []), ([5], [5]), ([4, 6], [4, 6]), ([0, 1, 0, 1, 2, 3, 4, 5, 6, 7], [0, 1]), ([8, 0, 1, 2, 3, 4, 5, 6, 7], [8]), ([9, 7, 0, 1, 2, 3, 4, 5, 6, 7], [7, 9])])
def tithinglaw21_RightsMore.B14 : List Nat := [0, 0, 3, 7, 15, 0, 32, 127, 255, 511, 1023]
theorem tithinglaw21_RightsMore.tab14 : rtab .any (opsOf Try.f9 14) = tithinglaw21_RightsMore.T14 := by kernel_rfl
theorem tithinglaw21_RightsMore.bits14 : waitsOk tithinglaw21_RightsMore.T14.2 tithinglaw21_RightsMore.B14 = true := by kernel_rfl
set_option maxHeartbeats 8000000 in
set_option maxRecDepth 100000 in
theorem tithinglaw21_RightsMore.calls (k : Nat) (A0 : Option Addr) (c0 : Nat) (l0 : List (S37)) (a1_0 : Int) (a1_1 : ByteArray) (A2 : Option Addr) (c2 : Nat) (l2 : List (S24)) (r : Bool) (w : World) (hr0 : Kd.C k37 w A0 l0.length l0) (hc0 : l0.length ≤ c0) (hr2 : Kd.C k24 w A2 l2.length l2) (hc2 : l2.length ≤ c2) (h : tithinglaw21_RightsMore.f k l0 a1_0 a1_1 l2 = some r) :
    Calls Try.prog 9 #[.slice A0 l0.length c0, .agg #[.int .i64 a1_0, .string a1_1], .slice A2 l2.length c2] w fun e w' => e = .returned (.bool r) ∧ Below w.heap.size w w' := by
  have hu49 := Try.underlying49
  have HR0 := Aside0.mk hr0
  have HC0 := Aside0.mk hc0
  clear hr0 hc0
  have HR2 := Aside0.mk hr2
  have HC2 := Aside0.mk hc2
  clear hr2 hc2
  have HB := Aside0.mk (Below.refl w.heap.size w)
  have H : ((tithinglaw21_few.f k l0 l2).bind fun t291 => (if t291 = true then ((rights_May.f k l0 a1_0 a1_1 l2).bind fun bt293 => (if bt293.2 = 0 then (tithinglaw21_RightsMore.j0 k l0 l2 (!bt293.1) a1_0 a1_1) else (tithinglaw21_RightsMore.j0 k l0 l2 true a1_0 a1_1))) else ((tithinglaw21_First.f k).bind fun t292 => (some t292)))) = some r := h
  clear h
  replace H := Option.bind_eq_some_iff.mp H
  obtain ⟨t291, A40, H⟩ := H
  replace H : (if t291 = true then ((rights_May.f k l0 a1_0 a1_1 l2).bind fun bt293 => (if bt293.2 = 0 then (tithinglaw21_RightsMore.j0 k l0 l2 (!bt293.1) a1_0 a1_1) else (tithinglaw21_RightsMore.j0 k l0 l2 true a1_0 a1_1))) else ((tithinglaw21_First.f k).bind fun t292 => (some t292))) = some r := H
  have A4 := Aside0.mk A40
  clear A40
  by_cases c5 : t291 = true
  · subst c5
    have H1 : ((rights_May.f k l0 a1_0 a1_1 l2).bind fun bt293 => (if bt293.2 = 0 then (tithinglaw21_RightsMore.j0 k l0 l2 (!bt293.1) a1_0 a1_1) else (tithinglaw21_RightsMore.j0 k l0 l2 true a1_0 a1_1))) = some r := by rw [if_pos rfl] at H; exact H
    clear H
    have H := H1
    clear H1
    replace H := Option.bind_eq_some_iff.mp H
    obtain ⟨⟨t293, t294⟩, A60, H⟩ := H
    replace H : (if t294 = 0 then (tithinglaw21_RightsMore.j0 k l0 l2 (!t293) a1_0 a1_1) else (tithinglaw21_RightsMore.j0 k l0 l2 true a1_0 a1_1)) = some r := H
    have A6 := Aside0.mk A60
    clear A60
    have HC7 := Aside0.mk H
    clear H
    go_enter Try.func9, Try.ntmps9
    go_upto_region 4 with (first | ((with_reducible refine gate_dst (N := 4) rfl ?_); refine box_event ?hg (N := 4) ?hd (cs := #[.int .i64 a1_0, .string a1_1]) (t := 49) ?hr ?_; (case hd => rfl); (case hg => rfl); (case hr => first | (go_simp; done) | (go_simp; rfl)); intro gb290 hg w8 hbox hb; have n0_ := Aside0.mk (below_step (by repeat (first | (with_reducible first | exact HB.out | apply below_alloc | apply pw_below_drewN | apply below_drew1) | exact HB.out)) hb); have n1_ := Aside0.mk (hbox); have n2_ := Aside0.mk ((by rw [hg]; exact (below_size (by repeat (first | (with_reducible first | exact HB.out | apply below_alloc | apply pw_below_drewN | apply below_drew1) | exact HB.out))) : w.heap.size ≤ gb290)); have n3_ := Aside0.mk ((by rw [hg]; exact (below_size (by repeat (first | (with_reducible first | exact HB.out | apply below_alloc | apply pw_below_drewN | apply below_drew1) | exact HB.out))) : w.heap.size ≤ gb290)); clear HB; have HB := n0_; have BK290 := n1_; have GW290 := n2_; have GE290 := n3_; clear n0_ n1_ n2_ n3_; clear hb hbox hg) | ((with_reducible refine gate_callee (f := 10) rfl ?_); refine goesL_ (some 16) rfl rfl Try.func10 (by kernel_rfl) rfl #[.slice A0 l0.length c0, .slice A2 l2.length c2] rfl (by (try simp only [List.map_toArray, List.map_cons, List.map_nil]); first | done | rfl | (simp only [List.length_drop, List.length_take]; rfl)) ?_; (with_reducible refine (tithinglaw21_few.calls k _ _ l0 _ _ l2 true _ ?side1 ?side2 ?side3 ?side4 A4.out).mono ?_); (case side1 => repeat (first | exact (Kd.C_below HR0.out HB.out) | (with_reducible refine Kd.C_alloc ?_ _) | (with_reducible refine Kd.C_drewN ?_ _) | (with_reducible refine Kd.C_drew ?_))); (case side2 => exact HC0.out); (case side3 => repeat (first | exact (Kd.C_below HR2.out HB.out) | (with_reducible refine Kd.C_alloc ?_ _) | (with_reducible refine Kd.C_drewN ?_ _) | (with_reducible refine Kd.C_drew ?_))); (case side4 => exact HC2.out); rintro e w' ⟨rfl, ⟨nd, rfl⟩⟩; refine ⟨_, rfl, ?_⟩; have hcz9_0 : w8.cell? ⟨gb290, 0, none⟩ = some (.int .i64 a1_0) := (blk_cell BK290.out 0).trans rfl; have hcz9_1 : w8.cell? ⟨gb290, 1, none⟩ = some (.string a1_1) := (blk_cell BK290.out 1).trans rfl; have hfz9_0 := blk_frozen BK290.out 0; have hfz9_1 := blk_frozen BK290.out 1) | ((with_reducible refine gate_callee (f := 29) rfl ?_); refine goesL_ (some 26) rfl rfl Try.func29 (by kernel_rfl) rfl #[.slice A0 l0.length c0, .int .i64 a1_0, .string a1_1, .slice A2 l2.length c2] rfl (by (try simp only [List.map_toArray, List.map_cons, List.map_nil]); first | done | rfl | (simp only [List.length_drop, List.length_take]; rfl)) ?_; (with_reducible refine (rights_May.calls k _ _ l0 a1_0 a1_1 _ _ l2 t293 t294 _ ?side1 ?side2 ?side3 ?side4 A6.out).mono ?_); (case side1 => repeat (first | exact (Kd.C_below HR0.out (by repeat (first | (with_reducible first | exact HB.out | apply below_alloc | apply pw_below_drewN | apply below_drew1 | refine below_set ?_ GE290.out) | exact HB.out))) | (with_reducible refine Kd.C_alloc ?_ _) | (with_reducible refine Kd.C_drewN ?_ _) | (with_reducible refine Kd.C_drew ?_))); (case side2 => exact HC0.out); (case side3 => repeat (first | exact (Kd.C_below HR2.out (by repeat (first | (with_reducible first | exact HB.out | apply below_alloc | apply pw_below_drewN | apply below_drew1 | refine below_set ?_ GE290.out) | exact HB.out))) | (with_reducible refine Kd.C_alloc ?_ _) | (with_reducible refine Kd.C_drewN ?_ _) | (with_reducible refine Kd.C_drew ?_))); (case side4 => exact HC2.out); rintro e w10 ⟨rfl, hb⟩; refine ⟨_, rfl, ?_⟩; have n0_ := Aside0.mk (blk_below (g := gb290) (o := .cells #[.int .i64 a1_0, .string a1_1] 49 (0, 0)) (by (with_reducible repeat (first | refine blk_drewN ?_ _ | refine blk_drew ?_ | refine blk_alloc ?_ _)); exact BK290.out) hb); have n1_ := Aside0.mk (below_step (by repeat (first | (with_reducible first | exact HB.out | apply below_alloc | apply pw_below_drewN | apply below_drew1 | refine below_set ?_ GE290.out) | exact HB.out)) hb); clear BK290; clear HB; have BK290 := n0_; have HB := n1_; clear n0_ n1_; (try clear hb); (try clear hb2); (try clear hk); (try clear hi)))
    (try simp only [Act.put, List.setIfInBounds_toArray, List.set_cons_zero, List.set_cons_succ])
    go_cut [34] (fun v34 wc => ∃ (kq : Nat) (x34_6 : Bool), v34 = .bool x34_6 ∧ Aside0 (tithinglaw21_RightsMore.j0 kq l0 l2 x34_6 a1_0 a1_1 = some r) ∧ Aside0 (kq ≤ k) ∧ Aside0 (wc.heap[gb290]? = some (.cells #[.int .i64 a1_0, .string a1_1] 49 (0, 0))) ∧ Aside0 (Below w.heap.size w wc))
    case first =>
      have H := HC7.out
      clear HC7
      by_cases c11 : t294 = 0
      · rw [if_pos c11] at H
        have c11b0 : (t294 == 0) = true := beq_iff_eq.mpr c11
        have c11b1 : (t294 != 0) = false := bne_eq_false_iff_eq.mpr c11
        clear c11
        (first | rw [c11b0] | (simp only [i64_w, i32_w]; rw [c11b0]) | skip)
        have H' := Aside0.mk H
        clear H
        go_wp2
        go_meet
        case rel => exact ⟨_, (!t293), (by first | rfl | (simp; done) | (simp [*]; done)), H', ⟨by first | omega | exact Nat.le_refl _⟩, ⟨by (with_reducible repeat (first | refine blk_drewN ?_ _ | refine blk_drew ?_ | refine blk_alloc ?_ _)); exact BK290.out⟩, ⟨by repeat (first | (with_reducible first | exact HB.out | apply below_alloc | apply pw_below_drewN | apply below_drew1 | refine below_set ?_ GE290.out) | exact HB.out)⟩⟩
      · rw [if_neg c11] at H
        have c11b0 : (t294 == 0) = false := beq_eq_false_iff_ne.mpr c11
        have c11b1 : (t294 != 0) = true := bne_iff_ne.mpr c11
        (first | rw [c11b0] | (simp only [i64_w, i32_w]; rw [c11b0]) | skip)
        have H' := Aside0.mk H
        clear H
        go_wp2
        go_meet
        case rel => exact ⟨_, (true), (by first | rfl | (simp; done) | (simp [*]; done)), H', ⟨by first | omega | exact Nat.le_refl _⟩, ⟨by (with_reducible repeat (first | refine blk_drewN ?_ _ | refine blk_drew ?_ | refine blk_alloc ?_ _)); exact BK290.out⟩, ⟨by repeat (first | (with_reducible first | exact HB.out | apply below_alloc | apply pw_below_drewN | apply below_drew1 | refine below_set ?_ GE290.out) | exact HB.out)⟩⟩
    case rest =>
      clear HC7
      try clear c1
      try clear c2
      try clear p2
      try clear c5
      try clear c9
      try clear c10
      try clear c11
      try clear c11b0
      try clear c11b1
      try clear hcz9_0
      try clear hcz9_1
      try clear hfz9_0
      try clear hfz9_1
      obtain ⟨kq, x34_6, rfl, HA, HJ6, BK290, HB⟩ := hcut
      cases kq with
      | zero => exact absurd HA.out (by simp [tithinglaw21_RightsMore.j0])
      | succ kj6 =>
        have H := HA.out
        clear HA
        simp only [tithinglaw21_RightsMore.j0] at H
        by_cases c12 : x34_6 = true
        · subst c12
          have H1 : ((tithinglaw21_First.f kj6).bind fun t295 => (some t295)) = some r := by rw [if_pos rfl] at H; exact H
          clear H
          have H := H1
          clear H1
          replace H := Option.bind_eq_some_iff.mp H
          obtain ⟨t295, A130, H⟩ := H
          replace H : (some t295) = some r := H
          have A13 := Aside0.mk A130
          clear A130
          obtain rfl := Option.some.inj H
          go_wp2_with (first | ((with_reducible refine gate_callee (f := 11) rfl ?_); refine goesL_ (some 35) rfl rfl Try.func11 (by kernel_rfl) rfl #[] rfl (by (try simp only [List.map_toArray, List.map_cons, List.map_nil]); first | done | rfl | (simp only [List.length_drop, List.length_take]; rfl)) ?_; (with_reducible refine (tithinglaw21_First.calls kj6  t295 _ A13.out).mono ?_); rintro e w14 ⟨rfl, hb⟩; refine ⟨_, rfl, ?_⟩; have n0_ := Aside0.mk (blk_below (g := gb290) (o := .cells #[.int .i64 a1_0, .string a1_1] 49 (0, 0)) (by (with_reducible repeat (first | refine blk_drewN ?_ _ | refine blk_drew ?_ | refine blk_alloc ?_ _)); exact BK290.out) hb); have n1_ := Aside0.mk (below_step (by repeat (first | (with_reducible first | exact HB.out | apply below_alloc | apply pw_below_drewN | apply below_drew1 | refine below_set ?_ GE290.out) | exact HB.out)) hb); clear BK290; clear HB; have BK290 := n0_; have HB := n1_; clear n0_ n1_; (try clear hb); (try clear hb2); (try clear hk); (try clear hi)))
          go_ret
          exact ⟨by first | rfl | (simp [errW_none, errW_some] <;> rfl) | (simp [*, errW_none, errW_some] <;> rfl), by repeat (first | (with_reducible first | exact HB.out | apply below_alloc | apply pw_below_drewN | apply below_drew1 | refine below_set ?_ GE290.out) | exact HB.out)⟩
        · replace c12 := Bool.eq_false_iff.mpr c12
          subst c12
          have H1 : (tithinglaw21_RightsMore.l0 kj6 l0 l2 0 a1_0 a1_1) = some r := by rw [if_neg (show ¬ (false = true) by decide)] at H; exact H
          clear H
          have H := H1
          clear H1
          have H' := Aside0.mk H
          clear H
          go_wp2
          go_loopg [9] kj6 (fun kq v9 w' => ∃ (x9_2 : Int), v9 = .int .i64 x9_2 ∧ Aside0 (tithinglaw21_RightsMore.l0 kq l0 l2 x9_2 a1_0 a1_1 = some r) ∧ Aside0 (kq ≤ kj6) ∧ Aside0 (w'.heap[gb290]? = some (.cells #[.int .i64 a1_0, .string a1_1] 49 (0, 0))) ∧ Aside0 (Below w.heap.size w w'))
          case atStart => exact ⟨(0), (by first | rfl | (simp; done) | (simp [*]; done)), H', ⟨Nat.le_refl _⟩, ⟨by (with_reducible repeat (first | refine blk_drewN ?_ _ | refine blk_drew ?_ | refine blk_alloc ?_ _)); exact BK290.out⟩, ⟨by repeat (first | (with_reducible first | exact HB.out | apply below_alloc | apply pw_below_drewN | apply below_drew1 | refine below_set ?_ GE290.out) | exact HB.out)⟩⟩
          case round =>
            clear H'
            try clear c1
            try clear c2
            try clear p2
            try clear c5
            try clear c9
            try clear c10
            try clear c11
            try clear c11b0
            try clear c11b1
            try clear c12
            try clear hcz9_0
            try clear hcz9_1
            try clear hfz9_0
            try clear hfz9_1
            try clear p2
            obtain ⟨x9_2, rfl, HA, HK2, BK290, HB⟩ := hrel
            cases gk with
            | zero => exact absurd HA.out (by simp [tithinglaw21_RightsMore.l0])
            | succ k2 =>
              have H := HA.out
              clear HA
              simp only [tithinglaw21_RightsMore.l0] at H
              by_cases c15 : x9_2 < (l2.length : Int)
              · rw [if_pos c15] at H
                have c15b0 : decide (x9_2 < (l2.length : Int)) = true := decide_eq_true c15
                clear c15
                have H' := Aside0.mk H
                clear H
                go_wp2
                go_loopg [10] k2 (fun kq v10 w' => ∃ (x10_3 : Int), v10 = .int .i64 x10_3 ∧ Aside0 (tithinglaw21_RightsMore.l1 kq l0 l2 x9_2 x10_3 a1_0 a1_1 = some r) ∧ Aside0 (kq ≤ k2) ∧ Aside0 (w'.heap[gb290]? = some (.cells #[.int .i64 a1_0, .string a1_1] 49 (0, 0))) ∧ Aside0 (Below w.heap.size w w'))
                case atStart => exact ⟨(0), (by first | rfl | (simp; done) | (simp [*]; done)), H', ⟨Nat.le_refl _⟩, ⟨by (with_reducible repeat (first | refine blk_drewN ?_ _ | refine blk_drew ?_ | refine blk_alloc ?_ _)); exact BK290.out⟩, ⟨by repeat (first | (with_reducible first | exact HB.out | apply below_alloc | apply pw_below_drewN | apply below_drew1 | refine below_set ?_ GE290.out) | exact HB.out)⟩⟩
                case round =>
                  clear H'
                  try clear c1
                  try clear c2
                  try clear p2
                  try clear c5
                  try clear c9
                  try clear c10
                  try clear c11
                  try clear c11b0
                  try clear c11b1
                  try clear c12
                  try clear c15
                  try clear c15b0
                  try clear hcz9_0
                  try clear hcz9_1
                  try clear hfz9_0
                  try clear hfz9_1
                  try clear p2
                  obtain ⟨x10_3, rfl, HA, HK3, BK290, HB⟩ := hrel
                  cases gk with
                  | zero => exact absurd HA.out (by simp [tithinglaw21_RightsMore.l1])
                  | succ k3 =>
                    have H := HA.out
                    clear HA
                    simp only [tithinglaw21_RightsMore.l1] at H
                    by_cases c16 : x10_3 < 3
                    · rw [if_pos c16] at H
                      have c16b0 : decide (x10_3 < 3) = true := decide_eq_true c16
                      clear c16
                      obtain ⟨y297, hy297⟩ : ∃ y_ : List (S24), y_ = (([] : List (S24))) := ⟨_, rfl⟩
                      replace H : (if y297.length + l2.length < 2932031007402 then ((some (y297 ++ l2 : List (S24))).bind fun y300 => (if 0 ≤ x9_2 then (if x9_2 < (y300.length : Int) then (if 0 ≤ x10_3 then ((some (y300.set (x9_2 : Int).toNat (⟨(rd_T24 y300 x9_2).f0, (rd_T24 y300 x9_2).f1, Go.bits .or .i64 ((rd_T24 y300 x9_2).f2) (shl .i64 1 x10_3), (rd_T24 y300 x9_2).f3, (rd_T24 y300 x9_2).f4, (rd_T24 y300 x9_2).f5⟩ : S24) : List (S24))).bind fun y304 => ((rights_May.f k3 l0 a1_0 a1_1 (y304.set (x9_2 : Int).toNat (⟨(rd_T24 y304 x9_2).f0, (rd_T24 y304 x9_2).f1, (rd_T24 y304 x9_2).f2, (rd_T24 y304 x9_2).f3, Go.bits .or .i64 ((rd_T24 y304 x9_2).f4) (shr .i64 4 x10_3), (rd_T24 y304 x9_2).f5⟩ : S24))).bind fun bt307 => (if bt307.2 = 0 then (if bt307.1 = true then (tithinglaw21_RightsMore.l1 k3 l0 l2 x9_2 (wrap64 (x10_3 + 1)) a1_0 a1_1) else (some false)) else (some false)))) else (none)) else (none)) else (none))) else (none)) = some r := by first | (rw [hy297]; with_reducible exact H) | (have H2_ := (Option.bind_some _ _).symm.trans H; rw [hy297]; with_reducible exact H2_) | (have H2_ := (Option.bind_some _ _).symm.trans H; with_reducible exact H2_) | with_reducible exact H | (rw [hy297]; exact H) | exact H
                      have Ny297 := Aside0.mk hy297
                      clear hy297
                      by_cases c17 : y297.length + l2.length < 2932031007402
                      · rw [if_pos c17] at H
                        have LMc17 := Aside0.mk c17
                        clear c17
                        obtain ⟨y300, hy300⟩ : ∃ y_ : List (S24), y_ = (y297 ++ l2) := ⟨_, rfl⟩
                        replace H : (if 0 ≤ x9_2 then (if x9_2 < (y300.length : Int) then (if 0 ≤ x10_3 then ((some (y300.set (x9_2 : Int).toNat (⟨(rd_T24 y300 x9_2).f0, (rd_T24 y300 x9_2).f1, Go.bits .or .i64 ((rd_T24 y300 x9_2).f2) (shl .i64 1 x10_3), (rd_T24 y300 x9_2).f3, (rd_T24 y300 x9_2).f4, (rd_T24 y300 x9_2).f5⟩ : S24) : List (S24))).bind fun y304 => ((rights_May.f k3 l0 a1_0 a1_1 (y304.set (x9_2 : Int).toNat (⟨(rd_T24 y304 x9_2).f0, (rd_T24 y304 x9_2).f1, (rd_T24 y304 x9_2).f2, (rd_T24 y304 x9_2).f3, Go.bits .or .i64 ((rd_T24 y304 x9_2).f4) (shr .i64 4 x10_3), (rd_T24 y304 x9_2).f5⟩ : S24))).bind fun bt307 => (if bt307.2 = 0 then (if bt307.1 = true then (tithinglaw21_RightsMore.l1 k3 l0 l2 x9_2 (wrap64 (x10_3 + 1)) a1_0 a1_1) else (some false)) else (some false)))) else (none)) else (none)) else (none)) = some r := by first | (rw [hy300]; with_reducible exact H) | (have H2_ := (Option.bind_some _ _).symm.trans H; rw [hy300]; with_reducible exact H2_) | (have H2_ := (Option.bind_some _ _).symm.trans H; with_reducible exact H2_) | with_reducible exact H | (rw [hy300]; exact H) | exact H
                        have Ny300 := Aside0.mk hy300
                        clear hy300
                        by_cases c18 : 0 ≤ x9_2
                        · rw [if_pos c18] at H
                          have c18b0 : decide (0 ≤ x9_2) = true := decide_eq_true c18
                          clear c18
                          by_cases c19 : x9_2 < (y300.length : Int)
                          · rw [if_pos c19] at H
                            have c19b0 : decide (x9_2 < (y300.length : Int)) = true := decide_eq_true c19
                            clear c19
                            by_cases c20 : 0 ≤ x10_3
                            · rw [if_pos c20] at H
                              have c20b0 := eq_true c20
                              have c20b1 : decide (0 ≤ x10_3) = true := decide_eq_true c20
                              clear c20
                              obtain ⟨ji21, hji21⟩ : ∃ j_ : Int, (shl .i64 1 x10_3) = j_ := ⟨_, rfl⟩
                              replace H : ((some (y300.set (x9_2 : Int).toNat (⟨(rd_T24 y300 x9_2).f0, (rd_T24 y300 x9_2).f1, Go.bits .or .i64 ((rd_T24 y300 x9_2).f2) (ji21), (rd_T24 y300 x9_2).f3, (rd_T24 y300 x9_2).f4, (rd_T24 y300 x9_2).f5⟩ : S24) : List (S24))).bind fun y304 => ((rights_May.f k3 l0 a1_0 a1_1 (y304.set (x9_2 : Int).toNat (⟨(rd_T24 y304 x9_2).f0, (rd_T24 y304 x9_2).f1, (rd_T24 y304 x9_2).f2, (rd_T24 y304 x9_2).f3, Go.bits .or .i64 ((rd_T24 y304 x9_2).f4) (shr .i64 4 x10_3), (rd_T24 y304 x9_2).f5⟩ : S24))).bind fun bt307 => (if bt307.2 = 0 then (if bt307.1 = true then (tithinglaw21_RightsMore.l1 k3 l0 l2 x9_2 (wrap64 (x10_3 + 1)) a1_0 a1_1) else (some false)) else (some false)))) = some r := by first | (rw [hji21] at H; exact H) | (simp only [hji21] at H ⊢; exact H)
                              have hji21_ : (IntKind.i64.wrap (1 * 2 ^ min x10_3.toNat 64)) = ji21 := hji21
                              have hji21z : x10_3 ≤ 64 → (IntKind.i64.wrap (1 * 2 ^ x10_3.toNat)) = ji21 := shl_small hji21
                              have hji21u : (IntKind.i64.wrap (2 ^ min x10_3.toNat 64)) = ji21 := by have h_ := hji21_; rw [Int.one_mul] at h_; exact h_
                              have hji21v : x10_3 ≤ 64 → (IntKind.i64.wrap (2 ^ x10_3.toNat)) = ji21 := fun hle_ => by have h_ := hji21z hle_; rw [Int.one_mul] at h_; exact h_
                              have hji21y : (wrap64 (1 * 2 ^ min x10_3.toNat 64)) = ji21 := (i64_w _).symm.trans hji21_
                              have hji21x : x10_3 ≤ 64 → (wrap64 (1 * 2 ^ x10_3.toNat)) = ji21 := fun h_ => (i64_w _).symm.trans (hji21z h_)
                              obtain ⟨y304, hy304⟩ : ∃ y_ : List (S24), y_ = (y300.set (x9_2 : Int).toNat (⟨(rd_T24 y300 x9_2).f0, (rd_T24 y300 x9_2).f1, Go.bits .or .i64 ((rd_T24 y300 x9_2).f2) (ji21), (rd_T24 y300 x9_2).f3, (rd_T24 y300 x9_2).f4, (rd_T24 y300 x9_2).f5⟩ : S24)) := ⟨_, rfl⟩
                              replace H : ((rights_May.f k3 l0 a1_0 a1_1 (y304.set (x9_2 : Int).toNat (⟨(rd_T24 y304 x9_2).f0, (rd_T24 y304 x9_2).f1, (rd_T24 y304 x9_2).f2, (rd_T24 y304 x9_2).f3, Go.bits .or .i64 ((rd_T24 y304 x9_2).f4) (shr .i64 4 x10_3), (rd_T24 y304 x9_2).f5⟩ : S24))).bind fun bt307 => (if bt307.2 = 0 then (if bt307.1 = true then (tithinglaw21_RightsMore.l1 k3 l0 l2 x9_2 (wrap64 (x10_3 + 1)) a1_0 a1_1) else (some false)) else (some false))) = some r := by first | (rw [hy304]; with_reducible exact H) | (have H2_ := (Option.bind_some _ _).symm.trans H; rw [hy304]; with_reducible exact H2_) | (have H2_ := (Option.bind_some _ _).symm.trans H; with_reducible exact H2_) | with_reducible exact H | (rw [hy304]; exact H) | exact H
                              have Ny304 := Aside0.mk hy304
                              clear hy304
                              have c23b0 := eq_true (of_decide_eq_true (by first | (with_reducible assumption) | assumption) : 0 ≤ x10_3)
                              obtain ⟨ji24, hji24⟩ : ∃ j_ : Int, (shr .i64 4 x10_3) = j_ := ⟨_, rfl⟩
                              replace H : ((rights_May.f k3 l0 a1_0 a1_1 (y304.set (x9_2 : Int).toNat (⟨(rd_T24 y304 x9_2).f0, (rd_T24 y304 x9_2).f1, (rd_T24 y304 x9_2).f2, (rd_T24 y304 x9_2).f3, Go.bits .or .i64 ((rd_T24 y304 x9_2).f4) (ji24), (rd_T24 y304 x9_2).f5⟩ : S24))).bind fun bt307 => (if bt307.2 = 0 then (if bt307.1 = true then (tithinglaw21_RightsMore.l1 k3 l0 l2 x9_2 (wrap64 (x10_3 + 1)) a1_0 a1_1) else (some false)) else (some false))) = some r := by first | (rw [hji24] at H; exact H) | (simp only [hji24] at H ⊢; exact H)
                              have hji24_ : (4 / 2 ^ min x10_3.toNat 64) = ji24 := hji24
                              have hji24z : x10_3 ≤ 64 → (4 / 2 ^ x10_3.toNat) = ji24 := shr_small hji24
                              obtain ⟨y306, hy306⟩ : ∃ y_ : List (S24), y_ = (y304.set (x9_2 : Int).toNat (⟨(rd_T24 y304 x9_2).f0, (rd_T24 y304 x9_2).f1, (rd_T24 y304 x9_2).f2, (rd_T24 y304 x9_2).f3, Go.bits .or .i64 ((rd_T24 y304 x9_2).f4) (ji24), (rd_T24 y304 x9_2).f5⟩ : S24)) := ⟨_, rfl⟩
                              replace H : ((rights_May.f k3 l0 a1_0 a1_1 y306).bind fun bt307 => (if bt307.2 = 0 then (if bt307.1 = true then (tithinglaw21_RightsMore.l1 k3 l0 l2 x9_2 (wrap64 (x10_3 + 1)) a1_0 a1_1) else (some false)) else (some false))) = some r := by first | (rw [hy306]; with_reducible exact H) | (have H2_ := (Option.bind_some _ _).symm.trans H; rw [hy306]; with_reducible exact H2_) | (have H2_ := (Option.bind_some _ _).symm.trans H; with_reducible exact H2_) | with_reducible exact H | (rw [hy306]; exact H) | exact H
                              have Ny306 := Aside0.mk hy306
                              clear hy306
                              replace H := Option.bind_eq_some_iff.mp H
                              obtain ⟨⟨t307, t308⟩, A260, H⟩ := H
                              replace H : (if t308 = 0 then (if t307 = true then (tithinglaw21_RightsMore.l1 k3 l0 l2 x9_2 (wrap64 (x10_3 + 1)) a1_0 a1_1) else (some false)) else (some false)) = some r := H
                              have A26 := Aside0.mk A260
                              clear A260
                              by_cases c27 : t308 = 0
                              · rw [if_pos c27] at H
                                have c27b0 : (t308 == 0) = true := beq_iff_eq.mpr c27
                                have c27b1 : (t308 != 0) = false := bne_eq_false_iff_eq.mpr c27
                                clear c27
                                by_cases c28 : t307 = true
                                · subst c28
                                  have H1 : (tithinglaw21_RightsMore.l1 k3 l0 l2 x9_2 (wrap64 (x10_3 + 1)) a1_0 a1_1) = some r := by rw [if_pos rfl] at H; exact H
                                  clear H
                                  have H := H1
                                  clear H1
                                  have H' := Aside0.mk H
                                  clear H
                                  try go_wp2_with (first | ((with_reducible refine gate_dst (N := 46) rfl ?_); refine Kd.R_lit k24 _ 24 ?hg (N := 46) ?hd (xs := ([] : List (S24))) (inner := []) (ok := fun _ => True) (okp := fun _ => True) ?hr ?hp (fun _ hk => hk) trivial (Below.refl _ _) (Nat.le_refl _) (by simp) ?_; (case hd => rfl); (case hg => rfl); (case hr => first | (go_simp; done) | (go_simp; rfl)); (case hp => exact (Reps.none _ _)); intro v298 w29 ho30 hb hg_ hnew_; clear hg_ hnew_; (first | rw [← Ny297.out] at ho30 | (simp only [Int.reduceToNat] at ho30; rw [← Ny297.out] at ho30)); have n0_ := Aside0.mk (Kd.R_lower ho30 (below_size (by repeat (first | (with_reducible first | exact HB.out | apply below_alloc | apply pw_below_drewN | apply below_drew1 | refine below_set ?_ GE290.out) | exact HB.out)))); have n1_ := Aside0.mk (blk_below (g := gb290) (o := .cells #[.int .i64 a1_0, .string a1_1] 49 (0, 0)) (by (with_reducible repeat (first | refine blk_drewN ?_ _ | refine blk_drew ?_ | refine blk_alloc ?_ _)); exact BK290.out) hb); have n2_ := Aside0.mk (below_step (by repeat (first | (with_reducible first | exact HB.out | apply below_alloc | apply pw_below_drewN | apply below_drew1 | refine below_set ?_ GE290.out) | exact HB.out)) hb); clear BK290; clear HB; have HO299 := n0_; have BK290 := n1_; have HB := n2_; clear n0_ n1_ n2_; clear hb ho30) | ((with_reducible refine gate_builtin (b := .append) (xs := #[.tmp 46, .tmp 47]) rfl ?_); at_builtin; refine Kd.R_append_rows k24 (w0 := w) w.heap.size rfl (.tmp 46) (.tmp 47) 44 24 (.agg #[(.int .i64 0), (.int .i64 0), (.int .i64 0), (.int .i64 0), (.int .i64 0), (.bool false)]) 48 rfl Try.underlying44 info24 rfl (by decide) (by omega) v298 y297 l2 _ _ _ (fun _ => True) (fun _ => False) rfl rfl ?aO ?aR (fun _ _ h => h) (fun _ h => h.elim) ?aF ?aB ?aS ?aL ?_; (case aR => repeat (first | exact (Kd.C_below HR2.out HB.out) | (with_reducible refine Kd.C_alloc ?_ _) | (with_reducible refine Kd.C_drewN ?_ _) | (with_reducible refine Kd.C_drew ?_))); (case aB => exact (by repeat (first | (with_reducible first | exact HB.out | apply below_alloc | apply pw_below_drewN | apply below_drew1 | refine below_set ?_ GE290.out) | exact HB.out))); (case aF => exact (fun _ _ => trivial)); (case aO => exact (by (with_reducible repeat (first | apply Kd.R_alloc | apply Kd.R_drewN | apply Kd.R_drew)); exact HO299.out)); (case aS => exact (below_size (by repeat (first | (with_reducible first | exact HB.out | apply below_alloc | apply pw_below_drewN | apply below_drew1 | refine below_set ?_ GE290.out) | exact HB.out)))); (case aL => have := LMc17.out; omega); intro v301 w31 ho hb hg hat; rw [← Ny300.out] at ho; have n0_ := Aside0.mk (blk_grown (g := gb290) (o := .cells #[.int .i64 a1_0, .string a1_1] 49 (0, 0)) (by (with_reducible repeat (first | refine blk_drewN ?_ _ | refine blk_drew ?_ | refine blk_alloc ?_ _)); exact BK290.out) hg (Kd.R_ne HO299.out BK290.out (by decide))); have n1_ := Aside0.mk (hb); have n2_ := Aside0.mk (ho); clear BK290; clear HB; clear HO299; have BK290 := n0_; have HB := n1_; have HO302 := n2_; clear n0_ n1_ n2_; clear ho hb hg hat))
                                  have n0_ := Aside0.mk (Kd.R_drew HO302.out)
                                  have n1_ := Aside0.mk (blk_drew BK290.out)
                                  have n2_ := Aside0.mk (below_drew1 HB.out)
                                  clear HO302
                                  clear BK290
                                  clear HB
                                  have HO302 := n0_
                                  have BK290 := n1_
                                  have HB := n2_
                                  clear n0_ n1_ n2_
                                  obtain ⟨Ao33, co33, eo33⟩ := Kd.R_slice HO302.out
                                  (first | subst eo33 | (injection eo33 with f1_ f2_ f3_; have f4_ := f1_.symm; have f5_ := f3_.symm; clear f1_ f2_ f3_; subst f4_; subst f5_))
                                  have p303 : 0 ≤ (x9_2 : Int) := of_decide_eq_true (by first | (with_reducible assumption) | assumption)
                                  have q303 : x9_2 < (y300.length : Int) := of_decide_eq_true (by first | (with_reducible assumption) | assumption)
                                  obtain ⟨ad303, e303, hx303_0, hx303_1, hx303_2, hx303_3, hx303_4, hx303_5⟩ := at_T24 (Kd.R_reads' HO302.out).2.2 x9_2 p303 q303
                                  cases e303
                                  replace p303 := eq_true p303
                                  replace q303 := eq_true q303
                                  have p22 : 0 ≤ (x9_2 : Int) := of_decide_eq_true (by first | (with_reducible assumption) | assumption)
                                  have q22 : (x9_2 : Int) < ((y300.length : Int) : Int) := of_decide_eq_true (by first | (with_reducible assumption) | assumption)
                                  obtain ⟨go22, co22, eo22, gb22, gl22, cl22, HG22⟩ := Kd.R_form HO302.out (by omega)
                                  (first | cases eo22 | (injection eo22 with ea_ en_ ec_; (first | subst ea_ | (injection ea_ with ea_; subst ea_)); subst ec_; clear en_))
                                  have GB22 := Aside0.mk gb22
                                  have GG22 := Aside0.mk HG22
                                  clear gb22 gl22 HG22
                                  (first | simp only [add_plain] at hx303_0 | skip)
                                  (first | simp only [add_plain] at hx303_1 | skip)
                                  (first | simp only [add_plain] at hx303_2 | skip)
                                  (first | simp only [add_plain] at hx303_3 | skip)
                                  (first | simp only [add_plain] at hx303_4 | skip)
                                  (first | simp only [add_plain] at hx303_5 | skip)
                                  obtain ⟨ce22, hcl22, hM22, hcc22, hfr22⟩ := Kd.R_elem HO302.out z24 (x9_2 : Int) p22 q22
                                  obtain rfl := k24_openM hM22
                                  have hx22_0 : World.cell? _ ⟨go22, (x9_2 : Int).toNat * 6, none⟩ = some (.int .i64 ((rd_T24 y300 x9_2).f0)) := hcc22 0 _ rfl
                                  have hx22_1 : World.cell? _ ⟨go22, (x9_2 : Int).toNat * 6 + 1, none⟩ = some (.int .i64 ((rd_T24 y300 x9_2).f1)) := hcc22 1 _ rfl
                                  have hx22_2 : World.cell? _ ⟨go22, (x9_2 : Int).toNat * 6 + 2, none⟩ = some (.int .i64 ((rd_T24 y300 x9_2).f2)) := hcc22 2 _ rfl
                                  have hx22_3 : World.cell? _ ⟨go22, (x9_2 : Int).toNat * 6 + 3, none⟩ = some (.int .i64 ((rd_T24 y300 x9_2).f3)) := hcc22 3 _ rfl
                                  have hx22_4 : World.cell? _ ⟨go22, (x9_2 : Int).toNat * 6 + 4, none⟩ = some (.int .i64 ((rd_T24 y300 x9_2).f4)) := hcc22 4 _ rfl
                                  have hx22_5 : World.cell? _ ⟨go22, (x9_2 : Int).toNat * 6 + 5, none⟩ = some (.bool ((rd_T24 y300 x9_2).f5)) := hcc22 5 _ rfl
                                  have hf22_0 : World.frozen? _ ⟨go22, (x9_2 : Int).toNat * 6, none⟩ = false := hfr22 0
                                  have hf22_1 : World.frozen? _ ⟨go22, (x9_2 : Int).toNat * 6 + 1, none⟩ = false := hfr22 1
                                  have hf22_2 : World.frozen? _ ⟨go22, (x9_2 : Int).toNat * 6 + 2, none⟩ = false := hfr22 2
                                  have hf22_3 : World.frozen? _ ⟨go22, (x9_2 : Int).toNat * 6 + 3, none⟩ = false := hfr22 3
                                  have hf22_4 : World.frozen? _ ⟨go22, (x9_2 : Int).toNat * 6 + 4, none⟩ = false := hfr22 4
                                  have hf22_5 : World.frozen? _ ⟨go22, (x9_2 : Int).toNat * 6 + 5, none⟩ = false := hfr22 5
                                  clear hcl22 hcc22 hfr22 hM22
                                  replace p22 := eq_true p22
                                  replace q22 := eq_true q22
                                  obtain ⟨ce34, hcl34, hM34, hcc34, hfr34⟩ := Kd.R_elem HO302.out z24 (x9_2 : Int) (of_decide_eq_true (by first | (with_reducible assumption) | assumption)) (by have h_ : (x9_2 : Int) < ((y300.length : Int) : Int) := of_decide_eq_true (by first | (with_reducible assumption) | assumption); first | exact h_ | (have e_ := (Kd.R_reads' HO302.out).1; omega) | simpa using h_)
                                  obtain rfl := k24_openM hM34
                                  have HP34 := (Kd.R_seg HO302.out (x9_2 : Int) (of_decide_eq_true (by first | (with_reducible assumption) | assumption)) (by have h_ : (x9_2 : Int) < ((y300.length : Int) : Int) := of_decide_eq_true (by first | (with_reducible assumption) | assumption); first | exact h_ | (have e_ := (Kd.R_reads' HO302.out).1; omega) | simpa using h_) (seg := [.int .i64 (Go.bits .or .i64 ((rd_T24 y300 x9_2).f2) (ji21))]) (j := 2) hcl34 hcc34 (show 3 ≤ 6 from by decide) (x' := (⟨(rd_T24 y300 x9_2).f0, (rd_T24 y300 x9_2).f1, Go.bits .or .i64 ((rd_T24 y300 x9_2).f2) (ji21), (rd_T24 y300 x9_2).f3, (rd_T24 y300 x9_2).f4, (rd_T24 y300 x9_2).f5⟩ : S24)) (k24_mkM _ _ _ (⟨(rd_T24 y300 x9_2).f0, (rd_T24 y300 x9_2).f1, Go.bits .or .i64 ((rd_T24 y300 x9_2).f2) (ji21), (rd_T24 y300 x9_2).f3, (rd_T24 y300 x9_2).f4, (rd_T24 y300 x9_2).f5⟩ : S24) ) (fun _ hk => hk)).1
                                  rw [← Ny304.out] at HP34
                                  have HQ34 := Aside0.mk HP34
                                  clear hcl34 hcc34 hfr34 hM34 HP34
                                  refine start_ (n := 11) (S := fun w' => w'.cell? ⟨go22, ((x9_2).toNat * 6), none⟩ = some (.int .i64 ((rd_T24 y300 x9_2).f0)) ∧ w'.cell? ⟨go22, ((x9_2).toNat * 6) + 1, none⟩ = some (.int .i64 ((rd_T24 y300 x9_2).f1)) ∧ w'.cell? ⟨go22, ((x9_2).toNat * 6) + 2, none⟩ = some (.int .i64 ((rd_T24 y300 x9_2).f2)) ∧ w'.cell? ⟨go22, ((x9_2).toNat * 6) + 3, none⟩ = some (.int .i64 ((rd_T24 y300 x9_2).f3)) ∧ w'.cell? ⟨go22, ((x9_2).toNat * 6) + 4, none⟩ = some (.int .i64 ((rd_T24 y300 x9_2).f4)) ∧ w'.cell? ⟨go22, ((x9_2).toNat * 6) + 5, none⟩ = some (.bool ((rd_T24 y300 x9_2).f5))) (ds := [10]) #[false, false, false, false, false, false, false, false, false, false, false] (by kernel_rfl) rfl rfl ⟨hx303_0, hx303_1, hx303_2, hx303_3, hx303_4, hx303_5⟩ (fun hHeld => ?_); refine with_tabW tithinglaw21_RightsMore.tab13 tithinglaw21_RightsMore.bits13 (fun HT_ HW_ => ?_)
                                  generalize w31.drew = w32 at HO302 BK290 HB GG22 HQ34 hf22_0 hf22_1 hf22_2 hf22_3 hf22_4 hf22_5 hx22_0 hx22_1 hx22_2 hx22_3 hx22_4 hx22_5 hx303_0 hx303_1 hx303_2 hx303_3 hx303_4 hx303_5 hHeld ⊢
                                  refine pure_ (i := 0) (N := some 49) (v := ?_) (a' := ?_) #[true, false, false, false, false, false, false, false, false, false, false] rfl rfl (any_of HT_.out (by kernel_rfl)) (fun _ _ _ h => h) (Or.inl ⟨by rfl, ?_⟩) ?_ ?_
                                  rotate_left
                                  · intro w'
                                    go_simp
                                    with_reducible rfl
                                  rotate_left
                                  · simp only [Act.put, List.setIfInBounds_toArray, List.set_cons_zero, List.set_cons_succ, i64_w, i32_w]
                                    rfl
                                  refine pure_ (i := 1) (N := some 50) (v := ?_) (a' := ?_) #[true, true, false, false, false, false, false, false, false, false, false] rfl rfl (any_of HT_.out (by kernel_rfl)) (fun _ _ _ h => h) (Or.inl ⟨by rfl, ?_⟩) ?_ ?_
                                  rotate_left
                                  · intro w'
                                    go_simp
                                    with_reducible rfl
                                  rotate_left
                                  · simp only [Act.put, List.setIfInBounds_toArray, List.set_cons_zero, List.set_cons_succ, i64_w, i32_w]
                                    rfl
                                  refine pure_ (i := 2) (N := some 51) (v := ?_) (a' := ?_) #[true, true, true, false, false, false, false, false, false, false, false] rfl rfl (any_of HT_.out (by kernel_rfl)) (fun _ _ _ h => h) (Or.inl ⟨by rfl, ?_⟩) ?_ ?_
                                  rotate_left
                                  · intro w'
                                    go_simp
                                    with_reducible rfl
                                  rotate_left
                                  · simp only [Act.put, List.setIfInBounds_toArray, List.set_cons_zero, List.set_cons_succ, i64_w, i32_w]
                                    rfl
                                  refine pure_ (i := 3) (N := some 52) (v := ?_) (a' := ?_) #[true, true, true, true, false, false, false, false, false, false, false] rfl rfl (any_of HT_.out (by kernel_rfl)) (fun _ _ _ h => h) (Or.inl ⟨by rfl, ?_⟩) ?_ ?_
                                  rotate_left
                                  · intro w'
                                    go_simp
                                    with_reducible rfl
                                  rotate_left
                                  · simp only [Act.put, List.setIfInBounds_toArray, List.set_cons_zero, List.set_cons_succ, i64_w, i32_w]
                                    rfl
                                  refine pure_ (i := 5) (N := some 54) (v := ?_) (a' := ?_) #[true, true, true, true, false, true, false, false, false, false, false] rfl rfl (any_of HT_.out (by kernel_rfl)) (fun _ _ _ h => h) (Or.inl ⟨by rfl, ?_⟩) ?_ ?_
                                  rotate_left
                                  · intro w'
                                    go_simp
                                    with_reducible rfl
                                  rotate_left
                                  · simp only [Act.put, List.setIfInBounds_toArray, List.set_cons_zero, List.set_cons_succ, i64_w, i32_w]
                                    rfl
                                  refine pure_ (i := 6) (N := some 55) (v := ?_) (a' := ?_) #[true, true, true, true, false, true, true, false, false, false, false] rfl rfl (any_of HT_.out (by kernel_rfl)) (fun _ _ _ h => h) (Or.inl ⟨by rfl, ?_⟩) ?_ ?_
                                  rotate_left
                                  · intro w'
                                    go_simp
                                    with_reducible rfl
                                  rotate_left
                                  · simp only [Act.put, List.setIfInBounds_toArray, List.set_cons_zero, List.set_cons_succ, i64_w, i32_w]
                                    rfl
                                  refine take_ (i := 4) (N := some 53) (v := ?_) (a' := ?_) #[true, true, true, true, true, true, true, false, false, false, false] rfl rfl (take_ofW HT_.out HW_.out (by kernel_rfl)) (fun _ _ _ h => h) (Or.inl ⟨by rfl, ?_⟩) hHeld ?_ ?_
                                  rotate_left
                                  · rintro w' ⟨s0, s1, s2, s3, s4, s5⟩
                                    go_simp
                                    with_reducible rfl
                                  rotate_left
                                  · simp only [Act.put, List.setIfInBounds_toArray, List.set_cons_zero, List.set_cons_succ, i64_w, i32_w]
                                    rfl
                                  refine pure_ (i := 7) (N := some 56) (v := ?_) (a' := ?_) #[true, true, true, true, true, true, true, true, false, false, false] rfl rfl (any_of HT_.out (by kernel_rfl)) (fun _ _ _ h => h) (Or.inl ⟨by rfl, ?_⟩) ?_ ?_
                                  rotate_left
                                  · intro w'
                                    go_simp
                                    with_reducible rfl
                                  rotate_left
                                  · simp only [Act.put, List.setIfInBounds_toArray, List.set_cons_zero, List.set_cons_succ, i64_w, i32_w]
                                    rfl
                                  refine pure_ (i := 8) (N := some 57) (v := ?_) (a' := ?_) #[true, true, true, true, true, true, true, true, true, false, false] rfl rfl (any_of HT_.out (by kernel_rfl)) (fun _ _ _ h => h) (Or.inl ⟨by rfl, ?_⟩) ?_ ?_
                                  rotate_left
                                  · intro w'
                                    go_simp
                                    with_reducible rfl
                                  rotate_left
                                  · simp only [Act.put, List.setIfInBounds_toArray, List.set_cons_zero, List.set_cons_succ, i64_w, i32_w]
                                    rfl
                                  refine pure_ (i := 9) (N := some 58) (v := ?_) (a' := ?_) #[true, true, true, true, true, true, true, true, true, true, false] rfl rfl (any_of HT_.out (by kernel_rfl)) (fun _ _ _ h => h) (Or.inl ⟨by rfl, ?_⟩) ?_ ?_
                                  rotate_left
                                  · intro w'
                                    go_simp
                                    with_reducible rfl
                                  rotate_left
                                  · simp only [Act.put, List.setIfInBounds_toArray, List.set_cons_zero, List.set_cons_succ, i64_w, i32_w]
                                    rfl
                                  refine last_ (i := 10) (N := none) #[true, true, true, true, true, true, true, true, true, true, true] rfl rfl (one_of HT_.out (by kernel_rfl)) (by decide) (fun K hK => ?_)
                                  refine skip_ (w1 := ?_) (by rfl) rfl ?_ ?_
                                  rotate_left
                                  · go_simp
                                    rfl
                                  refine hK.out _ _ ?_
                                  clear hK K
                                  refine done_ (done_of HT_.out (by kernel_rfl)) ?_
                                  try go_wp2
                                  have n0_ : Aside0 (Kd.R k24 24 (w32.setCell ⟨go22, (x9_2 : Int).toNat * 6 + 2, none⟩ (.int .i64 (Go.bits .or .i64 ((rd_T24 y300 x9_2).f2) (ji21)))) w.heap.size (fun _ => True) (.slice (some ⟨go22, 0, none⟩) y300.length co33) y304) := ⟨by (with_reducible repeat (first | apply Kd.R_alloc | apply Kd.R_drewN | apply Kd.R_drew)); exact HQ34.out⟩
                                  have n1_ : Aside0 ((w32.setCell ⟨go22, (x9_2 : Int).toNat * 6 + 2, none⟩ (.int .i64 (Go.bits .or .i64 ((rd_T24 y300 x9_2).f2) (ji21)))).heap[gb290]? = some (.cells #[.int .i64 a1_0, .string a1_1] 49 (0, 0))) := ⟨by (with_reducible repeat (first | refine blk_drewN ?_ _ | refine blk_drew ?_ | refine blk_alloc ?_ _)); refine blk_far ?_ (by have h_ := Kd.R_ne HO302.out BK290.out (by decide); intro e_; exact h_ (by rw [e_]; rfl)) _; (with_reducible repeat (first | refine blk_drewN ?_ _ | refine blk_drew ?_ | refine blk_alloc ?_ _)); exact BK290.out⟩
                                  have n2_ : Aside0 (Below w.heap.size w (w32.setCell ⟨go22, (x9_2 : Int).toNat * 6 + 2, none⟩ (.int .i64 (Go.bits .or .i64 ((rd_T24 y300 x9_2).f2) (ji21))))) := ⟨by repeat (first | (with_reducible first | exact HB.out | apply below_alloc | apply pw_below_drewN | apply below_drew1 | refine below_set ?_ GB22.out | refine below_set ?_ GE290.out) | exact HB.out)⟩
                                  (try clear HO302)
                                  (try clear BK290)
                                  (try clear HB)
                                  generalize (w32.setCell ⟨go22, (x9_2 : Int).toNat * 6 + 2, none⟩ (.int .i64 (Go.bits .or .i64 ((rd_T24 y300 x9_2).f2) (ji21)))) = w35 at n0_ n1_ n2_ ⊢
                                  have HO302 := n0_
                                  have BK290 := n1_
                                  have HB := n2_
                                  clear n0_ n1_ n2_
                                  have n0_ := Aside0.mk (Kd.R_drew HO302.out)
                                  have n1_ := Aside0.mk (blk_drew BK290.out)
                                  have n2_ := Aside0.mk (below_drew1 HB.out)
                                  clear HO302
                                  clear BK290
                                  clear HB
                                  have HO302 := n0_
                                  have BK290 := n1_
                                  have HB := n2_
                                  clear n0_ n1_ n2_
                                  have p305 : 0 ≤ (x9_2 : Int) := of_decide_eq_true (by first | (with_reducible assumption) | assumption)
                                  have q305 : x9_2 < (y304.length : Int) := (by have h_ : (x9_2 : Int) < ((y300.length : Int) : Int) := of_decide_eq_true (by first | (with_reducible assumption) | assumption); first | (have e_ := (Kd.R_reads' HO302.out).1; omega) | simpa only [Ny304.out, List.length_set] using h_)
                                  have ql305 : ((x9_2 : Int) < ((y300.length : Int) : Int)) = True := eq_true (of_decide_eq_true (by first | (with_reducible assumption) | assumption))
                                  obtain ⟨ad305, e305, hx305_0, hx305_1, hx305_2, hx305_3, hx305_4, hx305_5⟩ := at_T24 (Kd.R_reads' HO302.out).2.2 x9_2 p305 q305
                                  obtain rfl : (⟨go22, 0, none⟩ : Addr) = ad305 := (by injection e305)
                                  (first | simp only [add_plain] at hx305_0 | simp only [add_at] at hx305_0 | simp only [Addr.add, Nat.zero_add] at hx305_0 | skip)
                                  (first | simp only [add_plain] at hx305_1 | simp only [add_at] at hx305_1 | simp only [Addr.add, Nat.zero_add] at hx305_1 | skip)
                                  (first | simp only [add_plain] at hx305_2 | simp only [add_at] at hx305_2 | simp only [Addr.add, Nat.zero_add] at hx305_2 | skip)
                                  (first | simp only [add_plain] at hx305_3 | simp only [add_at] at hx305_3 | simp only [Addr.add, Nat.zero_add] at hx305_3 | skip)
                                  (first | simp only [add_plain] at hx305_4 | simp only [add_at] at hx305_4 | simp only [Addr.add, Nat.zero_add] at hx305_4 | skip)
                                  (first | simp only [add_plain] at hx305_5 | simp only [add_at] at hx305_5 | simp only [Addr.add, Nat.zero_add] at hx305_5 | skip)
                                  replace p305 := eq_true p305
                                  replace q305 := eq_true q305
                                  have p25 : 0 ≤ (x9_2 : Int) := of_decide_eq_true (by first | (with_reducible assumption) | assumption)
                                  have q25 : (x9_2 : Int) < ((y300.length : Int) : Int) := of_decide_eq_true (by first | (with_reducible assumption) | assumption)
                                  obtain ⟨ce25, hcl25, hM25, hcc25, hfr25⟩ := Kd.R_elem HO302.out z24 (x9_2 : Int) p25 q25
                                  obtain rfl := k24_openM hM25
                                  have hx25_0 : World.cell? _ ⟨go22, (x9_2 : Int).toNat * 6, none⟩ = some (.int .i64 ((rd_T24 y304 x9_2).f0)) := hcc25 0 _ rfl
                                  have hx25_1 : World.cell? _ ⟨go22, (x9_2 : Int).toNat * 6 + 1, none⟩ = some (.int .i64 ((rd_T24 y304 x9_2).f1)) := hcc25 1 _ rfl
                                  have hx25_2 : World.cell? _ ⟨go22, (x9_2 : Int).toNat * 6 + 2, none⟩ = some (.int .i64 ((rd_T24 y304 x9_2).f2)) := hcc25 2 _ rfl
                                  have hx25_3 : World.cell? _ ⟨go22, (x9_2 : Int).toNat * 6 + 3, none⟩ = some (.int .i64 ((rd_T24 y304 x9_2).f3)) := hcc25 3 _ rfl
                                  have hx25_4 : World.cell? _ ⟨go22, (x9_2 : Int).toNat * 6 + 4, none⟩ = some (.int .i64 ((rd_T24 y304 x9_2).f4)) := hcc25 4 _ rfl
                                  have hx25_5 : World.cell? _ ⟨go22, (x9_2 : Int).toNat * 6 + 5, none⟩ = some (.bool ((rd_T24 y304 x9_2).f5)) := hcc25 5 _ rfl
                                  have hf25_0 : World.frozen? _ ⟨go22, (x9_2 : Int).toNat * 6, none⟩ = false := hfr25 0
                                  have hf25_1 : World.frozen? _ ⟨go22, (x9_2 : Int).toNat * 6 + 1, none⟩ = false := hfr25 1
                                  have hf25_2 : World.frozen? _ ⟨go22, (x9_2 : Int).toNat * 6 + 2, none⟩ = false := hfr25 2
                                  have hf25_3 : World.frozen? _ ⟨go22, (x9_2 : Int).toNat * 6 + 3, none⟩ = false := hfr25 3
                                  have hf25_4 : World.frozen? _ ⟨go22, (x9_2 : Int).toNat * 6 + 4, none⟩ = false := hfr25 4
                                  have hf25_5 : World.frozen? _ ⟨go22, (x9_2 : Int).toNat * 6 + 5, none⟩ = false := hfr25 5
                                  clear hcl25 hcc25 hfr25 hM25
                                  replace p25 := eq_true p25
                                  replace q25 := eq_true q25
                                  obtain ⟨ce37, hcl37, hM37, hcc37, hfr37⟩ := Kd.R_elem HO302.out z24 (x9_2 : Int) (of_decide_eq_true (by first | (with_reducible assumption) | assumption)) (by have h_ : (x9_2 : Int) < ((y300.length : Int) : Int) := of_decide_eq_true (by first | (with_reducible assumption) | assumption); first | exact h_ | (have e_ := (Kd.R_reads' HO302.out).1; omega) | simpa using h_)
                                  obtain rfl := k24_openM hM37
                                  have HP37 := (Kd.R_seg HO302.out (x9_2 : Int) (of_decide_eq_true (by first | (with_reducible assumption) | assumption)) (by have h_ : (x9_2 : Int) < ((y300.length : Int) : Int) := of_decide_eq_true (by first | (with_reducible assumption) | assumption); first | exact h_ | (have e_ := (Kd.R_reads' HO302.out).1; omega) | simpa using h_) (seg := [.int .i64 (Go.bits .or .i64 ((rd_T24 y304 x9_2).f4) (ji24))]) (j := 4) hcl37 hcc37 (show 5 ≤ 6 from by decide) (x' := (⟨(rd_T24 y304 x9_2).f0, (rd_T24 y304 x9_2).f1, (rd_T24 y304 x9_2).f2, (rd_T24 y304 x9_2).f3, Go.bits .or .i64 ((rd_T24 y304 x9_2).f4) (ji24), (rd_T24 y304 x9_2).f5⟩ : S24)) (k24_mkM _ _ _ (⟨(rd_T24 y304 x9_2).f0, (rd_T24 y304 x9_2).f1, (rd_T24 y304 x9_2).f2, (rd_T24 y304 x9_2).f3, Go.bits .or .i64 ((rd_T24 y304 x9_2).f4) (ji24), (rd_T24 y304 x9_2).f5⟩ : S24) ) (fun _ hk => hk)).1
                                  rw [← Ny306.out] at HP37
                                  have HQ37 := Aside0.mk HP37
                                  clear hcl37 hcc37 hfr37 hM37 HP37
                                  refine start_ (n := 11) (S := fun w' => w'.cell? ⟨go22, (x9_2).toNat * 6, none⟩ = some (.int .i64 ((rd_T24 y304 x9_2).f0)) ∧ w'.cell? ⟨go22, (x9_2).toNat * 6 + 1, none⟩ = some (.int .i64 ((rd_T24 y304 x9_2).f1)) ∧ w'.cell? ⟨go22, (x9_2).toNat * 6 + 2, none⟩ = some (.int .i64 ((rd_T24 y304 x9_2).f2)) ∧ w'.cell? ⟨go22, (x9_2).toNat * 6 + 3, none⟩ = some (.int .i64 ((rd_T24 y304 x9_2).f3)) ∧ w'.cell? ⟨go22, (x9_2).toNat * 6 + 4, none⟩ = some (.int .i64 ((rd_T24 y304 x9_2).f4)) ∧ w'.cell? ⟨go22, (x9_2).toNat * 6 + 5, none⟩ = some (.bool ((rd_T24 y304 x9_2).f5))) (ds := [10]) #[false, false, false, false, false, false, false, false, false, false, false] (by kernel_rfl) rfl rfl ⟨hx305_0, hx305_1, hx305_2, hx305_3, hx305_4, hx305_5⟩ (fun hHeld => ?_); refine with_tabW tithinglaw21_RightsMore.tab14 tithinglaw21_RightsMore.bits14 (fun HT_ HW_ => ?_)
                                  generalize w35.drew = w36 at HO302 BK290 HB HQ34 HQ37 hf25_0 hf25_1 hf25_2 hf25_3 hf25_4 hf25_5 hx25_0 hx25_1 hx25_2 hx25_3 hx25_4 hx25_5 hx305_0 hx305_1 hx305_2 hx305_3 hx305_4 hx305_5 hHeld ⊢
                                  refine pure_ (i := 0) (N := some 59) (v := ?_) (a' := ?_) #[true, false, false, false, false, false, false, false, false, false, false] rfl rfl (any_of HT_.out (by kernel_rfl)) (fun _ _ _ h => h) (Or.inl ⟨by rfl, ?_⟩) ?_ ?_
                                  rotate_left
                                  · intro w'
                                    go_simp
                                    with_reducible rfl
                                  rotate_left
                                  · simp only [Act.put, List.setIfInBounds_toArray, List.set_cons_zero, List.set_cons_succ, i64_w, i32_w]
                                    rfl
                                  refine pure_ (i := 1) (N := some 60) (v := ?_) (a' := ?_) #[true, true, false, false, false, false, false, false, false, false, false] rfl rfl (any_of HT_.out (by kernel_rfl)) (fun _ _ _ h => h) (Or.inl ⟨by rfl, ?_⟩) ?_ ?_
                                  rotate_left
                                  · intro w'
                                    go_simp
                                    with_reducible rfl
                                  rotate_left
                                  · simp only [Act.put, List.setIfInBounds_toArray, List.set_cons_zero, List.set_cons_succ, i64_w, i32_w]
                                    rfl
                                  refine pure_ (i := 2) (N := some 61) (v := ?_) (a' := ?_) #[true, true, true, false, false, false, false, false, false, false, false] rfl rfl (any_of HT_.out (by kernel_rfl)) (fun _ _ _ h => h) (Or.inl ⟨by rfl, ?_⟩) ?_ ?_
                                  rotate_left
                                  · intro w'
                                    go_simp
                                    with_reducible rfl
                                  rotate_left
                                  · simp only [Act.put, List.setIfInBounds_toArray, List.set_cons_zero, List.set_cons_succ, i64_w, i32_w]
                                    rfl
                                  refine pure_ (i := 3) (N := some 62) (v := ?_) (a' := ?_) #[true, true, true, true, false, false, false, false, false, false, false] rfl rfl (any_of HT_.out (by kernel_rfl)) (fun _ _ _ h => h) (Or.inl ⟨by rfl, ?_⟩) ?_ ?_
                                  rotate_left
                                  · intro w'
                                    go_simp
                                    with_reducible rfl
                                  rotate_left
                                  · simp only [Act.put, List.setIfInBounds_toArray, List.set_cons_zero, List.set_cons_succ, i64_w, i32_w]
                                    rfl
                                  refine pure_ (i := 5) (N := some 64) (v := ?_) (a' := ?_) #[true, true, true, true, false, true, false, false, false, false, false] rfl rfl (any_of HT_.out (by kernel_rfl)) (fun _ _ _ h => h) (Or.inl ⟨by rfl, ?_⟩) ?_ ?_
                                  rotate_left
                                  · intro w'
                                    go_simp
                                    with_reducible rfl
                                  rotate_left
                                  · simp only [Act.put, List.setIfInBounds_toArray, List.set_cons_zero, List.set_cons_succ, i64_w, i32_w]
                                    rfl
                                  refine pure_ (i := 6) (N := some 65) (v := ?_) (a' := ?_) #[true, true, true, true, false, true, true, false, false, false, false] rfl rfl (any_of HT_.out (by kernel_rfl)) (fun _ _ _ h => h) (Or.inl ⟨by rfl, ?_⟩) ?_ ?_
                                  rotate_left
                                  · intro w'
                                    go_simp
                                    with_reducible rfl
                                  rotate_left
                                  · simp only [Act.put, List.setIfInBounds_toArray, List.set_cons_zero, List.set_cons_succ, i64_w, i32_w]
                                    rfl
                                  refine take_ (i := 4) (N := some 63) (v := ?_) (a' := ?_) #[true, true, true, true, true, true, true, false, false, false, false] rfl rfl (take_ofW HT_.out HW_.out (by kernel_rfl)) (fun _ _ _ h => h) (Or.inl ⟨by rfl, ?_⟩) hHeld ?_ ?_
                                  rotate_left
                                  · rintro w' ⟨s0, s1, s2, s3, s4, s5⟩
                                    go_simp
                                    with_reducible rfl
                                  rotate_left
                                  · simp only [Act.put, List.setIfInBounds_toArray, List.set_cons_zero, List.set_cons_succ, i64_w, i32_w]
                                    rfl
                                  refine pure_ (i := 7) (N := some 66) (v := ?_) (a' := ?_) #[true, true, true, true, true, true, true, true, false, false, false] rfl rfl (any_of HT_.out (by kernel_rfl)) (fun _ _ _ h => h) (Or.inl ⟨by rfl, ?_⟩) ?_ ?_
                                  rotate_left
                                  · intro w'
                                    go_simp
                                    with_reducible rfl
                                  rotate_left
                                  · simp only [Act.put, List.setIfInBounds_toArray, List.set_cons_zero, List.set_cons_succ, i64_w, i32_w]
                                    rfl
                                  refine pure_ (i := 8) (N := some 67) (v := ?_) (a' := ?_) #[true, true, true, true, true, true, true, true, true, false, false] rfl rfl (any_of HT_.out (by kernel_rfl)) (fun _ _ _ h => h) (Or.inl ⟨by rfl, ?_⟩) ?_ ?_
                                  rotate_left
                                  · intro w'
                                    go_simp
                                    with_reducible rfl
                                  rotate_left
                                  · simp only [Act.put, List.setIfInBounds_toArray, List.set_cons_zero, List.set_cons_succ, i64_w, i32_w]
                                    rfl
                                  refine pure_ (i := 9) (N := some 68) (v := ?_) (a' := ?_) #[true, true, true, true, true, true, true, true, true, true, false] rfl rfl (any_of HT_.out (by kernel_rfl)) (fun _ _ _ h => h) (Or.inl ⟨by rfl, ?_⟩) ?_ ?_
                                  rotate_left
                                  · intro w'
                                    go_simp
                                    with_reducible rfl
                                  rotate_left
                                  · simp only [Act.put, List.setIfInBounds_toArray, List.set_cons_zero, List.set_cons_succ, i64_w, i32_w]
                                    rfl
                                  refine last_ (i := 10) (N := none) #[true, true, true, true, true, true, true, true, true, true, true] rfl rfl (one_of HT_.out (by kernel_rfl)) (by decide) (fun K hK => ?_)
                                  refine skip_ (w1 := ?_) (by rfl) rfl ?_ ?_
                                  rotate_left
                                  · go_simp
                                    rfl
                                  refine hK.out _ _ ?_
                                  clear hK K
                                  refine done_ (done_of HT_.out (by kernel_rfl)) ?_
                                  have hcz38_0 : w36.cell? ⟨gb290, 0, none⟩ = some (.int .i64 a1_0) := (blk_cell BK290.out 0).trans rfl
                                  have hcz38_1 : w36.cell? ⟨gb290, 1, none⟩ = some (.string a1_1) := (blk_cell BK290.out 1).trans rfl
                                  have hfz38_0 := blk_frozen BK290.out 0
                                  have hfz38_1 := blk_frozen BK290.out 1
                                  try go_wp2_with (first | ((with_reducible refine gate_callee (f := 29) rfl ?_); refine goesL_ (some 76) rfl rfl Try.func29 (by kernel_rfl) rfl #[.slice A0 l0.length c0, .int .i64 a1_0, .string a1_1, .slice (some ⟨go22, 0, none⟩) y306.length co33] rfl (by (try simp only [List.map_toArray, List.map_cons, List.map_nil]); first | done | (rw [show y306.length = y300.length from (Kd.R_reads' HQ37.out).1.symm] <;> rfl) | rfl | (simp only [List.length_drop, List.length_take]; rfl)) ?_; (with_reducible refine (rights_May.calls k3 _ _ l0 a1_0 a1_1 _ _ y306 true t308 _ ?side1 ?side2 ?side3 ?side4 A26.out).mono ?_); (case side1 => exact Kd.C_below HR0.out (by repeat (first | (with_reducible first | exact HB.out | apply below_alloc | apply pw_below_drewN | apply below_drew1 | refine below_set ?_ GB22.out | refine below_set ?_ GE290.out) | exact HB.out))); (case side2 => exact HC0.out); (case side3 => refine (Kd.R_reads' (e := 24) (base := w.heap.size) (ok := fun k_ => True) (n := y300.length) (c := co33) ?_).2.2; exact (by (with_reducible repeat (first | apply Kd.R_alloc | apply Kd.R_drewN | apply Kd.R_drew)); exact HQ37.out)); (case side4 => rw [show y306.length = y300.length from (Kd.R_reads' HQ37.out).1.symm]; exact (Kd.R_reads' HO302.out).2.1); rintro e w39 ⟨rfl, hb⟩; refine ⟨_, rfl, ?_⟩; have n0_ := Aside0.mk (Kd.R_below (by (with_reducible repeat (first | apply Kd.R_alloc | apply Kd.R_drewN | apply Kd.R_drew)); exact HQ37.out) hb); have n1_ := Aside0.mk (blk_below (g := gb290) (o := .cells #[.int .i64 a1_0, .string a1_1] 49 (0, 0)) (by (with_reducible repeat (first | refine blk_drewN ?_ _ | refine blk_drew ?_ | refine blk_alloc ?_ _)); refine blk_far ?_ (by have h_ := Kd.R_ne HO302.out BK290.out (by decide); intro e_; exact h_ (by rw [e_]; rfl)) _; (with_reducible repeat (first | refine blk_drewN ?_ _ | refine blk_drew ?_ | refine blk_alloc ?_ _)); exact BK290.out) hb); have n2_ := Aside0.mk (below_step (by repeat (first | (with_reducible first | exact HB.out | apply below_alloc | apply pw_below_drewN | apply below_drew1 | refine below_set ?_ GB22.out | refine below_set ?_ GE290.out) | exact HB.out)) hb); clear HO302; clear BK290; clear HB; have HO302 := n0_; have BK290 := n1_; have HB := n2_; clear n0_ n1_ n2_; (try clear hb); (try clear hb2); (try clear hk); (try clear hi)))
                                  go_roundg k3
                                  case measure => have := HJ6.out; have := HK2.out; have := HK3.out; omega
                                  case rel => exact ⟨(wrap64 (x10_3 + 1)), (by first | rfl | (simp; done) | (simp [*]; done)), H', ⟨by have := HJ6.out; have := HK2.out; have := HK3.out; omega⟩, ⟨by (with_reducible repeat (first | refine blk_drewN ?_ _ | refine blk_drew ?_ | refine blk_alloc ?_ _)); exact BK290.out⟩, ⟨by repeat (first | (with_reducible first | exact HB.out | apply below_alloc | apply pw_below_drewN | apply below_drew1 | refine below_set ?_ GE290.out) | exact HB.out)⟩⟩
                                · replace c28 := Bool.eq_false_iff.mpr c28
                                  subst c28
                                  have H1 : (some false) = some r := by rw [if_neg (show ¬ (false = true) by decide)] at H; exact H
                                  clear H
                                  have H := H1
                                  clear H1
                                  obtain rfl := Option.some.inj H
                                  try go_wp2_with (first | ((with_reducible refine gate_dst (N := 46) rfl ?_); refine Kd.R_lit k24 _ 24 ?hg (N := 46) ?hd (xs := ([] : List (S24))) (inner := []) (ok := fun _ => True) (okp := fun _ => True) ?hr ?hp (fun _ hk => hk) trivial (Below.refl _ _) (Nat.le_refl _) (by simp) ?_; (case hd => rfl); (case hg => rfl); (case hr => first | (go_simp; done) | (go_simp; rfl)); (case hp => exact (Reps.none _ _)); intro v298 w40 ho41 hb hg_ hnew_; clear hg_ hnew_; (first | rw [← Ny297.out] at ho41 | (simp only [Int.reduceToNat] at ho41; rw [← Ny297.out] at ho41)); have n0_ := Aside0.mk (Kd.R_lower ho41 (below_size (by repeat (first | (with_reducible first | exact HB.out | apply below_alloc | apply pw_below_drewN | apply below_drew1 | refine below_set ?_ GE290.out) | exact HB.out)))); have n1_ := Aside0.mk (blk_below (g := gb290) (o := .cells #[.int .i64 a1_0, .string a1_1] 49 (0, 0)) (by (with_reducible repeat (first | refine blk_drewN ?_ _ | refine blk_drew ?_ | refine blk_alloc ?_ _)); exact BK290.out) hb); have n2_ := Aside0.mk (below_step (by repeat (first | (with_reducible first | exact HB.out | apply below_alloc | apply pw_below_drewN | apply below_drew1 | refine below_set ?_ GE290.out) | exact HB.out)) hb); clear BK290; clear HB; have HO299 := n0_; have BK290 := n1_; have HB := n2_; clear n0_ n1_ n2_; clear hb ho41) | ((with_reducible refine gate_builtin (b := .append) (xs := #[.tmp 46, .tmp 47]) rfl ?_); at_builtin; refine Kd.R_append_rows k24 (w0 := w) w.heap.size rfl (.tmp 46) (.tmp 47) 44 24 (.agg #[(.int .i64 0), (.int .i64 0), (.int .i64 0), (.int .i64 0), (.int .i64 0), (.bool false)]) 48 rfl Try.underlying44 info24 rfl (by decide) (by omega) v298 y297 l2 _ _ _ (fun _ => True) (fun _ => False) rfl rfl ?aO ?aR (fun _ _ h => h) (fun _ h => h.elim) ?aF ?aB ?aS ?aL ?_; (case aR => repeat (first | exact (Kd.C_below HR2.out HB.out) | (with_reducible refine Kd.C_alloc ?_ _) | (with_reducible refine Kd.C_drewN ?_ _) | (with_reducible refine Kd.C_drew ?_))); (case aB => exact (by repeat (first | (with_reducible first | exact HB.out | apply below_alloc | apply pw_below_drewN | apply below_drew1 | refine below_set ?_ GE290.out) | exact HB.out))); (case aF => exact (fun _ _ => trivial)); (case aO => exact (by (with_reducible repeat (first | apply Kd.R_alloc | apply Kd.R_drewN | apply Kd.R_drew)); exact HO299.out)); (case aS => exact (below_size (by repeat (first | (with_reducible first | exact HB.out | apply below_alloc | apply pw_below_drewN | apply below_drew1 | refine below_set ?_ GE290.out) | exact HB.out)))); (case aL => have := LMc17.out; omega); intro v301 w42 ho hb hg hat; rw [← Ny300.out] at ho; have n0_ := Aside0.mk (blk_grown (g := gb290) (o := .cells #[.int .i64 a1_0, .string a1_1] 49 (0, 0)) (by (with_reducible repeat (first | refine blk_drewN ?_ _ | refine blk_drew ?_ | refine blk_alloc ?_ _)); exact BK290.out) hg (Kd.R_ne HO299.out BK290.out (by decide))); have n1_ := Aside0.mk (hb); have n2_ := Aside0.mk (ho); clear BK290; clear HB; clear HO299; have BK290 := n0_; have HB := n1_; have HO302 := n2_; clear n0_ n1_ n2_; clear ho hb hg hat))
                                  have n0_ := Aside0.mk (Kd.R_drew HO302.out)
                                  have n1_ := Aside0.mk (blk_drew BK290.out)
                                  have n2_ := Aside0.mk (below_drew1 HB.out)
                                  clear HO302
                                  clear BK290
                                  clear HB
                                  have HO302 := n0_
                                  have BK290 := n1_
                                  have HB := n2_
                                  clear n0_ n1_ n2_
                                  obtain ⟨Ao44, co44, eo44⟩ := Kd.R_slice HO302.out
                                  (first | subst eo44 | (injection eo44 with f1_ f2_ f3_; have f4_ := f1_.symm; have f5_ := f3_.symm; clear f1_ f2_ f3_; subst f4_; subst f5_))
                                  have p303 : 0 ≤ (x9_2 : Int) := of_decide_eq_true (by first | (with_reducible assumption) | assumption)
                                  have q303 : x9_2 < (y300.length : Int) := of_decide_eq_true (by first | (with_reducible assumption) | assumption)
                                  obtain ⟨ad303, e303, hx303_0, hx303_1, hx303_2, hx303_3, hx303_4, hx303_5⟩ := at_T24 (Kd.R_reads' HO302.out).2.2 x9_2 p303 q303
                                  cases e303
                                  replace p303 := eq_true p303
                                  replace q303 := eq_true q303
                                  have p22 : 0 ≤ (x9_2 : Int) := of_decide_eq_true (by first | (with_reducible assumption) | assumption)
                                  have q22 : (x9_2 : Int) < ((y300.length : Int) : Int) := of_decide_eq_true (by first | (with_reducible assumption) | assumption)
                                  obtain ⟨go22, co22, eo22, gb22, gl22, cl22, HG22⟩ := Kd.R_form HO302.out (by omega)
                                  (first | cases eo22 | (injection eo22 with ea_ en_ ec_; (first | subst ea_ | (injection ea_ with ea_; subst ea_)); subst ec_; clear en_))
                                  have GB22 := Aside0.mk gb22
                                  have GG22 := Aside0.mk HG22
                                  clear gb22 gl22 HG22
                                  (first | simp only [add_plain] at hx303_0 | skip)
                                  (first | simp only [add_plain] at hx303_1 | skip)
                                  (first | simp only [add_plain] at hx303_2 | skip)
                                  (first | simp only [add_plain] at hx303_3 | skip)
                                  (first | simp only [add_plain] at hx303_4 | skip)
                                  (first | simp only [add_plain] at hx303_5 | skip)
                                  obtain ⟨ce22, hcl22, hM22, hcc22, hfr22⟩ := Kd.R_elem HO302.out z24 (x9_2 : Int) p22 q22
                                  obtain rfl := k24_openM hM22
                                  have hx22_0 : World.cell? _ ⟨go22, (x9_2 : Int).toNat * 6, none⟩ = some (.int .i64 ((rd_T24 y300 x9_2).f0)) := hcc22 0 _ rfl
                                  have hx22_1 : World.cell? _ ⟨go22, (x9_2 : Int).toNat * 6 + 1, none⟩ = some (.int .i64 ((rd_T24 y300 x9_2).f1)) := hcc22 1 _ rfl
                                  have hx22_2 : World.cell? _ ⟨go22, (x9_2 : Int).toNat * 6 + 2, none⟩ = some (.int .i64 ((rd_T24 y300 x9_2).f2)) := hcc22 2 _ rfl
                                  have hx22_3 : World.cell? _ ⟨go22, (x9_2 : Int).toNat * 6 + 3, none⟩ = some (.int .i64 ((rd_T24 y300 x9_2).f3)) := hcc22 3 _ rfl
                                  have hx22_4 : World.cell? _ ⟨go22, (x9_2 : Int).toNat * 6 + 4, none⟩ = some (.int .i64 ((rd_T24 y300 x9_2).f4)) := hcc22 4 _ rfl
                                  have hx22_5 : World.cell? _ ⟨go22, (x9_2 : Int).toNat * 6 + 5, none⟩ = some (.bool ((rd_T24 y300 x9_2).f5)) := hcc22 5 _ rfl
                                  have hf22_0 : World.frozen? _ ⟨go22, (x9_2 : Int).toNat * 6, none⟩ = false := hfr22 0
                                  have hf22_1 : World.frozen? _ ⟨go22, (x9_2 : Int).toNat * 6 + 1, none⟩ = false := hfr22 1
                                  have hf22_2 : World.frozen? _ ⟨go22, (x9_2 : Int).toNat * 6 + 2, none⟩ = false := hfr22 2
                                  have hf22_3 : World.frozen? _ ⟨go22, (x9_2 : Int).toNat * 6 + 3, none⟩ = false := hfr22 3
                                  have hf22_4 : World.frozen? _ ⟨go22, (x9_2 : Int).toNat * 6 + 4, none⟩ = false := hfr22 4
                                  have hf22_5 : World.frozen? _ ⟨go22, (x9_2 : Int).toNat * 6 + 5, none⟩ = false := hfr22 5
                                  clear hcl22 hcc22 hfr22 hM22
                                  replace p22 := eq_true p22
                                  replace q22 := eq_true q22
                                  obtain ⟨ce45, hcl45, hM45, hcc45, hfr45⟩ := Kd.R_elem HO302.out z24 (x9_2 : Int) (of_decide_eq_true (by first | (with_reducible assumption) | assumption)) (by have h_ : (x9_2 : Int) < ((y300.length : Int) : Int) := of_decide_eq_true (by first | (with_reducible assumption) | assumption); first | exact h_ | (have e_ := (Kd.R_reads' HO302.out).1; omega) | simpa using h_)
                                  obtain rfl := k24_openM hM45
                                  have HP45 := (Kd.R_seg HO302.out (x9_2 : Int) (of_decide_eq_true (by first | (with_reducible assumption) | assumption)) (by have h_ : (x9_2 : Int) < ((y300.length : Int) : Int) := of_decide_eq_true (by first | (with_reducible assumption) | assumption); first | exact h_ | (have e_ := (Kd.R_reads' HO302.out).1; omega) | simpa using h_) (seg := [.int .i64 (Go.bits .or .i64 ((rd_T24 y300 x9_2).f2) (ji21))]) (j := 2) hcl45 hcc45 (show 3 ≤ 6 from by decide) (x' := (⟨(rd_T24 y300 x9_2).f0, (rd_T24 y300 x9_2).f1, Go.bits .or .i64 ((rd_T24 y300 x9_2).f2) (ji21), (rd_T24 y300 x9_2).f3, (rd_T24 y300 x9_2).f4, (rd_T24 y300 x9_2).f5⟩ : S24)) (k24_mkM _ _ _ (⟨(rd_T24 y300 x9_2).f0, (rd_T24 y300 x9_2).f1, Go.bits .or .i64 ((rd_T24 y300 x9_2).f2) (ji21), (rd_T24 y300 x9_2).f3, (rd_T24 y300 x9_2).f4, (rd_T24 y300 x9_2).f5⟩ : S24) ) (fun _ hk => hk)).1
                                  rw [← Ny304.out] at HP45
                                  have HQ45 := Aside0.mk HP45
                                  clear hcl45 hcc45 hfr45 hM45 HP45
                                  refine start_ (n := 11) (S := fun w' => w'.cell? ⟨go22, ((x9_2).toNat * 6), none⟩ = some (.int .i64 ((rd_T24 y300 x9_2).f0)) ∧ w'.cell? ⟨go22, ((x9_2).toNat * 6) + 1, none⟩ = some (.int .i64 ((rd_T24 y300 x9_2).f1)) ∧ w'.cell? ⟨go22, ((x9_2).toNat * 6) + 2, none⟩ = some (.int .i64 ((rd_T24 y300 x9_2).f2)) ∧ w'.cell? ⟨go22, ((x9_2).toNat * 6) + 3, none⟩ = some (.int .i64 ((rd_T24 y300 x9_2).f3)) ∧ w'.cell? ⟨go22, ((x9_2).toNat * 6) + 4, none⟩ = some (.int .i64 ((rd_T24 y300 x9_2).f4)) ∧ w'.cell? ⟨go22, ((x9_2).toNat * 6) + 5, none⟩ = some (.bool ((rd_T24 y300 x9_2).f5))) (ds := [10]) #[false, false, false, false, false, false, false, false, false, false, false] (by kernel_rfl) rfl rfl ⟨hx303_0, hx303_1, hx303_2, hx303_3, hx303_4, hx303_5⟩ (fun hHeld => ?_); refine with_tabW tithinglaw21_RightsMore.tab13 tithinglaw21_RightsMore.bits13 (fun HT_ HW_ => ?_)
                                  generalize w42.drew = w43 at HO302 BK290 HB GG22 HQ45 hf22_0 hf22_1 hf22_2 hf22_3 hf22_4 hf22_5 hx22_0 hx22_1 hx22_2 hx22_3 hx22_4 hx22_5 hx303_0 hx303_1 hx303_2 hx303_3 hx303_4 hx303_5 hHeld ⊢
                                  refine pure_ (i := 0) (N := some 49) (v := ?_) (a' := ?_) #[true, false, false, false, false, false, false, false, false, false, false] rfl rfl (any_of HT_.out (by kernel_rfl)) (fun _ _ _ h => h) (Or.inl ⟨by rfl, ?_⟩) ?_ ?_
                                  rotate_left
                                  · intro w'
                                    go_simp
                                    with_reducible rfl
                                  rotate_left
                                  · simp only [Act.put, List.setIfInBounds_toArray, List.set_cons_zero, List.set_cons_succ, i64_w, i32_w]
                                    rfl
                                  refine pure_ (i := 1) (N := some 50) (v := ?_) (a' := ?_) #[true, true, false, false, false, false, false, false, false, false, false] rfl rfl (any_of HT_.out (by kernel_rfl)) (fun _ _ _ h => h) (Or.inl ⟨by rfl, ?_⟩) ?_ ?_
                                  rotate_left
                                  · intro w'
                                    go_simp
                                    with_reducible rfl
                                  rotate_left
                                  · simp only [Act.put, List.setIfInBounds_toArray, List.set_cons_zero, List.set_cons_succ, i64_w, i32_w]
                                    rfl
                                  refine pure_ (i := 2) (N := some 51) (v := ?_) (a' := ?_) #[true, true, true, false, false, false, false, false, false, false, false] rfl rfl (any_of HT_.out (by kernel_rfl)) (fun _ _ _ h => h) (Or.inl ⟨by rfl, ?_⟩) ?_ ?_
                                  rotate_left
                                  · intro w'
                                    go_simp
                                    with_reducible rfl
                                  rotate_left
                                  · simp only [Act.put, List.setIfInBounds_toArray, List.set_cons_zero, List.set_cons_succ, i64_w, i32_w]
                                    rfl
                                  refine pure_ (i := 3) (N := some 52) (v := ?_) (a' := ?_) #[true, true, true, true, false, false, false, false, false, false, false] rfl rfl (any_of HT_.out (by kernel_rfl)) (fun _ _ _ h => h) (Or.inl ⟨by rfl, ?_⟩) ?_ ?_
                                  rotate_left
                                  · intro w'
                                    go_simp
                                    with_reducible rfl
                                  rotate_left
                                  · simp only [Act.put, List.setIfInBounds_toArray, List.set_cons_zero, List.set_cons_succ, i64_w, i32_w]
                                    rfl
                                  refine pure_ (i := 5) (N := some 54) (v := ?_) (a' := ?_) #[true, true, true, true, false, true, false, false, false, false, false] rfl rfl (any_of HT_.out (by kernel_rfl)) (fun _ _ _ h => h) (Or.inl ⟨by rfl, ?_⟩) ?_ ?_
                                  rotate_left
                                  · intro w'
                                    go_simp
                                    with_reducible rfl
                                  rotate_left
                                  · simp only [Act.put, List.setIfInBounds_toArray, List.set_cons_zero, List.set_cons_succ, i64_w, i32_w]
                                    rfl
                                  refine pure_ (i := 6) (N := some 55) (v := ?_) (a' := ?_) #[true, true, true, true, false, true, true, false, false, false, false] rfl rfl (any_of HT_.out (by kernel_rfl)) (fun _ _ _ h => h) (Or.inl ⟨by rfl, ?_⟩) ?_ ?_
                                  rotate_left
                                  · intro w'
                                    go_simp
                                    with_reducible rfl
                                  rotate_left
                                  · simp only [Act.put, List.setIfInBounds_toArray, List.set_cons_zero, List.set_cons_succ, i64_w, i32_w]
                                    rfl
                                  refine take_ (i := 4) (N := some 53) (v := ?_) (a' := ?_) #[true, true, true, true, true, true, true, false, false, false, false] rfl rfl (take_ofW HT_.out HW_.out (by kernel_rfl)) (fun _ _ _ h => h) (Or.inl ⟨by rfl, ?_⟩) hHeld ?_ ?_
                                  rotate_left
                                  · rintro w' ⟨s0, s1, s2, s3, s4, s5⟩
                                    go_simp
                                    with_reducible rfl
                                  rotate_left
                                  · simp only [Act.put, List.setIfInBounds_toArray, List.set_cons_zero, List.set_cons_succ, i64_w, i32_w]
                                    rfl
                                  refine pure_ (i := 7) (N := some 56) (v := ?_) (a' := ?_) #[true, true, true, true, true, true, true, true, false, false, false] rfl rfl (any_of HT_.out (by kernel_rfl)) (fun _ _ _ h => h) (Or.inl ⟨by rfl, ?_⟩) ?_ ?_
                                  rotate_left
                                  · intro w'
                                    go_simp
                                    with_reducible rfl
                                  rotate_left
                                  · simp only [Act.put, List.setIfInBounds_toArray, List.set_cons_zero, List.set_cons_succ, i64_w, i32_w]
                                    rfl
                                  refine pure_ (i := 8) (N := some 57) (v := ?_) (a' := ?_) #[true, true, true, true, true, true, true, true, true, false, false] rfl rfl (any_of HT_.out (by kernel_rfl)) (fun _ _ _ h => h) (Or.inl ⟨by rfl, ?_⟩) ?_ ?_
                                  rotate_left
                                  · intro w'
                                    go_simp
                                    with_reducible rfl
                                  rotate_left
                                  · simp only [Act.put, List.setIfInBounds_toArray, List.set_cons_zero, List.set_cons_succ, i64_w, i32_w]
                                    rfl
                                  refine pure_ (i := 9) (N := some 58) (v := ?_) (a' := ?_) #[true, true, true, true, true, true, true, true, true, true, false] rfl rfl (any_of HT_.out (by kernel_rfl)) (fun _ _ _ h => h) (Or.inl ⟨by rfl, ?_⟩) ?_ ?_
                                  rotate_left
                                  · intro w'
                                    go_simp
                                    with_reducible rfl
                                  rotate_left
                                  · simp only [Act.put, List.setIfInBounds_toArray, List.set_cons_zero, List.set_cons_succ, i64_w, i32_w]
                                    rfl
                                  refine last_ (i := 10) (N := none) #[true, true, true, true, true, true, true, true, true, true, true] rfl rfl (one_of HT_.out (by kernel_rfl)) (by decide) (fun K hK => ?_)
                                  refine skip_ (w1 := ?_) (by rfl) rfl ?_ ?_
                                  rotate_left
                                  · go_simp
                                    rfl
                                  refine hK.out _ _ ?_
                                  clear hK K
                                  refine done_ (done_of HT_.out (by kernel_rfl)) ?_
                                  try go_wp2
                                  have n0_ : Aside0 (Kd.R k24 24 (w43.setCell ⟨go22, (x9_2 : Int).toNat * 6 + 2, none⟩ (.int .i64 (Go.bits .or .i64 ((rd_T24 y300 x9_2).f2) (ji21)))) w.heap.size (fun _ => True) (.slice (some ⟨go22, 0, none⟩) y300.length co44) y304) := ⟨by (with_reducible repeat (first | apply Kd.R_alloc | apply Kd.R_drewN | apply Kd.R_drew)); exact HQ45.out⟩
                                  have n1_ : Aside0 ((w43.setCell ⟨go22, (x9_2 : Int).toNat * 6 + 2, none⟩ (.int .i64 (Go.bits .or .i64 ((rd_T24 y300 x9_2).f2) (ji21)))).heap[gb290]? = some (.cells #[.int .i64 a1_0, .string a1_1] 49 (0, 0))) := ⟨by (with_reducible repeat (first | refine blk_drewN ?_ _ | refine blk_drew ?_ | refine blk_alloc ?_ _)); refine blk_far ?_ (by have h_ := Kd.R_ne HO302.out BK290.out (by decide); intro e_; exact h_ (by rw [e_]; rfl)) _; (with_reducible repeat (first | refine blk_drewN ?_ _ | refine blk_drew ?_ | refine blk_alloc ?_ _)); exact BK290.out⟩
                                  have n2_ : Aside0 (Below w.heap.size w (w43.setCell ⟨go22, (x9_2 : Int).toNat * 6 + 2, none⟩ (.int .i64 (Go.bits .or .i64 ((rd_T24 y300 x9_2).f2) (ji21))))) := ⟨by repeat (first | (with_reducible first | exact HB.out | apply below_alloc | apply pw_below_drewN | apply below_drew1 | refine below_set ?_ GB22.out | refine below_set ?_ GE290.out) | exact HB.out)⟩
                                  (try clear HO302)
                                  (try clear BK290)
                                  (try clear HB)
                                  generalize (w43.setCell ⟨go22, (x9_2 : Int).toNat * 6 + 2, none⟩ (.int .i64 (Go.bits .or .i64 ((rd_T24 y300 x9_2).f2) (ji21)))) = w46 at n0_ n1_ n2_ ⊢
                                  have HO302 := n0_
                                  have BK290 := n1_
                                  have HB := n2_
                                  clear n0_ n1_ n2_
                                  have n0_ := Aside0.mk (Kd.R_drew HO302.out)
                                  have n1_ := Aside0.mk (blk_drew BK290.out)
                                  have n2_ := Aside0.mk (below_drew1 HB.out)
                                  clear HO302
                                  clear BK290
                                  clear HB
                                  have HO302 := n0_
                                  have BK290 := n1_
                                  have HB := n2_
                                  clear n0_ n1_ n2_
                                  have p305 : 0 ≤ (x9_2 : Int) := of_decide_eq_true (by first | (with_reducible assumption) | assumption)
                                  have q305 : x9_2 < (y304.length : Int) := (by have h_ : (x9_2 : Int) < ((y300.length : Int) : Int) := of_decide_eq_true (by first | (with_reducible assumption) | assumption); first | (have e_ := (Kd.R_reads' HO302.out).1; omega) | simpa only [Ny304.out, List.length_set] using h_)
                                  have ql305 : ((x9_2 : Int) < ((y300.length : Int) : Int)) = True := eq_true (of_decide_eq_true (by first | (with_reducible assumption) | assumption))
                                  obtain ⟨ad305, e305, hx305_0, hx305_1, hx305_2, hx305_3, hx305_4, hx305_5⟩ := at_T24 (Kd.R_reads' HO302.out).2.2 x9_2 p305 q305
                                  obtain rfl : (⟨go22, 0, none⟩ : Addr) = ad305 := (by injection e305)
                                  (first | simp only [add_plain] at hx305_0 | simp only [add_at] at hx305_0 | simp only [Addr.add, Nat.zero_add] at hx305_0 | skip)
                                  (first | simp only [add_plain] at hx305_1 | simp only [add_at] at hx305_1 | simp only [Addr.add, Nat.zero_add] at hx305_1 | skip)
                                  (first | simp only [add_plain] at hx305_2 | simp only [add_at] at hx305_2 | simp only [Addr.add, Nat.zero_add] at hx305_2 | skip)
                                  (first | simp only [add_plain] at hx305_3 | simp only [add_at] at hx305_3 | simp only [Addr.add, Nat.zero_add] at hx305_3 | skip)
                                  (first | simp only [add_plain] at hx305_4 | simp only [add_at] at hx305_4 | simp only [Addr.add, Nat.zero_add] at hx305_4 | skip)
                                  (first | simp only [add_plain] at hx305_5 | simp only [add_at] at hx305_5 | simp only [Addr.add, Nat.zero_add] at hx305_5 | skip)
                                  replace p305 := eq_true p305
                                  replace q305 := eq_true q305
                                  have p25 : 0 ≤ (x9_2 : Int) := of_decide_eq_true (by first | (with_reducible assumption) | assumption)
                                  have q25 : (x9_2 : Int) < ((y300.length : Int) : Int) := of_decide_eq_true (by first | (with_reducible assumption) | assumption)
                                  obtain ⟨ce25, hcl25, hM25, hcc25, hfr25⟩ := Kd.R_elem HO302.out z24 (x9_2 : Int) p25 q25
                                  obtain rfl := k24_openM hM25
                                  have hx25_0 : World.cell? _ ⟨go22, (x9_2 : Int).toNat * 6, none⟩ = some (.int .i64 ((rd_T24 y304 x9_2).f0)) := hcc25 0 _ rfl
                                  have hx25_1 : World.cell? _ ⟨go22, (x9_2 : Int).toNat * 6 + 1, none⟩ = some (.int .i64 ((rd_T24 y304 x9_2).f1)) := hcc25 1 _ rfl
                                  have hx25_2 : World.cell? _ ⟨go22, (x9_2 : Int).toNat * 6 + 2, none⟩ = some (.int .i64 ((rd_T24 y304 x9_2).f2)) := hcc25 2 _ rfl
                                  have hx25_3 : World.cell? _ ⟨go22, (x9_2 : Int).toNat * 6 + 3, none⟩ = some (.int .i64 ((rd_T24 y304 x9_2).f3)) := hcc25 3 _ rfl
                                  have hx25_4 : World.cell? _ ⟨go22, (x9_2 : Int).toNat * 6 + 4, none⟩ = some (.int .i64 ((rd_T24 y304 x9_2).f4)) := hcc25 4 _ rfl
                                  have hx25_5 : World.cell? _ ⟨go22, (x9_2 : Int).toNat * 6 + 5, none⟩ = some (.bool ((rd_T24 y304 x9_2).f5)) := hcc25 5 _ rfl
                                  have hf25_0 : World.frozen? _ ⟨go22, (x9_2 : Int).toNat * 6, none⟩ = false := hfr25 0
                                  have hf25_1 : World.frozen? _ ⟨go22, (x9_2 : Int).toNat * 6 + 1, none⟩ = false := hfr25 1
                                  have hf25_2 : World.frozen? _ ⟨go22, (x9_2 : Int).toNat * 6 + 2, none⟩ = false := hfr25 2
                                  have hf25_3 : World.frozen? _ ⟨go22, (x9_2 : Int).toNat * 6 + 3, none⟩ = false := hfr25 3
                                  have hf25_4 : World.frozen? _ ⟨go22, (x9_2 : Int).toNat * 6 + 4, none⟩ = false := hfr25 4
                                  have hf25_5 : World.frozen? _ ⟨go22, (x9_2 : Int).toNat * 6 + 5, none⟩ = false := hfr25 5
                                  clear hcl25 hcc25 hfr25 hM25
                                  replace p25 := eq_true p25
                                  replace q25 := eq_true q25
                                  obtain ⟨ce48, hcl48, hM48, hcc48, hfr48⟩ := Kd.R_elem HO302.out z24 (x9_2 : Int) (of_decide_eq_true (by first | (with_reducible assumption) | assumption)) (by have h_ : (x9_2 : Int) < ((y300.length : Int) : Int) := of_decide_eq_true (by first | (with_reducible assumption) | assumption); first | exact h_ | (have e_ := (Kd.R_reads' HO302.out).1; omega) | simpa using h_)
                                  obtain rfl := k24_openM hM48
                                  have HP48 := (Kd.R_seg HO302.out (x9_2 : Int) (of_decide_eq_true (by first | (with_reducible assumption) | assumption)) (by have h_ : (x9_2 : Int) < ((y300.length : Int) : Int) := of_decide_eq_true (by first | (with_reducible assumption) | assumption); first | exact h_ | (have e_ := (Kd.R_reads' HO302.out).1; omega) | simpa using h_) (seg := [.int .i64 (Go.bits .or .i64 ((rd_T24 y304 x9_2).f4) (ji24))]) (j := 4) hcl48 hcc48 (show 5 ≤ 6 from by decide) (x' := (⟨(rd_T24 y304 x9_2).f0, (rd_T24 y304 x9_2).f1, (rd_T24 y304 x9_2).f2, (rd_T24 y304 x9_2).f3, Go.bits .or .i64 ((rd_T24 y304 x9_2).f4) (ji24), (rd_T24 y304 x9_2).f5⟩ : S24)) (k24_mkM _ _ _ (⟨(rd_T24 y304 x9_2).f0, (rd_T24 y304 x9_2).f1, (rd_T24 y304 x9_2).f2, (rd_T24 y304 x9_2).f3, Go.bits .or .i64 ((rd_T24 y304 x9_2).f4) (ji24), (rd_T24 y304 x9_2).f5⟩ : S24) ) (fun _ hk => hk)).1
                                  rw [← Ny306.out] at HP48
                                  have HQ48 := Aside0.mk HP48
                                  clear hcl48 hcc48 hfr48 hM48 HP48
                                  refine start_ (n := 11) (S := fun w' => w'.cell? ⟨go22, (x9_2).toNat * 6, none⟩ = some (.int .i64 ((rd_T24 y304 x9_2).f0)) ∧ w'.cell? ⟨go22, (x9_2).toNat * 6 + 1, none⟩ = some (.int .i64 ((rd_T24 y304 x9_2).f1)) ∧ w'.cell? ⟨go22, (x9_2).toNat * 6 + 2, none⟩ = some (.int .i64 ((rd_T24 y304 x9_2).f2)) ∧ w'.cell? ⟨go22, (x9_2).toNat * 6 + 3, none⟩ = some (.int .i64 ((rd_T24 y304 x9_2).f3)) ∧ w'.cell? ⟨go22, (x9_2).toNat * 6 + 4, none⟩ = some (.int .i64 ((rd_T24 y304 x9_2).f4)) ∧ w'.cell? ⟨go22, (x9_2).toNat * 6 + 5, none⟩ = some (.bool ((rd_T24 y304 x9_2).f5))) (ds := [10]) #[false, false, false, false, false, false, false, false, false, false, false] (by kernel_rfl) rfl rfl ⟨hx305_0, hx305_1, hx305_2, hx305_3, hx305_4, hx305_5⟩ (fun hHeld => ?_); refine with_tabW tithinglaw21_RightsMore.tab14 tithinglaw21_RightsMore.bits14 (fun HT_ HW_ => ?_)
                                  generalize w46.drew = w47 at HO302 BK290 HB HQ45 HQ48 hf25_0 hf25_1 hf25_2 hf25_3 hf25_4 hf25_5 hx25_0 hx25_1 hx25_2 hx25_3 hx25_4 hx25_5 hx305_0 hx305_1 hx305_2 hx305_3 hx305_4 hx305_5 hHeld ⊢
                                  refine pure_ (i := 0) (N := some 59) (v := ?_) (a' := ?_) #[true, false, false, false, false, false, false, false, false, false, false] rfl rfl (any_of HT_.out (by kernel_rfl)) (fun _ _ _ h => h) (Or.inl ⟨by rfl, ?_⟩) ?_ ?_
                                  rotate_left
                                  · intro w'
                                    go_simp
                                    with_reducible rfl
                                  rotate_left
                                  · simp only [Act.put, List.setIfInBounds_toArray, List.set_cons_zero, List.set_cons_succ, i64_w, i32_w]
                                    rfl
                                  refine pure_ (i := 1) (N := some 60) (v := ?_) (a' := ?_) #[true, true, false, false, false, false, false, false, false, false, false] rfl rfl (any_of HT_.out (by kernel_rfl)) (fun _ _ _ h => h) (Or.inl ⟨by rfl, ?_⟩) ?_ ?_
                                  rotate_left
                                  · intro w'
                                    go_simp
                                    with_reducible rfl
                                  rotate_left
                                  · simp only [Act.put, List.setIfInBounds_toArray, List.set_cons_zero, List.set_cons_succ, i64_w, i32_w]
                                    rfl
                                  refine pure_ (i := 2) (N := some 61) (v := ?_) (a' := ?_) #[true, true, true, false, false, false, false, false, false, false, false] rfl rfl (any_of HT_.out (by kernel_rfl)) (fun _ _ _ h => h) (Or.inl ⟨by rfl, ?_⟩) ?_ ?_
                                  rotate_left
                                  · intro w'
                                    go_simp
                                    with_reducible rfl
                                  rotate_left
                                  · simp only [Act.put, List.setIfInBounds_toArray, List.set_cons_zero, List.set_cons_succ, i64_w, i32_w]
                                    rfl
                                  refine pure_ (i := 3) (N := some 62) (v := ?_) (a' := ?_) #[true, true, true, true, false, false, false, false, false, false, false] rfl rfl (any_of HT_.out (by kernel_rfl)) (fun _ _ _ h => h) (Or.inl ⟨by rfl, ?_⟩) ?_ ?_
                                  rotate_left
                                  · intro w'
                                    go_simp
                                    with_reducible rfl
                                  rotate_left
                                  · simp only [Act.put, List.setIfInBounds_toArray, List.set_cons_zero, List.set_cons_succ, i64_w, i32_w]
                                    rfl
                                  refine pure_ (i := 5) (N := some 64) (v := ?_) (a' := ?_) #[true, true, true, true, false, true, false, false, false, false, false] rfl rfl (any_of HT_.out (by kernel_rfl)) (fun _ _ _ h => h) (Or.inl ⟨by rfl, ?_⟩) ?_ ?_
                                  rotate_left
                                  · intro w'
                                    go_simp
                                    with_reducible rfl
                                  rotate_left
                                  · simp only [Act.put, List.setIfInBounds_toArray, List.set_cons_zero, List.set_cons_succ, i64_w, i32_w]
                                    rfl
                                  refine pure_ (i := 6) (N := some 65) (v := ?_) (a' := ?_) #[true, true, true, true, false, true, true, false, false, false, false] rfl rfl (any_of HT_.out (by kernel_rfl)) (fun _ _ _ h => h) (Or.inl ⟨by rfl, ?_⟩) ?_ ?_
                                  rotate_left
                                  · intro w'
                                    go_simp
                                    with_reducible rfl
                                  rotate_left
                                  · simp only [Act.put, List.setIfInBounds_toArray, List.set_cons_zero, List.set_cons_succ, i64_w, i32_w]
                                    rfl
                                  refine take_ (i := 4) (N := some 63) (v := ?_) (a' := ?_) #[true, true, true, true, true, true, true, false, false, false, false] rfl rfl (take_ofW HT_.out HW_.out (by kernel_rfl)) (fun _ _ _ h => h) (Or.inl ⟨by rfl, ?_⟩) hHeld ?_ ?_
                                  rotate_left
                                  · rintro w' ⟨s0, s1, s2, s3, s4, s5⟩
                                    go_simp
                                    with_reducible rfl
                                  rotate_left
                                  · simp only [Act.put, List.setIfInBounds_toArray, List.set_cons_zero, List.set_cons_succ, i64_w, i32_w]
                                    rfl
                                  refine pure_ (i := 7) (N := some 66) (v := ?_) (a' := ?_) #[true, true, true, true, true, true, true, true, false, false, false] rfl rfl (any_of HT_.out (by kernel_rfl)) (fun _ _ _ h => h) (Or.inl ⟨by rfl, ?_⟩) ?_ ?_
                                  rotate_left
                                  · intro w'
                                    go_simp
                                    with_reducible rfl
                                  rotate_left
                                  · simp only [Act.put, List.setIfInBounds_toArray, List.set_cons_zero, List.set_cons_succ, i64_w, i32_w]
                                    rfl
                                  refine pure_ (i := 8) (N := some 67) (v := ?_) (a' := ?_) #[true, true, true, true, true, true, true, true, true, false, false] rfl rfl (any_of HT_.out (by kernel_rfl)) (fun _ _ _ h => h) (Or.inl ⟨by rfl, ?_⟩) ?_ ?_
                                  rotate_left
                                  · intro w'
                                    go_simp
                                    with_reducible rfl
                                  rotate_left
                                  · simp only [Act.put, List.setIfInBounds_toArray, List.set_cons_zero, List.set_cons_succ, i64_w, i32_w]
                                    rfl
                                  refine pure_ (i := 9) (N := some 68) (v := ?_) (a' := ?_) #[true, true, true, true, true, true, true, true, true, true, false] rfl rfl (any_of HT_.out (by kernel_rfl)) (fun _ _ _ h => h) (Or.inl ⟨by rfl, ?_⟩) ?_ ?_
                                  rotate_left
                                  · intro w'
                                    go_simp
                                    with_reducible rfl
                                  rotate_left
                                  · simp only [Act.put, List.setIfInBounds_toArray, List.set_cons_zero, List.set_cons_succ, i64_w, i32_w]
                                    rfl
                                  refine last_ (i := 10) (N := none) #[true, true, true, true, true, true, true, true, true, true, true] rfl rfl (one_of HT_.out (by kernel_rfl)) (by decide) (fun K hK => ?_)
                                  refine skip_ (w1 := ?_) (by rfl) rfl ?_ ?_
                                  rotate_left
                                  · go_simp
                                    rfl
                                  refine hK.out _ _ ?_
                                  clear hK K
                                  refine done_ (done_of HT_.out (by kernel_rfl)) ?_
                                  have hcz49_0 : w47.cell? ⟨gb290, 0, none⟩ = some (.int .i64 a1_0) := (blk_cell BK290.out 0).trans rfl
                                  have hcz49_1 : w47.cell? ⟨gb290, 1, none⟩ = some (.string a1_1) := (blk_cell BK290.out 1).trans rfl
                                  have hfz49_0 := blk_frozen BK290.out 0
                                  have hfz49_1 := blk_frozen BK290.out 1
                                  try go_wp2_with (first | ((with_reducible refine gate_callee (f := 29) rfl ?_); refine goesL_ (some 76) rfl rfl Try.func29 (by kernel_rfl) rfl #[.slice A0 l0.length c0, .int .i64 a1_0, .string a1_1, .slice (some ⟨go22, 0, none⟩) y306.length co44] rfl (by (try simp only [List.map_toArray, List.map_cons, List.map_nil]); first | done | (rw [show y306.length = y300.length from (Kd.R_reads' HQ48.out).1.symm] <;> rfl) | rfl | (simp only [List.length_drop, List.length_take]; rfl)) ?_; (with_reducible refine (rights_May.calls k3 _ _ l0 a1_0 a1_1 _ _ y306 false t308 _ ?side1 ?side2 ?side3 ?side4 A26.out).mono ?_); (case side1 => exact Kd.C_below HR0.out (by repeat (first | (with_reducible first | exact HB.out | apply below_alloc | apply pw_below_drewN | apply below_drew1 | refine below_set ?_ GB22.out | refine below_set ?_ GE290.out) | exact HB.out))); (case side2 => exact HC0.out); (case side3 => refine (Kd.R_reads' (e := 24) (base := w.heap.size) (ok := fun k_ => True) (n := y300.length) (c := co44) ?_).2.2; exact (by (with_reducible repeat (first | apply Kd.R_alloc | apply Kd.R_drewN | apply Kd.R_drew)); exact HQ48.out)); (case side4 => rw [show y306.length = y300.length from (Kd.R_reads' HQ48.out).1.symm]; exact (Kd.R_reads' HO302.out).2.1); rintro e w50 ⟨rfl, hb⟩; refine ⟨_, rfl, ?_⟩; have n0_ := Aside0.mk (Kd.R_below (by (with_reducible repeat (first | apply Kd.R_alloc | apply Kd.R_drewN | apply Kd.R_drew)); exact HQ48.out) hb); have n1_ := Aside0.mk (blk_below (g := gb290) (o := .cells #[.int .i64 a1_0, .string a1_1] 49 (0, 0)) (by (with_reducible repeat (first | refine blk_drewN ?_ _ | refine blk_drew ?_ | refine blk_alloc ?_ _)); refine blk_far ?_ (by have h_ := Kd.R_ne HO302.out BK290.out (by decide); intro e_; exact h_ (by rw [e_]; rfl)) _; (with_reducible repeat (first | refine blk_drewN ?_ _ | refine blk_drew ?_ | refine blk_alloc ?_ _)); exact BK290.out) hb); have n2_ := Aside0.mk (below_step (by repeat (first | (with_reducible first | exact HB.out | apply below_alloc | apply pw_below_drewN | apply below_drew1 | refine below_set ?_ GB22.out | refine below_set ?_ GE290.out) | exact HB.out)) hb); clear HO302; clear BK290; clear HB; have HO302 := n0_; have BK290 := n1_; have HB := n2_; clear n0_ n1_ n2_; (try clear hb); (try clear hb2); (try clear hk); (try clear hi)))
                                  go_ret
                                  exact ⟨by first | rfl | (simp [errW_none, errW_some] <;> rfl) | (simp only [← hji21, ← hji24]; first | rfl | (simp [errW_none, errW_some] <;> rfl)) | (simp [*, errW_none, errW_some] <;> rfl), by repeat (first | (with_reducible first | exact HB.out | apply below_alloc | apply pw_below_drewN | apply below_drew1 | refine below_set ?_ GE290.out) | exact HB.out)⟩
                              · rw [if_neg c27] at H
                                have c27b0 : (t308 == 0) = false := beq_eq_false_iff_ne.mpr c27
                                have c27b1 : (t308 != 0) = true := bne_iff_ne.mpr c27
                                obtain rfl := Option.some.inj H
                                try go_wp2_with (first | ((with_reducible refine gate_dst (N := 46) rfl ?_); refine Kd.R_lit k24 _ 24 ?hg (N := 46) ?hd (xs := ([] : List (S24))) (inner := []) (ok := fun _ => True) (okp := fun _ => True) ?hr ?hp (fun _ hk => hk) trivial (Below.refl _ _) (Nat.le_refl _) (by simp) ?_; (case hd => rfl); (case hg => rfl); (case hr => first | (go_simp; done) | (go_simp; rfl)); (case hp => exact (Reps.none _ _)); intro v298 w51 ho52 hb hg_ hnew_; clear hg_ hnew_; (first | rw [← Ny297.out] at ho52 | (simp only [Int.reduceToNat] at ho52; rw [← Ny297.out] at ho52)); have n0_ := Aside0.mk (Kd.R_lower ho52 (below_size (by repeat (first | (with_reducible first | exact HB.out | apply below_alloc | apply pw_below_drewN | apply below_drew1 | refine below_set ?_ GE290.out) | exact HB.out)))); have n1_ := Aside0.mk (blk_below (g := gb290) (o := .cells #[.int .i64 a1_0, .string a1_1] 49 (0, 0)) (by (with_reducible repeat (first | refine blk_drewN ?_ _ | refine blk_drew ?_ | refine blk_alloc ?_ _)); exact BK290.out) hb); have n2_ := Aside0.mk (below_step (by repeat (first | (with_reducible first | exact HB.out | apply below_alloc | apply pw_below_drewN | apply below_drew1 | refine below_set ?_ GE290.out) | exact HB.out)) hb); clear BK290; clear HB; have HO299 := n0_; have BK290 := n1_; have HB := n2_; clear n0_ n1_ n2_; clear hb ho52) | ((with_reducible refine gate_builtin (b := .append) (xs := #[.tmp 46, .tmp 47]) rfl ?_); at_builtin; refine Kd.R_append_rows k24 (w0 := w) w.heap.size rfl (.tmp 46) (.tmp 47) 44 24 (.agg #[(.int .i64 0), (.int .i64 0), (.int .i64 0), (.int .i64 0), (.int .i64 0), (.bool false)]) 48 rfl Try.underlying44 info24 rfl (by decide) (by omega) v298 y297 l2 _ _ _ (fun _ => True) (fun _ => False) rfl rfl ?aO ?aR (fun _ _ h => h) (fun _ h => h.elim) ?aF ?aB ?aS ?aL ?_; (case aR => repeat (first | exact (Kd.C_below HR2.out HB.out) | (with_reducible refine Kd.C_alloc ?_ _) | (with_reducible refine Kd.C_drewN ?_ _) | (with_reducible refine Kd.C_drew ?_))); (case aB => exact (by repeat (first | (with_reducible first | exact HB.out | apply below_alloc | apply pw_below_drewN | apply below_drew1 | refine below_set ?_ GE290.out) | exact HB.out))); (case aF => exact (fun _ _ => trivial)); (case aO => exact (by (with_reducible repeat (first | apply Kd.R_alloc | apply Kd.R_drewN | apply Kd.R_drew)); exact HO299.out)); (case aS => exact (below_size (by repeat (first | (with_reducible first | exact HB.out | apply below_alloc | apply pw_below_drewN | apply below_drew1 | refine below_set ?_ GE290.out) | exact HB.out)))); (case aL => have := LMc17.out; omega); intro v301 w53 ho hb hg hat; rw [← Ny300.out] at ho; have n0_ := Aside0.mk (blk_grown (g := gb290) (o := .cells #[.int .i64 a1_0, .string a1_1] 49 (0, 0)) (by (with_reducible repeat (first | refine blk_drewN ?_ _ | refine blk_drew ?_ | refine blk_alloc ?_ _)); exact BK290.out) hg (Kd.R_ne HO299.out BK290.out (by decide))); have n1_ := Aside0.mk (hb); have n2_ := Aside0.mk (ho); clear BK290; clear HB; clear HO299; have BK290 := n0_; have HB := n1_; have HO302 := n2_; clear n0_ n1_ n2_; clear ho hb hg hat))
                                have n0_ := Aside0.mk (Kd.R_drew HO302.out)
                                have n1_ := Aside0.mk (blk_drew BK290.out)
                                have n2_ := Aside0.mk (below_drew1 HB.out)
                                clear HO302
                                clear BK290
                                clear HB
                                have HO302 := n0_
                                have BK290 := n1_
                                have HB := n2_
                                clear n0_ n1_ n2_
                                obtain ⟨Ao55, co55, eo55⟩ := Kd.R_slice HO302.out
                                (first | subst eo55 | (injection eo55 with f1_ f2_ f3_; have f4_ := f1_.symm; have f5_ := f3_.symm; clear f1_ f2_ f3_; subst f4_; subst f5_))
                                have p303 : 0 ≤ (x9_2 : Int) := of_decide_eq_true (by first | (with_reducible assumption) | assumption)
                                have q303 : x9_2 < (y300.length : Int) := of_decide_eq_true (by first | (with_reducible assumption) | assumption)
                                obtain ⟨ad303, e303, hx303_0, hx303_1, hx303_2, hx303_3, hx303_4, hx303_5⟩ := at_T24 (Kd.R_reads' HO302.out).2.2 x9_2 p303 q303
                                cases e303
                                replace p303 := eq_true p303
                                replace q303 := eq_true q303
                                have p22 : 0 ≤ (x9_2 : Int) := of_decide_eq_true (by first | (with_reducible assumption) | assumption)
                                have q22 : (x9_2 : Int) < ((y300.length : Int) : Int) := of_decide_eq_true (by first | (with_reducible assumption) | assumption)
                                obtain ⟨go22, co22, eo22, gb22, gl22, cl22, HG22⟩ := Kd.R_form HO302.out (by omega)
                                (first | cases eo22 | (injection eo22 with ea_ en_ ec_; (first | subst ea_ | (injection ea_ with ea_; subst ea_)); subst ec_; clear en_))
                                have GB22 := Aside0.mk gb22
                                have GG22 := Aside0.mk HG22
                                clear gb22 gl22 HG22
                                (first | simp only [add_plain] at hx303_0 | skip)
                                (first | simp only [add_plain] at hx303_1 | skip)
                                (first | simp only [add_plain] at hx303_2 | skip)
                                (first | simp only [add_plain] at hx303_3 | skip)
                                (first | simp only [add_plain] at hx303_4 | skip)
                                (first | simp only [add_plain] at hx303_5 | skip)
                                obtain ⟨ce22, hcl22, hM22, hcc22, hfr22⟩ := Kd.R_elem HO302.out z24 (x9_2 : Int) p22 q22
                                obtain rfl := k24_openM hM22
                                have hx22_0 : World.cell? _ ⟨go22, (x9_2 : Int).toNat * 6, none⟩ = some (.int .i64 ((rd_T24 y300 x9_2).f0)) := hcc22 0 _ rfl
                                have hx22_1 : World.cell? _ ⟨go22, (x9_2 : Int).toNat * 6 + 1, none⟩ = some (.int .i64 ((rd_T24 y300 x9_2).f1)) := hcc22 1 _ rfl
                                have hx22_2 : World.cell? _ ⟨go22, (x9_2 : Int).toNat * 6 + 2, none⟩ = some (.int .i64 ((rd_T24 y300 x9_2).f2)) := hcc22 2 _ rfl
                                have hx22_3 : World.cell? _ ⟨go22, (x9_2 : Int).toNat * 6 + 3, none⟩ = some (.int .i64 ((rd_T24 y300 x9_2).f3)) := hcc22 3 _ rfl
                                have hx22_4 : World.cell? _ ⟨go22, (x9_2 : Int).toNat * 6 + 4, none⟩ = some (.int .i64 ((rd_T24 y300 x9_2).f4)) := hcc22 4 _ rfl
                                have hx22_5 : World.cell? _ ⟨go22, (x9_2 : Int).toNat * 6 + 5, none⟩ = some (.bool ((rd_T24 y300 x9_2).f5)) := hcc22 5 _ rfl
                                have hf22_0 : World.frozen? _ ⟨go22, (x9_2 : Int).toNat * 6, none⟩ = false := hfr22 0
                                have hf22_1 : World.frozen? _ ⟨go22, (x9_2 : Int).toNat * 6 + 1, none⟩ = false := hfr22 1
                                have hf22_2 : World.frozen? _ ⟨go22, (x9_2 : Int).toNat * 6 + 2, none⟩ = false := hfr22 2
                                have hf22_3 : World.frozen? _ ⟨go22, (x9_2 : Int).toNat * 6 + 3, none⟩ = false := hfr22 3
                                have hf22_4 : World.frozen? _ ⟨go22, (x9_2 : Int).toNat * 6 + 4, none⟩ = false := hfr22 4
                                have hf22_5 : World.frozen? _ ⟨go22, (x9_2 : Int).toNat * 6 + 5, none⟩ = false := hfr22 5
                                clear hcl22 hcc22 hfr22 hM22
                                replace p22 := eq_true p22
                                replace q22 := eq_true q22
                                obtain ⟨ce56, hcl56, hM56, hcc56, hfr56⟩ := Kd.R_elem HO302.out z24 (x9_2 : Int) (of_decide_eq_true (by first | (with_reducible assumption) | assumption)) (by have h_ : (x9_2 : Int) < ((y300.length : Int) : Int) := of_decide_eq_true (by first | (with_reducible assumption) | assumption); first | exact h_ | (have e_ := (Kd.R_reads' HO302.out).1; omega) | simpa using h_)
                                obtain rfl := k24_openM hM56
                                have HP56 := (Kd.R_seg HO302.out (x9_2 : Int) (of_decide_eq_true (by first | (with_reducible assumption) | assumption)) (by have h_ : (x9_2 : Int) < ((y300.length : Int) : Int) := of_decide_eq_true (by first | (with_reducible assumption) | assumption); first | exact h_ | (have e_ := (Kd.R_reads' HO302.out).1; omega) | simpa using h_) (seg := [.int .i64 (Go.bits .or .i64 ((rd_T24 y300 x9_2).f2) (ji21))]) (j := 2) hcl56 hcc56 (show 3 ≤ 6 from by decide) (x' := (⟨(rd_T24 y300 x9_2).f0, (rd_T24 y300 x9_2).f1, Go.bits .or .i64 ((rd_T24 y300 x9_2).f2) (ji21), (rd_T24 y300 x9_2).f3, (rd_T24 y300 x9_2).f4, (rd_T24 y300 x9_2).f5⟩ : S24)) (k24_mkM _ _ _ (⟨(rd_T24 y300 x9_2).f0, (rd_T24 y300 x9_2).f1, Go.bits .or .i64 ((rd_T24 y300 x9_2).f2) (ji21), (rd_T24 y300 x9_2).f3, (rd_T24 y300 x9_2).f4, (rd_T24 y300 x9_2).f5⟩ : S24) ) (fun _ hk => hk)).1
                                rw [← Ny304.out] at HP56
                                have HQ56 := Aside0.mk HP56
                                clear hcl56 hcc56 hfr56 hM56 HP56
                                refine start_ (n := 11) (S := fun w' => w'.cell? ⟨go22, ((x9_2).toNat * 6), none⟩ = some (.int .i64 ((rd_T24 y300 x9_2).f0)) ∧ w'.cell? ⟨go22, ((x9_2).toNat * 6) + 1, none⟩ = some (.int .i64 ((rd_T24 y300 x9_2).f1)) ∧ w'.cell? ⟨go22, ((x9_2).toNat * 6) + 2, none⟩ = some (.int .i64 ((rd_T24 y300 x9_2).f2)) ∧ w'.cell? ⟨go22, ((x9_2).toNat * 6) + 3, none⟩ = some (.int .i64 ((rd_T24 y300 x9_2).f3)) ∧ w'.cell? ⟨go22, ((x9_2).toNat * 6) + 4, none⟩ = some (.int .i64 ((rd_T24 y300 x9_2).f4)) ∧ w'.cell? ⟨go22, ((x9_2).toNat * 6) + 5, none⟩ = some (.bool ((rd_T24 y300 x9_2).f5))) (ds := [10]) #[false, false, false, false, false, false, false, false, false, false, false] (by kernel_rfl) rfl rfl ⟨hx303_0, hx303_1, hx303_2, hx303_3, hx303_4, hx303_5⟩ (fun hHeld => ?_); refine with_tabW tithinglaw21_RightsMore.tab13 tithinglaw21_RightsMore.bits13 (fun HT_ HW_ => ?_)
                                generalize w53.drew = w54 at HO302 BK290 HB GG22 HQ56 hf22_0 hf22_1 hf22_2 hf22_3 hf22_4 hf22_5 hx22_0 hx22_1 hx22_2 hx22_3 hx22_4 hx22_5 hx303_0 hx303_1 hx303_2 hx303_3 hx303_4 hx303_5 hHeld ⊢
                                refine pure_ (i := 0) (N := some 49) (v := ?_) (a' := ?_) #[true, false, false, false, false, false, false, false, false, false, false] rfl rfl (any_of HT_.out (by kernel_rfl)) (fun _ _ _ h => h) (Or.inl ⟨by rfl, ?_⟩) ?_ ?_
                                rotate_left
                                · intro w'
                                  go_simp
                                  with_reducible rfl
                                rotate_left
                                · simp only [Act.put, List.setIfInBounds_toArray, List.set_cons_zero, List.set_cons_succ, i64_w, i32_w]
                                  rfl
                                refine pure_ (i := 1) (N := some 50) (v := ?_) (a' := ?_) #[true, true, false, false, false, false, false, false, false, false, false] rfl rfl (any_of HT_.out (by kernel_rfl)) (fun _ _ _ h => h) (Or.inl ⟨by rfl, ?_⟩) ?_ ?_
                                rotate_left
                                · intro w'
                                  go_simp
                                  with_reducible rfl
                                rotate_left
                                · simp only [Act.put, List.setIfInBounds_toArray, List.set_cons_zero, List.set_cons_succ, i64_w, i32_w]
                                  rfl
                                refine pure_ (i := 2) (N := some 51) (v := ?_) (a' := ?_) #[true, true, true, false, false, false, false, false, false, false, false] rfl rfl (any_of HT_.out (by kernel_rfl)) (fun _ _ _ h => h) (Or.inl ⟨by rfl, ?_⟩) ?_ ?_
                                rotate_left
                                · intro w'
                                  go_simp
                                  with_reducible rfl
                                rotate_left
                                · simp only [Act.put, List.setIfInBounds_toArray, List.set_cons_zero, List.set_cons_succ, i64_w, i32_w]
                                  rfl
                                refine pure_ (i := 3) (N := some 52) (v := ?_) (a' := ?_) #[true, true, true, true, false, false, false, false, false, false, false] rfl rfl (any_of HT_.out (by kernel_rfl)) (fun _ _ _ h => h) (Or.inl ⟨by rfl, ?_⟩) ?_ ?_
                                rotate_left
                                · intro w'
                                  go_simp
                                  with_reducible rfl
                                rotate_left
                                · simp only [Act.put, List.setIfInBounds_toArray, List.set_cons_zero, List.set_cons_succ, i64_w, i32_w]
                                  rfl
                                refine pure_ (i := 5) (N := some 54) (v := ?_) (a' := ?_) #[true, true, true, true, false, true, false, false, false, false, false] rfl rfl (any_of HT_.out (by kernel_rfl)) (fun _ _ _ h => h) (Or.inl ⟨by rfl, ?_⟩) ?_ ?_
                                rotate_left
                                · intro w'
                                  go_simp
                                  with_reducible rfl
                                rotate_left
                                · simp only [Act.put, List.setIfInBounds_toArray, List.set_cons_zero, List.set_cons_succ, i64_w, i32_w]
                                  rfl
                                refine pure_ (i := 6) (N := some 55) (v := ?_) (a' := ?_) #[true, true, true, true, false, true, true, false, false, false, false] rfl rfl (any_of HT_.out (by kernel_rfl)) (fun _ _ _ h => h) (Or.inl ⟨by rfl, ?_⟩) ?_ ?_
                                rotate_left
                                · intro w'
                                  go_simp
                                  with_reducible rfl
                                rotate_left
                                · simp only [Act.put, List.setIfInBounds_toArray, List.set_cons_zero, List.set_cons_succ, i64_w, i32_w]
                                  rfl
                                refine take_ (i := 4) (N := some 53) (v := ?_) (a' := ?_) #[true, true, true, true, true, true, true, false, false, false, false] rfl rfl (take_ofW HT_.out HW_.out (by kernel_rfl)) (fun _ _ _ h => h) (Or.inl ⟨by rfl, ?_⟩) hHeld ?_ ?_
                                rotate_left
                                · rintro w' ⟨s0, s1, s2, s3, s4, s5⟩
                                  go_simp
                                  with_reducible rfl
                                rotate_left
                                · simp only [Act.put, List.setIfInBounds_toArray, List.set_cons_zero, List.set_cons_succ, i64_w, i32_w]
                                  rfl
                                refine pure_ (i := 7) (N := some 56) (v := ?_) (a' := ?_) #[true, true, true, true, true, true, true, true, false, false, false] rfl rfl (any_of HT_.out (by kernel_rfl)) (fun _ _ _ h => h) (Or.inl ⟨by rfl, ?_⟩) ?_ ?_
                                rotate_left
                                · intro w'
                                  go_simp
                                  with_reducible rfl
                                rotate_left
                                · simp only [Act.put, List.setIfInBounds_toArray, List.set_cons_zero, List.set_cons_succ, i64_w, i32_w]
                                  rfl
                                refine pure_ (i := 8) (N := some 57) (v := ?_) (a' := ?_) #[true, true, true, true, true, true, true, true, true, false, false] rfl rfl (any_of HT_.out (by kernel_rfl)) (fun _ _ _ h => h) (Or.inl ⟨by rfl, ?_⟩) ?_ ?_
                                rotate_left
                                · intro w'
                                  go_simp
                                  with_reducible rfl
                                rotate_left
                                · simp only [Act.put, List.setIfInBounds_toArray, List.set_cons_zero, List.set_cons_succ, i64_w, i32_w]
                                  rfl
                                refine pure_ (i := 9) (N := some 58) (v := ?_) (a' := ?_) #[true, true, true, true, true, true, true, true, true, true, false] rfl rfl (any_of HT_.out (by kernel_rfl)) (fun _ _ _ h => h) (Or.inl ⟨by rfl, ?_⟩) ?_ ?_
                                rotate_left
                                · intro w'
                                  go_simp
                                  with_reducible rfl
                                rotate_left
                                · simp only [Act.put, List.setIfInBounds_toArray, List.set_cons_zero, List.set_cons_succ, i64_w, i32_w]
                                  rfl
                                refine last_ (i := 10) (N := none) #[true, true, true, true, true, true, true, true, true, true, true] rfl rfl (one_of HT_.out (by kernel_rfl)) (by decide) (fun K hK => ?_)
                                refine skip_ (w1 := ?_) (by rfl) rfl ?_ ?_
                                rotate_left
                                · go_simp
                                  rfl
                                refine hK.out _ _ ?_
                                clear hK K
                                refine done_ (done_of HT_.out (by kernel_rfl)) ?_
                                try go_wp2
                                have n0_ : Aside0 (Kd.R k24 24 (w54.setCell ⟨go22, (x9_2 : Int).toNat * 6 + 2, none⟩ (.int .i64 (Go.bits .or .i64 ((rd_T24 y300 x9_2).f2) (ji21)))) w.heap.size (fun _ => True) (.slice (some ⟨go22, 0, none⟩) y300.length co55) y304) := ⟨by (with_reducible repeat (first | apply Kd.R_alloc | apply Kd.R_drewN | apply Kd.R_drew)); exact HQ56.out⟩
                                have n1_ : Aside0 ((w54.setCell ⟨go22, (x9_2 : Int).toNat * 6 + 2, none⟩ (.int .i64 (Go.bits .or .i64 ((rd_T24 y300 x9_2).f2) (ji21)))).heap[gb290]? = some (.cells #[.int .i64 a1_0, .string a1_1] 49 (0, 0))) := ⟨by (with_reducible repeat (first | refine blk_drewN ?_ _ | refine blk_drew ?_ | refine blk_alloc ?_ _)); refine blk_far ?_ (by have h_ := Kd.R_ne HO302.out BK290.out (by decide); intro e_; exact h_ (by rw [e_]; rfl)) _; (with_reducible repeat (first | refine blk_drewN ?_ _ | refine blk_drew ?_ | refine blk_alloc ?_ _)); exact BK290.out⟩
                                have n2_ : Aside0 (Below w.heap.size w (w54.setCell ⟨go22, (x9_2 : Int).toNat * 6 + 2, none⟩ (.int .i64 (Go.bits .or .i64 ((rd_T24 y300 x9_2).f2) (ji21))))) := ⟨by repeat (first | (with_reducible first | exact HB.out | apply below_alloc | apply pw_below_drewN | apply below_drew1 | refine below_set ?_ GB22.out | refine below_set ?_ GE290.out) | exact HB.out)⟩
                                (try clear HO302)
                                (try clear BK290)
                                (try clear HB)
                                generalize (w54.setCell ⟨go22, (x9_2 : Int).toNat * 6 + 2, none⟩ (.int .i64 (Go.bits .or .i64 ((rd_T24 y300 x9_2).f2) (ji21)))) = w57 at n0_ n1_ n2_ ⊢
                                have HO302 := n0_
                                have BK290 := n1_
                                have HB := n2_
                                clear n0_ n1_ n2_
                                have n0_ := Aside0.mk (Kd.R_drew HO302.out)
                                have n1_ := Aside0.mk (blk_drew BK290.out)
                                have n2_ := Aside0.mk (below_drew1 HB.out)
                                clear HO302
                                clear BK290
                                clear HB
                                have HO302 := n0_
                                have BK290 := n1_
                                have HB := n2_
                                clear n0_ n1_ n2_
                                have p305 : 0 ≤ (x9_2 : Int) := of_decide_eq_true (by first | (with_reducible assumption) | assumption)
                                have q305 : x9_2 < (y304.length : Int) := (by have h_ : (x9_2 : Int) < ((y300.length : Int) : Int) := of_decide_eq_true (by first | (with_reducible assumption) | assumption); first | (have e_ := (Kd.R_reads' HO302.out).1; omega) | simpa only [Ny304.out, List.length_set] using h_)
                                have ql305 : ((x9_2 : Int) < ((y300.length : Int) : Int)) = True := eq_true (of_decide_eq_true (by first | (with_reducible assumption) | assumption))
                                obtain ⟨ad305, e305, hx305_0, hx305_1, hx305_2, hx305_3, hx305_4, hx305_5⟩ := at_T24 (Kd.R_reads' HO302.out).2.2 x9_2 p305 q305
                                obtain rfl : (⟨go22, 0, none⟩ : Addr) = ad305 := (by injection e305)
                                (first | simp only [add_plain] at hx305_0 | simp only [add_at] at hx305_0 | simp only [Addr.add, Nat.zero_add] at hx305_0 | skip)
                                (first | simp only [add_plain] at hx305_1 | simp only [add_at] at hx305_1 | simp only [Addr.add, Nat.zero_add] at hx305_1 | skip)
                                (first | simp only [add_plain] at hx305_2 | simp only [add_at] at hx305_2 | simp only [Addr.add, Nat.zero_add] at hx305_2 | skip)
                                (first | simp only [add_plain] at hx305_3 | simp only [add_at] at hx305_3 | simp only [Addr.add, Nat.zero_add] at hx305_3 | skip)
                                (first | simp only [add_plain] at hx305_4 | simp only [add_at] at hx305_4 | simp only [Addr.add, Nat.zero_add] at hx305_4 | skip)
                                (first | simp only [add_plain] at hx305_5 | simp only [add_at] at hx305_5 | simp only [Addr.add, Nat.zero_add] at hx305_5 | skip)
                                replace p305 := eq_true p305
                                replace q305 := eq_true q305
                                have p25 : 0 ≤ (x9_2 : Int) := of_decide_eq_true (by first | (with_reducible assumption) | assumption)
                                have q25 : (x9_2 : Int) < ((y300.length : Int) : Int) := of_decide_eq_true (by first | (with_reducible assumption) | assumption)
                                obtain ⟨ce25, hcl25, hM25, hcc25, hfr25⟩ := Kd.R_elem HO302.out z24 (x9_2 : Int) p25 q25
                                obtain rfl := k24_openM hM25
                                have hx25_0 : World.cell? _ ⟨go22, (x9_2 : Int).toNat * 6, none⟩ = some (.int .i64 ((rd_T24 y304 x9_2).f0)) := hcc25 0 _ rfl
                                have hx25_1 : World.cell? _ ⟨go22, (x9_2 : Int).toNat * 6 + 1, none⟩ = some (.int .i64 ((rd_T24 y304 x9_2).f1)) := hcc25 1 _ rfl
                                have hx25_2 : World.cell? _ ⟨go22, (x9_2 : Int).toNat * 6 + 2, none⟩ = some (.int .i64 ((rd_T24 y304 x9_2).f2)) := hcc25 2 _ rfl
                                have hx25_3 : World.cell? _ ⟨go22, (x9_2 : Int).toNat * 6 + 3, none⟩ = some (.int .i64 ((rd_T24 y304 x9_2).f3)) := hcc25 3 _ rfl
                                have hx25_4 : World.cell? _ ⟨go22, (x9_2 : Int).toNat * 6 + 4, none⟩ = some (.int .i64 ((rd_T24 y304 x9_2).f4)) := hcc25 4 _ rfl
                                have hx25_5 : World.cell? _ ⟨go22, (x9_2 : Int).toNat * 6 + 5, none⟩ = some (.bool ((rd_T24 y304 x9_2).f5)) := hcc25 5 _ rfl
                                have hf25_0 : World.frozen? _ ⟨go22, (x9_2 : Int).toNat * 6, none⟩ = false := hfr25 0
                                have hf25_1 : World.frozen? _ ⟨go22, (x9_2 : Int).toNat * 6 + 1, none⟩ = false := hfr25 1
                                have hf25_2 : World.frozen? _ ⟨go22, (x9_2 : Int).toNat * 6 + 2, none⟩ = false := hfr25 2
                                have hf25_3 : World.frozen? _ ⟨go22, (x9_2 : Int).toNat * 6 + 3, none⟩ = false := hfr25 3
                                have hf25_4 : World.frozen? _ ⟨go22, (x9_2 : Int).toNat * 6 + 4, none⟩ = false := hfr25 4
                                have hf25_5 : World.frozen? _ ⟨go22, (x9_2 : Int).toNat * 6 + 5, none⟩ = false := hfr25 5
                                clear hcl25 hcc25 hfr25 hM25
                                replace p25 := eq_true p25
                                replace q25 := eq_true q25
                                obtain ⟨ce59, hcl59, hM59, hcc59, hfr59⟩ := Kd.R_elem HO302.out z24 (x9_2 : Int) (of_decide_eq_true (by first | (with_reducible assumption) | assumption)) (by have h_ : (x9_2 : Int) < ((y300.length : Int) : Int) := of_decide_eq_true (by first | (with_reducible assumption) | assumption); first | exact h_ | (have e_ := (Kd.R_reads' HO302.out).1; omega) | simpa using h_)
                                obtain rfl := k24_openM hM59
                                have HP59 := (Kd.R_seg HO302.out (x9_2 : Int) (of_decide_eq_true (by first | (with_reducible assumption) | assumption)) (by have h_ : (x9_2 : Int) < ((y300.length : Int) : Int) := of_decide_eq_true (by first | (with_reducible assumption) | assumption); first | exact h_ | (have e_ := (Kd.R_reads' HO302.out).1; omega) | simpa using h_) (seg := [.int .i64 (Go.bits .or .i64 ((rd_T24 y304 x9_2).f4) (ji24))]) (j := 4) hcl59 hcc59 (show 5 ≤ 6 from by decide) (x' := (⟨(rd_T24 y304 x9_2).f0, (rd_T24 y304 x9_2).f1, (rd_T24 y304 x9_2).f2, (rd_T24 y304 x9_2).f3, Go.bits .or .i64 ((rd_T24 y304 x9_2).f4) (ji24), (rd_T24 y304 x9_2).f5⟩ : S24)) (k24_mkM _ _ _ (⟨(rd_T24 y304 x9_2).f0, (rd_T24 y304 x9_2).f1, (rd_T24 y304 x9_2).f2, (rd_T24 y304 x9_2).f3, Go.bits .or .i64 ((rd_T24 y304 x9_2).f4) (ji24), (rd_T24 y304 x9_2).f5⟩ : S24) ) (fun _ hk => hk)).1
                                rw [← Ny306.out] at HP59
                                have HQ59 := Aside0.mk HP59
                                clear hcl59 hcc59 hfr59 hM59 HP59
                                refine start_ (n := 11) (S := fun w' => w'.cell? ⟨go22, (x9_2).toNat * 6, none⟩ = some (.int .i64 ((rd_T24 y304 x9_2).f0)) ∧ w'.cell? ⟨go22, (x9_2).toNat * 6 + 1, none⟩ = some (.int .i64 ((rd_T24 y304 x9_2).f1)) ∧ w'.cell? ⟨go22, (x9_2).toNat * 6 + 2, none⟩ = some (.int .i64 ((rd_T24 y304 x9_2).f2)) ∧ w'.cell? ⟨go22, (x9_2).toNat * 6 + 3, none⟩ = some (.int .i64 ((rd_T24 y304 x9_2).f3)) ∧ w'.cell? ⟨go22, (x9_2).toNat * 6 + 4, none⟩ = some (.int .i64 ((rd_T24 y304 x9_2).f4)) ∧ w'.cell? ⟨go22, (x9_2).toNat * 6 + 5, none⟩ = some (.bool ((rd_T24 y304 x9_2).f5))) (ds := [10]) #[false, false, false, false, false, false, false, false, false, false, false] (by kernel_rfl) rfl rfl ⟨hx305_0, hx305_1, hx305_2, hx305_3, hx305_4, hx305_5⟩ (fun hHeld => ?_); refine with_tabW tithinglaw21_RightsMore.tab14 tithinglaw21_RightsMore.bits14 (fun HT_ HW_ => ?_)
                                generalize w57.drew = w58 at HO302 BK290 HB HQ56 HQ59 hf25_0 hf25_1 hf25_2 hf25_3 hf25_4 hf25_5 hx25_0 hx25_1 hx25_2 hx25_3 hx25_4 hx25_5 hx305_0 hx305_1 hx305_2 hx305_3 hx305_4 hx305_5 hHeld ⊢
                                refine pure_ (i := 0) (N := some 59) (v := ?_) (a' := ?_) #[true, false, false, false, false, false, false, false, false, false, false] rfl rfl (any_of HT_.out (by kernel_rfl)) (fun _ _ _ h => h) (Or.inl ⟨by rfl, ?_⟩) ?_ ?_
                                rotate_left
                                · intro w'
                                  go_simp
                                  with_reducible rfl
                                rotate_left
                                · simp only [Act.put, List.setIfInBounds_toArray, List.set_cons_zero, List.set_cons_succ, i64_w, i32_w]
                                  rfl
                                refine pure_ (i := 1) (N := some 60) (v := ?_) (a' := ?_) #[true, true, false, false, false, false, false, false, false, false, false] rfl rfl (any_of HT_.out (by kernel_rfl)) (fun _ _ _ h => h) (Or.inl ⟨by rfl, ?_⟩) ?_ ?_
                                rotate_left
                                · intro w'
                                  go_simp
                                  with_reducible rfl
                                rotate_left
                                · simp only [Act.put, List.setIfInBounds_toArray, List.set_cons_zero, List.set_cons_succ, i64_w, i32_w]
                                  rfl
                                refine pure_ (i := 2) (N := some 61) (v := ?_) (a' := ?_) #[true, true, true, false, false, false, false, false, false, false, false] rfl rfl (any_of HT_.out (by kernel_rfl)) (fun _ _ _ h => h) (Or.inl ⟨by rfl, ?_⟩) ?_ ?_
                                rotate_left
                                · intro w'
                                  go_simp
                                  with_reducible rfl
                                rotate_left
                                · simp only [Act.put, List.setIfInBounds_toArray, List.set_cons_zero, List.set_cons_succ, i64_w, i32_w]
                                  rfl
                                refine pure_ (i := 3) (N := some 62) (v := ?_) (a' := ?_) #[true, true, true, true, false, false, false, false, false, false, false] rfl rfl (any_of HT_.out (by kernel_rfl)) (fun _ _ _ h => h) (Or.inl ⟨by rfl, ?_⟩) ?_ ?_
                                rotate_left
                                · intro w'
                                  go_simp
                                  with_reducible rfl
                                rotate_left
                                · simp only [Act.put, List.setIfInBounds_toArray, List.set_cons_zero, List.set_cons_succ, i64_w, i32_w]
                                  rfl
                                refine pure_ (i := 5) (N := some 64) (v := ?_) (a' := ?_) #[true, true, true, true, false, true, false, false, false, false, false] rfl rfl (any_of HT_.out (by kernel_rfl)) (fun _ _ _ h => h) (Or.inl ⟨by rfl, ?_⟩) ?_ ?_
                                rotate_left
                                · intro w'
                                  go_simp
                                  with_reducible rfl
                                rotate_left
                                · simp only [Act.put, List.setIfInBounds_toArray, List.set_cons_zero, List.set_cons_succ, i64_w, i32_w]
                                  rfl
                                refine pure_ (i := 6) (N := some 65) (v := ?_) (a' := ?_) #[true, true, true, true, false, true, true, false, false, false, false] rfl rfl (any_of HT_.out (by kernel_rfl)) (fun _ _ _ h => h) (Or.inl ⟨by rfl, ?_⟩) ?_ ?_
                                rotate_left
                                · intro w'
                                  go_simp
                                  with_reducible rfl
                                rotate_left
                                · simp only [Act.put, List.setIfInBounds_toArray, List.set_cons_zero, List.set_cons_succ, i64_w, i32_w]
                                  rfl
                                refine take_ (i := 4) (N := some 63) (v := ?_) (a' := ?_) #[true, true, true, true, true, true, true, false, false, false, false] rfl rfl (take_ofW HT_.out HW_.out (by kernel_rfl)) (fun _ _ _ h => h) (Or.inl ⟨by rfl, ?_⟩) hHeld ?_ ?_
                                rotate_left
                                · rintro w' ⟨s0, s1, s2, s3, s4, s5⟩
                                  go_simp
                                  with_reducible rfl
                                rotate_left
                                · simp only [Act.put, List.setIfInBounds_toArray, List.set_cons_zero, List.set_cons_succ, i64_w, i32_w]
                                  rfl
                                refine pure_ (i := 7) (N := some 66) (v := ?_) (a' := ?_) #[true, true, true, true, true, true, true, true, false, false, false] rfl rfl (any_of HT_.out (by kernel_rfl)) (fun _ _ _ h => h) (Or.inl ⟨by rfl, ?_⟩) ?_ ?_
                                rotate_left
                                · intro w'
                                  go_simp
                                  with_reducible rfl
                                rotate_left
                                · simp only [Act.put, List.setIfInBounds_toArray, List.set_cons_zero, List.set_cons_succ, i64_w, i32_w]
                                  rfl
                                refine pure_ (i := 8) (N := some 67) (v := ?_) (a' := ?_) #[true, true, true, true, true, true, true, true, true, false, false] rfl rfl (any_of HT_.out (by kernel_rfl)) (fun _ _ _ h => h) (Or.inl ⟨by rfl, ?_⟩) ?_ ?_
                                rotate_left
                                · intro w'
                                  go_simp
                                  with_reducible rfl
                                rotate_left
                                · simp only [Act.put, List.setIfInBounds_toArray, List.set_cons_zero, List.set_cons_succ, i64_w, i32_w]
                                  rfl
                                refine pure_ (i := 9) (N := some 68) (v := ?_) (a' := ?_) #[true, true, true, true, true, true, true, true, true, true, false] rfl rfl (any_of HT_.out (by kernel_rfl)) (fun _ _ _ h => h) (Or.inl ⟨by rfl, ?_⟩) ?_ ?_
                                rotate_left
                                · intro w'
                                  go_simp
                                  with_reducible rfl
                                rotate_left
                                · simp only [Act.put, List.setIfInBounds_toArray, List.set_cons_zero, List.set_cons_succ, i64_w, i32_w]
                                  rfl
                                refine last_ (i := 10) (N := none) #[true, true, true, true, true, true, true, true, true, true, true] rfl rfl (one_of HT_.out (by kernel_rfl)) (by decide) (fun K hK => ?_)
                                refine skip_ (w1 := ?_) (by rfl) rfl ?_ ?_
                                rotate_left
                                · go_simp
                                  rfl
                                refine hK.out _ _ ?_
                                clear hK K
                                refine done_ (done_of HT_.out (by kernel_rfl)) ?_
                                have hcz60_0 : w58.cell? ⟨gb290, 0, none⟩ = some (.int .i64 a1_0) := (blk_cell BK290.out 0).trans rfl
                                have hcz60_1 : w58.cell? ⟨gb290, 1, none⟩ = some (.string a1_1) := (blk_cell BK290.out 1).trans rfl
                                have hfz60_0 := blk_frozen BK290.out 0
                                have hfz60_1 := blk_frozen BK290.out 1
                                try go_wp2_with (first | ((with_reducible refine gate_callee (f := 29) rfl ?_); refine goesL_ (some 76) rfl rfl Try.func29 (by kernel_rfl) rfl #[.slice A0 l0.length c0, .int .i64 a1_0, .string a1_1, .slice (some ⟨go22, 0, none⟩) y306.length co55] rfl (by (try simp only [List.map_toArray, List.map_cons, List.map_nil]); first | done | (rw [show y306.length = y300.length from (Kd.R_reads' HQ59.out).1.symm] <;> rfl) | rfl | (simp only [List.length_drop, List.length_take]; rfl)) ?_; (with_reducible refine (rights_May.calls k3 _ _ l0 a1_0 a1_1 _ _ y306 t307 t308 _ ?side1 ?side2 ?side3 ?side4 A26.out).mono ?_); (case side1 => exact Kd.C_below HR0.out (by repeat (first | (with_reducible first | exact HB.out | apply below_alloc | apply pw_below_drewN | apply below_drew1 | refine below_set ?_ GB22.out | refine below_set ?_ GE290.out) | exact HB.out))); (case side2 => exact HC0.out); (case side3 => refine (Kd.R_reads' (e := 24) (base := w.heap.size) (ok := fun k_ => True) (n := y300.length) (c := co55) ?_).2.2; exact (by (with_reducible repeat (first | apply Kd.R_alloc | apply Kd.R_drewN | apply Kd.R_drew)); exact HQ59.out)); (case side4 => rw [show y306.length = y300.length from (Kd.R_reads' HQ59.out).1.symm]; exact (Kd.R_reads' HO302.out).2.1); rintro e w61 ⟨rfl, hb⟩; refine ⟨_, rfl, ?_⟩; have n0_ := Aside0.mk (Kd.R_below (by (with_reducible repeat (first | apply Kd.R_alloc | apply Kd.R_drewN | apply Kd.R_drew)); exact HQ59.out) hb); have n1_ := Aside0.mk (blk_below (g := gb290) (o := .cells #[.int .i64 a1_0, .string a1_1] 49 (0, 0)) (by (with_reducible repeat (first | refine blk_drewN ?_ _ | refine blk_drew ?_ | refine blk_alloc ?_ _)); refine blk_far ?_ (by have h_ := Kd.R_ne HO302.out BK290.out (by decide); intro e_; exact h_ (by rw [e_]; rfl)) _; (with_reducible repeat (first | refine blk_drewN ?_ _ | refine blk_drew ?_ | refine blk_alloc ?_ _)); exact BK290.out) hb); have n2_ := Aside0.mk (below_step (by repeat (first | (with_reducible first | exact HB.out | apply below_alloc | apply pw_below_drewN | apply below_drew1 | refine below_set ?_ GB22.out | refine below_set ?_ GE290.out) | exact HB.out)) hb); clear HO302; clear BK290; clear HB; have HO302 := n0_; have BK290 := n1_; have HB := n2_; clear n0_ n1_ n2_; (try clear hb); (try clear hb2); (try clear hk); (try clear hi)))
                                go_ret
                                exact ⟨by first | rfl | (simp [errW_none, errW_some] <;> rfl) | (simp only [← hji21, ← hji24]; first | rfl | (simp [errW_none, errW_some] <;> rfl)) | (simp [*, errW_none, errW_some] <;> rfl), by repeat (first | (with_reducible first | exact HB.out | apply below_alloc | apply pw_below_drewN | apply below_drew1 | refine below_set ?_ GE290.out) | exact HB.out)⟩
                            · rw [if_neg c20] at H
                              exact absurd H (by simp)
                          · rw [if_neg c19] at H
                            exact absurd H (by simp)
                        · rw [if_neg c18] at H
                          exact absurd H (by simp)
                      · rw [if_neg c17] at H
                        exact absurd H (by simp)
                    · rw [if_neg c16] at H
                      have c16b0 : decide (x10_3 < 3) = false := decide_eq_false c16
                      clear c16
                      have H' := Aside0.mk H
                      clear H
                      go_wp2
                      go_roundg k3
                      case measure => have := HJ6.out; have := HK2.out; have := HK3.out; omega
                      case rel => exact ⟨(wrap64 (x9_2 + 1)), (by first | rfl | (simp; done) | (simp [*]; done)), H', ⟨by have := HJ6.out; have := HK2.out; have := HK3.out; omega⟩, ⟨by (with_reducible repeat (first | refine blk_drewN ?_ _ | refine blk_drew ?_ | refine blk_alloc ?_ _)); exact BK290.out⟩, ⟨by repeat (first | (with_reducible first | exact HB.out | apply below_alloc | apply pw_below_drewN | apply below_drew1 | refine below_set ?_ GE290.out) | exact HB.out)⟩⟩
              · rw [if_neg c15] at H
                have c15b0 : decide (x9_2 < (l2.length : Int)) = false := decide_eq_false c15
                clear c15
                replace H := Option.bind_eq_some_iff.mp H
                obtain ⟨t296, A620, H⟩ := H
                replace H : (some t296) = some r := H
                have A62 := Aside0.mk A620
                clear A620
                obtain rfl := Option.some.inj H
                go_wp2_with (first | ((with_reducible refine gate_callee (f := 11) rfl ?_); refine goesL_ (some 85) rfl rfl Try.func11 (by kernel_rfl) rfl #[] rfl (by (try simp only [List.map_toArray, List.map_cons, List.map_nil]); first | done | rfl | (simp only [List.length_drop, List.length_take]; rfl)) ?_; (with_reducible refine (tithinglaw21_First.calls k2  t296 _ A62.out).mono ?_); rintro e w63 ⟨rfl, hb⟩; refine ⟨_, rfl, ?_⟩; have n0_ := Aside0.mk (blk_below (g := gb290) (o := .cells #[.int .i64 a1_0, .string a1_1] 49 (0, 0)) (by (with_reducible repeat (first | refine blk_drewN ?_ _ | refine blk_drew ?_ | refine blk_alloc ?_ _)); exact BK290.out) hb); have n1_ := Aside0.mk (below_step (by repeat (first | (with_reducible first | exact HB.out | apply below_alloc | apply pw_below_drewN | apply below_drew1 | refine below_set ?_ GE290.out) | exact HB.out)) hb); clear BK290; clear HB; have BK290 := n0_; have HB := n1_; clear n0_ n1_; (try clear hb); (try clear hb2); (try clear hk); (try clear hi)))
                go_ret
                exact ⟨by first | rfl | (simp [errW_none, errW_some] <;> rfl) | (simp [*, errW_none, errW_some] <;> rfl), by repeat (first | (with_reducible first | exact HB.out | apply below_alloc | apply pw_below_drewN | apply below_drew1 | refine below_set ?_ GE290.out) | exact HB.out)⟩
  · replace c5 := Bool.eq_false_iff.mpr c5
    subst c5
    have H1 : ((tithinglaw21_First.f k).bind fun t292 => (some t292)) = some r := by rw [if_neg (show ¬ (false = true) by decide)] at H; exact H
    clear H
    have H := H1
    clear H1
    replace H := Option.bind_eq_some_iff.mp H
    obtain ⟨t292, A640, H⟩ := H
    replace H : (some t292) = some r := H
    have A64 := Aside0.mk A640
    clear A640
    obtain rfl := Option.some.inj H
    go_enter Try.func9, Try.ntmps9
    go_wp2_with (first | ((with_reducible refine gate_dst (N := 4) rfl ?_); refine box_event ?hg (N := 4) ?hd (cs := #[.int .i64 a1_0, .string a1_1]) (t := 49) ?hr ?_; (case hd => rfl); (case hg => rfl); (case hr => first | (go_simp; done) | (go_simp; rfl)); intro gb290 hg w65 hbox hb; have n0_ := Aside0.mk (below_step (by repeat (first | (with_reducible first | exact HB.out | apply below_alloc | apply pw_below_drewN | apply below_drew1) | exact HB.out)) hb); have n1_ := Aside0.mk (hbox); have n2_ := Aside0.mk ((by rw [hg]; exact (below_size (by repeat (first | (with_reducible first | exact HB.out | apply below_alloc | apply pw_below_drewN | apply below_drew1) | exact HB.out))) : w.heap.size ≤ gb290)); have n3_ := Aside0.mk ((by rw [hg]; exact (below_size (by repeat (first | (with_reducible first | exact HB.out | apply below_alloc | apply pw_below_drewN | apply below_drew1) | exact HB.out))) : w.heap.size ≤ gb290)); clear HB; have HB := n0_; have BK290 := n1_; have GW290 := n2_; have GE290 := n3_; clear n0_ n1_ n2_ n3_; clear hb hbox hg) | ((with_reducible refine gate_callee (f := 10) rfl ?_); refine goesL_ (some 16) rfl rfl Try.func10 (by kernel_rfl) rfl #[.slice A0 l0.length c0, .slice A2 l2.length c2] rfl (by (try simp only [List.map_toArray, List.map_cons, List.map_nil]); first | done | rfl | (simp only [List.length_drop, List.length_take]; rfl)) ?_; (with_reducible refine (tithinglaw21_few.calls k _ _ l0 _ _ l2 false _ ?side1 ?side2 ?side3 ?side4 A4.out).mono ?_); (case side1 => repeat (first | exact (Kd.C_below HR0.out HB.out) | (with_reducible refine Kd.C_alloc ?_ _) | (with_reducible refine Kd.C_drewN ?_ _) | (with_reducible refine Kd.C_drew ?_))); (case side2 => exact HC0.out); (case side3 => repeat (first | exact (Kd.C_below HR2.out HB.out) | (with_reducible refine Kd.C_alloc ?_ _) | (with_reducible refine Kd.C_drewN ?_ _) | (with_reducible refine Kd.C_drew ?_))); (case side4 => exact HC2.out); rintro e w' ⟨rfl, ⟨nd, rfl⟩⟩; refine ⟨_, rfl, ?_⟩) | ((with_reducible refine gate_callee (f := 11) rfl ?_); refine goesL_ (some 18) rfl rfl Try.func11 (by kernel_rfl) rfl #[] rfl (by (try simp only [List.map_toArray, List.map_cons, List.map_nil]); first | done | rfl | (simp only [List.length_drop, List.length_take]; rfl)) ?_; (with_reducible refine (tithinglaw21_First.calls k  t292 _ A64.out).mono ?_); rintro e w66 ⟨rfl, hb⟩; refine ⟨_, rfl, ?_⟩; have n0_ := Aside0.mk (blk_below (g := gb290) (o := .cells #[.int .i64 a1_0, .string a1_1] 49 (0, 0)) (by (with_reducible repeat (first | refine blk_drewN ?_ _ | refine blk_drew ?_ | refine blk_alloc ?_ _)); exact BK290.out) hb); have n1_ := Aside0.mk (below_step (by repeat (first | (with_reducible first | exact HB.out | apply below_alloc | apply pw_below_drewN | apply below_drew1 | refine below_set ?_ GE290.out) | exact HB.out)) hb); clear BK290; clear HB; have BK290 := n0_; have HB := n1_; clear n0_ n1_; (try clear hb); (try clear hb2); (try clear hk); (try clear hi)))
    go_ret
    exact ⟨by first | rfl | (simp [errW_none, errW_some] <;> rfl) | (simp [*, errW_none, errW_some] <;> rfl), by repeat (first | (with_reducible first | exact HB.out | apply below_alloc | apply pw_below_drewN | apply below_drew1 | refine below_set ?_ GE290.out) | exact HB.out)⟩

end Go.Proofs.Ytkmbcjpedmlhfaa.U
