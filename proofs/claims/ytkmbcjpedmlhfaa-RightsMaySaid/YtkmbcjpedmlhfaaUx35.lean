-- PRINTED by print.py (a twelfth state) out of the translation. Not trusted: Lean checks it.
import Derived.Test.YtkmbcjpedmlhfaaUx0
import Derived.Test.YtkmbcjpedmlhfaaUx34
namespace Go.Proofs.Ytkmbcjpedmlhfaa.U
open Go.RowKit Go.Proofs.YtkmbcjpedmlhfaaW.PrintWords Go.Proofs.YtkmbcjpedmlhfaaW.PrintLast Go.Proofs.YtkmbcjpedmlhfaaW.PrintMore
attribute [local go_sem] max2_int min2_int max_two min_two max_three min_three max_four min_four   -- for this text's walks alone
set_option linter.unusedVariables false
set_option linter.unusedSimpArgs false

/-! ### tithingref21_ValidUsers: function 19 -/
mutual
def tithingref21_ValidUsers.l0 : Nat → List (S37) → Int → Option (Bool)
  | 0, _, _ => none
  | k + 1, x0, x3 => if x3 < (x0.length : Int) then (if 0 ≤ x3 then (if ((rd_T37 x0 x3).f0) < 1 then (tithingref21_ValidUsers.j1 k x0 x3 true ((rd_T37 x0 x3).f0) ((rd_T37 x0 x3).f1) ((rd_T37 x0 x3).f2) ((rd_T37 x0 x3).f3)) else (if x3 > 0 then (if 0 ≤ (wrap64 (x3 - 1)) then (if (wrap64 (x3 - 1)) < (x0.length : Int) then (if ((rd_T37 x0 (wrap64 (x3 - 1))).f0) ≥ ((rd_T37 x0 x3).f0) then (tithingref21_ValidUsers.j1 k x0 x3 true ((rd_T37 x0 x3).f0) ((rd_T37 x0 x3).f1) ((rd_T37 x0 x3).f2) ((rd_T37 x0 x3).f3)) else (if (((rd_T37 x0 x3).f1).size : Int) < 1 then (tithingref21_ValidUsers.j1 k x0 x3 true ((rd_T37 x0 x3).f0) ((rd_T37 x0 x3).f1) ((rd_T37 x0 x3).f2) ((rd_T37 x0 x3).f3)) else (if (((rd_T37 x0 x3).f1).size : Int) > 31 then (tithingref21_ValidUsers.j1 k x0 x3 true ((rd_T37 x0 x3).f0) ((rd_T37 x0 x3).f1) ((rd_T37 x0 x3).f2) ((rd_T37 x0 x3).f3)) else (if ((rd_T37 x0 x3).f2) < 0 then (tithingref21_ValidUsers.j1 k x0 x3 true ((rd_T37 x0 x3).f0) ((rd_T37 x0 x3).f1) ((rd_T37 x0 x3).f2) ((rd_T37 x0 x3).f3)) else (if ((rd_T37 x0 x3).f2) > 2147483647 then (tithingref21_ValidUsers.j1 k x0 x3 true ((rd_T37 x0 x3).f0) ((rd_T37 x0 x3).f1) ((rd_T37 x0 x3).f2) ((rd_T37 x0 x3).f3)) else (tithingref21_ValidUsers.j1 k x0 x3 (decide ((((rd_T37 x0 x3).f3).length : Int) > 10)) ((rd_T37 x0 x3).f0) ((rd_T37 x0 x3).f1) ((rd_T37 x0 x3).f2) ((rd_T37 x0 x3).f3))))))) else (none)) else (none)) else (if (((rd_T37 x0 x3).f1).size : Int) < 1 then (tithingref21_ValidUsers.j1 k x0 x3 true ((rd_T37 x0 x3).f0) ((rd_T37 x0 x3).f1) ((rd_T37 x0 x3).f2) ((rd_T37 x0 x3).f3)) else (if (((rd_T37 x0 x3).f1).size : Int) > 31 then (tithingref21_ValidUsers.j1 k x0 x3 true ((rd_T37 x0 x3).f0) ((rd_T37 x0 x3).f1) ((rd_T37 x0 x3).f2) ((rd_T37 x0 x3).f3)) else (if ((rd_T37 x0 x3).f2) < 0 then (tithingref21_ValidUsers.j1 k x0 x3 true ((rd_T37 x0 x3).f0) ((rd_T37 x0 x3).f1) ((rd_T37 x0 x3).f2) ((rd_T37 x0 x3).f3)) else (if ((rd_T37 x0 x3).f2) > 2147483647 then (tithingref21_ValidUsers.j1 k x0 x3 true ((rd_T37 x0 x3).f0) ((rd_T37 x0 x3).f1) ((rd_T37 x0 x3).f2) ((rd_T37 x0 x3).f3)) else (tithingref21_ValidUsers.j1 k x0 x3 (decide ((((rd_T37 x0 x3).f3).length : Int) > 10)) ((rd_T37 x0 x3).f0) ((rd_T37 x0 x3).f1) ((rd_T37 x0 x3).f2) ((rd_T37 x0 x3).f3)))))))) else (none)) else (some (decide ((x0.length : Int) ≤ 20)))
def tithingref21_ValidUsers.j1 : Nat → List (S37) → Int → Bool → Int → ByteArray → Int → List Int → Option (Bool)
  | 0, _, _, _, _, _, _, _ => none
  | k + 1, x0, x3, x62, x199000, x199001, x199002, x199003 => if x62 = true then (some false) else (tithingref21_ValidUsers.l1 k x0 x3 0 x199000 x199001 x199002 x199003)
def tithingref21_ValidUsers.l1 : Nat → List (S37) → Int → Int → Int → ByteArray → Int → List Int → Option (Bool)
  | 0, _, _, _, _, _, _, _ => none
  | k + 1, x0, x3, x5, x199000, x199001, x199002, x199003 => if x5 < (x199003.length : Int) then (if 0 ≤ x5 then (if (rd x199003 x5) < 1 then (some false) else (if x5 > 0 then (if 0 ≤ (wrap64 (x5 - 1)) then (if (wrap64 (x5 - 1)) < (x199003.length : Int) then (if (rd x199003 (wrap64 (x5 - 1))) ≥ (rd x199003 x5) then (some false) else (tithingref21_ValidUsers.l1 k x0 x3 (wrap64 (x5 + 1)) x199000 x199001 x199002 x199003)) else (none)) else (none)) else (tithingref21_ValidUsers.l1 k x0 x3 (wrap64 (x5 + 1)) x199000 x199001 x199002 x199003))) else (none)) else (tithingref21_ValidUsers.l2 k x0 x3 0 x199000 x199001 x199002 x199003)
def tithingref21_ValidUsers.l2 : Nat → List (S37) → Int → Int → Int → ByteArray → Int → List Int → Option (Bool)
  | 0, _, _, _, _, _, _, _ => none
  | k + 1, x0, x3, x6, x199000, x199001, x199002, x199003 => if x6 < x3 then (if 0 ≤ x6 then (if x6 < (x0.length : Int) then ((tithingref01_Equal.f k ((rd_T37 x0 x6).f1) x199001).bind fun t204 => (if t204 = true then (some false) else (tithingref21_ValidUsers.l2 k x0 x3 (wrap64 (x6 + 1)) x199000 x199001 x199002 x199003))) else (none)) else (none)) else (tithingref21_ValidUsers.l0 k x0 (wrap64 (x3 + 1)))
end
def tithingref21_ValidUsers.f (k : Nat) (l0 : List (S37)) : Option (Bool) := tithingref21_ValidUsers.l0 k l0 0
theorem tithingref21_ValidUsers.mono_l : ∀ k, (∀ y0 y1, LeO (tithingref21_ValidUsers.l0 k y0 y1) (tithingref21_ValidUsers.l0 (k + 1) y0 y1)) ∧ (∀ y0 y1 y2 y3 y4 y5 y6, LeO (tithingref21_ValidUsers.j1 k y0 y1 y2 y3 y4 y5 y6) (tithingref21_ValidUsers.j1 (k + 1) y0 y1 y2 y3 y4 y5 y6)) ∧ (∀ y0 y1 y2 y3 y4 y5 y6, LeO (tithingref21_ValidUsers.l1 k y0 y1 y2 y3 y4 y5 y6) (tithingref21_ValidUsers.l1 (k + 1) y0 y1 y2 y3 y4 y5 y6)) ∧ (∀ y0 y1 y2 y3 y4 y5 y6, LeO (tithingref21_ValidUsers.l2 k y0 y1 y2 y3 y4 y5 y6) (tithingref21_ValidUsers.l2 (k + 1) y0 y1 y2 y3 y4 y5 y6))
  | 0 => ⟨fun _ _ r h => by simp [tithingref21_ValidUsers.l0] at h, fun _ _ _ _ _ _ _ r h => by simp [tithingref21_ValidUsers.j1] at h, fun _ _ _ _ _ _ _ r h => by simp [tithingref21_ValidUsers.l1] at h, fun _ _ _ _ _ _ _ r h => by simp [tithingref21_ValidUsers.l2] at h⟩
  | k + 1 => by
    obtain ⟨ih0, ih1, ih2, ih3⟩ := tithingref21_ValidUsers.mono_l k
    refine ⟨?_, ?_, ?_, ?_⟩
    · intro y0 y1
      unfold tithingref21_ValidUsers.l0
      repeat' first
      | (with_reducible exact ih0 _ _)
      | (with_reducible exact ih1 _ _ _ _ _ _ _)
      | (with_reducible exact ih2 _ _ _ _ _ _ _)
      | (with_reducible exact ih3 _ _ _ _ _ _ _)
      | (with_reducible exact tithingref01_Equal.mono _ _ _)
      | (with_reducible exact LeO.refl _)
      | (with_reducible exact LeO.none _)
      | (with_reducible refine LeO.ite ?_ ?_)
      | (with_reducible refine LeO.bind ?_ (fun _ => ?_))
      | exact ih0 _ _
      | exact ih1 _ _ _ _ _ _ _
      | exact ih2 _ _ _ _ _ _ _
      | exact ih3 _ _ _ _ _ _ _
      | exact tithingref01_Equal.mono _ _ _
      | exact LeO.none _
      | refine LeO.ite ?_ ?_
      | refine LeO.bind ?_ (fun _ => ?_)
    · intro y0 y1 y2 y3 y4 y5 y6
      unfold tithingref21_ValidUsers.j1
      repeat' first
      | (with_reducible exact ih0 _ _)
      | (with_reducible exact ih1 _ _ _ _ _ _ _)
      | (with_reducible exact ih2 _ _ _ _ _ _ _)
      | (with_reducible exact ih3 _ _ _ _ _ _ _)
      | (with_reducible exact tithingref01_Equal.mono _ _ _)
      | (with_reducible exact LeO.refl _)
      | (with_reducible exact LeO.none _)
      | (with_reducible refine LeO.ite ?_ ?_)
      | (with_reducible refine LeO.bind ?_ (fun _ => ?_))
      | exact ih0 _ _
      | exact ih1 _ _ _ _ _ _ _
      | exact ih2 _ _ _ _ _ _ _
      | exact ih3 _ _ _ _ _ _ _
      | exact tithingref01_Equal.mono _ _ _
      | exact LeO.none _
      | refine LeO.ite ?_ ?_
      | refine LeO.bind ?_ (fun _ => ?_)
    · intro y0 y1 y2 y3 y4 y5 y6
      unfold tithingref21_ValidUsers.l1
      repeat' first
      | (with_reducible exact ih0 _ _)
      | (with_reducible exact ih1 _ _ _ _ _ _ _)
      | (with_reducible exact ih2 _ _ _ _ _ _ _)
      | (with_reducible exact ih3 _ _ _ _ _ _ _)
      | (with_reducible exact tithingref01_Equal.mono _ _ _)
      | (with_reducible exact LeO.refl _)
      | (with_reducible exact LeO.none _)
      | (with_reducible refine LeO.ite ?_ ?_)
      | (with_reducible refine LeO.bind ?_ (fun _ => ?_))
      | exact ih0 _ _
      | exact ih1 _ _ _ _ _ _ _
      | exact ih2 _ _ _ _ _ _ _
      | exact ih3 _ _ _ _ _ _ _
      | exact tithingref01_Equal.mono _ _ _
      | exact LeO.none _
      | refine LeO.ite ?_ ?_
      | refine LeO.bind ?_ (fun _ => ?_)
    · intro y0 y1 y2 y3 y4 y5 y6
      unfold tithingref21_ValidUsers.l2
      repeat' first
      | (with_reducible exact ih0 _ _)
      | (with_reducible exact ih1 _ _ _ _ _ _ _)
      | (with_reducible exact ih2 _ _ _ _ _ _ _)
      | (with_reducible exact ih3 _ _ _ _ _ _ _)
      | (with_reducible exact tithingref01_Equal.mono _ _ _)
      | (with_reducible exact LeO.refl _)
      | (with_reducible exact LeO.none _)
      | (with_reducible refine LeO.ite ?_ ?_)
      | (with_reducible refine LeO.bind ?_ (fun _ => ?_))
      | exact ih0 _ _
      | exact ih1 _ _ _ _ _ _ _
      | exact ih2 _ _ _ _ _ _ _
      | exact ih3 _ _ _ _ _ _ _
      | exact tithingref01_Equal.mono _ _ _
      | exact LeO.none _
      | refine LeO.ite ?_ ?_
      | refine LeO.bind ?_ (fun _ => ?_)
theorem tithingref21_ValidUsers.mono : ∀ a0 k, LeO (tithingref21_ValidUsers.f k a0) (tithingref21_ValidUsers.f (k + 1) a0) := by
  intro a0 k
  obtain ⟨ih0, ih1, ih2, ih3⟩ := tithingref21_ValidUsers.mono_l k
  unfold tithingref21_ValidUsers.f
  repeat' first
      | (with_reducible exact ih0 _ _)
      | (with_reducible exact ih1 _ _ _ _ _ _ _)
      | (with_reducible exact ih2 _ _ _ _ _ _ _)
      | (with_reducible exact ih3 _ _ _ _ _ _ _)
      | (with_reducible exact tithingref01_Equal.mono _ _ _)
      | (with_reducible exact LeO.refl _)
      | (with_reducible exact LeO.none _)
      | (with_reducible refine LeO.ite ?_ ?_)
      | (with_reducible refine LeO.bind ?_ (fun _ => ?_))
      | exact ih0 _ _
      | exact ih1 _ _ _ _ _ _ _
      | exact ih2 _ _ _ _ _ _ _
      | exact ih3 _ _ _ _ _ _ _
      | exact tithingref01_Equal.mono _ _ _
      | exact LeO.none _
      | refine LeO.ite ?_ ?_
      | refine LeO.bind ?_ (fun _ => ?_)
set_option maxHeartbeats 8000000 in
set_option maxRecDepth 100000 in
theorem tithingref21_ValidUsers.calls (k : Nat) (A0 : Option Addr) (c0 : Nat) (l0 : List (S37)) (r : Bool) (w : World) (hr0 : Kd.C k37 w A0 l0.length l0) (hc0 : l0.length ≤ c0) (h : tithingref21_ValidUsers.f k l0 = some r) :
    Calls Try.prog 19 #[.slice A0 l0.length c0] w fun e w' => e = .returned (.bool r) ∧ Below w.heap.size w w' := by
  have hu37 := Try.underlying37
  have HR0 := Aside0.mk hr0
  have HC0 := Aside0.mk hc0
  clear hr0 hc0
  have HB := Aside0.mk (Below.refl w.heap.size w)
  have H : (tithingref21_ValidUsers.l0 k l0 0) = some r := h
  clear h
  have H' := Aside0.mk H
  clear H
  go_enter Try.func19, Try.ntmps19
  go_wp2
  repeat (go_quiet (fail); try go_wp2)
  go_loopg [3] k (fun kq v3 w' => ∃ (x3_1 : Int), v3 = .int .i64 x3_1 ∧ Aside0 (tithingref21_ValidUsers.l0 kq l0 x3_1 = some r) ∧ Aside0 (kq ≤ k) ∧ Aside0 (Below w.heap.size w w'))
  case atStart => exact ⟨(0), (by first | rfl | (simp; done) | (simp [*]; done)), H', ⟨Nat.le_refl _⟩, ⟨by repeat (first | (with_reducible first | exact HB.out | apply below_alloc | apply pw_below_drewN | apply below_drew1) | exact HB.out)⟩⟩
  case round =>
    clear H'
    try clear c1
    obtain ⟨x3_1, rfl, HA, HK1, HB⟩ := hrel
    cases gk with
    | zero => exact absurd HA.out (by simp [tithingref21_ValidUsers.l0])
    | succ k1 =>
      have H := HA.out
      clear HA
      simp only [tithingref21_ValidUsers.l0] at H
      by_cases c2 : x3_1 < (l0.length : Int)
      · rw [if_pos c2] at H
        have c2b0 : decide (x3_1 < (l0.length : Int)) = true := decide_eq_true c2
        clear c2
        by_cases c3 : 0 ≤ x3_1
        · rw [if_pos c3] at H
          have c3b0 : decide (0 ≤ x3_1) = true := decide_eq_true c3
          clear c3
          have HC4 := Aside0.mk H
          clear H
          have p197 : 0 ≤ (x3_1 : Int) := of_decide_eq_true (by first | (with_reducible assumption) | assumption)
          have q197 : x3_1 < (l0.length : Int) := of_decide_eq_true (by first | (with_reducible assumption) | assumption)
          obtain ⟨ad197, A197_3, c197_3, e197, hx197_0, hx197_1, hx197_2, hx197_3, hl197_3, hi197_3⟩ := at_T37 HR0.out x3_1 p197 q197
          cases e197
          replace hx197_0 := (HB.out.cell (World.block_lt_of_cell? w _ hx197_0)).trans hx197_0
          replace hx197_1 := (HB.out.cell (World.block_lt_of_cell? w _ hx197_1)).trans hx197_1
          replace hx197_2 := (HB.out.cell (World.block_lt_of_cell? w _ hx197_2)).trans hx197_2
          replace hx197_3 := (HB.out.cell (World.block_lt_of_cell? w _ hx197_3)).trans hx197_3
          have HR197_3 := Aside0.mk hi197_3
          have HC197_3 := Aside0.mk hl197_3
          clear hi197_3 hl197_3
          replace p197 := eq_true p197
          replace q197 := eq_true q197
          go_upto_region 5 with (first | ((with_reducible refine gate_dst (N := 4) rfl ?_); (try (refine gate_guard (by rfl) ?_; dsimp only)); refine box_event ?hg (N := 4) ?hd (cs := #[.int .i64 0, .string (⟨#[]⟩ : ByteArray), .int .i64 0, .slice none 0 0]) (t := 37) ?hr ?_; (case hd => rfl); (case hg => rfl); (case hr => first | (go_simp; done) | (go_simp; rfl)); intro gb198 hg w5 hbox hb; have n0_ := Aside0.mk (below_step (by repeat (first | (with_reducible first | exact HB.out | apply below_alloc | apply pw_below_drewN | apply below_drew1) | exact HB.out)) hb); have n1_ := Aside0.mk (hbox); have n2_ := Aside0.mk ((by rw [hg]; exact (below_size (by repeat (first | (with_reducible first | exact HB.out | apply below_alloc | apply pw_below_drewN | apply below_drew1) | exact HB.out))) : w.heap.size ≤ gb198)); have n3_ := Aside0.mk ((by rw [hg]; exact (below_size (by repeat (first | (with_reducible first | exact HB.out | apply below_alloc | apply pw_below_drewN | apply below_drew1) | exact HB.out))) : w.heap.size ≤ gb198)); clear HB; have HB := n0_; have BK198 := n1_; have GW198 := n2_; have GE198 := n3_; clear n0_ n1_ n2_ n3_; clear hb hbox hg; have hcz6_0 : w5.cell? ⟨gb198, 0, none⟩ = some (.int .i64 0) := (blk_cell BK198.out 0).trans rfl; have hcz6_1 : w5.cell? ⟨gb198, 1, none⟩ = some (.string (⟨#[]⟩ : ByteArray)) := (blk_cell BK198.out 1).trans rfl; have hcz6_2 : w5.cell? ⟨gb198, 2, none⟩ = some (.int .i64 0) := (blk_cell BK198.out 2).trans rfl; have hcz6_3 : w5.cell? ⟨gb198, 3, none⟩ = some (.slice none 0 0) := (blk_cell BK198.out 3).trans rfl; have hfz6_0 := blk_frozen BK198.out 0; have hfz6_1 := blk_frozen BK198.out 1; have hfz6_2 := blk_frozen BK198.out 2; have hfz6_3 := blk_frozen BK198.out 3))
          repeat (go_quiet (first | ((with_reducible refine gate_dst (N := 4) rfl ?_); (try (refine gate_guard (by rfl) ?_; dsimp only)); refine box_event ?hg (N := 4) ?hd (cs := #[.int .i64 0, .string (⟨#[]⟩ : ByteArray), .int .i64 0, .slice none 0 0]) (t := 37) ?hr ?_; (case hd => rfl); (case hg => rfl); (case hr => first | (go_simp; done) | (go_simp; rfl)); intro gb198 hg w5 hbox hb; have n0_ := Aside0.mk (below_step (by repeat (first | (with_reducible first | exact HB.out | apply below_alloc | apply pw_below_drewN | apply below_drew1) | exact HB.out)) hb); have n1_ := Aside0.mk (hbox); have n2_ := Aside0.mk ((by rw [hg]; exact (below_size (by repeat (first | (with_reducible first | exact HB.out | apply below_alloc | apply pw_below_drewN | apply below_drew1) | exact HB.out))) : w.heap.size ≤ gb198)); have n3_ := Aside0.mk ((by rw [hg]; exact (below_size (by repeat (first | (with_reducible first | exact HB.out | apply below_alloc | apply pw_below_drewN | apply below_drew1) | exact HB.out))) : w.heap.size ≤ gb198)); clear HB; have HB := n0_; have BK198 := n1_; have GW198 := n2_; have GE198 := n3_; clear n0_ n1_ n2_ n3_; clear hb hbox hg; have hcz6_0 : w5.cell? ⟨gb198, 0, none⟩ = some (.int .i64 0) := (blk_cell BK198.out 0).trans rfl; have hcz6_1 : w5.cell? ⟨gb198, 1, none⟩ = some (.string (⟨#[]⟩ : ByteArray)) := (blk_cell BK198.out 1).trans rfl; have hcz6_2 : w5.cell? ⟨gb198, 2, none⟩ = some (.int .i64 0) := (blk_cell BK198.out 2).trans rfl; have hcz6_3 : w5.cell? ⟨gb198, 3, none⟩ = some (.slice none 0 0) := (blk_cell BK198.out 3).trans rfl; have hfz6_0 := blk_frozen BK198.out 0; have hfz6_1 := blk_frozen BK198.out 1; have hfz6_2 := blk_frozen BK198.out 2; have hfz6_3 := blk_frozen BK198.out 3)); go_upto_region 5 with (first | ((with_reducible refine gate_dst (N := 4) rfl ?_); (try (refine gate_guard (by rfl) ?_; dsimp only)); refine box_event ?hg (N := 4) ?hd (cs := #[.int .i64 0, .string (⟨#[]⟩ : ByteArray), .int .i64 0, .slice none 0 0]) (t := 37) ?hr ?_; (case hd => rfl); (case hg => rfl); (case hr => first | (go_simp; done) | (go_simp; rfl)); intro gb198 hg w5 hbox hb; have n0_ := Aside0.mk (below_step (by repeat (first | (with_reducible first | exact HB.out | apply below_alloc | apply pw_below_drewN | apply below_drew1) | exact HB.out)) hb); have n1_ := Aside0.mk (hbox); have n2_ := Aside0.mk ((by rw [hg]; exact (below_size (by repeat (first | (with_reducible first | exact HB.out | apply below_alloc | apply pw_below_drewN | apply below_drew1) | exact HB.out))) : w.heap.size ≤ gb198)); have n3_ := Aside0.mk ((by rw [hg]; exact (below_size (by repeat (first | (with_reducible first | exact HB.out | apply below_alloc | apply pw_below_drewN | apply below_drew1) | exact HB.out))) : w.heap.size ≤ gb198)); clear HB; have HB := n0_; have BK198 := n1_; have GW198 := n2_; have GE198 := n3_; clear n0_ n1_ n2_ n3_; clear hb hbox hg; have hcz6_0 : w5.cell? ⟨gb198, 0, none⟩ = some (.int .i64 0) := (blk_cell BK198.out 0).trans rfl; have hcz6_1 : w5.cell? ⟨gb198, 1, none⟩ = some (.string (⟨#[]⟩ : ByteArray)) := (blk_cell BK198.out 1).trans rfl; have hcz6_2 : w5.cell? ⟨gb198, 2, none⟩ = some (.int .i64 0) := (blk_cell BK198.out 2).trans rfl; have hcz6_3 : w5.cell? ⟨gb198, 3, none⟩ = some (.slice none 0 0) := (blk_cell BK198.out 3).trans rfl; have hfz6_0 := blk_frozen BK198.out 0; have hfz6_1 := blk_frozen BK198.out 1; have hfz6_2 := blk_frozen BK198.out 2; have hfz6_3 := blk_frozen BK198.out 3)))
          (try simp only [Act.put, List.setIfInBounds_toArray, List.set_cons_zero, List.set_cons_succ])
          go_cut [62] (fun v62 wc => ∃ (kq : Nat) (x62_3 : Bool), v62 = .bool x62_3 ∧ Aside0 (tithingref21_ValidUsers.j1 kq l0 x3_1 x62_3 ((rd_T37 l0 x3_1).f0) ((rd_T37 l0 x3_1).f1) ((rd_T37 l0 x3_1).f2) ((rd_T37 l0 x3_1).f3) = some r) ∧ Aside0 (kq ≤ k1) ∧ Aside0 (wc.heap[gb198]? = some (.cells #[.int .i64 ((rd_T37 l0 x3_1).f0), .string ((rd_T37 l0 x3_1).f1), .int .i64 ((rd_T37 l0 x3_1).f2), (.slice A197_3 ((rd_T37 l0 x3_1).f3).length c197_3)] 37 (0, 0))) ∧ Aside0 (Below w.heap.size w wc))
          case first =>
            have H := HC4.out
            clear HC4
            by_cases c7 : ((rd_T37 l0 x3_1).f0) < 1
            · rw [if_pos c7] at H
              have c7b0 : decide (((rd_T37 l0 x3_1).f0) < 1) = true := decide_eq_true c7
              clear c7
              (first | rw [c7b0] | (simp only [i64_w, i32_w]; rw [c7b0]) | skip)
              have H' := Aside0.mk H
              clear H
              have hcz8_0 : w5.cell? ⟨gb198, 0, none⟩ = some (.int .i64 0) := (blk_cell BK198.out 0).trans rfl
              have hcz8_1 : w5.cell? ⟨gb198, 1, none⟩ = some (.string (⟨#[]⟩ : ByteArray)) := (blk_cell BK198.out 1).trans rfl
              have hcz8_2 : w5.cell? ⟨gb198, 2, none⟩ = some (.int .i64 0) := (blk_cell BK198.out 2).trans rfl
              have hcz8_3 : w5.cell? ⟨gb198, 3, none⟩ = some (.slice none 0 0) := (blk_cell BK198.out 3).trans rfl
              have hfz8_0 := blk_frozen BK198.out 0
              have hfz8_1 := blk_frozen BK198.out 1
              have hfz8_2 := blk_frozen BK198.out 2
              have hfz8_3 := blk_frozen BK198.out 3
              go_wp2
              repeat (go_quiet (fail); try go_wp2)
              go_meet
              case rel => exact ⟨_, (true), (by first | rfl | (simp; done) | (simp [*]; done)), H', ⟨by have := HK1.out; first | omega | exact Nat.le_refl _⟩, ⟨by (with_reducible repeat (first | refine blk_drewN ?_ _ | refine blk_drew ?_ | refine blk_alloc ?_ _)); refine blk_put (cs := #[.int .i64 ((rd_T37 l0 x3_1).f0), .string ((rd_T37 l0 x3_1).f1), .int .i64 ((rd_T37 l0 x3_1).f2), .slice none 0 0]) ?_ 3 _ rfl; (with_reducible repeat (first | refine blk_drewN ?_ _ | refine blk_drew ?_ | refine blk_alloc ?_ _)); refine blk_put (cs := #[.int .i64 ((rd_T37 l0 x3_1).f0), .string ((rd_T37 l0 x3_1).f1), .int .i64 0, .slice none 0 0]) ?_ 2 _ rfl; (with_reducible repeat (first | refine blk_drewN ?_ _ | refine blk_drew ?_ | refine blk_alloc ?_ _)); refine blk_put (cs := #[.int .i64 ((rd_T37 l0 x3_1).f0), .string (⟨#[]⟩ : ByteArray), .int .i64 0, .slice none 0 0]) ?_ 1 _ rfl; (with_reducible repeat (first | refine blk_drewN ?_ _ | refine blk_drew ?_ | refine blk_alloc ?_ _)); refine blk_put (cs := #[.int .i64 0, .string (⟨#[]⟩ : ByteArray), .int .i64 0, .slice none 0 0]) ?_ 0 _ rfl; (with_reducible repeat (first | refine blk_drewN ?_ _ | refine blk_drew ?_ | refine blk_alloc ?_ _)); exact BK198.out⟩, ⟨by repeat (first | (with_reducible first | exact HB.out | apply below_alloc | apply pw_below_drewN | apply below_drew1 | refine below_set ?_ GE198.out) | exact HB.out)⟩⟩
            · rw [if_neg c7] at H
              have c7b0 : decide (((rd_T37 l0 x3_1).f0) < 1) = false := decide_eq_false c7
              clear c7
              (first | rw [c7b0] | (simp only [i64_w, i32_w]; rw [c7b0]) | skip)
              by_cases c9 : x3_1 > 0
              · rw [if_pos c9] at H
                have c9b0 : decide (0 < x3_1) = true := decide_eq_true c9
                clear c9
                obtain ⟨ji10, hji10⟩ : ∃ j_ : Int, (wrap64 (x3_1 - 1)) = j_ := ⟨_, rfl⟩
                replace H : (if 0 ≤ (ji10) then (if (ji10) < (l0.length : Int) then (if ((rd_T37 l0 (ji10)).f0) ≥ ((rd_T37 l0 x3_1).f0) then (tithingref21_ValidUsers.j1 k1 l0 x3_1 true ((rd_T37 l0 x3_1).f0) ((rd_T37 l0 x3_1).f1) ((rd_T37 l0 x3_1).f2) ((rd_T37 l0 x3_1).f3)) else (if (((rd_T37 l0 x3_1).f1).size : Int) < 1 then (tithingref21_ValidUsers.j1 k1 l0 x3_1 true ((rd_T37 l0 x3_1).f0) ((rd_T37 l0 x3_1).f1) ((rd_T37 l0 x3_1).f2) ((rd_T37 l0 x3_1).f3)) else (if (((rd_T37 l0 x3_1).f1).size : Int) > 31 then (tithingref21_ValidUsers.j1 k1 l0 x3_1 true ((rd_T37 l0 x3_1).f0) ((rd_T37 l0 x3_1).f1) ((rd_T37 l0 x3_1).f2) ((rd_T37 l0 x3_1).f3)) else (if ((rd_T37 l0 x3_1).f2) < 0 then (tithingref21_ValidUsers.j1 k1 l0 x3_1 true ((rd_T37 l0 x3_1).f0) ((rd_T37 l0 x3_1).f1) ((rd_T37 l0 x3_1).f2) ((rd_T37 l0 x3_1).f3)) else (if ((rd_T37 l0 x3_1).f2) > 2147483647 then (tithingref21_ValidUsers.j1 k1 l0 x3_1 true ((rd_T37 l0 x3_1).f0) ((rd_T37 l0 x3_1).f1) ((rd_T37 l0 x3_1).f2) ((rd_T37 l0 x3_1).f3)) else (tithingref21_ValidUsers.j1 k1 l0 x3_1 (decide ((((rd_T37 l0 x3_1).f3).length : Int) > 10)) ((rd_T37 l0 x3_1).f0) ((rd_T37 l0 x3_1).f1) ((rd_T37 l0 x3_1).f2) ((rd_T37 l0 x3_1).f3))))))) else (none)) else (none)) = some r := by first | (rw [hji10] at H; exact H) | (simp only [hji10] at H ⊢; exact H)
                have hji10w : (IntKind.i64.wrap (x3_1 - 1)) = ji10 := (i64_w _).trans hji10
                by_cases c11 : 0 ≤ (ji10)
                · rw [if_pos c11] at H
                  have c11b0 : decide (0 ≤ (ji10)) = true := decide_eq_true c11
                  clear c11
                  by_cases c12 : (ji10) < (l0.length : Int)
                  · rw [if_pos c12] at H
                    have c12b0 : decide ((ji10) < (l0.length : Int)) = true := decide_eq_true c12
                    clear c12
                    by_cases c13 : ((rd_T37 l0 (ji10)).f0) ≥ ((rd_T37 l0 x3_1).f0)
                    · rw [if_pos c13] at H
                      have c13b0 : decide (((rd_T37 l0 x3_1).f0) ≤ ((rd_T37 l0 (ji10)).f0)) = true := decide_eq_true c13
                      clear c13
                      have H' := Aside0.mk H
                      clear H
                      have hcz14_0 : w5.cell? ⟨gb198, 0, none⟩ = some (.int .i64 0) := (blk_cell BK198.out 0).trans rfl
                      have hcz14_1 : w5.cell? ⟨gb198, 1, none⟩ = some (.string (⟨#[]⟩ : ByteArray)) := (blk_cell BK198.out 1).trans rfl
                      have hcz14_2 : w5.cell? ⟨gb198, 2, none⟩ = some (.int .i64 0) := (blk_cell BK198.out 2).trans rfl
                      have hcz14_3 : w5.cell? ⟨gb198, 3, none⟩ = some (.slice none 0 0) := (blk_cell BK198.out 3).trans rfl
                      have hfz14_0 := blk_frozen BK198.out 0
                      have hfz14_1 := blk_frozen BK198.out 1
                      have hfz14_2 := blk_frozen BK198.out 2
                      have hfz14_3 := blk_frozen BK198.out 3
                      have p199 : 0 ≤ ((ji10) : Int) := of_decide_eq_true (by first | (with_reducible assumption) | assumption)
                      have q199 : (ji10) < (l0.length : Int) := of_decide_eq_true (by first | (with_reducible assumption) | assumption)
                      obtain ⟨ad199, A199_3, c199_3, e199, hx199_0, hx199_1, hx199_2, hx199_3, hl199_3, hi199_3⟩ := at_T37 HR0.out (ji10) p199 q199
                      obtain rfl : ad197 = ad199 := (by injection e199)
                      have hn199_0 : ad197.block ≠ gb198 := Nat.ne_of_lt (Nat.lt_of_lt_of_le (by have := World.block_lt_of_cell? _ _ hx199_0; first | rwa [add_block] at this | exact this) GW198.out)
                      have hn199_1 : ad197.block ≠ gb198 := Nat.ne_of_lt (Nat.lt_of_lt_of_le (by have := World.block_lt_of_cell? _ _ hx199_0; first | rwa [add_block] at this | exact this) GW198.out)
                      have hn199_2 : ad197.block ≠ gb198 := Nat.ne_of_lt (Nat.lt_of_lt_of_le (by have := World.block_lt_of_cell? _ _ hx199_0; first | rwa [add_block] at this | exact this) GW198.out)
                      have hn199_3 : ad197.block ≠ gb198 := Nat.ne_of_lt (Nat.lt_of_lt_of_le (by have := World.block_lt_of_cell? _ _ hx199_0; first | rwa [add_block] at this | exact this) GW198.out)
                      replace hx199_0 := (HB.out.cell (World.block_lt_of_cell? w _ hx199_0)).trans hx199_0
                      replace hx199_1 := (HB.out.cell (World.block_lt_of_cell? w _ hx199_1)).trans hx199_1
                      replace hx199_2 := (HB.out.cell (World.block_lt_of_cell? w _ hx199_2)).trans hx199_2
                      replace hx199_3 := (HB.out.cell (World.block_lt_of_cell? w _ hx199_3)).trans hx199_3
                      have HR199_3 := Aside0.mk hi199_3
                      have HC199_3 := Aside0.mk hl199_3
                      clear hi199_3 hl199_3
                      replace hx199_0 := (cell_far (p := ⟨gb198, 0, none⟩) (by first | (rw [add_block]; exact hn199_0) | (show (Addr.add _ _).block ≠ _; rw [add_block]; exact hn199_0) | exact hn199_0) (.int .i64 ((rd_T37 l0 x3_1).f0))).trans hx199_0
                      replace hx199_1 := (cell_far (p := ⟨gb198, 0, none⟩) (by first | (rw [add_block]; exact hn199_0) | (show (Addr.add _ _).block ≠ _; rw [add_block]; exact hn199_0) | exact hn199_0) (.int .i64 ((rd_T37 l0 x3_1).f0))).trans hx199_1
                      replace hx199_2 := (cell_far (p := ⟨gb198, 0, none⟩) (by first | (rw [add_block]; exact hn199_0) | (show (Addr.add _ _).block ≠ _; rw [add_block]; exact hn199_0) | exact hn199_0) (.int .i64 ((rd_T37 l0 x3_1).f0))).trans hx199_2
                      replace hx199_3 := (cell_far (p := ⟨gb198, 0, none⟩) (by first | (rw [add_block]; exact hn199_0) | (show (Addr.add _ _).block ≠ _; rw [add_block]; exact hn199_0) | exact hn199_0) (.int .i64 ((rd_T37 l0 x3_1).f0))).trans hx199_3
                      replace hx199_0 := (cell_far (p := ⟨gb198, 1, none⟩) (by first | (rw [add_block]; exact hn199_1) | (show (Addr.add _ _).block ≠ _; rw [add_block]; exact hn199_1) | exact hn199_1) (.string ((rd_T37 l0 x3_1).f1))).trans hx199_0
                      replace hx199_1 := (cell_far (p := ⟨gb198, 1, none⟩) (by first | (rw [add_block]; exact hn199_1) | (show (Addr.add _ _).block ≠ _; rw [add_block]; exact hn199_1) | exact hn199_1) (.string ((rd_T37 l0 x3_1).f1))).trans hx199_1
                      replace hx199_2 := (cell_far (p := ⟨gb198, 1, none⟩) (by first | (rw [add_block]; exact hn199_1) | (show (Addr.add _ _).block ≠ _; rw [add_block]; exact hn199_1) | exact hn199_1) (.string ((rd_T37 l0 x3_1).f1))).trans hx199_2
                      replace hx199_3 := (cell_far (p := ⟨gb198, 1, none⟩) (by first | (rw [add_block]; exact hn199_1) | (show (Addr.add _ _).block ≠ _; rw [add_block]; exact hn199_1) | exact hn199_1) (.string ((rd_T37 l0 x3_1).f1))).trans hx199_3
                      replace hx199_0 := (cell_far (p := ⟨gb198, 2, none⟩) (by first | (rw [add_block]; exact hn199_2) | (show (Addr.add _ _).block ≠ _; rw [add_block]; exact hn199_2) | exact hn199_2) (.int .i64 ((rd_T37 l0 x3_1).f2))).trans hx199_0
                      replace hx199_1 := (cell_far (p := ⟨gb198, 2, none⟩) (by first | (rw [add_block]; exact hn199_2) | (show (Addr.add _ _).block ≠ _; rw [add_block]; exact hn199_2) | exact hn199_2) (.int .i64 ((rd_T37 l0 x3_1).f2))).trans hx199_1
                      replace hx199_2 := (cell_far (p := ⟨gb198, 2, none⟩) (by first | (rw [add_block]; exact hn199_2) | (show (Addr.add _ _).block ≠ _; rw [add_block]; exact hn199_2) | exact hn199_2) (.int .i64 ((rd_T37 l0 x3_1).f2))).trans hx199_2
                      replace hx199_3 := (cell_far (p := ⟨gb198, 2, none⟩) (by first | (rw [add_block]; exact hn199_2) | (show (Addr.add _ _).block ≠ _; rw [add_block]; exact hn199_2) | exact hn199_2) (.int .i64 ((rd_T37 l0 x3_1).f2))).trans hx199_3
                      replace hx199_0 := (cell_far (p := ⟨gb198, 3, none⟩) (by first | (rw [add_block]; exact hn199_3) | (show (Addr.add _ _).block ≠ _; rw [add_block]; exact hn199_3) | exact hn199_3) (.slice A197_3 ((rd_T37 l0 x3_1).f3).length c197_3)).trans hx199_0
                      replace hx199_1 := (cell_far (p := ⟨gb198, 3, none⟩) (by first | (rw [add_block]; exact hn199_3) | (show (Addr.add _ _).block ≠ _; rw [add_block]; exact hn199_3) | exact hn199_3) (.slice A197_3 ((rd_T37 l0 x3_1).f3).length c197_3)).trans hx199_1
                      replace hx199_2 := (cell_far (p := ⟨gb198, 3, none⟩) (by first | (rw [add_block]; exact hn199_3) | (show (Addr.add _ _).block ≠ _; rw [add_block]; exact hn199_3) | exact hn199_3) (.slice A197_3 ((rd_T37 l0 x3_1).f3).length c197_3)).trans hx199_2
                      replace hx199_3 := (cell_far (p := ⟨gb198, 3, none⟩) (by first | (rw [add_block]; exact hn199_3) | (show (Addr.add _ _).block ≠ _; rw [add_block]; exact hn199_3) | exact hn199_3) (.slice A197_3 ((rd_T37 l0 x3_1).f3).length c197_3)).trans hx199_3
                      (try have hy199_0 := fun (n_ : Nat) => (show ((((((w5.drewN n_).setCell ⟨gb198, 0, none⟩ (.int .i64 ((rd_T37 l0 x3_1).f0))).setCell ⟨gb198, 1, none⟩ (.string ((rd_T37 l0 x3_1).f1))).setCell ⟨gb198, 2, none⟩ (.int .i64 ((rd_T37 l0 x3_1).f2))).setCell ⟨gb198, 3, none⟩ (.slice A197_3 ((rd_T37 l0 x3_1).f3).length c197_3))).cell? _ = some _ from hx199_0))
                      (try have hy199_1 := fun (n_ : Nat) => (show ((((((w5.drewN n_).setCell ⟨gb198, 0, none⟩ (.int .i64 ((rd_T37 l0 x3_1).f0))).setCell ⟨gb198, 1, none⟩ (.string ((rd_T37 l0 x3_1).f1))).setCell ⟨gb198, 2, none⟩ (.int .i64 ((rd_T37 l0 x3_1).f2))).setCell ⟨gb198, 3, none⟩ (.slice A197_3 ((rd_T37 l0 x3_1).f3).length c197_3))).cell? _ = some _ from hx199_1))
                      (try have hy199_2 := fun (n_ : Nat) => (show ((((((w5.drewN n_).setCell ⟨gb198, 0, none⟩ (.int .i64 ((rd_T37 l0 x3_1).f0))).setCell ⟨gb198, 1, none⟩ (.string ((rd_T37 l0 x3_1).f1))).setCell ⟨gb198, 2, none⟩ (.int .i64 ((rd_T37 l0 x3_1).f2))).setCell ⟨gb198, 3, none⟩ (.slice A197_3 ((rd_T37 l0 x3_1).f3).length c197_3))).cell? _ = some _ from hx199_2))
                      (try have hy199_3 := fun (n_ : Nat) => (show ((((((w5.drewN n_).setCell ⟨gb198, 0, none⟩ (.int .i64 ((rd_T37 l0 x3_1).f0))).setCell ⟨gb198, 1, none⟩ (.string ((rd_T37 l0 x3_1).f1))).setCell ⟨gb198, 2, none⟩ (.int .i64 ((rd_T37 l0 x3_1).f2))).setCell ⟨gb198, 3, none⟩ (.slice A197_3 ((rd_T37 l0 x3_1).f3).length c197_3))).cell? _ = some _ from hx199_3))
                      clear hn199_0
                      clear hn199_1
                      clear hn199_2
                      clear hn199_3
                      replace p199 := eq_true p199
                      replace q199 := eq_true q199
                      go_wp2
                      repeat (go_quiet (fail); try go_wp2)
                      go_meet
                      case rel => exact ⟨_, (true), (by first | rfl | (simp; done) | (simp [*]; done)), H', ⟨by have := HK1.out; first | omega | exact Nat.le_refl _⟩, ⟨by (with_reducible repeat (first | refine blk_drewN ?_ _ | refine blk_drew ?_ | refine blk_alloc ?_ _)); refine blk_put (cs := #[.int .i64 ((rd_T37 l0 x3_1).f0), .string ((rd_T37 l0 x3_1).f1), .int .i64 ((rd_T37 l0 x3_1).f2), .slice none 0 0]) ?_ 3 _ rfl; (with_reducible repeat (first | refine blk_drewN ?_ _ | refine blk_drew ?_ | refine blk_alloc ?_ _)); refine blk_put (cs := #[.int .i64 ((rd_T37 l0 x3_1).f0), .string ((rd_T37 l0 x3_1).f1), .int .i64 0, .slice none 0 0]) ?_ 2 _ rfl; (with_reducible repeat (first | refine blk_drewN ?_ _ | refine blk_drew ?_ | refine blk_alloc ?_ _)); refine blk_put (cs := #[.int .i64 ((rd_T37 l0 x3_1).f0), .string (⟨#[]⟩ : ByteArray), .int .i64 0, .slice none 0 0]) ?_ 1 _ rfl; (with_reducible repeat (first | refine blk_drewN ?_ _ | refine blk_drew ?_ | refine blk_alloc ?_ _)); refine blk_put (cs := #[.int .i64 0, .string (⟨#[]⟩ : ByteArray), .int .i64 0, .slice none 0 0]) ?_ 0 _ rfl; (with_reducible repeat (first | refine blk_drewN ?_ _ | refine blk_drew ?_ | refine blk_alloc ?_ _)); exact BK198.out⟩, ⟨by repeat (first | (with_reducible first | exact HB.out | apply below_alloc | apply pw_below_drewN | apply below_drew1 | refine below_set ?_ GE198.out) | exact HB.out)⟩⟩
                    · rw [if_neg c13] at H
                      have c13b0 : decide (((rd_T37 l0 x3_1).f0) ≤ ((rd_T37 l0 (ji10)).f0)) = false := decide_eq_false c13
                      clear c13
                      by_cases c15 : (((rd_T37 l0 x3_1).f1).size : Int) < 1
                      · rw [if_pos c15] at H
                        have c15b0 : decide ((((rd_T37 l0 x3_1).f1).size : Int) < 1) = true := decide_eq_true c15
                        have c15b1 : decide (((rd_T37 l0 x3_1).f1).size < 1) = true := decide_eq_true (by omega)
                        clear c15
                        have H' := Aside0.mk H
                        clear H
                        have hcz16_0 : w5.cell? ⟨gb198, 0, none⟩ = some (.int .i64 0) := (blk_cell BK198.out 0).trans rfl
                        have hcz16_1 : w5.cell? ⟨gb198, 1, none⟩ = some (.string (⟨#[]⟩ : ByteArray)) := (blk_cell BK198.out 1).trans rfl
                        have hcz16_2 : w5.cell? ⟨gb198, 2, none⟩ = some (.int .i64 0) := (blk_cell BK198.out 2).trans rfl
                        have hcz16_3 : w5.cell? ⟨gb198, 3, none⟩ = some (.slice none 0 0) := (blk_cell BK198.out 3).trans rfl
                        have hfz16_0 := blk_frozen BK198.out 0
                        have hfz16_1 := blk_frozen BK198.out 1
                        have hfz16_2 := blk_frozen BK198.out 2
                        have hfz16_3 := blk_frozen BK198.out 3
                        have p199 : 0 ≤ ((ji10) : Int) := of_decide_eq_true (by first | (with_reducible assumption) | assumption)
                        have q199 : (ji10) < (l0.length : Int) := of_decide_eq_true (by first | (with_reducible assumption) | assumption)
                        obtain ⟨ad199, A199_3, c199_3, e199, hx199_0, hx199_1, hx199_2, hx199_3, hl199_3, hi199_3⟩ := at_T37 HR0.out (ji10) p199 q199
                        obtain rfl : ad197 = ad199 := (by injection e199)
                        have hn199_0 : ad197.block ≠ gb198 := Nat.ne_of_lt (Nat.lt_of_lt_of_le (by have := World.block_lt_of_cell? _ _ hx199_0; first | rwa [add_block] at this | exact this) GW198.out)
                        have hn199_1 : ad197.block ≠ gb198 := Nat.ne_of_lt (Nat.lt_of_lt_of_le (by have := World.block_lt_of_cell? _ _ hx199_0; first | rwa [add_block] at this | exact this) GW198.out)
                        have hn199_2 : ad197.block ≠ gb198 := Nat.ne_of_lt (Nat.lt_of_lt_of_le (by have := World.block_lt_of_cell? _ _ hx199_0; first | rwa [add_block] at this | exact this) GW198.out)
                        have hn199_3 : ad197.block ≠ gb198 := Nat.ne_of_lt (Nat.lt_of_lt_of_le (by have := World.block_lt_of_cell? _ _ hx199_0; first | rwa [add_block] at this | exact this) GW198.out)
                        replace hx199_0 := (HB.out.cell (World.block_lt_of_cell? w _ hx199_0)).trans hx199_0
                        replace hx199_1 := (HB.out.cell (World.block_lt_of_cell? w _ hx199_1)).trans hx199_1
                        replace hx199_2 := (HB.out.cell (World.block_lt_of_cell? w _ hx199_2)).trans hx199_2
                        replace hx199_3 := (HB.out.cell (World.block_lt_of_cell? w _ hx199_3)).trans hx199_3
                        have HR199_3 := Aside0.mk hi199_3
                        have HC199_3 := Aside0.mk hl199_3
                        clear hi199_3 hl199_3
                        replace hx199_0 := (cell_far (p := ⟨gb198, 0, none⟩) (by first | (rw [add_block]; exact hn199_0) | (show (Addr.add _ _).block ≠ _; rw [add_block]; exact hn199_0) | exact hn199_0) (.int .i64 ((rd_T37 l0 x3_1).f0))).trans hx199_0
                        replace hx199_1 := (cell_far (p := ⟨gb198, 0, none⟩) (by first | (rw [add_block]; exact hn199_0) | (show (Addr.add _ _).block ≠ _; rw [add_block]; exact hn199_0) | exact hn199_0) (.int .i64 ((rd_T37 l0 x3_1).f0))).trans hx199_1
                        replace hx199_2 := (cell_far (p := ⟨gb198, 0, none⟩) (by first | (rw [add_block]; exact hn199_0) | (show (Addr.add _ _).block ≠ _; rw [add_block]; exact hn199_0) | exact hn199_0) (.int .i64 ((rd_T37 l0 x3_1).f0))).trans hx199_2
                        replace hx199_3 := (cell_far (p := ⟨gb198, 0, none⟩) (by first | (rw [add_block]; exact hn199_0) | (show (Addr.add _ _).block ≠ _; rw [add_block]; exact hn199_0) | exact hn199_0) (.int .i64 ((rd_T37 l0 x3_1).f0))).trans hx199_3
                        replace hx199_0 := (cell_far (p := ⟨gb198, 1, none⟩) (by first | (rw [add_block]; exact hn199_1) | (show (Addr.add _ _).block ≠ _; rw [add_block]; exact hn199_1) | exact hn199_1) (.string ((rd_T37 l0 x3_1).f1))).trans hx199_0
                        replace hx199_1 := (cell_far (p := ⟨gb198, 1, none⟩) (by first | (rw [add_block]; exact hn199_1) | (show (Addr.add _ _).block ≠ _; rw [add_block]; exact hn199_1) | exact hn199_1) (.string ((rd_T37 l0 x3_1).f1))).trans hx199_1
                        replace hx199_2 := (cell_far (p := ⟨gb198, 1, none⟩) (by first | (rw [add_block]; exact hn199_1) | (show (Addr.add _ _).block ≠ _; rw [add_block]; exact hn199_1) | exact hn199_1) (.string ((rd_T37 l0 x3_1).f1))).trans hx199_2
                        replace hx199_3 := (cell_far (p := ⟨gb198, 1, none⟩) (by first | (rw [add_block]; exact hn199_1) | (show (Addr.add _ _).block ≠ _; rw [add_block]; exact hn199_1) | exact hn199_1) (.string ((rd_T37 l0 x3_1).f1))).trans hx199_3
                        replace hx199_0 := (cell_far (p := ⟨gb198, 2, none⟩) (by first | (rw [add_block]; exact hn199_2) | (show (Addr.add _ _).block ≠ _; rw [add_block]; exact hn199_2) | exact hn199_2) (.int .i64 ((rd_T37 l0 x3_1).f2))).trans hx199_0
                        replace hx199_1 := (cell_far (p := ⟨gb198, 2, none⟩) (by first | (rw [add_block]; exact hn199_2) | (show (Addr.add _ _).block ≠ _; rw [add_block]; exact hn199_2) | exact hn199_2) (.int .i64 ((rd_T37 l0 x3_1).f2))).trans hx199_1
                        replace hx199_2 := (cell_far (p := ⟨gb198, 2, none⟩) (by first | (rw [add_block]; exact hn199_2) | (show (Addr.add _ _).block ≠ _; rw [add_block]; exact hn199_2) | exact hn199_2) (.int .i64 ((rd_T37 l0 x3_1).f2))).trans hx199_2
                        replace hx199_3 := (cell_far (p := ⟨gb198, 2, none⟩) (by first | (rw [add_block]; exact hn199_2) | (show (Addr.add _ _).block ≠ _; rw [add_block]; exact hn199_2) | exact hn199_2) (.int .i64 ((rd_T37 l0 x3_1).f2))).trans hx199_3
                        replace hx199_0 := (cell_far (p := ⟨gb198, 3, none⟩) (by first | (rw [add_block]; exact hn199_3) | (show (Addr.add _ _).block ≠ _; rw [add_block]; exact hn199_3) | exact hn199_3) (.slice A197_3 ((rd_T37 l0 x3_1).f3).length c197_3)).trans hx199_0
                        replace hx199_1 := (cell_far (p := ⟨gb198, 3, none⟩) (by first | (rw [add_block]; exact hn199_3) | (show (Addr.add _ _).block ≠ _; rw [add_block]; exact hn199_3) | exact hn199_3) (.slice A197_3 ((rd_T37 l0 x3_1).f3).length c197_3)).trans hx199_1
                        replace hx199_2 := (cell_far (p := ⟨gb198, 3, none⟩) (by first | (rw [add_block]; exact hn199_3) | (show (Addr.add _ _).block ≠ _; rw [add_block]; exact hn199_3) | exact hn199_3) (.slice A197_3 ((rd_T37 l0 x3_1).f3).length c197_3)).trans hx199_2
                        replace hx199_3 := (cell_far (p := ⟨gb198, 3, none⟩) (by first | (rw [add_block]; exact hn199_3) | (show (Addr.add _ _).block ≠ _; rw [add_block]; exact hn199_3) | exact hn199_3) (.slice A197_3 ((rd_T37 l0 x3_1).f3).length c197_3)).trans hx199_3
                        (try have hy199_0 := fun (n_ : Nat) => (show ((((((w5.drewN n_).setCell ⟨gb198, 0, none⟩ (.int .i64 ((rd_T37 l0 x3_1).f0))).setCell ⟨gb198, 1, none⟩ (.string ((rd_T37 l0 x3_1).f1))).setCell ⟨gb198, 2, none⟩ (.int .i64 ((rd_T37 l0 x3_1).f2))).setCell ⟨gb198, 3, none⟩ (.slice A197_3 ((rd_T37 l0 x3_1).f3).length c197_3))).cell? _ = some _ from hx199_0))
                        (try have hy199_1 := fun (n_ : Nat) => (show ((((((w5.drewN n_).setCell ⟨gb198, 0, none⟩ (.int .i64 ((rd_T37 l0 x3_1).f0))).setCell ⟨gb198, 1, none⟩ (.string ((rd_T37 l0 x3_1).f1))).setCell ⟨gb198, 2, none⟩ (.int .i64 ((rd_T37 l0 x3_1).f2))).setCell ⟨gb198, 3, none⟩ (.slice A197_3 ((rd_T37 l0 x3_1).f3).length c197_3))).cell? _ = some _ from hx199_1))
                        (try have hy199_2 := fun (n_ : Nat) => (show ((((((w5.drewN n_).setCell ⟨gb198, 0, none⟩ (.int .i64 ((rd_T37 l0 x3_1).f0))).setCell ⟨gb198, 1, none⟩ (.string ((rd_T37 l0 x3_1).f1))).setCell ⟨gb198, 2, none⟩ (.int .i64 ((rd_T37 l0 x3_1).f2))).setCell ⟨gb198, 3, none⟩ (.slice A197_3 ((rd_T37 l0 x3_1).f3).length c197_3))).cell? _ = some _ from hx199_2))
                        (try have hy199_3 := fun (n_ : Nat) => (show ((((((w5.drewN n_).setCell ⟨gb198, 0, none⟩ (.int .i64 ((rd_T37 l0 x3_1).f0))).setCell ⟨gb198, 1, none⟩ (.string ((rd_T37 l0 x3_1).f1))).setCell ⟨gb198, 2, none⟩ (.int .i64 ((rd_T37 l0 x3_1).f2))).setCell ⟨gb198, 3, none⟩ (.slice A197_3 ((rd_T37 l0 x3_1).f3).length c197_3))).cell? _ = some _ from hx199_3))
                        clear hn199_0
                        clear hn199_1
                        clear hn199_2
                        clear hn199_3
                        replace p199 := eq_true p199
                        replace q199 := eq_true q199
                        go_wp2
                        repeat (go_quiet (fail); try go_wp2)
                        go_meet
                        case rel => exact ⟨_, (true), (by first | rfl | (simp; done) | (simp [*]; done)), H', ⟨by have := HK1.out; first | omega | exact Nat.le_refl _⟩, ⟨by (with_reducible repeat (first | refine blk_drewN ?_ _ | refine blk_drew ?_ | refine blk_alloc ?_ _)); refine blk_put (cs := #[.int .i64 ((rd_T37 l0 x3_1).f0), .string ((rd_T37 l0 x3_1).f1), .int .i64 ((rd_T37 l0 x3_1).f2), .slice none 0 0]) ?_ 3 _ rfl; (with_reducible repeat (first | refine blk_drewN ?_ _ | refine blk_drew ?_ | refine blk_alloc ?_ _)); refine blk_put (cs := #[.int .i64 ((rd_T37 l0 x3_1).f0), .string ((rd_T37 l0 x3_1).f1), .int .i64 0, .slice none 0 0]) ?_ 2 _ rfl; (with_reducible repeat (first | refine blk_drewN ?_ _ | refine blk_drew ?_ | refine blk_alloc ?_ _)); refine blk_put (cs := #[.int .i64 ((rd_T37 l0 x3_1).f0), .string (⟨#[]⟩ : ByteArray), .int .i64 0, .slice none 0 0]) ?_ 1 _ rfl; (with_reducible repeat (first | refine blk_drewN ?_ _ | refine blk_drew ?_ | refine blk_alloc ?_ _)); refine blk_put (cs := #[.int .i64 0, .string (⟨#[]⟩ : ByteArray), .int .i64 0, .slice none 0 0]) ?_ 0 _ rfl; (with_reducible repeat (first | refine blk_drewN ?_ _ | refine blk_drew ?_ | refine blk_alloc ?_ _)); exact BK198.out⟩, ⟨by repeat (first | (with_reducible first | exact HB.out | apply below_alloc | apply pw_below_drewN | apply below_drew1 | refine below_set ?_ GE198.out) | exact HB.out)⟩⟩
                      · rw [if_neg c15] at H
                        have c15b0 : decide ((((rd_T37 l0 x3_1).f1).size : Int) < 1) = false := decide_eq_false c15
                        have c15b1 : decide (((rd_T37 l0 x3_1).f1).size < 1) = false := decide_eq_false (by omega)
                        clear c15
                        by_cases c17 : (((rd_T37 l0 x3_1).f1).size : Int) > 31
                        · rw [if_pos c17] at H
                          have c17b0 : decide (31 < (((rd_T37 l0 x3_1).f1).size : Int)) = true := decide_eq_true c17
                          have c17b1 : decide (31 < ((rd_T37 l0 x3_1).f1).size) = true := decide_eq_true (by omega)
                          clear c17
                          have H' := Aside0.mk H
                          clear H
                          have hcz18_0 : w5.cell? ⟨gb198, 0, none⟩ = some (.int .i64 0) := (blk_cell BK198.out 0).trans rfl
                          have hcz18_1 : w5.cell? ⟨gb198, 1, none⟩ = some (.string (⟨#[]⟩ : ByteArray)) := (blk_cell BK198.out 1).trans rfl
                          have hcz18_2 : w5.cell? ⟨gb198, 2, none⟩ = some (.int .i64 0) := (blk_cell BK198.out 2).trans rfl
                          have hcz18_3 : w5.cell? ⟨gb198, 3, none⟩ = some (.slice none 0 0) := (blk_cell BK198.out 3).trans rfl
                          have hfz18_0 := blk_frozen BK198.out 0
                          have hfz18_1 := blk_frozen BK198.out 1
                          have hfz18_2 := blk_frozen BK198.out 2
                          have hfz18_3 := blk_frozen BK198.out 3
                          have p199 : 0 ≤ ((ji10) : Int) := of_decide_eq_true (by first | (with_reducible assumption) | assumption)
                          have q199 : (ji10) < (l0.length : Int) := of_decide_eq_true (by first | (with_reducible assumption) | assumption)
                          obtain ⟨ad199, A199_3, c199_3, e199, hx199_0, hx199_1, hx199_2, hx199_3, hl199_3, hi199_3⟩ := at_T37 HR0.out (ji10) p199 q199
                          obtain rfl : ad197 = ad199 := (by injection e199)
                          have hn199_0 : ad197.block ≠ gb198 := Nat.ne_of_lt (Nat.lt_of_lt_of_le (by have := World.block_lt_of_cell? _ _ hx199_0; first | rwa [add_block] at this | exact this) GW198.out)
                          have hn199_1 : ad197.block ≠ gb198 := Nat.ne_of_lt (Nat.lt_of_lt_of_le (by have := World.block_lt_of_cell? _ _ hx199_0; first | rwa [add_block] at this | exact this) GW198.out)
                          have hn199_2 : ad197.block ≠ gb198 := Nat.ne_of_lt (Nat.lt_of_lt_of_le (by have := World.block_lt_of_cell? _ _ hx199_0; first | rwa [add_block] at this | exact this) GW198.out)
                          have hn199_3 : ad197.block ≠ gb198 := Nat.ne_of_lt (Nat.lt_of_lt_of_le (by have := World.block_lt_of_cell? _ _ hx199_0; first | rwa [add_block] at this | exact this) GW198.out)
                          replace hx199_0 := (HB.out.cell (World.block_lt_of_cell? w _ hx199_0)).trans hx199_0
                          replace hx199_1 := (HB.out.cell (World.block_lt_of_cell? w _ hx199_1)).trans hx199_1
                          replace hx199_2 := (HB.out.cell (World.block_lt_of_cell? w _ hx199_2)).trans hx199_2
                          replace hx199_3 := (HB.out.cell (World.block_lt_of_cell? w _ hx199_3)).trans hx199_3
                          have HR199_3 := Aside0.mk hi199_3
                          have HC199_3 := Aside0.mk hl199_3
                          clear hi199_3 hl199_3
                          replace hx199_0 := (cell_far (p := ⟨gb198, 0, none⟩) (by first | (rw [add_block]; exact hn199_0) | (show (Addr.add _ _).block ≠ _; rw [add_block]; exact hn199_0) | exact hn199_0) (.int .i64 ((rd_T37 l0 x3_1).f0))).trans hx199_0
                          replace hx199_1 := (cell_far (p := ⟨gb198, 0, none⟩) (by first | (rw [add_block]; exact hn199_0) | (show (Addr.add _ _).block ≠ _; rw [add_block]; exact hn199_0) | exact hn199_0) (.int .i64 ((rd_T37 l0 x3_1).f0))).trans hx199_1
                          replace hx199_2 := (cell_far (p := ⟨gb198, 0, none⟩) (by first | (rw [add_block]; exact hn199_0) | (show (Addr.add _ _).block ≠ _; rw [add_block]; exact hn199_0) | exact hn199_0) (.int .i64 ((rd_T37 l0 x3_1).f0))).trans hx199_2
                          replace hx199_3 := (cell_far (p := ⟨gb198, 0, none⟩) (by first | (rw [add_block]; exact hn199_0) | (show (Addr.add _ _).block ≠ _; rw [add_block]; exact hn199_0) | exact hn199_0) (.int .i64 ((rd_T37 l0 x3_1).f0))).trans hx199_3
                          replace hx199_0 := (cell_far (p := ⟨gb198, 1, none⟩) (by first | (rw [add_block]; exact hn199_1) | (show (Addr.add _ _).block ≠ _; rw [add_block]; exact hn199_1) | exact hn199_1) (.string ((rd_T37 l0 x3_1).f1))).trans hx199_0
                          replace hx199_1 := (cell_far (p := ⟨gb198, 1, none⟩) (by first | (rw [add_block]; exact hn199_1) | (show (Addr.add _ _).block ≠ _; rw [add_block]; exact hn199_1) | exact hn199_1) (.string ((rd_T37 l0 x3_1).f1))).trans hx199_1
                          replace hx199_2 := (cell_far (p := ⟨gb198, 1, none⟩) (by first | (rw [add_block]; exact hn199_1) | (show (Addr.add _ _).block ≠ _; rw [add_block]; exact hn199_1) | exact hn199_1) (.string ((rd_T37 l0 x3_1).f1))).trans hx199_2
                          replace hx199_3 := (cell_far (p := ⟨gb198, 1, none⟩) (by first | (rw [add_block]; exact hn199_1) | (show (Addr.add _ _).block ≠ _; rw [add_block]; exact hn199_1) | exact hn199_1) (.string ((rd_T37 l0 x3_1).f1))).trans hx199_3
                          replace hx199_0 := (cell_far (p := ⟨gb198, 2, none⟩) (by first | (rw [add_block]; exact hn199_2) | (show (Addr.add _ _).block ≠ _; rw [add_block]; exact hn199_2) | exact hn199_2) (.int .i64 ((rd_T37 l0 x3_1).f2))).trans hx199_0
                          replace hx199_1 := (cell_far (p := ⟨gb198, 2, none⟩) (by first | (rw [add_block]; exact hn199_2) | (show (Addr.add _ _).block ≠ _; rw [add_block]; exact hn199_2) | exact hn199_2) (.int .i64 ((rd_T37 l0 x3_1).f2))).trans hx199_1
                          replace hx199_2 := (cell_far (p := ⟨gb198, 2, none⟩) (by first | (rw [add_block]; exact hn199_2) | (show (Addr.add _ _).block ≠ _; rw [add_block]; exact hn199_2) | exact hn199_2) (.int .i64 ((rd_T37 l0 x3_1).f2))).trans hx199_2
                          replace hx199_3 := (cell_far (p := ⟨gb198, 2, none⟩) (by first | (rw [add_block]; exact hn199_2) | (show (Addr.add _ _).block ≠ _; rw [add_block]; exact hn199_2) | exact hn199_2) (.int .i64 ((rd_T37 l0 x3_1).f2))).trans hx199_3
                          replace hx199_0 := (cell_far (p := ⟨gb198, 3, none⟩) (by first | (rw [add_block]; exact hn199_3) | (show (Addr.add _ _).block ≠ _; rw [add_block]; exact hn199_3) | exact hn199_3) (.slice A197_3 ((rd_T37 l0 x3_1).f3).length c197_3)).trans hx199_0
                          replace hx199_1 := (cell_far (p := ⟨gb198, 3, none⟩) (by first | (rw [add_block]; exact hn199_3) | (show (Addr.add _ _).block ≠ _; rw [add_block]; exact hn199_3) | exact hn199_3) (.slice A197_3 ((rd_T37 l0 x3_1).f3).length c197_3)).trans hx199_1
                          replace hx199_2 := (cell_far (p := ⟨gb198, 3, none⟩) (by first | (rw [add_block]; exact hn199_3) | (show (Addr.add _ _).block ≠ _; rw [add_block]; exact hn199_3) | exact hn199_3) (.slice A197_3 ((rd_T37 l0 x3_1).f3).length c197_3)).trans hx199_2
                          replace hx199_3 := (cell_far (p := ⟨gb198, 3, none⟩) (by first | (rw [add_block]; exact hn199_3) | (show (Addr.add _ _).block ≠ _; rw [add_block]; exact hn199_3) | exact hn199_3) (.slice A197_3 ((rd_T37 l0 x3_1).f3).length c197_3)).trans hx199_3
                          (try have hy199_0 := fun (n_ : Nat) => (show ((((((w5.drewN n_).setCell ⟨gb198, 0, none⟩ (.int .i64 ((rd_T37 l0 x3_1).f0))).setCell ⟨gb198, 1, none⟩ (.string ((rd_T37 l0 x3_1).f1))).setCell ⟨gb198, 2, none⟩ (.int .i64 ((rd_T37 l0 x3_1).f2))).setCell ⟨gb198, 3, none⟩ (.slice A197_3 ((rd_T37 l0 x3_1).f3).length c197_3))).cell? _ = some _ from hx199_0))
                          (try have hy199_1 := fun (n_ : Nat) => (show ((((((w5.drewN n_).setCell ⟨gb198, 0, none⟩ (.int .i64 ((rd_T37 l0 x3_1).f0))).setCell ⟨gb198, 1, none⟩ (.string ((rd_T37 l0 x3_1).f1))).setCell ⟨gb198, 2, none⟩ (.int .i64 ((rd_T37 l0 x3_1).f2))).setCell ⟨gb198, 3, none⟩ (.slice A197_3 ((rd_T37 l0 x3_1).f3).length c197_3))).cell? _ = some _ from hx199_1))
                          (try have hy199_2 := fun (n_ : Nat) => (show ((((((w5.drewN n_).setCell ⟨gb198, 0, none⟩ (.int .i64 ((rd_T37 l0 x3_1).f0))).setCell ⟨gb198, 1, none⟩ (.string ((rd_T37 l0 x3_1).f1))).setCell ⟨gb198, 2, none⟩ (.int .i64 ((rd_T37 l0 x3_1).f2))).setCell ⟨gb198, 3, none⟩ (.slice A197_3 ((rd_T37 l0 x3_1).f3).length c197_3))).cell? _ = some _ from hx199_2))
                          (try have hy199_3 := fun (n_ : Nat) => (show ((((((w5.drewN n_).setCell ⟨gb198, 0, none⟩ (.int .i64 ((rd_T37 l0 x3_1).f0))).setCell ⟨gb198, 1, none⟩ (.string ((rd_T37 l0 x3_1).f1))).setCell ⟨gb198, 2, none⟩ (.int .i64 ((rd_T37 l0 x3_1).f2))).setCell ⟨gb198, 3, none⟩ (.slice A197_3 ((rd_T37 l0 x3_1).f3).length c197_3))).cell? _ = some _ from hx199_3))
                          clear hn199_0
                          clear hn199_1
                          clear hn199_2
                          clear hn199_3
                          replace p199 := eq_true p199
                          replace q199 := eq_true q199
                          go_wp2
                          repeat (go_quiet (fail); try go_wp2)
                          go_meet
                          case rel => exact ⟨_, (true), (by first | rfl | (simp; done) | (simp [*]; done)), H', ⟨by have := HK1.out; first | omega | exact Nat.le_refl _⟩, ⟨by (with_reducible repeat (first | refine blk_drewN ?_ _ | refine blk_drew ?_ | refine blk_alloc ?_ _)); refine blk_put (cs := #[.int .i64 ((rd_T37 l0 x3_1).f0), .string ((rd_T37 l0 x3_1).f1), .int .i64 ((rd_T37 l0 x3_1).f2), .slice none 0 0]) ?_ 3 _ rfl; (with_reducible repeat (first | refine blk_drewN ?_ _ | refine blk_drew ?_ | refine blk_alloc ?_ _)); refine blk_put (cs := #[.int .i64 ((rd_T37 l0 x3_1).f0), .string ((rd_T37 l0 x3_1).f1), .int .i64 0, .slice none 0 0]) ?_ 2 _ rfl; (with_reducible repeat (first | refine blk_drewN ?_ _ | refine blk_drew ?_ | refine blk_alloc ?_ _)); refine blk_put (cs := #[.int .i64 ((rd_T37 l0 x3_1).f0), .string (⟨#[]⟩ : ByteArray), .int .i64 0, .slice none 0 0]) ?_ 1 _ rfl; (with_reducible repeat (first | refine blk_drewN ?_ _ | refine blk_drew ?_ | refine blk_alloc ?_ _)); refine blk_put (cs := #[.int .i64 0, .string (⟨#[]⟩ : ByteArray), .int .i64 0, .slice none 0 0]) ?_ 0 _ rfl; (with_reducible repeat (first | refine blk_drewN ?_ _ | refine blk_drew ?_ | refine blk_alloc ?_ _)); exact BK198.out⟩, ⟨by repeat (first | (with_reducible first | exact HB.out | apply below_alloc | apply pw_below_drewN | apply below_drew1 | refine below_set ?_ GE198.out) | exact HB.out)⟩⟩
                        · rw [if_neg c17] at H
                          have c17b0 : decide (31 < (((rd_T37 l0 x3_1).f1).size : Int)) = false := decide_eq_false c17
                          have c17b1 : decide (31 < ((rd_T37 l0 x3_1).f1).size) = false := decide_eq_false (by omega)
                          clear c17
                          by_cases c19 : ((rd_T37 l0 x3_1).f2) < 0
                          · rw [if_pos c19] at H
                            have c19b0 : decide (((rd_T37 l0 x3_1).f2) < 0) = true := decide_eq_true c19
                            clear c19
                            have H' := Aside0.mk H
                            clear H
                            have hcz20_0 : w5.cell? ⟨gb198, 0, none⟩ = some (.int .i64 0) := (blk_cell BK198.out 0).trans rfl
                            have hcz20_1 : w5.cell? ⟨gb198, 1, none⟩ = some (.string (⟨#[]⟩ : ByteArray)) := (blk_cell BK198.out 1).trans rfl
                            have hcz20_2 : w5.cell? ⟨gb198, 2, none⟩ = some (.int .i64 0) := (blk_cell BK198.out 2).trans rfl
                            have hcz20_3 : w5.cell? ⟨gb198, 3, none⟩ = some (.slice none 0 0) := (blk_cell BK198.out 3).trans rfl
                            have hfz20_0 := blk_frozen BK198.out 0
                            have hfz20_1 := blk_frozen BK198.out 1
                            have hfz20_2 := blk_frozen BK198.out 2
                            have hfz20_3 := blk_frozen BK198.out 3
                            have p199 : 0 ≤ ((ji10) : Int) := of_decide_eq_true (by first | (with_reducible assumption) | assumption)
                            have q199 : (ji10) < (l0.length : Int) := of_decide_eq_true (by first | (with_reducible assumption) | assumption)
                            obtain ⟨ad199, A199_3, c199_3, e199, hx199_0, hx199_1, hx199_2, hx199_3, hl199_3, hi199_3⟩ := at_T37 HR0.out (ji10) p199 q199
                            obtain rfl : ad197 = ad199 := (by injection e199)
                            have hn199_0 : ad197.block ≠ gb198 := Nat.ne_of_lt (Nat.lt_of_lt_of_le (by have := World.block_lt_of_cell? _ _ hx199_0; first | rwa [add_block] at this | exact this) GW198.out)
                            have hn199_1 : ad197.block ≠ gb198 := Nat.ne_of_lt (Nat.lt_of_lt_of_le (by have := World.block_lt_of_cell? _ _ hx199_0; first | rwa [add_block] at this | exact this) GW198.out)
                            have hn199_2 : ad197.block ≠ gb198 := Nat.ne_of_lt (Nat.lt_of_lt_of_le (by have := World.block_lt_of_cell? _ _ hx199_0; first | rwa [add_block] at this | exact this) GW198.out)
                            have hn199_3 : ad197.block ≠ gb198 := Nat.ne_of_lt (Nat.lt_of_lt_of_le (by have := World.block_lt_of_cell? _ _ hx199_0; first | rwa [add_block] at this | exact this) GW198.out)
                            replace hx199_0 := (HB.out.cell (World.block_lt_of_cell? w _ hx199_0)).trans hx199_0
                            replace hx199_1 := (HB.out.cell (World.block_lt_of_cell? w _ hx199_1)).trans hx199_1
                            replace hx199_2 := (HB.out.cell (World.block_lt_of_cell? w _ hx199_2)).trans hx199_2
                            replace hx199_3 := (HB.out.cell (World.block_lt_of_cell? w _ hx199_3)).trans hx199_3
                            have HR199_3 := Aside0.mk hi199_3
                            have HC199_3 := Aside0.mk hl199_3
                            clear hi199_3 hl199_3
                            replace hx199_0 := (cell_far (p := ⟨gb198, 0, none⟩) (by first | (rw [add_block]; exact hn199_0) | (show (Addr.add _ _).block ≠ _; rw [add_block]; exact hn199_0) | exact hn199_0) (.int .i64 ((rd_T37 l0 x3_1).f0))).trans hx199_0
                            replace hx199_1 := (cell_far (p := ⟨gb198, 0, none⟩) (by first | (rw [add_block]; exact hn199_0) | (show (Addr.add _ _).block ≠ _; rw [add_block]; exact hn199_0) | exact hn199_0) (.int .i64 ((rd_T37 l0 x3_1).f0))).trans hx199_1
                            replace hx199_2 := (cell_far (p := ⟨gb198, 0, none⟩) (by first | (rw [add_block]; exact hn199_0) | (show (Addr.add _ _).block ≠ _; rw [add_block]; exact hn199_0) | exact hn199_0) (.int .i64 ((rd_T37 l0 x3_1).f0))).trans hx199_2
                            replace hx199_3 := (cell_far (p := ⟨gb198, 0, none⟩) (by first | (rw [add_block]; exact hn199_0) | (show (Addr.add _ _).block ≠ _; rw [add_block]; exact hn199_0) | exact hn199_0) (.int .i64 ((rd_T37 l0 x3_1).f0))).trans hx199_3
                            replace hx199_0 := (cell_far (p := ⟨gb198, 1, none⟩) (by first | (rw [add_block]; exact hn199_1) | (show (Addr.add _ _).block ≠ _; rw [add_block]; exact hn199_1) | exact hn199_1) (.string ((rd_T37 l0 x3_1).f1))).trans hx199_0
                            replace hx199_1 := (cell_far (p := ⟨gb198, 1, none⟩) (by first | (rw [add_block]; exact hn199_1) | (show (Addr.add _ _).block ≠ _; rw [add_block]; exact hn199_1) | exact hn199_1) (.string ((rd_T37 l0 x3_1).f1))).trans hx199_1
                            replace hx199_2 := (cell_far (p := ⟨gb198, 1, none⟩) (by first | (rw [add_block]; exact hn199_1) | (show (Addr.add _ _).block ≠ _; rw [add_block]; exact hn199_1) | exact hn199_1) (.string ((rd_T37 l0 x3_1).f1))).trans hx199_2
                            replace hx199_3 := (cell_far (p := ⟨gb198, 1, none⟩) (by first | (rw [add_block]; exact hn199_1) | (show (Addr.add _ _).block ≠ _; rw [add_block]; exact hn199_1) | exact hn199_1) (.string ((rd_T37 l0 x3_1).f1))).trans hx199_3
                            replace hx199_0 := (cell_far (p := ⟨gb198, 2, none⟩) (by first | (rw [add_block]; exact hn199_2) | (show (Addr.add _ _).block ≠ _; rw [add_block]; exact hn199_2) | exact hn199_2) (.int .i64 ((rd_T37 l0 x3_1).f2))).trans hx199_0
                            replace hx199_1 := (cell_far (p := ⟨gb198, 2, none⟩) (by first | (rw [add_block]; exact hn199_2) | (show (Addr.add _ _).block ≠ _; rw [add_block]; exact hn199_2) | exact hn199_2) (.int .i64 ((rd_T37 l0 x3_1).f2))).trans hx199_1
                            replace hx199_2 := (cell_far (p := ⟨gb198, 2, none⟩) (by first | (rw [add_block]; exact hn199_2) | (show (Addr.add _ _).block ≠ _; rw [add_block]; exact hn199_2) | exact hn199_2) (.int .i64 ((rd_T37 l0 x3_1).f2))).trans hx199_2
                            replace hx199_3 := (cell_far (p := ⟨gb198, 2, none⟩) (by first | (rw [add_block]; exact hn199_2) | (show (Addr.add _ _).block ≠ _; rw [add_block]; exact hn199_2) | exact hn199_2) (.int .i64 ((rd_T37 l0 x3_1).f2))).trans hx199_3
                            replace hx199_0 := (cell_far (p := ⟨gb198, 3, none⟩) (by first | (rw [add_block]; exact hn199_3) | (show (Addr.add _ _).block ≠ _; rw [add_block]; exact hn199_3) | exact hn199_3) (.slice A197_3 ((rd_T37 l0 x3_1).f3).length c197_3)).trans hx199_0
                            replace hx199_1 := (cell_far (p := ⟨gb198, 3, none⟩) (by first | (rw [add_block]; exact hn199_3) | (show (Addr.add _ _).block ≠ _; rw [add_block]; exact hn199_3) | exact hn199_3) (.slice A197_3 ((rd_T37 l0 x3_1).f3).length c197_3)).trans hx199_1
                            replace hx199_2 := (cell_far (p := ⟨gb198, 3, none⟩) (by first | (rw [add_block]; exact hn199_3) | (show (Addr.add _ _).block ≠ _; rw [add_block]; exact hn199_3) | exact hn199_3) (.slice A197_3 ((rd_T37 l0 x3_1).f3).length c197_3)).trans hx199_2
                            replace hx199_3 := (cell_far (p := ⟨gb198, 3, none⟩) (by first | (rw [add_block]; exact hn199_3) | (show (Addr.add _ _).block ≠ _; rw [add_block]; exact hn199_3) | exact hn199_3) (.slice A197_3 ((rd_T37 l0 x3_1).f3).length c197_3)).trans hx199_3
                            (try have hy199_0 := fun (n_ : Nat) => (show ((((((w5.drewN n_).setCell ⟨gb198, 0, none⟩ (.int .i64 ((rd_T37 l0 x3_1).f0))).setCell ⟨gb198, 1, none⟩ (.string ((rd_T37 l0 x3_1).f1))).setCell ⟨gb198, 2, none⟩ (.int .i64 ((rd_T37 l0 x3_1).f2))).setCell ⟨gb198, 3, none⟩ (.slice A197_3 ((rd_T37 l0 x3_1).f3).length c197_3))).cell? _ = some _ from hx199_0))
                            (try have hy199_1 := fun (n_ : Nat) => (show ((((((w5.drewN n_).setCell ⟨gb198, 0, none⟩ (.int .i64 ((rd_T37 l0 x3_1).f0))).setCell ⟨gb198, 1, none⟩ (.string ((rd_T37 l0 x3_1).f1))).setCell ⟨gb198, 2, none⟩ (.int .i64 ((rd_T37 l0 x3_1).f2))).setCell ⟨gb198, 3, none⟩ (.slice A197_3 ((rd_T37 l0 x3_1).f3).length c197_3))).cell? _ = some _ from hx199_1))
                            (try have hy199_2 := fun (n_ : Nat) => (show ((((((w5.drewN n_).setCell ⟨gb198, 0, none⟩ (.int .i64 ((rd_T37 l0 x3_1).f0))).setCell ⟨gb198, 1, none⟩ (.string ((rd_T37 l0 x3_1).f1))).setCell ⟨gb198, 2, none⟩ (.int .i64 ((rd_T37 l0 x3_1).f2))).setCell ⟨gb198, 3, none⟩ (.slice A197_3 ((rd_T37 l0 x3_1).f3).length c197_3))).cell? _ = some _ from hx199_2))
                            (try have hy199_3 := fun (n_ : Nat) => (show ((((((w5.drewN n_).setCell ⟨gb198, 0, none⟩ (.int .i64 ((rd_T37 l0 x3_1).f0))).setCell ⟨gb198, 1, none⟩ (.string ((rd_T37 l0 x3_1).f1))).setCell ⟨gb198, 2, none⟩ (.int .i64 ((rd_T37 l0 x3_1).f2))).setCell ⟨gb198, 3, none⟩ (.slice A197_3 ((rd_T37 l0 x3_1).f3).length c197_3))).cell? _ = some _ from hx199_3))
                            clear hn199_0
                            clear hn199_1
                            clear hn199_2
                            clear hn199_3
                            replace p199 := eq_true p199
                            replace q199 := eq_true q199
                            go_wp2
                            repeat (go_quiet (fail); try go_wp2)
                            go_meet
                            case rel => exact ⟨_, (true), (by first | rfl | (simp; done) | (simp [*]; done)), H', ⟨by have := HK1.out; first | omega | exact Nat.le_refl _⟩, ⟨by (with_reducible repeat (first | refine blk_drewN ?_ _ | refine blk_drew ?_ | refine blk_alloc ?_ _)); refine blk_put (cs := #[.int .i64 ((rd_T37 l0 x3_1).f0), .string ((rd_T37 l0 x3_1).f1), .int .i64 ((rd_T37 l0 x3_1).f2), .slice none 0 0]) ?_ 3 _ rfl; (with_reducible repeat (first | refine blk_drewN ?_ _ | refine blk_drew ?_ | refine blk_alloc ?_ _)); refine blk_put (cs := #[.int .i64 ((rd_T37 l0 x3_1).f0), .string ((rd_T37 l0 x3_1).f1), .int .i64 0, .slice none 0 0]) ?_ 2 _ rfl; (with_reducible repeat (first | refine blk_drewN ?_ _ | refine blk_drew ?_ | refine blk_alloc ?_ _)); refine blk_put (cs := #[.int .i64 ((rd_T37 l0 x3_1).f0), .string (⟨#[]⟩ : ByteArray), .int .i64 0, .slice none 0 0]) ?_ 1 _ rfl; (with_reducible repeat (first | refine blk_drewN ?_ _ | refine blk_drew ?_ | refine blk_alloc ?_ _)); refine blk_put (cs := #[.int .i64 0, .string (⟨#[]⟩ : ByteArray), .int .i64 0, .slice none 0 0]) ?_ 0 _ rfl; (with_reducible repeat (first | refine blk_drewN ?_ _ | refine blk_drew ?_ | refine blk_alloc ?_ _)); exact BK198.out⟩, ⟨by repeat (first | (with_reducible first | exact HB.out | apply below_alloc | apply pw_below_drewN | apply below_drew1 | refine below_set ?_ GE198.out) | exact HB.out)⟩⟩
                          · rw [if_neg c19] at H
                            have c19b0 : decide (((rd_T37 l0 x3_1).f2) < 0) = false := decide_eq_false c19
                            clear c19
                            by_cases c21 : ((rd_T37 l0 x3_1).f2) > 2147483647
                            · rw [if_pos c21] at H
                              have c21b0 : decide (2147483647 < ((rd_T37 l0 x3_1).f2)) = true := decide_eq_true c21
                              clear c21
                              have H' := Aside0.mk H
                              clear H
                              have hcz22_0 : w5.cell? ⟨gb198, 0, none⟩ = some (.int .i64 0) := (blk_cell BK198.out 0).trans rfl
                              have hcz22_1 : w5.cell? ⟨gb198, 1, none⟩ = some (.string (⟨#[]⟩ : ByteArray)) := (blk_cell BK198.out 1).trans rfl
                              have hcz22_2 : w5.cell? ⟨gb198, 2, none⟩ = some (.int .i64 0) := (blk_cell BK198.out 2).trans rfl
                              have hcz22_3 : w5.cell? ⟨gb198, 3, none⟩ = some (.slice none 0 0) := (blk_cell BK198.out 3).trans rfl
                              have hfz22_0 := blk_frozen BK198.out 0
                              have hfz22_1 := blk_frozen BK198.out 1
                              have hfz22_2 := blk_frozen BK198.out 2
                              have hfz22_3 := blk_frozen BK198.out 3
                              have p199 : 0 ≤ ((ji10) : Int) := of_decide_eq_true (by first | (with_reducible assumption) | assumption)
                              have q199 : (ji10) < (l0.length : Int) := of_decide_eq_true (by first | (with_reducible assumption) | assumption)
                              obtain ⟨ad199, A199_3, c199_3, e199, hx199_0, hx199_1, hx199_2, hx199_3, hl199_3, hi199_3⟩ := at_T37 HR0.out (ji10) p199 q199
                              obtain rfl : ad197 = ad199 := (by injection e199)
                              have hn199_0 : ad197.block ≠ gb198 := Nat.ne_of_lt (Nat.lt_of_lt_of_le (by have := World.block_lt_of_cell? _ _ hx199_0; first | rwa [add_block] at this | exact this) GW198.out)
                              have hn199_1 : ad197.block ≠ gb198 := Nat.ne_of_lt (Nat.lt_of_lt_of_le (by have := World.block_lt_of_cell? _ _ hx199_0; first | rwa [add_block] at this | exact this) GW198.out)
                              have hn199_2 : ad197.block ≠ gb198 := Nat.ne_of_lt (Nat.lt_of_lt_of_le (by have := World.block_lt_of_cell? _ _ hx199_0; first | rwa [add_block] at this | exact this) GW198.out)
                              have hn199_3 : ad197.block ≠ gb198 := Nat.ne_of_lt (Nat.lt_of_lt_of_le (by have := World.block_lt_of_cell? _ _ hx199_0; first | rwa [add_block] at this | exact this) GW198.out)
                              replace hx199_0 := (HB.out.cell (World.block_lt_of_cell? w _ hx199_0)).trans hx199_0
                              replace hx199_1 := (HB.out.cell (World.block_lt_of_cell? w _ hx199_1)).trans hx199_1
                              replace hx199_2 := (HB.out.cell (World.block_lt_of_cell? w _ hx199_2)).trans hx199_2
                              replace hx199_3 := (HB.out.cell (World.block_lt_of_cell? w _ hx199_3)).trans hx199_3
                              have HR199_3 := Aside0.mk hi199_3
                              have HC199_3 := Aside0.mk hl199_3
                              clear hi199_3 hl199_3
                              replace hx199_0 := (cell_far (p := ⟨gb198, 0, none⟩) (by first | (rw [add_block]; exact hn199_0) | (show (Addr.add _ _).block ≠ _; rw [add_block]; exact hn199_0) | exact hn199_0) (.int .i64 ((rd_T37 l0 x3_1).f0))).trans hx199_0
                              replace hx199_1 := (cell_far (p := ⟨gb198, 0, none⟩) (by first | (rw [add_block]; exact hn199_0) | (show (Addr.add _ _).block ≠ _; rw [add_block]; exact hn199_0) | exact hn199_0) (.int .i64 ((rd_T37 l0 x3_1).f0))).trans hx199_1
                              replace hx199_2 := (cell_far (p := ⟨gb198, 0, none⟩) (by first | (rw [add_block]; exact hn199_0) | (show (Addr.add _ _).block ≠ _; rw [add_block]; exact hn199_0) | exact hn199_0) (.int .i64 ((rd_T37 l0 x3_1).f0))).trans hx199_2
                              replace hx199_3 := (cell_far (p := ⟨gb198, 0, none⟩) (by first | (rw [add_block]; exact hn199_0) | (show (Addr.add _ _).block ≠ _; rw [add_block]; exact hn199_0) | exact hn199_0) (.int .i64 ((rd_T37 l0 x3_1).f0))).trans hx199_3
                              replace hx199_0 := (cell_far (p := ⟨gb198, 1, none⟩) (by first | (rw [add_block]; exact hn199_1) | (show (Addr.add _ _).block ≠ _; rw [add_block]; exact hn199_1) | exact hn199_1) (.string ((rd_T37 l0 x3_1).f1))).trans hx199_0
                              replace hx199_1 := (cell_far (p := ⟨gb198, 1, none⟩) (by first | (rw [add_block]; exact hn199_1) | (show (Addr.add _ _).block ≠ _; rw [add_block]; exact hn199_1) | exact hn199_1) (.string ((rd_T37 l0 x3_1).f1))).trans hx199_1
                              replace hx199_2 := (cell_far (p := ⟨gb198, 1, none⟩) (by first | (rw [add_block]; exact hn199_1) | (show (Addr.add _ _).block ≠ _; rw [add_block]; exact hn199_1) | exact hn199_1) (.string ((rd_T37 l0 x3_1).f1))).trans hx199_2
                              replace hx199_3 := (cell_far (p := ⟨gb198, 1, none⟩) (by first | (rw [add_block]; exact hn199_1) | (show (Addr.add _ _).block ≠ _; rw [add_block]; exact hn199_1) | exact hn199_1) (.string ((rd_T37 l0 x3_1).f1))).trans hx199_3
                              replace hx199_0 := (cell_far (p := ⟨gb198, 2, none⟩) (by first | (rw [add_block]; exact hn199_2) | (show (Addr.add _ _).block ≠ _; rw [add_block]; exact hn199_2) | exact hn199_2) (.int .i64 ((rd_T37 l0 x3_1).f2))).trans hx199_0
                              replace hx199_1 := (cell_far (p := ⟨gb198, 2, none⟩) (by first | (rw [add_block]; exact hn199_2) | (show (Addr.add _ _).block ≠ _; rw [add_block]; exact hn199_2) | exact hn199_2) (.int .i64 ((rd_T37 l0 x3_1).f2))).trans hx199_1
                              replace hx199_2 := (cell_far (p := ⟨gb198, 2, none⟩) (by first | (rw [add_block]; exact hn199_2) | (show (Addr.add _ _).block ≠ _; rw [add_block]; exact hn199_2) | exact hn199_2) (.int .i64 ((rd_T37 l0 x3_1).f2))).trans hx199_2
                              replace hx199_3 := (cell_far (p := ⟨gb198, 2, none⟩) (by first | (rw [add_block]; exact hn199_2) | (show (Addr.add _ _).block ≠ _; rw [add_block]; exact hn199_2) | exact hn199_2) (.int .i64 ((rd_T37 l0 x3_1).f2))).trans hx199_3
                              replace hx199_0 := (cell_far (p := ⟨gb198, 3, none⟩) (by first | (rw [add_block]; exact hn199_3) | (show (Addr.add _ _).block ≠ _; rw [add_block]; exact hn199_3) | exact hn199_3) (.slice A197_3 ((rd_T37 l0 x3_1).f3).length c197_3)).trans hx199_0
                              replace hx199_1 := (cell_far (p := ⟨gb198, 3, none⟩) (by first | (rw [add_block]; exact hn199_3) | (show (Addr.add _ _).block ≠ _; rw [add_block]; exact hn199_3) | exact hn199_3) (.slice A197_3 ((rd_T37 l0 x3_1).f3).length c197_3)).trans hx199_1
                              replace hx199_2 := (cell_far (p := ⟨gb198, 3, none⟩) (by first | (rw [add_block]; exact hn199_3) | (show (Addr.add _ _).block ≠ _; rw [add_block]; exact hn199_3) | exact hn199_3) (.slice A197_3 ((rd_T37 l0 x3_1).f3).length c197_3)).trans hx199_2
                              replace hx199_3 := (cell_far (p := ⟨gb198, 3, none⟩) (by first | (rw [add_block]; exact hn199_3) | (show (Addr.add _ _).block ≠ _; rw [add_block]; exact hn199_3) | exact hn199_3) (.slice A197_3 ((rd_T37 l0 x3_1).f3).length c197_3)).trans hx199_3
                              (try have hy199_0 := fun (n_ : Nat) => (show ((((((w5.drewN n_).setCell ⟨gb198, 0, none⟩ (.int .i64 ((rd_T37 l0 x3_1).f0))).setCell ⟨gb198, 1, none⟩ (.string ((rd_T37 l0 x3_1).f1))).setCell ⟨gb198, 2, none⟩ (.int .i64 ((rd_T37 l0 x3_1).f2))).setCell ⟨gb198, 3, none⟩ (.slice A197_3 ((rd_T37 l0 x3_1).f3).length c197_3))).cell? _ = some _ from hx199_0))
                              (try have hy199_1 := fun (n_ : Nat) => (show ((((((w5.drewN n_).setCell ⟨gb198, 0, none⟩ (.int .i64 ((rd_T37 l0 x3_1).f0))).setCell ⟨gb198, 1, none⟩ (.string ((rd_T37 l0 x3_1).f1))).setCell ⟨gb198, 2, none⟩ (.int .i64 ((rd_T37 l0 x3_1).f2))).setCell ⟨gb198, 3, none⟩ (.slice A197_3 ((rd_T37 l0 x3_1).f3).length c197_3))).cell? _ = some _ from hx199_1))
                              (try have hy199_2 := fun (n_ : Nat) => (show ((((((w5.drewN n_).setCell ⟨gb198, 0, none⟩ (.int .i64 ((rd_T37 l0 x3_1).f0))).setCell ⟨gb198, 1, none⟩ (.string ((rd_T37 l0 x3_1).f1))).setCell ⟨gb198, 2, none⟩ (.int .i64 ((rd_T37 l0 x3_1).f2))).setCell ⟨gb198, 3, none⟩ (.slice A197_3 ((rd_T37 l0 x3_1).f3).length c197_3))).cell? _ = some _ from hx199_2))
                              (try have hy199_3 := fun (n_ : Nat) => (show ((((((w5.drewN n_).setCell ⟨gb198, 0, none⟩ (.int .i64 ((rd_T37 l0 x3_1).f0))).setCell ⟨gb198, 1, none⟩ (.string ((rd_T37 l0 x3_1).f1))).setCell ⟨gb198, 2, none⟩ (.int .i64 ((rd_T37 l0 x3_1).f2))).setCell ⟨gb198, 3, none⟩ (.slice A197_3 ((rd_T37 l0 x3_1).f3).length c197_3))).cell? _ = some _ from hx199_3))
                              clear hn199_0
                              clear hn199_1
                              clear hn199_2
                              clear hn199_3
                              replace p199 := eq_true p199
                              replace q199 := eq_true q199
                              go_wp2
                              repeat (go_quiet (fail); try go_wp2)
                              go_meet
                              case rel => exact ⟨_, (true), (by first | rfl | (simp; done) | (simp [*]; done)), H', ⟨by have := HK1.out; first | omega | exact Nat.le_refl _⟩, ⟨by (with_reducible repeat (first | refine blk_drewN ?_ _ | refine blk_drew ?_ | refine blk_alloc ?_ _)); refine blk_put (cs := #[.int .i64 ((rd_T37 l0 x3_1).f0), .string ((rd_T37 l0 x3_1).f1), .int .i64 ((rd_T37 l0 x3_1).f2), .slice none 0 0]) ?_ 3 _ rfl; (with_reducible repeat (first | refine blk_drewN ?_ _ | refine blk_drew ?_ | refine blk_alloc ?_ _)); refine blk_put (cs := #[.int .i64 ((rd_T37 l0 x3_1).f0), .string ((rd_T37 l0 x3_1).f1), .int .i64 0, .slice none 0 0]) ?_ 2 _ rfl; (with_reducible repeat (first | refine blk_drewN ?_ _ | refine blk_drew ?_ | refine blk_alloc ?_ _)); refine blk_put (cs := #[.int .i64 ((rd_T37 l0 x3_1).f0), .string (⟨#[]⟩ : ByteArray), .int .i64 0, .slice none 0 0]) ?_ 1 _ rfl; (with_reducible repeat (first | refine blk_drewN ?_ _ | refine blk_drew ?_ | refine blk_alloc ?_ _)); refine blk_put (cs := #[.int .i64 0, .string (⟨#[]⟩ : ByteArray), .int .i64 0, .slice none 0 0]) ?_ 0 _ rfl; (with_reducible repeat (first | refine blk_drewN ?_ _ | refine blk_drew ?_ | refine blk_alloc ?_ _)); exact BK198.out⟩, ⟨by repeat (first | (with_reducible first | exact HB.out | apply below_alloc | apply pw_below_drewN | apply below_drew1 | refine below_set ?_ GE198.out) | exact HB.out)⟩⟩
                            · rw [if_neg c21] at H
                              have c21b0 : decide (2147483647 < ((rd_T37 l0 x3_1).f2)) = false := decide_eq_false c21
                              clear c21
                              have H' := Aside0.mk H
                              clear H
                              have hcz23_0 : w5.cell? ⟨gb198, 0, none⟩ = some (.int .i64 0) := (blk_cell BK198.out 0).trans rfl
                              have hcz23_1 : w5.cell? ⟨gb198, 1, none⟩ = some (.string (⟨#[]⟩ : ByteArray)) := (blk_cell BK198.out 1).trans rfl
                              have hcz23_2 : w5.cell? ⟨gb198, 2, none⟩ = some (.int .i64 0) := (blk_cell BK198.out 2).trans rfl
                              have hcz23_3 : w5.cell? ⟨gb198, 3, none⟩ = some (.slice none 0 0) := (blk_cell BK198.out 3).trans rfl
                              have hfz23_0 := blk_frozen BK198.out 0
                              have hfz23_1 := blk_frozen BK198.out 1
                              have hfz23_2 := blk_frozen BK198.out 2
                              have hfz23_3 := blk_frozen BK198.out 3
                              have p199 : 0 ≤ ((ji10) : Int) := of_decide_eq_true (by first | (with_reducible assumption) | assumption)
                              have q199 : (ji10) < (l0.length : Int) := of_decide_eq_true (by first | (with_reducible assumption) | assumption)
                              obtain ⟨ad199, A199_3, c199_3, e199, hx199_0, hx199_1, hx199_2, hx199_3, hl199_3, hi199_3⟩ := at_T37 HR0.out (ji10) p199 q199
                              obtain rfl : ad197 = ad199 := (by injection e199)
                              have hn199_0 : ad197.block ≠ gb198 := Nat.ne_of_lt (Nat.lt_of_lt_of_le (by have := World.block_lt_of_cell? _ _ hx199_0; first | rwa [add_block] at this | exact this) GW198.out)
                              have hn199_1 : ad197.block ≠ gb198 := Nat.ne_of_lt (Nat.lt_of_lt_of_le (by have := World.block_lt_of_cell? _ _ hx199_0; first | rwa [add_block] at this | exact this) GW198.out)
                              have hn199_2 : ad197.block ≠ gb198 := Nat.ne_of_lt (Nat.lt_of_lt_of_le (by have := World.block_lt_of_cell? _ _ hx199_0; first | rwa [add_block] at this | exact this) GW198.out)
                              have hn199_3 : ad197.block ≠ gb198 := Nat.ne_of_lt (Nat.lt_of_lt_of_le (by have := World.block_lt_of_cell? _ _ hx199_0; first | rwa [add_block] at this | exact this) GW198.out)
                              replace hx199_0 := (HB.out.cell (World.block_lt_of_cell? w _ hx199_0)).trans hx199_0
                              replace hx199_1 := (HB.out.cell (World.block_lt_of_cell? w _ hx199_1)).trans hx199_1
                              replace hx199_2 := (HB.out.cell (World.block_lt_of_cell? w _ hx199_2)).trans hx199_2
                              replace hx199_3 := (HB.out.cell (World.block_lt_of_cell? w _ hx199_3)).trans hx199_3
                              have HR199_3 := Aside0.mk hi199_3
                              have HC199_3 := Aside0.mk hl199_3
                              clear hi199_3 hl199_3
                              replace hx199_0 := (cell_far (p := ⟨gb198, 0, none⟩) (by first | (rw [add_block]; exact hn199_0) | (show (Addr.add _ _).block ≠ _; rw [add_block]; exact hn199_0) | exact hn199_0) (.int .i64 ((rd_T37 l0 x3_1).f0))).trans hx199_0
                              replace hx199_1 := (cell_far (p := ⟨gb198, 0, none⟩) (by first | (rw [add_block]; exact hn199_0) | (show (Addr.add _ _).block ≠ _; rw [add_block]; exact hn199_0) | exact hn199_0) (.int .i64 ((rd_T37 l0 x3_1).f0))).trans hx199_1
                              replace hx199_2 := (cell_far (p := ⟨gb198, 0, none⟩) (by first | (rw [add_block]; exact hn199_0) | (show (Addr.add _ _).block ≠ _; rw [add_block]; exact hn199_0) | exact hn199_0) (.int .i64 ((rd_T37 l0 x3_1).f0))).trans hx199_2
                              replace hx199_3 := (cell_far (p := ⟨gb198, 0, none⟩) (by first | (rw [add_block]; exact hn199_0) | (show (Addr.add _ _).block ≠ _; rw [add_block]; exact hn199_0) | exact hn199_0) (.int .i64 ((rd_T37 l0 x3_1).f0))).trans hx199_3
                              replace hx199_0 := (cell_far (p := ⟨gb198, 1, none⟩) (by first | (rw [add_block]; exact hn199_1) | (show (Addr.add _ _).block ≠ _; rw [add_block]; exact hn199_1) | exact hn199_1) (.string ((rd_T37 l0 x3_1).f1))).trans hx199_0
                              replace hx199_1 := (cell_far (p := ⟨gb198, 1, none⟩) (by first | (rw [add_block]; exact hn199_1) | (show (Addr.add _ _).block ≠ _; rw [add_block]; exact hn199_1) | exact hn199_1) (.string ((rd_T37 l0 x3_1).f1))).trans hx199_1
                              replace hx199_2 := (cell_far (p := ⟨gb198, 1, none⟩) (by first | (rw [add_block]; exact hn199_1) | (show (Addr.add _ _).block ≠ _; rw [add_block]; exact hn199_1) | exact hn199_1) (.string ((rd_T37 l0 x3_1).f1))).trans hx199_2
                              replace hx199_3 := (cell_far (p := ⟨gb198, 1, none⟩) (by first | (rw [add_block]; exact hn199_1) | (show (Addr.add _ _).block ≠ _; rw [add_block]; exact hn199_1) | exact hn199_1) (.string ((rd_T37 l0 x3_1).f1))).trans hx199_3
                              replace hx199_0 := (cell_far (p := ⟨gb198, 2, none⟩) (by first | (rw [add_block]; exact hn199_2) | (show (Addr.add _ _).block ≠ _; rw [add_block]; exact hn199_2) | exact hn199_2) (.int .i64 ((rd_T37 l0 x3_1).f2))).trans hx199_0
                              replace hx199_1 := (cell_far (p := ⟨gb198, 2, none⟩) (by first | (rw [add_block]; exact hn199_2) | (show (Addr.add _ _).block ≠ _; rw [add_block]; exact hn199_2) | exact hn199_2) (.int .i64 ((rd_T37 l0 x3_1).f2))).trans hx199_1
                              replace hx199_2 := (cell_far (p := ⟨gb198, 2, none⟩) (by first | (rw [add_block]; exact hn199_2) | (show (Addr.add _ _).block ≠ _; rw [add_block]; exact hn199_2) | exact hn199_2) (.int .i64 ((rd_T37 l0 x3_1).f2))).trans hx199_2
                              replace hx199_3 := (cell_far (p := ⟨gb198, 2, none⟩) (by first | (rw [add_block]; exact hn199_2) | (show (Addr.add _ _).block ≠ _; rw [add_block]; exact hn199_2) | exact hn199_2) (.int .i64 ((rd_T37 l0 x3_1).f2))).trans hx199_3
                              replace hx199_0 := (cell_far (p := ⟨gb198, 3, none⟩) (by first | (rw [add_block]; exact hn199_3) | (show (Addr.add _ _).block ≠ _; rw [add_block]; exact hn199_3) | exact hn199_3) (.slice A197_3 ((rd_T37 l0 x3_1).f3).length c197_3)).trans hx199_0
                              replace hx199_1 := (cell_far (p := ⟨gb198, 3, none⟩) (by first | (rw [add_block]; exact hn199_3) | (show (Addr.add _ _).block ≠ _; rw [add_block]; exact hn199_3) | exact hn199_3) (.slice A197_3 ((rd_T37 l0 x3_1).f3).length c197_3)).trans hx199_1
                              replace hx199_2 := (cell_far (p := ⟨gb198, 3, none⟩) (by first | (rw [add_block]; exact hn199_3) | (show (Addr.add _ _).block ≠ _; rw [add_block]; exact hn199_3) | exact hn199_3) (.slice A197_3 ((rd_T37 l0 x3_1).f3).length c197_3)).trans hx199_2
                              replace hx199_3 := (cell_far (p := ⟨gb198, 3, none⟩) (by first | (rw [add_block]; exact hn199_3) | (show (Addr.add _ _).block ≠ _; rw [add_block]; exact hn199_3) | exact hn199_3) (.slice A197_3 ((rd_T37 l0 x3_1).f3).length c197_3)).trans hx199_3
                              (try have hy199_0 := fun (n_ : Nat) => (show ((((((w5.drewN n_).setCell ⟨gb198, 0, none⟩ (.int .i64 ((rd_T37 l0 x3_1).f0))).setCell ⟨gb198, 1, none⟩ (.string ((rd_T37 l0 x3_1).f1))).setCell ⟨gb198, 2, none⟩ (.int .i64 ((rd_T37 l0 x3_1).f2))).setCell ⟨gb198, 3, none⟩ (.slice A197_3 ((rd_T37 l0 x3_1).f3).length c197_3))).cell? _ = some _ from hx199_0))
                              (try have hy199_1 := fun (n_ : Nat) => (show ((((((w5.drewN n_).setCell ⟨gb198, 0, none⟩ (.int .i64 ((rd_T37 l0 x3_1).f0))).setCell ⟨gb198, 1, none⟩ (.string ((rd_T37 l0 x3_1).f1))).setCell ⟨gb198, 2, none⟩ (.int .i64 ((rd_T37 l0 x3_1).f2))).setCell ⟨gb198, 3, none⟩ (.slice A197_3 ((rd_T37 l0 x3_1).f3).length c197_3))).cell? _ = some _ from hx199_1))
                              (try have hy199_2 := fun (n_ : Nat) => (show ((((((w5.drewN n_).setCell ⟨gb198, 0, none⟩ (.int .i64 ((rd_T37 l0 x3_1).f0))).setCell ⟨gb198, 1, none⟩ (.string ((rd_T37 l0 x3_1).f1))).setCell ⟨gb198, 2, none⟩ (.int .i64 ((rd_T37 l0 x3_1).f2))).setCell ⟨gb198, 3, none⟩ (.slice A197_3 ((rd_T37 l0 x3_1).f3).length c197_3))).cell? _ = some _ from hx199_2))
                              (try have hy199_3 := fun (n_ : Nat) => (show ((((((w5.drewN n_).setCell ⟨gb198, 0, none⟩ (.int .i64 ((rd_T37 l0 x3_1).f0))).setCell ⟨gb198, 1, none⟩ (.string ((rd_T37 l0 x3_1).f1))).setCell ⟨gb198, 2, none⟩ (.int .i64 ((rd_T37 l0 x3_1).f2))).setCell ⟨gb198, 3, none⟩ (.slice A197_3 ((rd_T37 l0 x3_1).f3).length c197_3))).cell? _ = some _ from hx199_3))
                              clear hn199_0
                              clear hn199_1
                              clear hn199_2
                              clear hn199_3
                              replace p199 := eq_true p199
                              replace q199 := eq_true q199
                              go_wp2
                              repeat (go_quiet (fail); try go_wp2)
                              go_meet
                              case rel => exact ⟨_, (decide ((((rd_T37 l0 x3_1).f3).length : Int) > 10)), (by first | rfl | (simp; done) | (simp [*]; done)), H', ⟨by have := HK1.out; first | omega | exact Nat.le_refl _⟩, ⟨by (with_reducible repeat (first | refine blk_drewN ?_ _ | refine blk_drew ?_ | refine blk_alloc ?_ _)); refine blk_put (cs := #[.int .i64 ((rd_T37 l0 x3_1).f0), .string ((rd_T37 l0 x3_1).f1), .int .i64 ((rd_T37 l0 x3_1).f2), .slice none 0 0]) ?_ 3 _ rfl; (with_reducible repeat (first | refine blk_drewN ?_ _ | refine blk_drew ?_ | refine blk_alloc ?_ _)); refine blk_put (cs := #[.int .i64 ((rd_T37 l0 x3_1).f0), .string ((rd_T37 l0 x3_1).f1), .int .i64 0, .slice none 0 0]) ?_ 2 _ rfl; (with_reducible repeat (first | refine blk_drewN ?_ _ | refine blk_drew ?_ | refine blk_alloc ?_ _)); refine blk_put (cs := #[.int .i64 ((rd_T37 l0 x3_1).f0), .string (⟨#[]⟩ : ByteArray), .int .i64 0, .slice none 0 0]) ?_ 1 _ rfl; (with_reducible repeat (first | refine blk_drewN ?_ _ | refine blk_drew ?_ | refine blk_alloc ?_ _)); refine blk_put (cs := #[.int .i64 0, .string (⟨#[]⟩ : ByteArray), .int .i64 0, .slice none 0 0]) ?_ 0 _ rfl; (with_reducible repeat (first | refine blk_drewN ?_ _ | refine blk_drew ?_ | refine blk_alloc ?_ _)); exact BK198.out⟩, ⟨by repeat (first | (with_reducible first | exact HB.out | apply below_alloc | apply pw_below_drewN | apply below_drew1 | refine below_set ?_ GE198.out) | exact HB.out)⟩⟩
                  · rw [if_neg c12] at H
                    exact absurd H (by simp)
                · rw [if_neg c11] at H
                  exact absurd H (by simp)
              · rw [if_neg c9] at H
                have c9b0 : decide (0 < x3_1) = false := decide_eq_false c9
                clear c9
                by_cases c24 : (((rd_T37 l0 x3_1).f1).size : Int) < 1
                · rw [if_pos c24] at H
                  have c24b0 : decide ((((rd_T37 l0 x3_1).f1).size : Int) < 1) = true := decide_eq_true c24
                  have c24b1 : decide (((rd_T37 l0 x3_1).f1).size < 1) = true := decide_eq_true (by omega)
                  clear c24
                  have H' := Aside0.mk H
                  clear H
                  have hcz25_0 : w5.cell? ⟨gb198, 0, none⟩ = some (.int .i64 0) := (blk_cell BK198.out 0).trans rfl
                  have hcz25_1 : w5.cell? ⟨gb198, 1, none⟩ = some (.string (⟨#[]⟩ : ByteArray)) := (blk_cell BK198.out 1).trans rfl
                  have hcz25_2 : w5.cell? ⟨gb198, 2, none⟩ = some (.int .i64 0) := (blk_cell BK198.out 2).trans rfl
                  have hcz25_3 : w5.cell? ⟨gb198, 3, none⟩ = some (.slice none 0 0) := (blk_cell BK198.out 3).trans rfl
                  have hfz25_0 := blk_frozen BK198.out 0
                  have hfz25_1 := blk_frozen BK198.out 1
                  have hfz25_2 := blk_frozen BK198.out 2
                  have hfz25_3 := blk_frozen BK198.out 3
                  go_wp2
                  repeat (go_quiet (fail); try go_wp2)
                  go_meet
                  case rel => exact ⟨_, (true), (by first | rfl | (simp; done) | (simp [*]; done)), H', ⟨by have := HK1.out; first | omega | exact Nat.le_refl _⟩, ⟨by (with_reducible repeat (first | refine blk_drewN ?_ _ | refine blk_drew ?_ | refine blk_alloc ?_ _)); refine blk_put (cs := #[.int .i64 ((rd_T37 l0 x3_1).f0), .string ((rd_T37 l0 x3_1).f1), .int .i64 ((rd_T37 l0 x3_1).f2), .slice none 0 0]) ?_ 3 _ rfl; (with_reducible repeat (first | refine blk_drewN ?_ _ | refine blk_drew ?_ | refine blk_alloc ?_ _)); refine blk_put (cs := #[.int .i64 ((rd_T37 l0 x3_1).f0), .string ((rd_T37 l0 x3_1).f1), .int .i64 0, .slice none 0 0]) ?_ 2 _ rfl; (with_reducible repeat (first | refine blk_drewN ?_ _ | refine blk_drew ?_ | refine blk_alloc ?_ _)); refine blk_put (cs := #[.int .i64 ((rd_T37 l0 x3_1).f0), .string (⟨#[]⟩ : ByteArray), .int .i64 0, .slice none 0 0]) ?_ 1 _ rfl; (with_reducible repeat (first | refine blk_drewN ?_ _ | refine blk_drew ?_ | refine blk_alloc ?_ _)); refine blk_put (cs := #[.int .i64 0, .string (⟨#[]⟩ : ByteArray), .int .i64 0, .slice none 0 0]) ?_ 0 _ rfl; (with_reducible repeat (first | refine blk_drewN ?_ _ | refine blk_drew ?_ | refine blk_alloc ?_ _)); exact BK198.out⟩, ⟨by repeat (first | (with_reducible first | exact HB.out | apply below_alloc | apply pw_below_drewN | apply below_drew1 | refine below_set ?_ GE198.out) | exact HB.out)⟩⟩
                · rw [if_neg c24] at H
                  have c24b0 : decide ((((rd_T37 l0 x3_1).f1).size : Int) < 1) = false := decide_eq_false c24
                  have c24b1 : decide (((rd_T37 l0 x3_1).f1).size < 1) = false := decide_eq_false (by omega)
                  clear c24
                  by_cases c26 : (((rd_T37 l0 x3_1).f1).size : Int) > 31
                  · rw [if_pos c26] at H
                    have c26b0 : decide (31 < (((rd_T37 l0 x3_1).f1).size : Int)) = true := decide_eq_true c26
                    have c26b1 : decide (31 < ((rd_T37 l0 x3_1).f1).size) = true := decide_eq_true (by omega)
                    clear c26
                    have H' := Aside0.mk H
                    clear H
                    have hcz27_0 : w5.cell? ⟨gb198, 0, none⟩ = some (.int .i64 0) := (blk_cell BK198.out 0).trans rfl
                    have hcz27_1 : w5.cell? ⟨gb198, 1, none⟩ = some (.string (⟨#[]⟩ : ByteArray)) := (blk_cell BK198.out 1).trans rfl
                    have hcz27_2 : w5.cell? ⟨gb198, 2, none⟩ = some (.int .i64 0) := (blk_cell BK198.out 2).trans rfl
                    have hcz27_3 : w5.cell? ⟨gb198, 3, none⟩ = some (.slice none 0 0) := (blk_cell BK198.out 3).trans rfl
                    have hfz27_0 := blk_frozen BK198.out 0
                    have hfz27_1 := blk_frozen BK198.out 1
                    have hfz27_2 := blk_frozen BK198.out 2
                    have hfz27_3 := blk_frozen BK198.out 3
                    go_wp2
                    repeat (go_quiet (fail); try go_wp2)
                    go_meet
                    case rel => exact ⟨_, (true), (by first | rfl | (simp; done) | (simp [*]; done)), H', ⟨by have := HK1.out; first | omega | exact Nat.le_refl _⟩, ⟨by (with_reducible repeat (first | refine blk_drewN ?_ _ | refine blk_drew ?_ | refine blk_alloc ?_ _)); refine blk_put (cs := #[.int .i64 ((rd_T37 l0 x3_1).f0), .string ((rd_T37 l0 x3_1).f1), .int .i64 ((rd_T37 l0 x3_1).f2), .slice none 0 0]) ?_ 3 _ rfl; (with_reducible repeat (first | refine blk_drewN ?_ _ | refine blk_drew ?_ | refine blk_alloc ?_ _)); refine blk_put (cs := #[.int .i64 ((rd_T37 l0 x3_1).f0), .string ((rd_T37 l0 x3_1).f1), .int .i64 0, .slice none 0 0]) ?_ 2 _ rfl; (with_reducible repeat (first | refine blk_drewN ?_ _ | refine blk_drew ?_ | refine blk_alloc ?_ _)); refine blk_put (cs := #[.int .i64 ((rd_T37 l0 x3_1).f0), .string (⟨#[]⟩ : ByteArray), .int .i64 0, .slice none 0 0]) ?_ 1 _ rfl; (with_reducible repeat (first | refine blk_drewN ?_ _ | refine blk_drew ?_ | refine blk_alloc ?_ _)); refine blk_put (cs := #[.int .i64 0, .string (⟨#[]⟩ : ByteArray), .int .i64 0, .slice none 0 0]) ?_ 0 _ rfl; (with_reducible repeat (first | refine blk_drewN ?_ _ | refine blk_drew ?_ | refine blk_alloc ?_ _)); exact BK198.out⟩, ⟨by repeat (first | (with_reducible first | exact HB.out | apply below_alloc | apply pw_below_drewN | apply below_drew1 | refine below_set ?_ GE198.out) | exact HB.out)⟩⟩
                  · rw [if_neg c26] at H
                    have c26b0 : decide (31 < (((rd_T37 l0 x3_1).f1).size : Int)) = false := decide_eq_false c26
                    have c26b1 : decide (31 < ((rd_T37 l0 x3_1).f1).size) = false := decide_eq_false (by omega)
                    clear c26
                    by_cases c28 : ((rd_T37 l0 x3_1).f2) < 0
                    · rw [if_pos c28] at H
                      have c28b0 : decide (((rd_T37 l0 x3_1).f2) < 0) = true := decide_eq_true c28
                      clear c28
                      have H' := Aside0.mk H
                      clear H
                      have hcz29_0 : w5.cell? ⟨gb198, 0, none⟩ = some (.int .i64 0) := (blk_cell BK198.out 0).trans rfl
                      have hcz29_1 : w5.cell? ⟨gb198, 1, none⟩ = some (.string (⟨#[]⟩ : ByteArray)) := (blk_cell BK198.out 1).trans rfl
                      have hcz29_2 : w5.cell? ⟨gb198, 2, none⟩ = some (.int .i64 0) := (blk_cell BK198.out 2).trans rfl
                      have hcz29_3 : w5.cell? ⟨gb198, 3, none⟩ = some (.slice none 0 0) := (blk_cell BK198.out 3).trans rfl
                      have hfz29_0 := blk_frozen BK198.out 0
                      have hfz29_1 := blk_frozen BK198.out 1
                      have hfz29_2 := blk_frozen BK198.out 2
                      have hfz29_3 := blk_frozen BK198.out 3
                      go_wp2
                      repeat (go_quiet (fail); try go_wp2)
                      go_meet
                      case rel => exact ⟨_, (true), (by first | rfl | (simp; done) | (simp [*]; done)), H', ⟨by have := HK1.out; first | omega | exact Nat.le_refl _⟩, ⟨by (with_reducible repeat (first | refine blk_drewN ?_ _ | refine blk_drew ?_ | refine blk_alloc ?_ _)); refine blk_put (cs := #[.int .i64 ((rd_T37 l0 x3_1).f0), .string ((rd_T37 l0 x3_1).f1), .int .i64 ((rd_T37 l0 x3_1).f2), .slice none 0 0]) ?_ 3 _ rfl; (with_reducible repeat (first | refine blk_drewN ?_ _ | refine blk_drew ?_ | refine blk_alloc ?_ _)); refine blk_put (cs := #[.int .i64 ((rd_T37 l0 x3_1).f0), .string ((rd_T37 l0 x3_1).f1), .int .i64 0, .slice none 0 0]) ?_ 2 _ rfl; (with_reducible repeat (first | refine blk_drewN ?_ _ | refine blk_drew ?_ | refine blk_alloc ?_ _)); refine blk_put (cs := #[.int .i64 ((rd_T37 l0 x3_1).f0), .string (⟨#[]⟩ : ByteArray), .int .i64 0, .slice none 0 0]) ?_ 1 _ rfl; (with_reducible repeat (first | refine blk_drewN ?_ _ | refine blk_drew ?_ | refine blk_alloc ?_ _)); refine blk_put (cs := #[.int .i64 0, .string (⟨#[]⟩ : ByteArray), .int .i64 0, .slice none 0 0]) ?_ 0 _ rfl; (with_reducible repeat (first | refine blk_drewN ?_ _ | refine blk_drew ?_ | refine blk_alloc ?_ _)); exact BK198.out⟩, ⟨by repeat (first | (with_reducible first | exact HB.out | apply below_alloc | apply pw_below_drewN | apply below_drew1 | refine below_set ?_ GE198.out) | exact HB.out)⟩⟩
                    · rw [if_neg c28] at H
                      have c28b0 : decide (((rd_T37 l0 x3_1).f2) < 0) = false := decide_eq_false c28
                      clear c28
                      by_cases c30 : ((rd_T37 l0 x3_1).f2) > 2147483647
                      · rw [if_pos c30] at H
                        have c30b0 : decide (2147483647 < ((rd_T37 l0 x3_1).f2)) = true := decide_eq_true c30
                        clear c30
                        have H' := Aside0.mk H
                        clear H
                        have hcz31_0 : w5.cell? ⟨gb198, 0, none⟩ = some (.int .i64 0) := (blk_cell BK198.out 0).trans rfl
                        have hcz31_1 : w5.cell? ⟨gb198, 1, none⟩ = some (.string (⟨#[]⟩ : ByteArray)) := (blk_cell BK198.out 1).trans rfl
                        have hcz31_2 : w5.cell? ⟨gb198, 2, none⟩ = some (.int .i64 0) := (blk_cell BK198.out 2).trans rfl
                        have hcz31_3 : w5.cell? ⟨gb198, 3, none⟩ = some (.slice none 0 0) := (blk_cell BK198.out 3).trans rfl
                        have hfz31_0 := blk_frozen BK198.out 0
                        have hfz31_1 := blk_frozen BK198.out 1
                        have hfz31_2 := blk_frozen BK198.out 2
                        have hfz31_3 := blk_frozen BK198.out 3
                        go_wp2
                        repeat (go_quiet (fail); try go_wp2)
                        go_meet
                        case rel => exact ⟨_, (true), (by first | rfl | (simp; done) | (simp [*]; done)), H', ⟨by have := HK1.out; first | omega | exact Nat.le_refl _⟩, ⟨by (with_reducible repeat (first | refine blk_drewN ?_ _ | refine blk_drew ?_ | refine blk_alloc ?_ _)); refine blk_put (cs := #[.int .i64 ((rd_T37 l0 x3_1).f0), .string ((rd_T37 l0 x3_1).f1), .int .i64 ((rd_T37 l0 x3_1).f2), .slice none 0 0]) ?_ 3 _ rfl; (with_reducible repeat (first | refine blk_drewN ?_ _ | refine blk_drew ?_ | refine blk_alloc ?_ _)); refine blk_put (cs := #[.int .i64 ((rd_T37 l0 x3_1).f0), .string ((rd_T37 l0 x3_1).f1), .int .i64 0, .slice none 0 0]) ?_ 2 _ rfl; (with_reducible repeat (first | refine blk_drewN ?_ _ | refine blk_drew ?_ | refine blk_alloc ?_ _)); refine blk_put (cs := #[.int .i64 ((rd_T37 l0 x3_1).f0), .string (⟨#[]⟩ : ByteArray), .int .i64 0, .slice none 0 0]) ?_ 1 _ rfl; (with_reducible repeat (first | refine blk_drewN ?_ _ | refine blk_drew ?_ | refine blk_alloc ?_ _)); refine blk_put (cs := #[.int .i64 0, .string (⟨#[]⟩ : ByteArray), .int .i64 0, .slice none 0 0]) ?_ 0 _ rfl; (with_reducible repeat (first | refine blk_drewN ?_ _ | refine blk_drew ?_ | refine blk_alloc ?_ _)); exact BK198.out⟩, ⟨by repeat (first | (with_reducible first | exact HB.out | apply below_alloc | apply pw_below_drewN | apply below_drew1 | refine below_set ?_ GE198.out) | exact HB.out)⟩⟩
                      · rw [if_neg c30] at H
                        have c30b0 : decide (2147483647 < ((rd_T37 l0 x3_1).f2)) = false := decide_eq_false c30
                        clear c30
                        have H' := Aside0.mk H
                        clear H
                        have hcz32_0 : w5.cell? ⟨gb198, 0, none⟩ = some (.int .i64 0) := (blk_cell BK198.out 0).trans rfl
                        have hcz32_1 : w5.cell? ⟨gb198, 1, none⟩ = some (.string (⟨#[]⟩ : ByteArray)) := (blk_cell BK198.out 1).trans rfl
                        have hcz32_2 : w5.cell? ⟨gb198, 2, none⟩ = some (.int .i64 0) := (blk_cell BK198.out 2).trans rfl
                        have hcz32_3 : w5.cell? ⟨gb198, 3, none⟩ = some (.slice none 0 0) := (blk_cell BK198.out 3).trans rfl
                        have hfz32_0 := blk_frozen BK198.out 0
                        have hfz32_1 := blk_frozen BK198.out 1
                        have hfz32_2 := blk_frozen BK198.out 2
                        have hfz32_3 := blk_frozen BK198.out 3
                        go_wp2
                        repeat (go_quiet (fail); try go_wp2)
                        go_meet
                        case rel => exact ⟨_, (decide ((((rd_T37 l0 x3_1).f3).length : Int) > 10)), (by first | rfl | (simp; done) | (simp [*]; done)), H', ⟨by have := HK1.out; first | omega | exact Nat.le_refl _⟩, ⟨by (with_reducible repeat (first | refine blk_drewN ?_ _ | refine blk_drew ?_ | refine blk_alloc ?_ _)); refine blk_put (cs := #[.int .i64 ((rd_T37 l0 x3_1).f0), .string ((rd_T37 l0 x3_1).f1), .int .i64 ((rd_T37 l0 x3_1).f2), .slice none 0 0]) ?_ 3 _ rfl; (with_reducible repeat (first | refine blk_drewN ?_ _ | refine blk_drew ?_ | refine blk_alloc ?_ _)); refine blk_put (cs := #[.int .i64 ((rd_T37 l0 x3_1).f0), .string ((rd_T37 l0 x3_1).f1), .int .i64 0, .slice none 0 0]) ?_ 2 _ rfl; (with_reducible repeat (first | refine blk_drewN ?_ _ | refine blk_drew ?_ | refine blk_alloc ?_ _)); refine blk_put (cs := #[.int .i64 ((rd_T37 l0 x3_1).f0), .string (⟨#[]⟩ : ByteArray), .int .i64 0, .slice none 0 0]) ?_ 1 _ rfl; (with_reducible repeat (first | refine blk_drewN ?_ _ | refine blk_drew ?_ | refine blk_alloc ?_ _)); refine blk_put (cs := #[.int .i64 0, .string (⟨#[]⟩ : ByteArray), .int .i64 0, .slice none 0 0]) ?_ 0 _ rfl; (with_reducible repeat (first | refine blk_drewN ?_ _ | refine blk_drew ?_ | refine blk_alloc ?_ _)); exact BK198.out⟩, ⟨by repeat (first | (with_reducible first | exact HB.out | apply below_alloc | apply pw_below_drewN | apply below_drew1 | refine below_set ?_ GE198.out) | exact HB.out)⟩⟩
          case rest =>
            clear HC4
            try clear c1
            try clear p1
            try clear q1
            try clear hx1
            try clear c2
            try clear c2b0
            try clear p2
            try clear c3
            try clear c3b0
            try clear p6
            try clear c7
            try clear c7b0
            try clear c9
            try clear c9b0
            try clear c11
            try clear c11b0
            try clear c12
            try clear c12b0
            try clear c13
            try clear c13b0
            try clear c15
            try clear c15b0
            try clear c15b1
            try clear c17
            try clear c17b0
            try clear c17b1
            try clear c19
            try clear c19b0
            try clear p19
            try clear q19
            try clear hx19
            try clear c21
            try clear c21b0
            try clear c24
            try clear c24b0
            try clear c24b1
            try clear c26
            try clear c26b0
            try clear c26b1
            try clear c28
            try clear c28b0
            try clear c30
            try clear c30b0
            try clear hcz14_0
            try clear hcz14_1
            try clear hcz14_2
            try clear hcz14_3
            try clear hcz16_0
            try clear hcz16_1
            try clear hcz16_2
            try clear hcz16_3
            try clear hcz18_0
            try clear hcz18_1
            try clear hcz18_2
            try clear hcz18_3
            try clear hcz20_0
            try clear hcz20_1
            try clear hcz20_2
            try clear hcz20_3
            try clear hcz22_0
            try clear hcz22_1
            try clear hcz22_2
            try clear hcz22_3
            try clear hcz23_0
            try clear hcz23_1
            try clear hcz23_2
            try clear hcz23_3
            try clear hcz25_0
            try clear hcz25_1
            try clear hcz25_2
            try clear hcz25_3
            try clear hcz27_0
            try clear hcz27_1
            try clear hcz27_2
            try clear hcz27_3
            try clear hcz29_0
            try clear hcz29_1
            try clear hcz29_2
            try clear hcz29_3
            try clear hcz31_0
            try clear hcz31_1
            try clear hcz31_2
            try clear hcz31_3
            try clear hcz32_0
            try clear hcz32_1
            try clear hcz32_2
            try clear hcz32_3
            try clear hcz6_0
            try clear hcz6_1
            try clear hcz6_2
            try clear hcz6_3
            try clear hcz8_0
            try clear hcz8_1
            try clear hcz8_2
            try clear hcz8_3
            try clear hfz14_0
            try clear hfz14_1
            try clear hfz14_2
            try clear hfz14_3
            try clear hfz16_0
            try clear hfz16_1
            try clear hfz16_2
            try clear hfz16_3
            try clear hfz18_0
            try clear hfz18_1
            try clear hfz18_2
            try clear hfz18_3
            try clear hfz20_0
            try clear hfz20_1
            try clear hfz20_2
            try clear hfz20_3
            try clear hfz22_0
            try clear hfz22_1
            try clear hfz22_2
            try clear hfz22_3
            try clear hfz23_0
            try clear hfz23_1
            try clear hfz23_2
            try clear hfz23_3
            try clear hfz25_0
            try clear hfz25_1
            try clear hfz25_2
            try clear hfz25_3
            try clear hfz27_0
            try clear hfz27_1
            try clear hfz27_2
            try clear hfz27_3
            try clear hfz29_0
            try clear hfz29_1
            try clear hfz29_2
            try clear hfz29_3
            try clear hfz31_0
            try clear hfz31_1
            try clear hfz31_2
            try clear hfz31_3
            try clear hfz32_0
            try clear hfz32_1
            try clear hfz32_2
            try clear hfz32_3
            try clear hfz6_0
            try clear hfz6_1
            try clear hfz6_2
            try clear hfz6_3
            try clear hfz8_0
            try clear hfz8_1
            try clear hfz8_2
            try clear hfz8_3
            try clear hx197_0
            try clear hx197_1
            try clear hx197_2
            try clear hx197_3
            try clear hx199_0
            try clear hx199_1
            try clear hx199_2
            try clear hx199_3
            try clear p197
            try clear p199
            try clear q197
            try clear q199
            obtain ⟨kq, x62_3, rfl, HA, HJ3, BK198, HB⟩ := hcut
            cases kq with
            | zero => exact absurd HA.out (by simp [tithingref21_ValidUsers.j1])
            | succ kj3 =>
              have H := HA.out
              clear HA
              simp only [tithingref21_ValidUsers.j1] at H
              by_cases c33 : x62_3 = true
              · subst c33
                have H1 : (some false) = some r := by rw [if_pos rfl] at H; exact H
                clear H
                have H := H1
                clear H1
                obtain rfl := Option.some.inj H
                go_wp2
                repeat (go_quiet (fail); try go_wp2)
                go_ret
                exact ⟨by first | rfl | (simp [errW_none, errW_some] <;> rfl) | (simp [*, errW_none, errW_some] <;> rfl), by repeat (first | (with_reducible first | exact HB.out | apply below_alloc | apply pw_below_drewN | apply below_drew1 | refine below_set ?_ GE198.out) | exact HB.out)⟩
              · replace c33 := Bool.eq_false_iff.mpr c33
                subst c33
                have H1 : (tithingref21_ValidUsers.l1 kj3 l0 x3_1 0 ((rd_T37 l0 x3_1).f0) ((rd_T37 l0 x3_1).f1) ((rd_T37 l0 x3_1).f2) ((rd_T37 l0 x3_1).f3)) = some r := by rw [if_neg (show ¬ (false = true) by decide)] at H; exact H
                clear H
                have H := H1
                clear H1
                have H' := Aside0.mk H
                clear H
                go_wp2
                repeat (go_quiet (fail); try go_wp2)
                go_loopg [5] kj3 (fun kq v5 w' => ∃ (x5_3 : Int), v5 = .int .i64 x5_3 ∧ Aside0 (tithingref21_ValidUsers.l1 kq l0 x3_1 x5_3 ((rd_T37 l0 x3_1).f0) ((rd_T37 l0 x3_1).f1) ((rd_T37 l0 x3_1).f2) ((rd_T37 l0 x3_1).f3) = some r) ∧ Aside0 (kq ≤ kj3) ∧ Aside0 (w'.heap[gb198]? = some (.cells #[.int .i64 ((rd_T37 l0 x3_1).f0), .string ((rd_T37 l0 x3_1).f1), .int .i64 ((rd_T37 l0 x3_1).f2), (.slice A197_3 ((rd_T37 l0 x3_1).f3).length c197_3)] 37 (0, 0))) ∧ Aside0 (Below w.heap.size w w'))
                case atStart => exact ⟨(0), (by first | rfl | (simp; done) | (simp [*]; done)), H', ⟨Nat.le_refl _⟩, ⟨by (with_reducible repeat (first | refine blk_drewN ?_ _ | refine blk_drew ?_ | refine blk_alloc ?_ _)); exact BK198.out⟩, ⟨by repeat (first | (with_reducible first | exact HB.out | apply below_alloc | apply pw_below_drewN | apply below_drew1 | refine below_set ?_ GE198.out) | exact HB.out)⟩⟩
                case round =>
                  clear H'
                  try clear c1
                  try clear p1
                  try clear q1
                  try clear hx1
                  try clear c2
                  try clear c2b0
                  try clear p2
                  try clear c3
                  try clear c3b0
                  try clear p6
                  try clear c7
                  try clear c7b0
                  try clear c9
                  try clear c9b0
                  try clear c11
                  try clear c11b0
                  try clear c12
                  try clear c12b0
                  try clear c13
                  try clear c13b0
                  try clear c15
                  try clear c15b0
                  try clear c15b1
                  try clear c17
                  try clear c17b0
                  try clear c17b1
                  try clear c19
                  try clear c19b0
                  try clear p19
                  try clear q19
                  try clear hx19
                  try clear c21
                  try clear c21b0
                  try clear c24
                  try clear c24b0
                  try clear c24b1
                  try clear c26
                  try clear c26b0
                  try clear c26b1
                  try clear c28
                  try clear c28b0
                  try clear c30
                  try clear c30b0
                  try clear c33
                  try clear hcz14_0
                  try clear hcz14_1
                  try clear hcz14_2
                  try clear hcz14_3
                  try clear hcz16_0
                  try clear hcz16_1
                  try clear hcz16_2
                  try clear hcz16_3
                  try clear hcz18_0
                  try clear hcz18_1
                  try clear hcz18_2
                  try clear hcz18_3
                  try clear hcz20_0
                  try clear hcz20_1
                  try clear hcz20_2
                  try clear hcz20_3
                  try clear hcz22_0
                  try clear hcz22_1
                  try clear hcz22_2
                  try clear hcz22_3
                  try clear hcz23_0
                  try clear hcz23_1
                  try clear hcz23_2
                  try clear hcz23_3
                  try clear hcz25_0
                  try clear hcz25_1
                  try clear hcz25_2
                  try clear hcz25_3
                  try clear hcz27_0
                  try clear hcz27_1
                  try clear hcz27_2
                  try clear hcz27_3
                  try clear hcz29_0
                  try clear hcz29_1
                  try clear hcz29_2
                  try clear hcz29_3
                  try clear hcz31_0
                  try clear hcz31_1
                  try clear hcz31_2
                  try clear hcz31_3
                  try clear hcz32_0
                  try clear hcz32_1
                  try clear hcz32_2
                  try clear hcz32_3
                  try clear hcz6_0
                  try clear hcz6_1
                  try clear hcz6_2
                  try clear hcz6_3
                  try clear hcz8_0
                  try clear hcz8_1
                  try clear hcz8_2
                  try clear hcz8_3
                  try clear hfz14_0
                  try clear hfz14_1
                  try clear hfz14_2
                  try clear hfz14_3
                  try clear hfz16_0
                  try clear hfz16_1
                  try clear hfz16_2
                  try clear hfz16_3
                  try clear hfz18_0
                  try clear hfz18_1
                  try clear hfz18_2
                  try clear hfz18_3
                  try clear hfz20_0
                  try clear hfz20_1
                  try clear hfz20_2
                  try clear hfz20_3
                  try clear hfz22_0
                  try clear hfz22_1
                  try clear hfz22_2
                  try clear hfz22_3
                  try clear hfz23_0
                  try clear hfz23_1
                  try clear hfz23_2
                  try clear hfz23_3
                  try clear hfz25_0
                  try clear hfz25_1
                  try clear hfz25_2
                  try clear hfz25_3
                  try clear hfz27_0
                  try clear hfz27_1
                  try clear hfz27_2
                  try clear hfz27_3
                  try clear hfz29_0
                  try clear hfz29_1
                  try clear hfz29_2
                  try clear hfz29_3
                  try clear hfz31_0
                  try clear hfz31_1
                  try clear hfz31_2
                  try clear hfz31_3
                  try clear hfz32_0
                  try clear hfz32_1
                  try clear hfz32_2
                  try clear hfz32_3
                  try clear hfz6_0
                  try clear hfz6_1
                  try clear hfz6_2
                  try clear hfz6_3
                  try clear hfz8_0
                  try clear hfz8_1
                  try clear hfz8_2
                  try clear hfz8_3
                  try clear hx197_0
                  try clear hx197_1
                  try clear hx197_2
                  try clear hx197_3
                  try clear hx199_0
                  try clear hx199_1
                  try clear hx199_2
                  try clear hx199_3
                  try clear p1
                  try clear p19
                  try clear p197
                  try clear p199
                  try clear p2
                  try clear p6
                  try clear q1
                  try clear q19
                  try clear q197
                  try clear q199
                  obtain ⟨x5_3, rfl, HA, HK3, BK198, HB⟩ := hrel
                  cases gk with
                  | zero => exact absurd HA.out (by simp [tithingref21_ValidUsers.l1])
                  | succ k3 =>
                    have H := HA.out
                    clear HA
                    simp only [tithingref21_ValidUsers.l1] at H
                    by_cases c34 : x5_3 < (((rd_T37 l0 x3_1).f3).length : Int)
                    · rw [if_pos c34] at H
                      have c34b0 : decide (x5_3 < (((rd_T37 l0 x3_1).f3).length : Int)) = true := decide_eq_true c34
                      clear c34
                      by_cases c35 : 0 ≤ x5_3
                      · rw [if_pos c35] at H
                        have c35b0 : decide (0 ≤ x5_3) = true := decide_eq_true c35
                        clear c35
                        by_cases c36 : (rd ((rd_T37 l0 x3_1).f3) x5_3) < 1
                        · rw [if_pos c36] at H
                          have c36b0 : decide ((rd ((rd_T37 l0 x3_1).f3) x5_3) < 1) = true := decide_eq_true c36
                          clear c36
                          obtain rfl := Option.some.inj H
                          have hcz37_0 : wr.cell? ⟨gb198, 0, none⟩ = some (.int .i64 ((rd_T37 l0 x3_1).f0)) := (blk_cell BK198.out 0).trans rfl
                          have hcz37_1 : wr.cell? ⟨gb198, 1, none⟩ = some (.string ((rd_T37 l0 x3_1).f1)) := (blk_cell BK198.out 1).trans rfl
                          have hcz37_2 : wr.cell? ⟨gb198, 2, none⟩ = some (.int .i64 ((rd_T37 l0 x3_1).f2)) := (blk_cell BK198.out 2).trans rfl
                          have hcz37_3 : wr.cell? ⟨gb198, 3, none⟩ = some (.slice A197_3 ((rd_T37 l0 x3_1).f3).length c197_3) := (blk_cell BK198.out 3).trans rfl
                          have hfz37_0 := blk_frozen BK198.out 0
                          have hfz37_1 := blk_frozen BK198.out 1
                          have hfz37_2 := blk_frozen BK198.out 2
                          have hfz37_3 := blk_frozen BK198.out 3
                          have p200 : 0 ≤ (x5_3 : Int) := of_decide_eq_true (by first | (with_reducible assumption) | assumption)
                          have q200 : x5_3 < (((rd_T37 l0 x3_1).f3).length : Int) := of_decide_eq_true (by first | (with_reducible assumption) | assumption)
                          obtain ⟨ad200, e200, hx200_0⟩ := Kd.at_int HR197_3.out x5_3 p200 q200
                          cases e200
                          replace hx200_0 := (HB.out.cell (World.block_lt_of_cell? w _ hx200_0)).trans hx200_0
                          replace p200 := eq_true p200
                          replace q200 := eq_true q200
                          go_wp2
                          repeat (go_quiet (fail); try go_wp2)
                          go_ret
                          exact ⟨by first | rfl | (simp [errW_none, errW_some] <;> rfl) | (simp [*, errW_none, errW_some] <;> rfl), by repeat (first | (with_reducible first | exact HB.out | apply below_alloc | apply pw_below_drewN | apply below_drew1 | refine below_set ?_ GE198.out) | exact HB.out)⟩
                        · rw [if_neg c36] at H
                          have c36b0 : decide ((rd ((rd_T37 l0 x3_1).f3) x5_3) < 1) = false := decide_eq_false c36
                          clear c36
                          by_cases c38 : x5_3 > 0
                          · rw [if_pos c38] at H
                            have c38b0 : decide (0 < x5_3) = true := decide_eq_true c38
                            clear c38
                            obtain ⟨ji39, hji39⟩ : ∃ j_ : Int, (wrap64 (x5_3 - 1)) = j_ := ⟨_, rfl⟩
                            replace H : (if 0 ≤ (ji39) then (if (ji39) < (((rd_T37 l0 x3_1).f3).length : Int) then (if (rd ((rd_T37 l0 x3_1).f3) (ji39)) ≥ (rd ((rd_T37 l0 x3_1).f3) x5_3) then (some false) else (tithingref21_ValidUsers.l1 k3 l0 x3_1 (wrap64 (x5_3 + 1)) ((rd_T37 l0 x3_1).f0) ((rd_T37 l0 x3_1).f1) ((rd_T37 l0 x3_1).f2) ((rd_T37 l0 x3_1).f3))) else (none)) else (none)) = some r := by first | (rw [hji39] at H; exact H) | (simp only [hji39] at H ⊢; exact H)
                            have hji39w : (IntKind.i64.wrap (x5_3 - 1)) = ji39 := (i64_w _).trans hji39
                            by_cases c40 : 0 ≤ (ji39)
                            · rw [if_pos c40] at H
                              have c40b0 : decide (0 ≤ (ji39)) = true := decide_eq_true c40
                              clear c40
                              by_cases c41 : (ji39) < (((rd_T37 l0 x3_1).f3).length : Int)
                              · rw [if_pos c41] at H
                                have c41b0 : decide ((ji39) < (((rd_T37 l0 x3_1).f3).length : Int)) = true := decide_eq_true c41
                                clear c41
                                by_cases c42 : (rd ((rd_T37 l0 x3_1).f3) (ji39)) ≥ (rd ((rd_T37 l0 x3_1).f3) x5_3)
                                · rw [if_pos c42] at H
                                  have c42b0 : decide ((rd ((rd_T37 l0 x3_1).f3) x5_3) ≤ (rd ((rd_T37 l0 x3_1).f3) (ji39))) = true := decide_eq_true c42
                                  clear c42
                                  obtain rfl := Option.some.inj H
                                  have hcz43_0 : wr.cell? ⟨gb198, 0, none⟩ = some (.int .i64 ((rd_T37 l0 x3_1).f0)) := (blk_cell BK198.out 0).trans rfl
                                  have hcz43_1 : wr.cell? ⟨gb198, 1, none⟩ = some (.string ((rd_T37 l0 x3_1).f1)) := (blk_cell BK198.out 1).trans rfl
                                  have hcz43_2 : wr.cell? ⟨gb198, 2, none⟩ = some (.int .i64 ((rd_T37 l0 x3_1).f2)) := (blk_cell BK198.out 2).trans rfl
                                  have hcz43_3 : wr.cell? ⟨gb198, 3, none⟩ = some (.slice A197_3 ((rd_T37 l0 x3_1).f3).length c197_3) := (blk_cell BK198.out 3).trans rfl
                                  have hfz43_0 := blk_frozen BK198.out 0
                                  have hfz43_1 := blk_frozen BK198.out 1
                                  have hfz43_2 := blk_frozen BK198.out 2
                                  have hfz43_3 := blk_frozen BK198.out 3
                                  have p200 : 0 ≤ (x5_3 : Int) := of_decide_eq_true (by first | (with_reducible assumption) | assumption)
                                  have q200 : x5_3 < (((rd_T37 l0 x3_1).f3).length : Int) := of_decide_eq_true (by first | (with_reducible assumption) | assumption)
                                  obtain ⟨ad200, e200, hx200_0⟩ := Kd.at_int HR197_3.out x5_3 p200 q200
                                  cases e200
                                  replace hx200_0 := (HB.out.cell (World.block_lt_of_cell? w _ hx200_0)).trans hx200_0
                                  replace p200 := eq_true p200
                                  replace q200 := eq_true q200
                                  have p201 : 0 ≤ ((ji39) : Int) := of_decide_eq_true (by first | (with_reducible assumption) | assumption)
                                  have q201 : (ji39) < (((rd_T37 l0 x3_1).f3).length : Int) := of_decide_eq_true (by first | (with_reducible assumption) | assumption)
                                  obtain ⟨ad201, e201, hx201_0⟩ := Kd.at_int HR197_3.out (ji39) p201 q201
                                  obtain rfl : ad200 = ad201 := (by injection e201)
                                  replace hx201_0 := (HB.out.cell (World.block_lt_of_cell? w _ hx201_0)).trans hx201_0
                                  replace p201 := eq_true p201
                                  replace q201 := eq_true q201
                                  have p202 : 0 ≤ (x5_3 : Int) := of_decide_eq_true (by first | (with_reducible assumption) | assumption)
                                  have q202 : x5_3 < (((rd_T37 l0 x3_1).f3).length : Int) := of_decide_eq_true (by first | (with_reducible assumption) | assumption)
                                  obtain ⟨ad202, e202, hx202_0⟩ := Kd.at_int HR197_3.out x5_3 p202 q202
                                  obtain rfl : ad200 = ad202 := (by injection e202)
                                  replace hx202_0 := (HB.out.cell (World.block_lt_of_cell? w _ hx202_0)).trans hx202_0
                                  replace p202 := eq_true p202
                                  replace q202 := eq_true q202
                                  go_wp2
                                  repeat (go_quiet (fail); try go_wp2)
                                  go_ret
                                  exact ⟨by first | rfl | (simp [errW_none, errW_some] <;> rfl) | (simp only [← hji39]; first | rfl | (simp [errW_none, errW_some] <;> rfl)) | (simp [*, errW_none, errW_some] <;> rfl), by repeat (first | (with_reducible first | exact HB.out | apply below_alloc | apply pw_below_drewN | apply below_drew1 | refine below_set ?_ GE198.out) | exact HB.out)⟩
                                · rw [if_neg c42] at H
                                  have c42b0 : decide ((rd ((rd_T37 l0 x3_1).f3) x5_3) ≤ (rd ((rd_T37 l0 x3_1).f3) (ji39))) = false := decide_eq_false c42
                                  clear c42
                                  have H' := Aside0.mk H
                                  clear H
                                  have hcz44_0 : wr.cell? ⟨gb198, 0, none⟩ = some (.int .i64 ((rd_T37 l0 x3_1).f0)) := (blk_cell BK198.out 0).trans rfl
                                  have hcz44_1 : wr.cell? ⟨gb198, 1, none⟩ = some (.string ((rd_T37 l0 x3_1).f1)) := (blk_cell BK198.out 1).trans rfl
                                  have hcz44_2 : wr.cell? ⟨gb198, 2, none⟩ = some (.int .i64 ((rd_T37 l0 x3_1).f2)) := (blk_cell BK198.out 2).trans rfl
                                  have hcz44_3 : wr.cell? ⟨gb198, 3, none⟩ = some (.slice A197_3 ((rd_T37 l0 x3_1).f3).length c197_3) := (blk_cell BK198.out 3).trans rfl
                                  have hfz44_0 := blk_frozen BK198.out 0
                                  have hfz44_1 := blk_frozen BK198.out 1
                                  have hfz44_2 := blk_frozen BK198.out 2
                                  have hfz44_3 := blk_frozen BK198.out 3
                                  have p200 : 0 ≤ (x5_3 : Int) := of_decide_eq_true (by first | (with_reducible assumption) | assumption)
                                  have q200 : x5_3 < (((rd_T37 l0 x3_1).f3).length : Int) := of_decide_eq_true (by first | (with_reducible assumption) | assumption)
                                  obtain ⟨ad200, e200, hx200_0⟩ := Kd.at_int HR197_3.out x5_3 p200 q200
                                  cases e200
                                  replace hx200_0 := (HB.out.cell (World.block_lt_of_cell? w _ hx200_0)).trans hx200_0
                                  replace p200 := eq_true p200
                                  replace q200 := eq_true q200
                                  have p201 : 0 ≤ ((ji39) : Int) := of_decide_eq_true (by first | (with_reducible assumption) | assumption)
                                  have q201 : (ji39) < (((rd_T37 l0 x3_1).f3).length : Int) := of_decide_eq_true (by first | (with_reducible assumption) | assumption)
                                  obtain ⟨ad201, e201, hx201_0⟩ := Kd.at_int HR197_3.out (ji39) p201 q201
                                  obtain rfl : ad200 = ad201 := (by injection e201)
                                  replace hx201_0 := (HB.out.cell (World.block_lt_of_cell? w _ hx201_0)).trans hx201_0
                                  replace p201 := eq_true p201
                                  replace q201 := eq_true q201
                                  have p202 : 0 ≤ (x5_3 : Int) := of_decide_eq_true (by first | (with_reducible assumption) | assumption)
                                  have q202 : x5_3 < (((rd_T37 l0 x3_1).f3).length : Int) := of_decide_eq_true (by first | (with_reducible assumption) | assumption)
                                  obtain ⟨ad202, e202, hx202_0⟩ := Kd.at_int HR197_3.out x5_3 p202 q202
                                  obtain rfl : ad200 = ad202 := (by injection e202)
                                  replace hx202_0 := (HB.out.cell (World.block_lt_of_cell? w _ hx202_0)).trans hx202_0
                                  replace p202 := eq_true p202
                                  replace q202 := eq_true q202
                                  go_wp2
                                  repeat (go_quiet (fail); try go_wp2)
                                  go_roundg k3
                                  case measure => have := HK1.out; have := HJ3.out; have := HK3.out; omega
                                  case rel => exact ⟨(wrap64 (x5_3 + 1)), (by first | rfl | (simp; done) | (simp [*]; done)), H', ⟨by have := HK1.out; have := HJ3.out; have := HK3.out; omega⟩, ⟨by (with_reducible repeat (first | refine blk_drewN ?_ _ | refine blk_drew ?_ | refine blk_alloc ?_ _)); exact BK198.out⟩, ⟨by repeat (first | (with_reducible first | exact HB.out | apply below_alloc | apply pw_below_drewN | apply below_drew1 | refine below_set ?_ GE198.out) | exact HB.out)⟩⟩
                              · rw [if_neg c41] at H
                                exact absurd H (by simp)
                            · rw [if_neg c40] at H
                              exact absurd H (by simp)
                          · rw [if_neg c38] at H
                            have c38b0 : decide (0 < x5_3) = false := decide_eq_false c38
                            clear c38
                            have H' := Aside0.mk H
                            clear H
                            have hcz45_0 : wr.cell? ⟨gb198, 0, none⟩ = some (.int .i64 ((rd_T37 l0 x3_1).f0)) := (blk_cell BK198.out 0).trans rfl
                            have hcz45_1 : wr.cell? ⟨gb198, 1, none⟩ = some (.string ((rd_T37 l0 x3_1).f1)) := (blk_cell BK198.out 1).trans rfl
                            have hcz45_2 : wr.cell? ⟨gb198, 2, none⟩ = some (.int .i64 ((rd_T37 l0 x3_1).f2)) := (blk_cell BK198.out 2).trans rfl
                            have hcz45_3 : wr.cell? ⟨gb198, 3, none⟩ = some (.slice A197_3 ((rd_T37 l0 x3_1).f3).length c197_3) := (blk_cell BK198.out 3).trans rfl
                            have hfz45_0 := blk_frozen BK198.out 0
                            have hfz45_1 := blk_frozen BK198.out 1
                            have hfz45_2 := blk_frozen BK198.out 2
                            have hfz45_3 := blk_frozen BK198.out 3
                            have p200 : 0 ≤ (x5_3 : Int) := of_decide_eq_true (by first | (with_reducible assumption) | assumption)
                            have q200 : x5_3 < (((rd_T37 l0 x3_1).f3).length : Int) := of_decide_eq_true (by first | (with_reducible assumption) | assumption)
                            obtain ⟨ad200, e200, hx200_0⟩ := Kd.at_int HR197_3.out x5_3 p200 q200
                            cases e200
                            replace hx200_0 := (HB.out.cell (World.block_lt_of_cell? w _ hx200_0)).trans hx200_0
                            replace p200 := eq_true p200
                            replace q200 := eq_true q200
                            go_wp2
                            repeat (go_quiet (fail); try go_wp2)
                            go_roundg k3
                            case measure => have := HK1.out; have := HJ3.out; have := HK3.out; omega
                            case rel => exact ⟨(wrap64 (x5_3 + 1)), (by first | rfl | (simp; done) | (simp [*]; done)), H', ⟨by have := HK1.out; have := HJ3.out; have := HK3.out; omega⟩, ⟨by (with_reducible repeat (first | refine blk_drewN ?_ _ | refine blk_drew ?_ | refine blk_alloc ?_ _)); exact BK198.out⟩, ⟨by repeat (first | (with_reducible first | exact HB.out | apply below_alloc | apply pw_below_drewN | apply below_drew1 | refine below_set ?_ GE198.out) | exact HB.out)⟩⟩
                      · rw [if_neg c35] at H
                        exact absurd H (by simp)
                    · rw [if_neg c34] at H
                      have c34b0 : decide (x5_3 < (((rd_T37 l0 x3_1).f3).length : Int)) = false := decide_eq_false c34
                      clear c34
                      have H' := Aside0.mk H
                      clear H
                      have hcz46_0 : wr.cell? ⟨gb198, 0, none⟩ = some (.int .i64 ((rd_T37 l0 x3_1).f0)) := (blk_cell BK198.out 0).trans rfl
                      have hcz46_1 : wr.cell? ⟨gb198, 1, none⟩ = some (.string ((rd_T37 l0 x3_1).f1)) := (blk_cell BK198.out 1).trans rfl
                      have hcz46_2 : wr.cell? ⟨gb198, 2, none⟩ = some (.int .i64 ((rd_T37 l0 x3_1).f2)) := (blk_cell BK198.out 2).trans rfl
                      have hcz46_3 : wr.cell? ⟨gb198, 3, none⟩ = some (.slice A197_3 ((rd_T37 l0 x3_1).f3).length c197_3) := (blk_cell BK198.out 3).trans rfl
                      have hfz46_0 := blk_frozen BK198.out 0
                      have hfz46_1 := blk_frozen BK198.out 1
                      have hfz46_2 := blk_frozen BK198.out 2
                      have hfz46_3 := blk_frozen BK198.out 3
                      go_wp2
                      repeat (go_quiet (fail); try go_wp2)
                      go_loopg [6] k3 (fun kq v6 w' => ∃ (x6_4 : Int), v6 = .int .i64 x6_4 ∧ Aside0 (tithingref21_ValidUsers.l2 kq l0 x3_1 x6_4 ((rd_T37 l0 x3_1).f0) ((rd_T37 l0 x3_1).f1) ((rd_T37 l0 x3_1).f2) ((rd_T37 l0 x3_1).f3) = some r) ∧ Aside0 (kq ≤ k3) ∧ Aside0 (w'.heap[gb198]? = some (.cells #[.int .i64 ((rd_T37 l0 x3_1).f0), .string ((rd_T37 l0 x3_1).f1), .int .i64 ((rd_T37 l0 x3_1).f2), (.slice A197_3 ((rd_T37 l0 x3_1).f3).length c197_3)] 37 (0, 0))) ∧ Aside0 (Below w.heap.size w w'))
                      case atStart => exact ⟨(0), (by first | rfl | (simp; done) | (simp [*]; done)), H', ⟨Nat.le_refl _⟩, ⟨by (with_reducible repeat (first | refine blk_drewN ?_ _ | refine blk_drew ?_ | refine blk_alloc ?_ _)); exact BK198.out⟩, ⟨by repeat (first | (with_reducible first | exact HB.out | apply below_alloc | apply pw_below_drewN | apply below_drew1 | refine below_set ?_ GE198.out) | exact HB.out)⟩⟩
                      case round =>
                        clear H'
                        try clear c1
                        try clear p1
                        try clear q1
                        try clear hx1
                        try clear c2
                        try clear c2b0
                        try clear p2
                        try clear q2
                        try clear hx2
                        try clear c3
                        try clear c3b0
                        try clear c4
                        try clear p6
                        try clear c7
                        try clear c7b0
                        try clear c9
                        try clear c9b0
                        try clear c11
                        try clear c11b0
                        try clear c12
                        try clear c12b0
                        try clear c13
                        try clear c13b0
                        try clear c15
                        try clear c15b0
                        try clear c15b1
                        try clear c17
                        try clear c17b0
                        try clear c17b1
                        try clear c19
                        try clear c19b0
                        try clear p19
                        try clear q19
                        try clear hx19
                        try clear p20
                        try clear q20
                        try clear hx20
                        try clear c21
                        try clear c21b0
                        try clear c24
                        try clear c24b0
                        try clear c24b1
                        try clear c26
                        try clear c26b0
                        try clear c26b1
                        try clear c28
                        try clear c28b0
                        try clear c30
                        try clear c30b0
                        try clear c33
                        try clear c34
                        try clear c34b0
                        try clear c35
                        try clear c35b0
                        try clear c36
                        try clear c36b0
                        try clear c38
                        try clear c38b0
                        try clear c40
                        try clear c40b0
                        try clear c41
                        try clear c41b0
                        try clear c42
                        try clear c42b0
                        try clear hcz14_0
                        try clear hcz14_1
                        try clear hcz14_2
                        try clear hcz14_3
                        try clear hcz16_0
                        try clear hcz16_1
                        try clear hcz16_2
                        try clear hcz16_3
                        try clear hcz18_0
                        try clear hcz18_1
                        try clear hcz18_2
                        try clear hcz18_3
                        try clear hcz20_0
                        try clear hcz20_1
                        try clear hcz20_2
                        try clear hcz20_3
                        try clear hcz22_0
                        try clear hcz22_1
                        try clear hcz22_2
                        try clear hcz22_3
                        try clear hcz23_0
                        try clear hcz23_1
                        try clear hcz23_2
                        try clear hcz23_3
                        try clear hcz25_0
                        try clear hcz25_1
                        try clear hcz25_2
                        try clear hcz25_3
                        try clear hcz27_0
                        try clear hcz27_1
                        try clear hcz27_2
                        try clear hcz27_3
                        try clear hcz29_0
                        try clear hcz29_1
                        try clear hcz29_2
                        try clear hcz29_3
                        try clear hcz31_0
                        try clear hcz31_1
                        try clear hcz31_2
                        try clear hcz31_3
                        try clear hcz32_0
                        try clear hcz32_1
                        try clear hcz32_2
                        try clear hcz32_3
                        try clear hcz37_0
                        try clear hcz37_1
                        try clear hcz37_2
                        try clear hcz37_3
                        try clear hcz43_0
                        try clear hcz43_1
                        try clear hcz43_2
                        try clear hcz43_3
                        try clear hcz44_0
                        try clear hcz44_1
                        try clear hcz44_2
                        try clear hcz44_3
                        try clear hcz45_0
                        try clear hcz45_1
                        try clear hcz45_2
                        try clear hcz45_3
                        try clear hcz46_0
                        try clear hcz46_1
                        try clear hcz46_2
                        try clear hcz46_3
                        try clear hcz6_0
                        try clear hcz6_1
                        try clear hcz6_2
                        try clear hcz6_3
                        try clear hcz8_0
                        try clear hcz8_1
                        try clear hcz8_2
                        try clear hcz8_3
                        try clear hfz14_0
                        try clear hfz14_1
                        try clear hfz14_2
                        try clear hfz14_3
                        try clear hfz16_0
                        try clear hfz16_1
                        try clear hfz16_2
                        try clear hfz16_3
                        try clear hfz18_0
                        try clear hfz18_1
                        try clear hfz18_2
                        try clear hfz18_3
                        try clear hfz20_0
                        try clear hfz20_1
                        try clear hfz20_2
                        try clear hfz20_3
                        try clear hfz22_0
                        try clear hfz22_1
                        try clear hfz22_2
                        try clear hfz22_3
                        try clear hfz23_0
                        try clear hfz23_1
                        try clear hfz23_2
                        try clear hfz23_3
                        try clear hfz25_0
                        try clear hfz25_1
                        try clear hfz25_2
                        try clear hfz25_3
                        try clear hfz27_0
                        try clear hfz27_1
                        try clear hfz27_2
                        try clear hfz27_3
                        try clear hfz29_0
                        try clear hfz29_1
                        try clear hfz29_2
                        try clear hfz29_3
                        try clear hfz31_0
                        try clear hfz31_1
                        try clear hfz31_2
                        try clear hfz31_3
                        try clear hfz32_0
                        try clear hfz32_1
                        try clear hfz32_2
                        try clear hfz32_3
                        try clear hfz37_0
                        try clear hfz37_1
                        try clear hfz37_2
                        try clear hfz37_3
                        try clear hfz43_0
                        try clear hfz43_1
                        try clear hfz43_2
                        try clear hfz43_3
                        try clear hfz44_0
                        try clear hfz44_1
                        try clear hfz44_2
                        try clear hfz44_3
                        try clear hfz45_0
                        try clear hfz45_1
                        try clear hfz45_2
                        try clear hfz45_3
                        try clear hfz46_0
                        try clear hfz46_1
                        try clear hfz46_2
                        try clear hfz46_3
                        try clear hfz6_0
                        try clear hfz6_1
                        try clear hfz6_2
                        try clear hfz6_3
                        try clear hfz8_0
                        try clear hfz8_1
                        try clear hfz8_2
                        try clear hfz8_3
                        try clear hx197_0
                        try clear hx197_1
                        try clear hx197_2
                        try clear hx197_3
                        try clear hx199_0
                        try clear hx199_1
                        try clear hx199_2
                        try clear hx199_3
                        try clear hx200_0
                        try clear hx201_0
                        try clear hx202_0
                        try clear p1
                        try clear p19
                        try clear p197
                        try clear p199
                        try clear p2
                        try clear p200
                        try clear p201
                        try clear p202
                        try clear p6
                        try clear q1
                        try clear q19
                        try clear q197
                        try clear q199
                        try clear q200
                        try clear q201
                        try clear q202
                        obtain ⟨x6_4, rfl, HA, HK4, BK198, HB⟩ := hrel
                        cases gk with
                        | zero => exact absurd HA.out (by simp [tithingref21_ValidUsers.l2])
                        | succ k4 =>
                          have H := HA.out
                          clear HA
                          simp only [tithingref21_ValidUsers.l2] at H
                          by_cases c47 : x6_4 < x3_1
                          · rw [if_pos c47] at H
                            have c47b0 : decide (x6_4 < x3_1) = true := decide_eq_true c47
                            clear c47
                            by_cases c48 : 0 ≤ x6_4
                            · rw [if_pos c48] at H
                              have c48b0 : decide (0 ≤ x6_4) = true := decide_eq_true c48
                              clear c48
                              by_cases c49 : x6_4 < (l0.length : Int)
                              · rw [if_pos c49] at H
                                have c49b0 : decide (x6_4 < (l0.length : Int)) = true := decide_eq_true c49
                                clear c49
                                replace H := Option.bind_eq_some_iff.mp H
                                obtain ⟨t204, A500, H⟩ := H
                                replace H : (if t204 = true then (some false) else (tithingref21_ValidUsers.l2 k4 l0 x3_1 (wrap64 (x6_4 + 1)) ((rd_T37 l0 x3_1).f0) ((rd_T37 l0 x3_1).f1) ((rd_T37 l0 x3_1).f2) ((rd_T37 l0 x3_1).f3))) = some r := H
                                have A50 := Aside0.mk A500
                                clear A500
                                by_cases c51 : t204 = true
                                · subst c51
                                  have H1 : (some false) = some r := by rw [if_pos rfl] at H; exact H
                                  clear H
                                  have H := H1
                                  clear H1
                                  obtain rfl := Option.some.inj H
                                  have p203 : 0 ≤ (x6_4 : Int) := of_decide_eq_true (by first | (with_reducible assumption) | assumption)
                                  have q203 : x6_4 < (l0.length : Int) := of_decide_eq_true (by first | (with_reducible assumption) | assumption)
                                  obtain ⟨ad203, A203_3, c203_3, e203, hx203_0, hx203_1, hx203_2, hx203_3, hl203_3, hi203_3⟩ := at_T37 HR0.out x6_4 p203 q203
                                  obtain rfl : ad197 = ad203 := (by injection e203)
                                  replace hx203_0 := (HB.out.cell (World.block_lt_of_cell? w _ hx203_0)).trans hx203_0
                                  replace hx203_1 := (HB.out.cell (World.block_lt_of_cell? w _ hx203_1)).trans hx203_1
                                  replace hx203_2 := (HB.out.cell (World.block_lt_of_cell? w _ hx203_2)).trans hx203_2
                                  replace hx203_3 := (HB.out.cell (World.block_lt_of_cell? w _ hx203_3)).trans hx203_3
                                  have HR203_3 := Aside0.mk hi203_3
                                  have HC203_3 := Aside0.mk hl203_3
                                  clear hi203_3 hl203_3
                                  replace p203 := eq_true p203
                                  replace q203 := eq_true q203
                                  have hcz52_0 : wr.cell? ⟨gb198, 0, none⟩ = some (.int .i64 ((rd_T37 l0 x3_1).f0)) := (blk_cell BK198.out 0).trans rfl
                                  have hcz52_1 : wr.cell? ⟨gb198, 1, none⟩ = some (.string ((rd_T37 l0 x3_1).f1)) := (blk_cell BK198.out 1).trans rfl
                                  have hcz52_2 : wr.cell? ⟨gb198, 2, none⟩ = some (.int .i64 ((rd_T37 l0 x3_1).f2)) := (blk_cell BK198.out 2).trans rfl
                                  have hcz52_3 : wr.cell? ⟨gb198, 3, none⟩ = some (.slice A197_3 ((rd_T37 l0 x3_1).f3).length c197_3) := (blk_cell BK198.out 3).trans rfl
                                  have hfz52_0 := blk_frozen BK198.out 0
                                  have hfz52_1 := blk_frozen BK198.out 1
                                  have hfz52_2 := blk_frozen BK198.out 2
                                  have hfz52_3 := blk_frozen BK198.out 3
                                  go_wp2_with (first | (go_at_call 39; (with_reducible refine (tithingref01_Equal.calls k4 ((rd_T37 l0 x6_4).f1) ((rd_T37 l0 x3_1).f1) true _ A50.out).mono ?_); rintro e w' ⟨rfl, ⟨nd, rfl⟩⟩; (try first | exact ⟨rfl, _, World.drewN_drewN _ _ _⟩ | exact ⟨rfl, _, Eq.trans (World.drewN_drewN _ _ _) (congrArg (World.drewN _) (Nat.add_assoc _ _ _))⟩)))
                                  repeat (go_quiet (first | (go_at_call 39; (with_reducible refine (tithingref01_Equal.calls k4 ((rd_T37 l0 x6_4).f1) ((rd_T37 l0 x3_1).f1) true _ A50.out).mono ?_); rintro e w' ⟨rfl, ⟨nd, rfl⟩⟩; (try first | exact ⟨rfl, _, World.drewN_drewN _ _ _⟩ | exact ⟨rfl, _, Eq.trans (World.drewN_drewN _ _ _) (congrArg (World.drewN _) (Nat.add_assoc _ _ _))⟩))); try go_wp2_with (first | (go_at_call 39; (with_reducible refine (tithingref01_Equal.calls k4 ((rd_T37 l0 x6_4).f1) ((rd_T37 l0 x3_1).f1) true _ A50.out).mono ?_); rintro e w' ⟨rfl, ⟨nd, rfl⟩⟩; (try first | exact ⟨rfl, _, World.drewN_drewN _ _ _⟩ | exact ⟨rfl, _, Eq.trans (World.drewN_drewN _ _ _) (congrArg (World.drewN _) (Nat.add_assoc _ _ _))⟩))))
                                  go_ret
                                  exact ⟨by first | rfl | (simp [errW_none, errW_some] <;> rfl) | (simp [*, errW_none, errW_some] <;> rfl), by repeat (first | (with_reducible first | exact HB.out | apply below_alloc | apply pw_below_drewN | apply below_drew1 | refine below_set ?_ GE198.out) | exact HB.out)⟩
                                · replace c51 := Bool.eq_false_iff.mpr c51
                                  subst c51
                                  have H1 : (tithingref21_ValidUsers.l2 k4 l0 x3_1 (wrap64 (x6_4 + 1)) ((rd_T37 l0 x3_1).f0) ((rd_T37 l0 x3_1).f1) ((rd_T37 l0 x3_1).f2) ((rd_T37 l0 x3_1).f3)) = some r := by rw [if_neg (show ¬ (false = true) by decide)] at H; exact H
                                  clear H
                                  have H := H1
                                  clear H1
                                  have H' := Aside0.mk H
                                  clear H
                                  have p203 : 0 ≤ (x6_4 : Int) := of_decide_eq_true (by first | (with_reducible assumption) | assumption)
                                  have q203 : x6_4 < (l0.length : Int) := of_decide_eq_true (by first | (with_reducible assumption) | assumption)
                                  obtain ⟨ad203, A203_3, c203_3, e203, hx203_0, hx203_1, hx203_2, hx203_3, hl203_3, hi203_3⟩ := at_T37 HR0.out x6_4 p203 q203
                                  obtain rfl : ad197 = ad203 := (by injection e203)
                                  replace hx203_0 := (HB.out.cell (World.block_lt_of_cell? w _ hx203_0)).trans hx203_0
                                  replace hx203_1 := (HB.out.cell (World.block_lt_of_cell? w _ hx203_1)).trans hx203_1
                                  replace hx203_2 := (HB.out.cell (World.block_lt_of_cell? w _ hx203_2)).trans hx203_2
                                  replace hx203_3 := (HB.out.cell (World.block_lt_of_cell? w _ hx203_3)).trans hx203_3
                                  have HR203_3 := Aside0.mk hi203_3
                                  have HC203_3 := Aside0.mk hl203_3
                                  clear hi203_3 hl203_3
                                  replace p203 := eq_true p203
                                  replace q203 := eq_true q203
                                  have hcz53_0 : wr.cell? ⟨gb198, 0, none⟩ = some (.int .i64 ((rd_T37 l0 x3_1).f0)) := (blk_cell BK198.out 0).trans rfl
                                  have hcz53_1 : wr.cell? ⟨gb198, 1, none⟩ = some (.string ((rd_T37 l0 x3_1).f1)) := (blk_cell BK198.out 1).trans rfl
                                  have hcz53_2 : wr.cell? ⟨gb198, 2, none⟩ = some (.int .i64 ((rd_T37 l0 x3_1).f2)) := (blk_cell BK198.out 2).trans rfl
                                  have hcz53_3 : wr.cell? ⟨gb198, 3, none⟩ = some (.slice A197_3 ((rd_T37 l0 x3_1).f3).length c197_3) := (blk_cell BK198.out 3).trans rfl
                                  have hfz53_0 := blk_frozen BK198.out 0
                                  have hfz53_1 := blk_frozen BK198.out 1
                                  have hfz53_2 := blk_frozen BK198.out 2
                                  have hfz53_3 := blk_frozen BK198.out 3
                                  go_wp2_with (first | (go_at_call 39; (with_reducible refine (tithingref01_Equal.calls k4 ((rd_T37 l0 x6_4).f1) ((rd_T37 l0 x3_1).f1) false _ A50.out).mono ?_); rintro e w' ⟨rfl, ⟨nd, rfl⟩⟩; (try first | exact ⟨rfl, _, World.drewN_drewN _ _ _⟩ | exact ⟨rfl, _, Eq.trans (World.drewN_drewN _ _ _) (congrArg (World.drewN _) (Nat.add_assoc _ _ _))⟩)))
                                  repeat (go_quiet (first | (go_at_call 39; (with_reducible refine (tithingref01_Equal.calls k4 ((rd_T37 l0 x6_4).f1) ((rd_T37 l0 x3_1).f1) false _ A50.out).mono ?_); rintro e w' ⟨rfl, ⟨nd, rfl⟩⟩; (try first | exact ⟨rfl, _, World.drewN_drewN _ _ _⟩ | exact ⟨rfl, _, Eq.trans (World.drewN_drewN _ _ _) (congrArg (World.drewN _) (Nat.add_assoc _ _ _))⟩))); try go_wp2_with (first | (go_at_call 39; (with_reducible refine (tithingref01_Equal.calls k4 ((rd_T37 l0 x6_4).f1) ((rd_T37 l0 x3_1).f1) false _ A50.out).mono ?_); rintro e w' ⟨rfl, ⟨nd, rfl⟩⟩; (try first | exact ⟨rfl, _, World.drewN_drewN _ _ _⟩ | exact ⟨rfl, _, Eq.trans (World.drewN_drewN _ _ _) (congrArg (World.drewN _) (Nat.add_assoc _ _ _))⟩))))
                                  go_roundg k4
                                  case measure => have := HK1.out; have := HJ3.out; have := HK3.out; have := HK4.out; omega
                                  case rel => exact ⟨(wrap64 (x6_4 + 1)), (by first | rfl | (simp; done) | (simp [*]; done)), H', ⟨by have := HK1.out; have := HJ3.out; have := HK3.out; have := HK4.out; omega⟩, ⟨by (with_reducible repeat (first | refine blk_drewN ?_ _ | refine blk_drew ?_ | refine blk_alloc ?_ _)); exact BK198.out⟩, ⟨by repeat (first | (with_reducible first | exact HB.out | apply below_alloc | apply pw_below_drewN | apply below_drew1 | refine below_set ?_ GE198.out) | exact HB.out)⟩⟩
                              · rw [if_neg c49] at H
                                exact absurd H (by simp)
                            · rw [if_neg c48] at H
                              exact absurd H (by simp)
                          · rw [if_neg c47] at H
                            have c47b0 : decide (x6_4 < x3_1) = false := decide_eq_false c47
                            clear c47
                            have H' := Aside0.mk H
                            clear H
                            go_wp2
                            repeat (go_quiet (fail); try go_wp2)
                            go_roundg k4
                            case measure => have := HK1.out; have := HJ3.out; have := HK3.out; have := HK4.out; omega
                            case rel => exact ⟨(wrap64 (x3_1 + 1)), (by first | rfl | (simp; done) | (simp [*]; done)), H', ⟨by have := HK1.out; have := HJ3.out; have := HK3.out; have := HK4.out; omega⟩, ⟨by repeat (first | (with_reducible first | exact HB.out | apply below_alloc | apply pw_below_drewN | apply below_drew1 | refine below_set ?_ GE198.out) | exact HB.out)⟩⟩
        · rw [if_neg c3] at H
          exact absurd H (by simp)
      · rw [if_neg c2] at H
        have c2b0 : decide (x3_1 < (l0.length : Int)) = false := decide_eq_false c2
        clear c2
        obtain rfl := Option.some.inj H
        go_wp2
        repeat (go_quiet (fail); try go_wp2)
        go_ret
        exact ⟨by first | rfl | (simp [errW_none, errW_some] <;> rfl) | (simp [*, errW_none, errW_some] <;> rfl), by repeat (first | (with_reducible first | exact HB.out | apply below_alloc | apply pw_below_drewN | apply below_drew1) | exact HB.out)⟩

end Go.Proofs.Ytkmbcjpedmlhfaa.U
