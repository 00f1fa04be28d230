-- PRINTED by print.py (a twelfth state) out of the translation. Not trusted: Lean checks it.
import Derived.Test.YtkmbcjpedmlhfaaUx0
import Derived.Test.YtkmbcjpedmlhfaaUx5
namespace Go.Proofs.Ytkmbcjpedmlhfaa.U
open Go.RowKit Go.Proofs.YtkmbcjpedmlhfaaW.PrintWords Go.Proofs.YtkmbcjpedmlhfaaW.PrintLast Go.Proofs.YtkmbcjpedmlhfaaW.PrintMore
attribute [local go_sem] max2_int min2_int max_two min_two max_three min_three max_four min_four   -- for this text's walks alone
set_option linter.unusedVariables false
set_option linter.unusedSimpArgs false

/-! ### octet_fold: function 58 -/
def octet_fold.j0 : Nat → Int → Bool → Option (Int)
  | 0, _, _ => none
  | k + 1, x0, x3 => if x3 = true then (some ((((x0 - 97) % 256) + 65) % 256)) else (if x0 ≥ 160 then (if x0 ≤ 191 then (some ((x0 + 32) % 256)) else (some x0)) else (some x0))
def octet_fold.f (k : Nat) (a0 : Int) : Option (Int) := if a0 ≥ 97 then (octet_fold.j0 k a0 (decide (a0 ≤ 122))) else (octet_fold.j0 k a0 false)
theorem octet_fold.mono_l : ∀ k, (∀ y0 y1, LeO (octet_fold.j0 k y0 y1) (octet_fold.j0 (k + 1) y0 y1))
  | 0 => fun _ _ r h => by simp [octet_fold.j0] at h
  | k + 1 => by
    have ih0 := octet_fold.mono_l k
    · intro y0 y1
      unfold octet_fold.j0
      repeat' first
      | (with_reducible exact ih0 _ _)
      | (with_reducible exact LeO.refl _)
      | (with_reducible exact LeO.none _)
      | (with_reducible refine LeO.ite ?_ ?_)
      | (with_reducible refine LeO.bind ?_ (fun _ => ?_))
      | exact ih0 _ _
      | exact LeO.none _
      | refine LeO.ite ?_ ?_
      | refine LeO.bind ?_ (fun _ => ?_)
theorem octet_fold.mono : ∀ a0 k, LeO (octet_fold.f k a0) (octet_fold.f (k + 1) a0) := by
  intro a0 k
  have ih0 := octet_fold.mono_l k
  unfold octet_fold.f
  repeat' first
      | (with_reducible exact ih0 _ _)
      | (with_reducible exact LeO.refl _)
      | (with_reducible exact LeO.none _)
      | (with_reducible refine LeO.ite ?_ ?_)
      | (with_reducible refine LeO.bind ?_ (fun _ => ?_))
      | exact ih0 _ _
      | exact LeO.none _
      | refine LeO.ite ?_ ?_
      | refine LeO.bind ?_ (fun _ => ?_)
set_option maxHeartbeats 8000000 in
set_option maxRecDepth 100000 in
theorem octet_fold.calls (k : Nat) (a0 : Int) (r : Int) (w : World) (h : octet_fold.f k a0 = some r) :
    Calls Try.prog 58 #[.int .u8 a0] w fun e w' => e = .returned (.int .u8 r) ∧ Drawn0 w w' := by
  have H : (if a0 ≥ 97 then (octet_fold.j0 k a0 (decide (a0 ≤ 122))) else (octet_fold.j0 k a0 false)) = some r := h
  clear h
  have HC2 := Aside0.mk H
  clear H
  go_enter Try.func58, Try.ntmps58
  go_upto_region 1 with (fail)
  go_cut [3] (fun v3 wc => ∃ (kq : Nat) (x3_1 : Bool), v3 = .bool x3_1 ∧ Aside0 (octet_fold.j0 kq a0 x3_1 = some r) ∧ Aside0 (kq ≤ k) ∧ Drawn0 w wc)
  case first =>
    have H := HC2.out
    clear HC2
    by_cases c3 : a0 ≥ 97
    · rw [if_pos c3] at H
      have c3b0 : decide (97 ≤ a0) = true := decide_eq_true c3
      clear c3
      (first | rw [c3b0] | (simp only [i64_w, i32_w]; rw [c3b0]) | skip)
      have H' := Aside0.mk H
      clear H
      go_wp2
      go_meet
      case rel => exact ⟨_, (decide (a0 ≤ 122)), (by first | rfl | (simp; done) | (simp [*]; done)), H', ⟨by first | omega | exact Nat.le_refl _⟩, by repeat (first | exact Drawn0.refl _ | apply Drawn0.step)⟩
    · rw [if_neg c3] at H
      have c3b0 : decide (97 ≤ a0) = false := decide_eq_false c3
      clear c3
      (first | rw [c3b0] | (simp only [i64_w, i32_w]; rw [c3b0]) | skip)
      have H' := Aside0.mk H
      clear H
      go_wp2
      go_meet
      case rel => exact ⟨_, (false), (by first | rfl | (simp; done) | (simp [*]; done)), H', ⟨by first | omega | exact Nat.le_refl _⟩, by repeat (first | exact Drawn0.refl _ | apply Drawn0.step)⟩
  case rest =>
    clear HC2
    try clear p2
    try clear c3
    try clear c3b0
    obtain ⟨kq, x3_1, rfl, HA, HJ1, ⟨mc1, rfl⟩⟩ := hcut
    cases kq with
    | zero => exact absurd HA.out (by simp [octet_fold.j0])
    | succ kj1 =>
      have H := HA.out
      clear HA
      simp only [octet_fold.j0] at H
      by_cases c4 : x3_1 = true
      · subst c4
        have H1 : (some ((((a0 - 97) % 256) + 65) % 256)) = some r := by rw [if_pos rfl] at H; exact H
        clear H
        have H := H1
        clear H1
        obtain rfl := Option.some.inj H
        go_wp2
        go_ret
        exact ⟨by first | rfl | (simp; done) | (simp [*]; done), by repeat (first | exact Drawn0.refl _ | apply Drawn0.step)⟩
      · replace c4 := Bool.eq_false_iff.mpr c4
        subst c4
        have H1 : (if a0 ≥ 160 then (if a0 ≤ 191 then (some ((a0 + 32) % 256)) else (some a0)) else (some a0)) = some r := by rw [if_neg (show ¬ (false = true) by decide)] at H; exact H
        clear H
        have H := H1
        clear H1
        by_cases c5 : a0 ≥ 160
        · rw [if_pos c5] at H
          have c5b0 : decide (160 ≤ a0) = true := decide_eq_true c5
          clear c5
          by_cases c6 : a0 ≤ 191
          · rw [if_pos c6] at H
            have c6b0 : decide (a0 ≤ 191) = true := decide_eq_true c6
            clear c6
            obtain rfl := Option.some.inj H
            go_wp2
            go_ret
            exact ⟨by first | rfl | (simp; done) | (simp [*]; done), by repeat (first | exact Drawn0.refl _ | apply Drawn0.step)⟩
          · rw [if_neg c6] at H
            have c6b0 : decide (a0 ≤ 191) = false := decide_eq_false c6
            clear c6
            obtain rfl := Option.some.inj H
            go_wp2
            go_ret
            exact ⟨by first | rfl | (simp; done) | (simp [*]; done), by repeat (first | exact Drawn0.refl _ | apply Drawn0.step)⟩
        · rw [if_neg c5] at H
          have c5b0 : decide (160 ≤ a0) = false := decide_eq_false c5
          clear c5
          obtain rfl := Option.some.inj H
          go_wp2
          go_ret
          exact ⟨by first | rfl | (simp; done) | (simp [*]; done), by repeat (first | exact Drawn0.refl _ | apply Drawn0.step)⟩


/-! ### octet_Fold: function 51 -/
/-- What a byte is folded to. -/
def foldC (c : Int) : Int := if 97 ≤ c ∧ c ≤ 122 then c - 32 else if 160 ≤ c ∧ c ≤ 191 then c + 32 else c
def foldS (s : ByteArray) : ByteArray := strOfNums ((bytesOf s).map foldC)
def octet_Fold.f (a0 : ByteArray) : Option (ByteArray) := if a0.size ≤ 9223372036854775807 then some (foldS a0) else none
/-- A block that holds these bytes, and more behind; what is frozen of it lies behind. -/
structure FB (w : World) (g : Nat) (xs : List Int) : Prop where mk ::
  out : ∃ cs lo hi, w.heap[g]? = some (.cells cs 5 (lo, hi)) ∧ xs.length ≤ lo ∧ ∀ j, j < xs.length → cs[j]? = some (.int .u8 (xs.getD j 0))
theorem FB.ofBytes (w : World) (s : ByteArray) : FB (Lib.bytesWorld w 5 s) w.heap.size (bytesOf s) := by
  refine ⟨_, _, _, Lib.bytesWorld_at_new w 5 s, ?_, fun j hj => ?_⟩
  · rw [bytesOf_length]
    simp [Lib.bytesCells]
  · rw [bytesOf_length] at hj
    have h := Lib.bytesWorld_cell w 5 s j hj
    have h' : j < s.data.toList.length := by rw [data_length]; exact hj
    simp only [World.cell?, Lib.bytesWorld_at_new] at h
    simp only [Option.isSome_none, Bool.false_eq_true, if_false] at h
    rw [h]
    simp [bytesOf, List.getD_eq_getElem?_getD, List.getElem?_eq_getElem h']
theorem FB.cell {w : World} {g : Nat} {xs : List Int} (h : FB w g xs) (j : Nat) (hj : j < xs.length) : w.cell? ⟨g, j, none⟩ = some (.int .u8 (xs.getD j 0)) := by
  obtain ⟨cs, lo, hi, hb, hl, hc⟩ := h
  simp only [World.cell?, hb]
  simpa using hc j hj
theorem FB.free {w : World} {g : Nat} {xs : List Int} (h : FB w g xs) (j : Nat) (hj : j < xs.length) : w.frozen? ⟨g, j, none⟩ = false := by
  obtain ⟨cs, lo, hi, hb, hl, hc⟩ := h
  simp only [World.frozen?, hb]
  have : ¬ lo ≤ j := by omega
  simp [this]
theorem FB.set {w : World} {g : Nat} {xs : List Int} (h : FB w g xs) (j : Nat) (hj : j < xs.length) (v : Int) : FB (w.setCell ⟨g, j, none⟩ (.int .u8 v)) g (xs.set j v) := by
  obtain ⟨cs, lo, hi, hb, hl, hc⟩ := h
  refine ⟨cs.setIfInBounds j (.int .u8 v), lo, hi, ?_, by simpa using hl, fun i hi' => ?_⟩
  · simp only [World.setCell, Array.getElem?_modify, if_true, hb]
    simp
  · have hj2 : j < cs.size := by
      have := hc j hj
      exact (Array.getElem?_eq_some_iff.1 this).1
    rw [List.length_set] at hi'
    rw [Array.getElem?_setIfInBounds]
    by_cases e : j = i
    · subst e
      simp [hj2, List.getD_eq_getElem?_getD, List.getElem?_set, hj]
    · rw [if_neg e, hc i hi']
      simp [List.getD_eq_getElem?_getD, List.getElem?_set, e]
theorem FB.drewN {w : World} {g : Nat} {xs : List Int} (h : FB w g xs) (n : Nat) : FB (w.drewN n) g xs := ⟨h.out⟩
theorem FB.drew {w : World} {g : Nat} {xs : List Int} (h : FB w g xs) : FB w.drew g xs := ⟨h.out⟩
theorem fold_some (c : Int) (h0 : 0 ≤ c) (h1 : c ≤ 255) : octet_fold.f 1 c = some (foldC c) := by
  unfold octet_fold.f foldC
  simp only [octet_fold.j0, decide_eq_true_eq]
  repeat' split
  all_goals first | (exfalso; omega) | (congr 1; omega) | simp_all
/-- The first k bytes folded. -/
def foldTo (xs : List Int) (k : Nat) : List Int := (xs.take k).map foldC ++ xs.drop k
theorem foldTo_length (xs : List Int) (k : Nat) : (foldTo xs k).length = xs.length := by simp [foldTo]; omega
theorem foldTo_zero (xs : List Int) : foldTo xs 0 = xs := rfl
theorem foldTo_all (xs : List Int) (k : Nat) (h : xs.length ≤ k) : foldTo xs k = xs.map foldC := by simp [foldTo, List.take_of_length_le h, List.drop_eq_nil_of_le h]
theorem foldTo_get (xs : List Int) (k : Nat) (h : k < xs.length) : (foldTo xs k).getD k 0 = xs.getD k 0 := by
  simp [foldTo, List.getD_eq_getElem?_getD, List.getElem?_append, List.length_take, Nat.min_eq_left (Nat.le_of_lt h)]
theorem foldTo_set (xs : List Int) (k : Nat) (h : k < xs.length) : (foldTo xs k).set k (foldC (xs.getD k 0)) = foldTo xs (k + 1) := by
  have hm : ((xs.take k).map foldC).length = k := by simp; omega
  have e : xs.drop k = xs[k] :: xs.drop (k + 1) := List.drop_eq_getElem_cons h
  rw [foldTo, foldTo, List.set_append, if_neg (by omega), hm, Nat.sub_self, e, List.set_cons_zero, List.take_succ_eq_append_getElem h, List.map_append, List.append_assoc]
  simp [List.getD_eq_getElem?_getD, List.getElem?_eq_getElem h]
theorem byte_range (s : ByteArray) (k : Nat) : 0 ≤ (bytesOf s).getD k 0 ∧ (bytesOf s).getD k 0 ≤ 255 := by
  have := bt_range s k
  rw [← rd_bytesOf] at this
  exact this
set_option maxHeartbeats 8000000 in
set_option maxRecDepth 100000 in
theorem octet_Fold.calls (a0 : ByteArray) (r : ByteArray) (w : World) (h : octet_Fold.f a0 = some r) :
    Calls Try.prog 51 #[.string a0] w fun e w' => e = .returned (.string r) ∧ Below w.heap.size w w' := by
  unfold octet_Fold.f at h
  by_cases hs : a0.size ≤ 9223372036854775807
  · rw [if_pos hs] at h
    obtain rfl := Option.some.inj h
    clear h
    have kb := fun W => print_bytes (P := Try.prog) 9 77 5 Try.underlying9 Try.underlying77 Try.underlying5 a0 W
    go_enter Try.func51, Try.ntmps51
    go_wp2
    have hb0 : Below w.heap.size w (Lib.bytesWorld w 5 a0) := bytes_below (Below.refl _ _) (Nat.le_refl _) 5 a0
    have hf0 := FB.ofBytes w a0
    generalize grownCap w a0.size 0 5 = cap at *
    generalize hw0 : Lib.bytesWorld w 5 a0 = w0 at *
    generalize hg : w.heap.size = g at *
    clear kb hw0
    have HB0 := Aside0.mk hb0
    have HF0 := Aside0.mk hf0
    have HG := Aside0.mk hg
    clear hb0 hf0 hg
    go_loopw [10] (fun i wr => ∃ k : Nat, k ≤ a0.size ∧ i = .int .i64 k ∧ Aside0 (FB wr g (foldTo (bytesOf a0) k)) ∧ Aside0 (Below g w wr)) (fun i _ => a0.size - (intOf i).toNat)
    case atStart => exact ⟨0, Nat.zero_le _, rfl, HF0, HB0⟩
    case round =>
      obtain ⟨k, hk, rfl, HF, HB⟩ := hrel
      by_cases hlt : k < a0.size
      · have hlt2 : k < (bytesOf a0).length := by rw [bytesOf_length]; exact hlt
        have hlt3 : k < (foldTo (bytesOf a0) k).length := by rw [foldTo_length]; exact hlt2
        have hrg := byte_range a0 k
        have hcell := HF.out.cell k hlt3
        have hfree := HF.out.free k hlt3
        rw [foldTo_get _ k hlt2] at hcell
        have hset : ∀ nd, FB ((wr.drewN nd).setCell ⟨g, k, none⟩ (.int .u8 (foldC ((bytesOf a0).getD k 0)))) g (foldTo (bytesOf a0) (k + 1)) := fun nd => by
          have := (HF.out.drewN nd).set k hlt3 (foldC ((bytesOf a0).getD k 0))
          rw [foldTo_set _ k hlt2] at this
          exact this
        have HS := Aside0.mk hset
        clear hset hlt2 hlt3
        generalize hc : (bytesOf a0).getD k 0 = c at *
        clear hc
        obtain ⟨hc0, hc1⟩ := hrg
        go_wp2_with (go_at_call 58; refine (octet_fold.calls 1 _ _ _ (fold_some c hc0 hc1)).mono ?_; rintro e w' ⟨rfl, ⟨nd, rfl⟩⟩)
        go_roundw
        case rel => exact ⟨k + 1, by omega, by go_num, ⟨HS.out nd⟩, ⟨(pw_below_drewN HB.out nd).setCell (Nat.le_refl _) _⟩⟩
        case measure => simp [intOf]; omega
      · have hcv := run_convert_bytes_arg (P := Try.prog) wr 77 5 Try.underlying77 Try.underlying5 g 0 a0.size cap (foldTo (bytesOf a0) k) (by rw [foldTo_length, bytesOf_length]) (fun i hi => by rw [Nat.zero_add]; exact HF.out.cell i (by rw [foldTo_length, bytesOf_length]; exact hi)) 9 Try.underlying9
        go_wp2
        go_ret
        refine ⟨?_, by have := HB.out; rw [← HG.out] at this; exact this⟩
        rw [foldTo_all _ k (by rw [bytesOf_length]; omega)]
        rfl
  · rw [if_neg hs] at h
    exact absurd h (by simp)


/-! ### octet_Equal: function 37 -/
def octet_Equal.f (a0 : ByteArray) (a1 : ByteArray) : Option (Bool) := (octet_Fold.f a0).bind fun t111 => ((octet_Fold.f a1).bind fun t112 => (some (t111.toList == t112.toList)))
set_option maxHeartbeats 8000000 in
set_option maxRecDepth 100000 in
theorem octet_Equal.calls (a0 : ByteArray) (a1 : ByteArray) (r : Bool) (w : World) (h : octet_Equal.f a0 a1 = some r) :
    Calls Try.prog 37 #[.string a0, .string a1] w fun e w' => e = .returned (.bool r) ∧ Below w.heap.size w w' := by
  have HB := Aside0.mk (Below.refl w.heap.size w)
  have H : ((octet_Fold.f a0).bind fun t111 => ((octet_Fold.f a1).bind fun t112 => (some (t111.toList == t112.toList)))) = some r := h
  clear h
  replace H := Option.bind_eq_some_iff.mp H
  obtain ⟨t111, A30, H⟩ := H
  replace H : ((octet_Fold.f a1).bind fun t112 => (some (t111.toList == t112.toList))) = some r := H
  have A3 := Aside0.mk A30
  clear A30
  replace H := Option.bind_eq_some_iff.mp H
  obtain ⟨t112, A40, H⟩ := H
  replace H : (some (t111.toList == t112.toList)) = some r := H
  have A4 := Aside0.mk A40
  clear A40
  obtain rfl := Option.some.inj H
  go_enter Try.func37, Try.ntmps37
  go_wp2_with (first | ((with_reducible refine gate_callee (f := 51) rfl ?_); refine goesL_ (some 6) rfl rfl Try.func51 (by kernel_rfl) rfl #[.string a0] rfl (by (try simp only [List.map_toArray, List.map_cons, List.map_nil]); first | done | rfl | (simp only [List.length_drop, List.length_take]; rfl)) ?_; (with_reducible refine (octet_Fold.calls a0 t111 _ A3.out).mono ?_); rintro e w5 ⟨rfl, hb⟩; refine ⟨_, rfl, ?_⟩; have n0_ := Aside0.mk (below_step (by repeat (first | (with_reducible first | exact HB.out | apply below_alloc | apply pw_below_drewN | apply below_drew1) | exact HB.out)) hb); clear HB; have HB := n0_; clear n0_; (try clear hb); (try clear hb2); (try clear hk); (try clear hi)) | ((with_reducible refine gate_callee (f := 51) rfl ?_); refine goesL_ (some 8) rfl rfl Try.func51 (by kernel_rfl) rfl #[.string a1] rfl (by (try simp only [List.map_toArray, List.map_cons, List.map_nil]); first | done | rfl | (simp only [List.length_drop, List.length_take]; rfl)) ?_; (with_reducible refine (octet_Fold.calls a1 t112 _ A4.out).mono ?_); rintro e w6 ⟨rfl, hb⟩; refine ⟨_, rfl, ?_⟩; have n0_ := Aside0.mk (below_step (by repeat (first | (with_reducible first | exact HB.out | apply below_alloc | apply pw_below_drewN | apply below_drew1) | exact HB.out)) hb); clear HB; have HB := n0_; clear n0_; (try clear hb); (try clear hb2); (try clear hk); (try clear hi)))
  go_ret
  exact ⟨by first | rfl | (simp [errW_none, errW_some] <;> rfl) | (simp [*, errW_none, errW_some] <;> rfl), by repeat (first | (with_reducible first | exact HB.out | apply below_alloc | apply pw_below_drewN | apply below_drew1) | exact HB.out)⟩


/-! ### rights_ValidUsers_1: function 42 -/
/-- Are two texts the same when folded? -/
def eqN (a b : ByteArray) : Bool := (foldS a).toList == (foldS b).toList
theorem eqN_ok (a b : ByteArray) (ha : a.size ≤ 9223372036854775807) (hb : b.size ≤ 9223372036854775807) : octet_Equal.f a b = some (eqN a b) := by
  unfold octet_Equal.f octet_Fold.f
  rw [if_pos ha, Option.bind_some, if_pos hb, Option.bind_some]
  rfl
set_option maxHeartbeats 8000000 in
set_option maxRecDepth 100000 in
theorem validUsers_1 (x : S37) (cs : List Value) (f0 f2 : Int) (f1 : ByteArray) (v3 : Value) (r : Bool) (B : Nat) (W0 W : World) (hK : k37.K W0 x cs) (hc : W.heap[B]? = some (.cells #[.int .i64 f0, .string f1, .int .i64 f2, v3] 37 (0, 0)))
    (h : octet_Equal.f f1 x.f1 = some r) :
    Calls Try.prog 42 (#[.agg cs.toArray] ++ #[.pointer (some ⟨B, 0, none⟩)]) W fun e w' => e = .returned (.bool r) ∧ Below W.heap.size W w' := by
  obtain ⟨A3, c3, rfl, _, _⟩ := k37_open hK
  have hB : B < W.heap.size := (Array.getElem?_eq_some_iff.1 hc).1
  have hne : B ≠ W.heap.size := by omega
  have hc1 : W.cell? ⟨B, 1, none⟩ = some (.string f1) := (blk_cell hc 1).trans rfl
  have HE := Aside0.mk h
  show Calls Try.prog 42 #[.agg #[.int .i64 x.f0, .string x.f1, .int .i64 x.f2, .slice A3 x.f3.length c3], .pointer (some ⟨B, 0, none⟩)] W _
  clear hK hc h
  go_enter Try.func42, Try.ntmps42
  go_wp2_with (go_at_call 37; refine (octet_Equal.calls _ _ _ _ HE.out).mono ?_; rintro e w' ⟨rfl, hb⟩)
  go_ret
  exact ⟨rfl, below_step (below_alloc (Below.refl _ _) _) hb⟩
/-- Is one of the names this one? -/
def containsN.f (l : List S37) (nm : ByteArray) : Option Bool := if ((l.all fun u => decide (u.f1.size ≤ 9223372036854775807)) && decide (nm.size ≤ 9223372036854775807)) = true then some (l.any fun v => eqN nm v.f1) else none
theorem containsN.calls (g : Nat) {f0 f2 : Int} {nm : ByteArray} {v3 : Value} {w : World} (hblk : w.heap[g]? = some (.cells #[.int .i64 f0, .string nm, .int .i64 f2, v3] 37 (0, 0))) (A0 : Option Addr) (c0 : Nat) (l0 : List S37) (nm' : ByteArray) (r : Bool)
    (hr0 : Kd.C k37 w A0 l0.length l0) (hc0 : l0.length ≤ c0) (hn : containsN.f l0 nm' = some r) (hnm : nm' = nm := by rfl) :
    Calls Try.prog 41 #[.slice A0 l0.length c0, .func (.func 42) #[] #[.pointer (some ⟨g, 0, none⟩)]] w fun e w' => e = .returned (.bool r) ∧ Below w.heap.size w w' := by
  have h := hnm ▸ hn
  unfold containsN.f at h
  by_cases hz : ((l0.all fun u => decide (u.f1.size ≤ 9223372036854775807)) && decide (nm.size ≤ 9223372036854775807)) = true
  case neg => rw [if_neg hz] at h; exact absurd h (by simp)
  rw [if_pos hz] at h
  obtain rfl := Option.some.inj h
  rw [Bool.and_eq_true, List.all_eq_true, decide_eq_true_eq] at hz
  refine containsFunc37 A0 c0 l0 (fun v => eqN nm v.f1) 42 #[.pointer (some ⟨g, 0, none⟩)] w (enters_of Try.func42 (by kernel_rfl) rfl) hr0 (fun W x cs hx hK hb => ?_)
  exact validUsers_1 x cs f0 f2 nm v3 (eqN nm x.f1) g w W hK ((hb.block g (blk_lt hblk)).trans hblk) (eqN_ok _ _ hz.2 (by simpa using hz.1 x hx))

end Go.Proofs.Ytkmbcjpedmlhfaa.U
