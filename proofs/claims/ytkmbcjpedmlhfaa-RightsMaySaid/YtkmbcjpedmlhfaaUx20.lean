-- PRINTED by print.py (a twelfth state) out of the translation. Not trusted: Lean checks it.
import Derived.Test.YtkmbcjpedmlhfaaUx0
import Derived.Test.YtkmbcjpedmlhfaaUx2
namespace Go.Proofs.Ytkmbcjpedmlhfaa.U
open Go.RowKit Go.Proofs.YtkmbcjpedmlhfaaW.PrintWords Go.Proofs.YtkmbcjpedmlhfaaW.PrintLast Go.Proofs.YtkmbcjpedmlhfaaW.PrintMore
attribute [local go_sem] max2_int min2_int max_two min_two max_three min_three max_four min_four   -- for this text's walks alone
set_option linter.unusedVariables false
set_option linter.unusedSimpArgs false

/-! ### api_Rights_60: function 60 -/
/-- The first place at which p holds, or -1. -/
def ix24 (p : S24 → Bool) (l : List S24) : Int := match l.findIdx? p with | some n => n | none => -1
theorem ix24_hit (p : S24 → Bool) (l : List S24) (k : Nat) (h : k < l.length) (hp : p l[k] = true) (hn : ∀ j (hj : j < k), p (l[j]'(by omega)) = false) : ix24 p l = k := by
  unfold ix24
  have : l.findIdx? p = some k := List.findIdx?_eq_some_iff_getElem.2 ⟨h, hp, fun j hj => by rw [hn j hj]; decide⟩
  rw [this]
theorem ix24_miss (p : S24 → Bool) (l : List S24) (h : ∀ j (hj : j < l.length), p l[j] = false) : ix24 p l = -1 := by
  unfold ix24
  have : l.findIdx? p = none := List.findIdx?_eq_none_iff.2 (fun x hx => by
    obtain ⟨j, hj, rfl⟩ := List.mem_iff_getElem.1 hx
    exact h j hj)
  rw [this]
theorem ix24_any (p : S24 → Bool) (l : List S24) : decide (0 ≤ ix24 p l) = l.any p := by
  unfold ix24
  rw [Bool.eq_iff_iff, decide_eq_true_eq, List.any_eq_true]
  constructor
  · intro h
    cases e : l.findIdx? p with
    | none => rw [e] at h; exact absurd h (by decide)
    | some n =>
      obtain ⟨hn, hp, _⟩ := List.findIdx?_eq_some_iff_getElem.1 e
      exact ⟨_, List.getElem_mem hn, hp⟩
  · rintro ⟨x, hx, hp⟩
    cases e : l.findIdx? p with
    | none => exact absurd hp (by rw [List.findIdx?_eq_none_iff.1 e x hx]; decide)
    | some n => show (0 : Int) ≤ (n : Int); omega
set_option maxHeartbeats 8000000 in
set_option maxRecDepth 100000 in
theorem indexFunc24 (A : Option Addr) (c : Nat) (l : List S24) (p : S24 → Bool) (g : Nat) (lb : Array Value) (w : World)
    (eg : ∀ args w, (callFunc g args).run Try.prog w = .ok (.enter g args) w) (hC : Kd.C k24 w A l.length l)
    (hp : ∀ (W : World) (x : S24) (cs : List Value), x ∈ l → k24.K w x cs → Below w.heap.size w W → Calls Try.prog g (#[.agg cs.toArray] ++ lb) W fun e w' => e = .returned (.bool (p x)) ∧ Below W.heap.size W w') :
    Calls Try.prog 60 #[.slice A l.length c, .func (.func g) #[] lb] w fun e w' => e = .returned (.int .i64 (ix24 p l)) ∧ Below w.heap.size w w' := by
  have hbig := hC.2.1
  have HC := Aside0.mk hC
  have HP := Aside0.mk hp
  clear hC hp
  go_enter Try.func60, Try.ntmps60
  go_wp2
  go_loopg [5, 8] l.length (fun gg _ s8 wr => ∃ kk : Nat, kk ≤ l.length ∧ l.length - kk ≤ gg ∧ s8 = .int .i64 kk ∧ Aside0 (Below w.heap.size w wr) ∧ Aside0 (∀ j, ∀ hj : j < l.length, j < kk → p l[j] = false))
  case atStart => exact ⟨0, Nat.zero_le _, by omega, rfl, ⟨Below.refl _ w⟩, ⟨fun j _ hj => absurd hj (Nat.not_lt_zero _)⟩⟩
  case round =>
    obtain ⟨kk, hkk, hg, rfl, BW, AJ⟩ := hrel
    by_cases hlt : kk < l.length
    · have hltz : (kk : Int) < (l.length : Int) := by omega
      obtain ⟨ad, rfl, hcc⟩ := HC.out.2.2 (by omega)
      obtain ⟨cs, hlen, hK, hcell⟩ := hcc kk _ (List.getElem?_eq_getElem hlt)
      have hcall0 := HP.out wr l[kk] cs (List.getElem_mem hlt) hK BW.out
      obtain rfl := k24_open hK
      have hx0 := pw_cell_below BW.out (hcell 0 _ rfl)
      rw [show k24.sz = 6 from rfl, Nat.add_zero] at hx0
      have hx1 := pw_cell_below BW.out (hcell 1 _ rfl)
      rw [show k24.sz = 6 from rfl, add_field _ _ 1 (by omega)] at hx1
      have hx2 := pw_cell_below BW.out (hcell 2 _ rfl)
      rw [show k24.sz = 6 from rfl, add_field _ _ 2 (by omega)] at hx2
      have hx3 := pw_cell_below BW.out (hcell 3 _ rfl)
      rw [show k24.sz = 6 from rfl, add_field _ _ 3 (by omega)] at hx3
      have hx4 := pw_cell_below BW.out (hcell 4 _ rfl)
      rw [show k24.sz = 6 from rfl, add_field _ _ 4 (by omega)] at hx4
      have hx5 := pw_cell_below BW.out (hcell 5 _ rfl)
      rw [show k24.sz = 6 from rfl, add_field _ _ 5 (by omega)] at hx5
      have hcall : Calls Try.prog g (#[.agg #[.int .i64 l[kk].f0, .int .i64 l[kk].f1, .int .i64 l[kk].f2, .int .i64 l[kk].f3, .int .i64 l[kk].f4, .bool l[kk].f5]] ++ lb) wr (fun e w' => e = .returned (.bool (p l[kk])) ∧ Below wr.heap.size wr w') := hcall0
      clear hcall0 hcc hcell hK
      have HQ : Aside0 (∃ q, p l[kk] = q) := ⟨⟨_, rfl⟩⟩
      obtain ⟨q, hq⟩ := HQ.out
      rw [hq] at hcall
      have HQ2 := Aside0.mk hq
      clear hq
      cases q with
      | true =>
        go_wp2_with (go_at_fn g; refine hcall.mono ?_; rintro e w' ⟨rfl, hb'⟩)
        go_ret
        refine ⟨?_, below_step BW.out hb'⟩
        rw [ix24_hit p l kk hlt HQ2.out (fun j hj => AJ.out j (by omega) hj)]
        rfl
      | false =>
        go_wp2_with (go_at_fn g; refine hcall.mono ?_; rintro e w' ⟨rfl, hb'⟩)
        go_roundg (l.length - (kk + 1))
        case measure => omega
        case rel =>
          refine ⟨kk + 1, by omega, by omega, by go_num, ⟨below_step BW.out hb'⟩, ⟨fun j hj hj2 => ?_⟩⟩
          by_cases e : j = kk
          · subst e
            exact HQ2.out
          · exact AJ.out j hj (by omega)
    · have hltz : ¬ (kk : Int) < (l.length : Int) := by omega
      go_wp2
      go_ret
      refine ⟨?_, BW.out⟩
      rw [ix24_miss p l (fun j hj => AJ.out j hj (by omega))]
      rfl


/-! ### api_Rights_53: function 53 -/
set_option maxHeartbeats 8000000 in
set_option maxRecDepth 100000 in
theorem containsFunc24 (A : Option Addr) (c : Nat) (l : List S24) (p : S24 → Bool) (g : Nat) (lb : Array Value) (w : World)
    (eg : ∀ args w, (callFunc g args).run Try.prog w = .ok (.enter g args) w) (hC : Kd.C k24 w A l.length l)
    (hp : ∀ (W : World) (x : S24) (cs : List Value), x ∈ l → k24.K w x cs → Below w.heap.size w W → Calls Try.prog g (#[.agg cs.toArray] ++ lb) W fun e w' => e = .returned (.bool (p x)) ∧ Below W.heap.size W w') :
    Calls Try.prog 53 #[.slice A l.length c, .func (.func g) #[] lb] w fun e w' => e = .returned (.bool (l.any p)) ∧ Below w.heap.size w w' := by
  rw [← ix24_any p l]
  have hcon := indexFunc24 A c l p g lb w eg hC hp
  generalize ix24 p l = r at hcon ⊢
  clear hC hp
  go_enter Try.func53, Try.ntmps53
  go_wp2_with (go_at_call 60; refine hcon.mono ?_; rintro e w' ⟨rfl, hb'⟩)
  go_ret
  exact ⟨rfl, hb'⟩


/-! ### rights_isWay_1: function 54 -/
/-- Are these rights none? -/
def badR (r : S24) : Bool := !((rights_Valid.f r.f0 r.f1 r.f2 r.f3 r.f4 r.f5).getD false)
theorem badR_ok (r : S24) : rights_Valid.f r.f0 r.f1 r.f2 r.f3 r.f4 r.f5 = some (!(badR r)) := by
  have hw : ∀ a b c : Int, ∃ q, rights_within.f a b c = some q := fun a b c => by
    unfold rights_within.f
    split
    · exact ⟨_, rfl⟩
    · exact ⟨_, rfl⟩
  have h : ∃ q, rights_Valid.f r.f0 r.f1 r.f2 r.f3 r.f4 r.f5 = some q := by
    unfold rights_Valid.f
    obtain ⟨q1, h1⟩ := hw r.f2 0 7
    obtain ⟨q2, h2⟩ := hw r.f3 0 7
    obtain ⟨q3, h3⟩ := hw r.f4 0 7
    rw [h1, h2, h3]
    simp only [Option.bind_some]
    repeat' split
    all_goals exact ⟨_, rfl⟩
  obtain ⟨q, hq⟩ := h
  unfold badR
  rw [hq]
  cases q <;> rfl
set_option maxHeartbeats 8000000 in
set_option maxRecDepth 100000 in
theorem isWay_1 (x : S24) (cs : List Value) (W0 W : World) (hK : k24.K W0 x cs) :
    Calls Try.prog 54 (#[.agg cs.toArray] ++ #[]) W fun e w' => e = .returned (.bool (badR x)) ∧ Below W.heap.size W w' := by
  obtain rfl := k24_open hK
  have HE := Aside0.mk (badR_ok x)
  show Calls Try.prog 54 #[.agg #[.int .i64 x.f0, .int .i64 x.f1, .int .i64 x.f2, .int .i64 x.f3, .int .i64 x.f4, .bool x.f5]] W _
  clear hK
  go_enter Try.func54, Try.ntmps54
  go_wp2_with (go_at_call 20; refine (rights_Valid.calls _ _ _ _ _ _ _ _ HE.out).mono ?_; rintro e w' ⟨rfl, hb⟩)
  go_ret
  exact ⟨rfl, below_step (below_alloc (Below.refl _ _) _) hb⟩
/-- Are some of these rights none? -/
def anyBad.f (l : List S24) : Option Bool := some (l.any badR)
theorem anyBad.calls (A0 : Option Addr) (c0 : Nat) (l0 : List S24) (r : Bool) (w : World) (hr0 : Kd.C k24 w A0 l0.length l0) (hc0 : l0.length ≤ c0) (h : anyBad.f l0 = some r) :
    Calls Try.prog 53 #[.slice A0 l0.length c0, .func (.func 54) #[] #[]] w fun e w' => e = .returned (.bool r) ∧ Below w.heap.size w w' := by
  obtain rfl := Option.some.inj h
  exact containsFunc24 A0 c0 l0 badR 54 #[] w (enters_of Try.func54 (by kernel_rfl) rfl) hr0 (fun W x cs hx hK hb => isWay_1 x cs w W hK)


/-! ### rights_isWay: function 45 -/
def rights_isWay.f (l0 : List (S24)) : Option (Bool) := (rights_within.f (l0.length : Int) 1 60).bind fun t147 => (if t147 = true then ((anyBad.f l0).bind fun t148 => (some (!t148))) else (some false))
set_option maxHeartbeats 8000000 in
set_option maxRecDepth 100000 in
theorem rights_isWay.calls (A0 : Option Addr) (c0 : Nat) (l0 : List (S24)) (r : Bool) (w : World) (hr0 : Kd.C k24 w A0 l0.length l0) (hc0 : l0.length ≤ c0) (h : rights_isWay.f l0 = some r) :
    Calls Try.prog 45 #[.slice A0 l0.length c0] w fun e w' => e = .returned (.bool r) ∧ Below w.heap.size w w' := by
  have HR0 := Aside0.mk hr0
  have HC0 := Aside0.mk hc0
  clear hr0 hc0
  have HB := Aside0.mk (Below.refl w.heap.size w)
  have H : ((rights_within.f (l0.length : Int) 1 60).bind fun t147 => (if t147 = true then ((anyBad.f l0).bind fun t148 => (some (!t148))) else (some false))) = some r := h
  clear h
  replace H := Option.bind_eq_some_iff.mp H
  obtain ⟨t147, A20, H⟩ := H
  replace H : (if t147 = true then ((anyBad.f l0).bind fun t148 => (some (!t148))) else (some false)) = some r := H
  have A2 := Aside0.mk A20
  clear A20
  by_cases c3 : t147 = true
  · subst c3
    have H1 : ((anyBad.f l0).bind fun t148 => (some (!t148))) = some r := by rw [if_pos rfl] at H; exact H
    clear H
    have H := H1
    clear H1
    replace H := Option.bind_eq_some_iff.mp H
    obtain ⟨t148, A40, H⟩ := H
    replace H : (some (!t148)) = some r := H
    have A4 := Aside0.mk A40
    clear A40
    obtain rfl := Option.some.inj H
    go_enter Try.func45, Try.ntmps45
    go_wp2_with (first | ((with_reducible refine gate_callee (f := 43) rfl ?_); refine goesL_ (some 5) rfl rfl Try.func43 (by kernel_rfl) rfl #[.int .i64 (l0.length : Int), .int .i64 1, .int .i64 60] rfl (by (try simp only [List.map_toArray, List.map_cons, List.map_nil]); first | done | rfl | (simp only [List.length_drop, List.length_take]; rfl)) ?_; (with_reducible refine (rights_within.calls (l0.length : Int) 1 60 true _ A2.out).mono ?_); rintro e w' ⟨rfl, ⟨nd, rfl⟩⟩; refine ⟨_, rfl, ?_⟩) | (go_at_call 53; (with_reducible refine (anyBad.calls _ _ l0 t148 _ ?side1 ?side2 A4.out).mono ?_); (case side1 => repeat (first | exact HR0.out | (with_reducible refine Kd.C_alloc ?_ _) | (with_reducible refine Kd.C_drewN ?_ _) | (with_reducible refine Kd.C_drew ?_))); (case side2 => exact HC0.out); rintro e w5 ⟨rfl, hb⟩; have n0_ := Aside0.mk (below_step (by repeat (first | (with_reducible first | exact HB.out | apply below_alloc | apply pw_below_drewN | apply below_drew1) | exact HB.out)) hb); clear HB; have HB := n0_; clear n0_; (try clear hb); (try clear hb2); (try clear hk); (try clear hi)))
    go_ret
    exact ⟨by first | rfl | (simp [errW_none, errW_some] <;> rfl) | (simp [*, errW_none, errW_some] <;> rfl), by repeat (first | (with_reducible first | exact HB.out | apply below_alloc | apply pw_below_drewN | apply below_drew1) | exact HB.out)⟩
  · replace c3 := Bool.eq_false_iff.mpr c3
    subst c3
    have H1 : (some false) = some r := by rw [if_neg (show ¬ (false = true) by decide)] at H; exact H
    clear H
    have H := H1
    clear H1
    obtain rfl := Option.some.inj H
    go_enter Try.func45, Try.ntmps45
    go_wp2_with (first | ((with_reducible refine gate_callee (f := 43) rfl ?_); refine goesL_ (some 5) rfl rfl Try.func43 (by kernel_rfl) rfl #[.int .i64 (l0.length : Int), .int .i64 1, .int .i64 60] rfl (by (try simp only [List.map_toArray, List.map_cons, List.map_nil]); first | done | rfl | (simp only [List.length_drop, List.length_take]; rfl)) ?_; (with_reducible refine (rights_within.calls (l0.length : Int) 1 60 false _ A2.out).mono ?_); rintro e w' ⟨rfl, ⟨nd, rfl⟩⟩; refine ⟨_, rfl, ?_⟩))
    go_ret
    exact ⟨by first | rfl | (simp [errW_none, errW_some] <;> rfl) | (simp [*, errW_none, errW_some] <;> rfl), by repeat (first | (with_reducible first | exact HB.out | apply below_alloc | apply pw_below_drewN | apply below_drew1) | exact HB.out)⟩

end Go.Proofs.Ytkmbcjpedmlhfaa.U
