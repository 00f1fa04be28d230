/- The program's end: bytes are put and read. -/
import Derived.Test.YtpfgcchammlpgaaVC
namespace Go.Proofs.Ytpfgcchammlpgaa.V
open Go Go.Proofs.YtpfgcchammlpgaaV
set_option linter.unusedVariables false
set_option linter.unusedSimpArgs false
set_option maxHeartbeats 1000000
set_option maxRecDepth 4000
attribute [local irreducible] IntKind.wrap
variable {I : Imm} {w : World} {L : List Asn}
theorem plusS_zero {b : Nat} (h : b < M) : plusS b 0 = b := Nat.mod_eq_of_lt h
theorem plusS_plus (b m n : Nat) : plusS (plusS b m) n = plusS b (m + n) := by unfold plusS M; omega
theorem endsL_append : ∀ (xs ys : List Bf) (b : Nat), b < M → endsL b (xs ++ ys) = endsL b xs ++ endsL (plusS b xs.length) ys
  | [], ys, b, h => by rw [List.length_nil, plusS_zero h]; rfl
  | x :: xs, ys, b, h => by
    have ih := endsL_append xs ys (plusS b 1) (plusS_lt _ _)
    rw [plusS_plus, Nat.add_comm 1] at ih
    rw [List.cons_append, List.length_cons]
    show (if x.2 = true then b :: endsL (plusS b 1) (xs ++ ys) else endsL (plusS b 1) (xs ++ ys)) = (if x.2 = true then b :: endsL (plusS b 1) xs else endsL (plusS b 1) xs) ++ _
    rw [ih]
    split <;> rfl
theorem endsL_len : ∀ (l : List Bf) (b : Nat), (endsL b l).length ≤ l.length
  | [], _ => Nat.zero_le _
  | x :: r, b => by
    have := endsL_len r (plusS b 1)
    unfold endsL
    split
    · simp only [List.length_cons]; omega
    · simp only [List.length_cons]; omega
theorem endsL_lt : ∀ (l : List Bf) (b : Nat), b < M → ∀ x ∈ endsL b l, x < M
  | [], _, _, x, hx => by cases hx
  | y :: r, b, h, x, hx => by
    unfold endsL at hx
    split at hx
    · rcases List.mem_cons.1 hx with rfl | hx
      · exact h
      · exact endsL_lt r _ (plusS_lt _ _) x hx
    · exact endsL_lt r _ (plusS_lt _ _) x hx
theorem endsL_mark : ∀ (l : By) (e : Bool) (b : Nat), b < M → endsL b (markS l e) = if e = true ∧ l ≠ [] then [plusS b (l.length - 1)] else []
  | [], e, b, h => by rw [if_neg (fun hh => hh.2 rfl)]; rfl
  | [x], e, b, h => by
    show (if e = true then b :: [] else []) = _
    cases e with
    | true => rw [if_pos rfl, if_pos ⟨rfl, by simp⟩]; show [b] = [plusS b 0]; rw [plusS_zero h]
    | false => rw [if_neg (by decide), if_neg (fun hh => by cases hh.1)]
  | x :: y :: r, e, b, h => by
    show endsL (plusS b 1) (markS (y :: r) e) = _
    rw [endsL_mark (y :: r) e (plusS b 1) (plusS_lt _ _), plusS_plus]
    cases e with
    | true => rw [if_pos ⟨rfl, by simp⟩, if_pos ⟨rfl, by simp⟩]; congr 2; simp only [List.length_cons]; omega
    | false => rw [if_neg (fun hh => by cases hh.1), if_neg (fun hh => by cases hh.1)]
theorem marksL_append : ∀ (xs ys : List Bf) (k : Nat), marksL k (xs ++ ys) = marksL k xs ++ marksL (k + xs.length) ys
  | [], ys, k => rfl
  | x :: xs, ys, k => by
    have ih := marksL_append xs ys (k + 1)
    rw [List.cons_append, List.length_cons]
    show (if x.2 = true then (k + 1) :: marksL (k + 1) (xs ++ ys) else marksL (k + 1) (xs ++ ys)) = (if x.2 = true then (k + 1) :: marksL (k + 1) xs else marksL (k + 1) xs) ++ _
    rw [ih, show k + 1 + xs.length = k + (xs.length + 1) by omega]
    split <;> rfl
theorem marksL_len : ∀ (l : List Bf) (k : Nat), (marksL k l).length ≤ l.length
  | [], _ => Nat.zero_le _
  | x :: r, k => by
    have := marksL_len r (k + 1)
    unfold marksL
    split
    · simp only [List.length_cons]; omega
    · simp only [List.length_cons]; omega
theorem marksL_mark : ∀ (l : By) (e : Bool) (k : Nat), marksL k (markS l e) = if e = true ∧ l ≠ [] then [k + l.length] else []
  | [], e, k => by rw [if_neg (fun hh => hh.2 rfl)]; rfl
  | [x], e, k => by
    show (if e = true then (k + 1) :: [] else []) = _
    cases e with
    | true => rw [if_pos rfl, if_pos ⟨rfl, by simp⟩]; rfl
    | false => rw [if_neg (by decide), if_neg (fun hh => by cases hh.1)]
  | x :: y :: r, e, k => by
    show marksL (k + 1) (markS (y :: r) e) = _
    rw [marksL_mark (y :: r) e (k + 1)]
    cases e with
    | true => rw [if_pos ⟨rfl, by simp⟩, if_pos ⟨rfl, by simp⟩]; congr 1; simp only [List.length_cons]; omega
    | false => rw [if_neg (fun hh => by cases hh.1), if_neg (fun hh => by cases hh.1)]
theorem marksL_shift : ∀ (l : List Bf) (k d : Nat), marksL (k + d) l = (marksL k l).map (· + d)
  | [], _, _ => rfl
  | x :: r, k, d => by
    have ih := marksL_shift r (k + 1) d
    unfold marksL
    rw [show k + d + 1 = k + 1 + d by omega, ih]
    split <;> rfl
theorem cutE_cons (x : Bf) (r : List Bf) (k : Nat) : cutE (x :: r) (k + 1) = (x.2 || cutE r k) := by unfold cutE; rw [List.take_succ_cons, List.any_cons]
theorem marks_none : ∀ (l : List Bf) (j : Nat), marksL j l = [] → ∀ x ∈ l, x.2 = false
  | [], _, _, x, hx => by cases hx
  | y :: r, j, h, x, hx => by
    unfold marksL at h
    split at h
    · cases h
    · rename_i hy
      rcases List.mem_cons.1 hx with rfl | hx
      · simpa using hy
      · exact marks_none r _ h x hx
theorem none_marks : ∀ (l : List Bf) (j : Nat), (∀ x ∈ l, x.2 = false) → marksL j l = []
  | [], _, _ => rfl
  | y :: r, j, h => by
    unfold marksL
    rw [if_neg (by rw [h y List.mem_cons_self]; decide)]
    exact none_marks r _ fun x hx => h x (List.mem_cons_of_mem _ hx)
theorem none_cut : ∀ (l : List Bf) (n : Nat), (∀ x ∈ l, x.2 = false) → cutN l n = min n l.length ∧ ∀ k, cutE l k = false
  | [], n, _ => ⟨by unfold cutN; rw [List.length_nil, Nat.min_zero], fun k => by unfold cutE; simp⟩
  | y :: r, n, h => by
    have hy := h y List.mem_cons_self
    have h2 := fun n => none_cut r n fun x hx => h x (List.mem_cons_of_mem _ hx)
    refine ⟨?_, fun k => ?_⟩
    · cases n with
      | zero => unfold cutN; rw [Nat.zero_min]
      | succ n =>
        unfold cutN
        rw [if_neg (by rw [hy]; decide), (h2 n).1, List.length_cons]
        omega
    · cases k with
      | zero => rfl
      | succ k => rw [cutE_cons, hy, (h2 0).2]; rfl
theorem marks_cons : ∀ (l : List Bf) (j n x : Nat) (r : List Nat), marksL j l = x :: r → j < x ∧ x ≤ j + l.length ∧ (x ≤ j + n → cutN l n = x - j ∧ cutE l (x - j) = true ∧ marksL x (l.drop (x - j)) = r) ∧
    (j + n < x → cutN l n = n ∧ n < l.length ∧ cutE l n = false ∧ marksL (j + n) (l.drop n) = x :: r)
  | [], _, _, _, _, h => by cases h
  | y :: l, j, n, x, r, h => by
    have h0 := h
    unfold marksL at h
    split at h
    · rename_i hy
      injection h with h1 h2
      subst h1
      have e1 : j + 1 - j = 1 := by omega
      refine ⟨by omega, by rw [List.length_cons]; omega, fun hn => ?_, fun hn => ?_⟩
      · rw [e1]
        refine ⟨?_, by rw [cutE_cons, hy]; rfl, h2⟩
        cases n with
        | zero => omega
        | succ n => unfold cutN; rw [if_pos hy]
      · obtain rfl : n = 0 := by omega
        exact ⟨rfl, by rw [List.length_cons]; omega, rfl, h0⟩
    · rename_i hy
      have hy : y.2 = false := by simpa using hy
      cases n with
      | zero =>
        obtain ⟨i1, i2, _, _⟩ := marks_cons l (j + 1) 0 x r h
        refine ⟨by omega, by rw [List.length_cons]; omega, fun hn => by omega, fun hn => ⟨rfl, by rw [List.length_cons]; omega, rfl, h0⟩⟩
      | succ n =>
        obtain ⟨i1, i2, i3, i4⟩ := marks_cons l (j + 1) n x r h
        refine ⟨by omega, by rw [List.length_cons]; omega, fun hn => ?_, fun hn => ?_⟩
        · obtain ⟨k1, k2, k3⟩ := i3 (by omega)
          have e : x - j = (x - (j + 1)) + 1 := by omega
          rw [e]
          refine ⟨?_, by rw [cutE_cons, hy, k2]; rfl, k3⟩
          unfold cutN
          rw [if_neg (by rw [hy]; decide), k1]
        · obtain ⟨k1, k2, k3, k4⟩ := i4 (by omega)
          refine ⟨?_, by rw [List.length_cons]; omega, by rw [cutE_cons, hy, k3]; rfl, ?_⟩
          · unfold cutN
            rw [if_neg (by rw [hy]; decide), k1]
          · rw [show j + (n + 1) = j + 1 + n by omega]; exact k4
theorem marks_less {l : List Bf} {k : Nat} {ms : List Nat} (h : marksL k l = ms) : marksL 0 l = ms.map (· - k) := by
  have e := marksL_shift l 0 k
  rw [Nat.zero_add, h] at e
  rw [e, List.map_map]
  have : ((fun x => x - k) ∘ fun x => x + k) = id := by funext x; simp
  rw [this, List.map_id]
/-- What a reading leaves of the marks, and what it takes. -/
theorem marks_read (l : List Bf) (n : Nat) {ms : List Nat} (h : marksL 0 l = ms) :
    (ms = [] ∧ cutN l n = min n l.length ∧ cutE l (cutN l n) = false ∧ marksL 0 (l.drop (cutN l n)) = []) ∨
    (∃ x r, ms = x :: r ∧ x ≤ l.length ∧ ((x ≤ n ∧ cutN l n = x ∧ cutE l x = true ∧ marksL 0 (l.drop x) = r.map (· - x) ∧ ∀ y ∈ r, x < y) ∨ (n < x ∧ cutN l n = n ∧ cutE l n = false ∧ marksL 0 (l.drop n) = (x :: r).map (· - n) ∧ ∀ y ∈ x :: r, n < y))) := by
  have hmono : ∀ (l : List Bf) (j : Nat), ∀ y ∈ marksL j l, j < y := by
    intro l
    induction l with
    | nil => intro j y hy; cases hy
    | cons x r ih =>
      intro j y hy
      unfold marksL at hy
      split at hy
      · rcases List.mem_cons.1 hy with rfl | hy
        · omega
        · have := ih _ y hy; omega
      · have := ih _ y hy; omega
  cases ms with
  | nil =>
    have hn := marks_none l 0 h
    refine .inl ⟨rfl, (none_cut l n hn).1, (none_cut l n hn).2 _, none_marks _ _ fun x hx => hn x (List.mem_of_mem_drop hx)⟩
  | cons x r =>
    obtain ⟨h1, h2, h3, h4⟩ := marks_cons l 0 n x r h
    rw [Nat.sub_zero, Nat.zero_add] at h3
    rw [Nat.zero_add] at h4 h2
    refine .inr ⟨x, r, rfl, h2, ?_⟩
    rcases Nat.lt_or_ge n x with hn | hn
    · obtain ⟨k1, k2, k3, k4⟩ := h4 hn
      exact .inr ⟨hn, k1, k3, marks_less k4, fun y hy => hmono _ _ y (k4 ▸ hy)⟩
    · obtain ⟨k1, k2, k3⟩ := h3 hn
      exact .inl ⟨hn, k1, k2, marks_less k3, fun y hy => hmono _ _ y (k3 ▸ hy)⟩
theorem Put_any {e : Nat} {E : En} (H : Holds I w (endA I e E :: L)) {v : Value} {l : By} (hv : SlI I v 1 l.length (byL l)) (hl2 : l.length ≤ 1000000) {en : Bool} :
    Rets Try.prog F_stream_End_Put #[ptr e, v, .bool en] w fun u w' => u = .int .i64 (putS E l en).2 ∧ Holds I w' (endA I e (putS E l en).1 :: L) := by
  obtain ⟨A, cap, rfl, hcap⟩ := hv.form
  obtain ⟨A1, c1, A2, c2, A3, c3, A4, c4, A5, c5, nv, cd, ob, es, ib, ms, hl, hm, HB⟩ := end_open H
  clear H
  have H := HB
  clear HB
  have ok := hm.ok
  have hb := ok.base
  have ho := ok.out
  have hol := hl.outL
  have hes := endsL_len E.out E.base
  rw [hl.ends] at hes
  by_cases h3 : E.state = 3
  · have h3' : ¬ (E.state ≠ 3) := fun h => h h3
    unfold putS
    rw [if_neg h3']
    have e1 : IntKind.i64.wrap ((ob.length : Int) + l.length) = ((ob.length + l.length : Nat) : Int) := by rw [wrap_i64 (by omega) (by omega)]; omega
    by_cases hn : l.length = 0
    · rw [if_pos hn]
      refine ok_stream_End_Put.rets rfl ?_
      repeat' (first
        | (show VcL _ _ _ _ _ _ _ _; first
      | refine VcL.pures tabOk rfl ?_
      | refine VcL.nil ?_
      | (show VcL _ _ _ _ (⟨_, .call ⟨.value (.func F_stream_End_asked), _, _⟩, _, _, _, _⟩ :: _) _ _ _; (refine VcL.callF ok_stream_End_asked rfl rfl rfl rfl (Rets.mono (asked_any (E := E) H Holds.toW ok) ?_); rintro _ w ⟨rfl, H⟩; rw [if_neg h3'])))
        | (show Vc _ _ _ _ _ _; first
      | refine Vc.seq ?_
      | refine Vc.region ?_
      | refine Vc.condF rfl ?_
      | refine Vc.ret ?_
      | refine Vc.skip ?_
      | refine Vc.block ?_
      | (refine Vc.cond rfl (fun h => ?_) (fun h => ?_) <;> first | (exfalso; simp only [decide_eq_true_eq, decide_eq_false_iff_not, Bool.not_eq_true', Bool.not_eq_false'] at h; omega) | (with_reducible have hp := of_decide_eq_true h)))
        | (show KSeq _ _ _ _ _ _ _; first
      | refine KSeq.normal ?_
      | refine KSeq.ret ?_)
        | (show KBlock _ _ _ _ _ _; refine KBlock.ret ?_)
        | (show KEnd _ _ _ _ _ _ _; refine KEnd.fin (Or.inr rfl) ⟨_, (ResL.tmp rfl ResL.nil), ?_⟩))
      exact ⟨rfl, end_close _ hm hl H⟩
    · rw [if_neg hn]
      by_cases hf : 200 < E.out.length + l.length
      · rw [if_pos hf]
        refine ok_stream_End_Put.rets rfl ?_
        repeat' (first
          | rw [e1]
          | (show VcL _ _ _ _ _ _ _ _; first
      | refine VcL.pures tabOk rfl ?_
      | refine VcL.nil ?_
      | (show VcL _ _ _ _ (⟨_, .load _ _, _, _, _, _⟩ :: _) _ _ _; refine VcL.load1 tabOk rfl rfl rfl rfl rfl (by exact Holds.cell H rfl) ?_)
      | (show VcL _ _ _ _ (⟨_, .call ⟨.value (.func F_stream_End_asked), _, _⟩, _, _, _, _⟩ :: _) _ _ _; (refine VcL.callF ok_stream_End_asked rfl rfl rfl rfl (Rets.mono (asked_any (E := E) H Holds.toW ok) ?_); rintro _ w ⟨rfl, H⟩; rw [if_neg h3'])))
          | (show Vc _ _ _ _ _ _; first
      | refine Vc.seq ?_
      | refine Vc.region ?_
      | refine Vc.condF rfl ?_
      | refine Vc.ret ?_
      | refine Vc.skip ?_
      | refine Vc.block ?_
      | (refine Vc.cond rfl (fun h => ?_) (fun h => ?_) <;> first | (exfalso; simp only [decide_eq_true_eq, decide_eq_false_iff_not, Bool.not_eq_true', Bool.not_eq_false'] at h; omega) | (with_reducible have hp := of_decide_eq_true h) | (with_reducible have hp := of_decide_eq_false h)))
          | (show KSeq _ _ _ _ _ _ _; first
      | refine KSeq.normal ?_
      | refine KSeq.ret ?_)
          | (show KBlock _ _ _ _ _ _; refine KBlock.ret ?_)
          | (show KEnd _ _ _ _ _ _ _; refine KEnd.fin (Or.inr rfl) ⟨_, (ResL.tmp rfl ResL.nil), ?_⟩))
        exact ⟨rfl, end_close _ hm hl H⟩
      · rw [if_neg hf]
        have e2 : IntKind.i64.wrap (((ob.length + l.length : Nat) : Int) - 1) = ((ob.length + l.length - 1 : Nat) : Int) := by rw [wrap_i64 (by omega) (by omega)]; omega
        unfold M at hb
        refine ok_stream_End_Put.rets rfl ?_
        repeat' (first
          | rw [e1]
          | rw [e2]
          | (refine VcL.append (m := l.length) (ds := byL l) tabOk rfl rfl rfl rfl (Holds.f1 H) (SlI.src hv (Holds.drop (Holds.f1 H))) (byL_one l) (by show (_ + _) * 1 ≤ _; omega) rfl rfl rfl (fun v_ w H => ?_); obtain ⟨_, A6, c6, rfl⟩ := Holds.own_len H)
          | (refine VcD.append tabOk rfl rfl rfl rfl rfl (Holds.f3 H) (Src.slice rfl (Holds.pt_rd H)) (ntC_one [plusS E.base (ob.length + l.length - 1)]) (by show (_ + 1) * 8 ≤ _; omega) rfl rfl rfl (fun v_ w H => ⟨Holds.rdWhole (Holds.f2 H), ?_⟩); obtain ⟨_, A7, c7, rfl⟩ := Holds.own_len H)
          | (show VcL _ _ _ _ _ _ _ _; first
      | refine VcL.pures tabOk rfl ?_
      | refine VcL.nil ?_
      | (show VcL _ _ _ _ (⟨_, .load _ _, _, _, _, _⟩ :: _) _ _ _; refine VcL.load1 tabOk rfl rfl rfl rfl rfl (by exact Holds.cell H rfl) ?_)
      | (show VcL _ _ _ _ (⟨_, .store _ _ _, _, _, _, _⟩ :: _) _ _ _; refine VcL.store tabOk rfl (by exact (Holds.f1 H)) rfl rfl (by exact rfl) (by exact rfl) (by exact rfl) (by exact rfl) (fun w H => ?_))
      | (show VcL _ _ _ _ (⟨_, .call ⟨.value (.func F_stream_End_asked), _, _⟩, _, _, _, _⟩ :: _) _ _ _; (refine VcL.callF ok_stream_End_asked rfl rfl rfl rfl (Rets.mono (asked_any (E := E) H Holds.toW ok) ?_); rintro _ w ⟨rfl, H⟩; rw [if_neg h3'])))
          | (show VcD _ _ _ _ _ _ _ _ _; first
      | refine VcD.pures tabOk rfl ?_
      | refine VcD.done ?_
      | (show VcD _ _ _ _ _ (.take _ _) _ _ _; refine VcD.load1 tabOk rfl rfl rfl rfl rfl rfl (by intro w_ hw_; exact hw_ _ _ rfl) (by exact rfl) ?_)
      | (show VcD _ _ _ _ _ (.only _ _) _ _ _; first
      | (refine VcD.callF (f := F_stream_plus) rfl ok_stream_plus rfl rfl rfl rfl (Rets.mono (plus_any (a := E.base) (b := ob.length + l.length - 1) H (by omega) (by omega)) ?_); rintro _ w ⟨rfl, H⟩; refine ⟨(by exact Holds.rdWhole H), ?_⟩)
      | (refine VcD.eff rfl rfl rfl rfl (OpE.buildSliceP tabOk H rfl rfl rfl rfl) ?_; rintro _ w ⟨b_, rfl, H⟩; refine ⟨(by exact Holds.rdWhole (Holds.f1 H)), ?_⟩)
      | (refine VcD.eff rfl rfl rfl rfl (OpE.store tabOk (by exact (Holds.f2 H)) rfl rfl rfl (by exact rfl) (by exact rfl) (by exact rfl) (by exact rfl)) ?_; rintro _ w ⟨_, H⟩; refine ⟨(by trivial), ?_⟩)))
          | (show Vc _ _ _ _ _ _; first
      | refine Vc.seq ?_
      | refine Vc.region ?_
      | refine Vc.condF rfl ?_
      | refine Vc.ret ?_
      | refine Vc.skip ?_
      | refine Vc.block ?_
      | (refine Vc.drawn (id := 10) (.pure 0 (.pure 1 (.pure 2 (.pure 3 (.pure 5 (.pure 6 (.pure 7 (.pure 9 (.pure 10 (.pure 11 (.take 4 (.take 8 (.take 12 (.pure 13 (.pure 14 (.only 15 (.only 16 (.only 17 (.pure 18 (.pure 19 (.only 20 .done))))))))))))))))))))) (.till (fun w => Rd w e 0 (endV E ⟨.slice A6 (ob.length + l.length) c6, .slice A2 es.length c2, .slice A3 ib.length c3, .slice A4 ms.length c4, nv, .slice A5 cd.length c5, cd⟩)) 20 (.one (fun _ => True))) mixed (by kernel_rfl) (by exact Holds.rdWhole (Holds.drew H _)) ?_; have H := H.drew (w.drawn + 1))
      | (refine Vc.cond rfl (fun h => ?_) (fun h => ?_) <;> first | (exfalso; simp only [decide_eq_true_eq, decide_eq_false_iff_not, Bool.not_eq_true', Bool.not_eq_false'] at h; omega) | (with_reducible have hp := of_decide_eq_false h) | skip))
          | (show KSeq _ _ _ _ _ _ _; refine KSeq.normal ?_)
          | (show KBlock _ _ _ _ _ _; refine KBlock.normal ?_)
          | (show KEnd _ _ _ _ _ _ _; refine KEnd.fin (Or.inr rfl) ⟨_, (ResL.tmp rfl ResL.nil), ?_⟩))
        · have hle : l ≠ [] := fun e => hn (by rw [e]; rfl)
          refine ⟨rfl, end_close ⟨.slice A6 (ob.length + l.length) c6, .slice A7 (es.length + 1) c7, .slice A3 ib.length c3, .slice A4 ms.length c4, nv, .slice A5 cd.length c5, cd⟩ ⟨{ ok with out := by show (E.out ++ markS l en).length ≤ 200; rw [List.length_append, markS_len]; omega }, hm.news, hm.codes, hm.each⟩ (ob := ob ++ l) (es := es ++ [plusS E.base (ob.length + l.length - 1)]) ⟨?_, ?_, hl.inn, hl.marks⟩ ?_⟩
          · show (E.out ++ markS l en).map (·.1) = _
            rw [List.map_append, markS_fst, hl.out]
          · show endsL E.base (E.out ++ markS l en) = _
            rw [endsL_append _ _ _ ok.base, hl.ends, endsL_mark _ _ _ (plusS_lt _ _), if_pos ⟨h, hle⟩, plusS_plus, ← hol]
            congr 3
            omega
          · show Holds I w (blk e _ _ :: own _ _ 1 (ob ++ l).length (byL (ob ++ l)) :: own _ _ 1 (es ++ [plusS E.base (ob.length + l.length - 1)]).length ((es ++ [plusS E.base (ob.length + l.length - 1)]).flatMap ntC) :: _)
            rw [List.length_append, show byL (ob ++ l) = byL ob ++ byL l from List.map_append, List.length_append, flat_snoc]
            exact Holds.re [0, 1, 0] (Holds.drop2 H) rfl
        · refine ⟨rfl, end_close ⟨.slice A6 (ob.length + l.length) c6, .slice A2 es.length c2, .slice A3 ib.length c3, .slice A4 ms.length c4, nv, .slice A5 cd.length c5, cd⟩ ⟨{ ok with out := by show (E.out ++ markS l en).length ≤ 200; rw [List.length_append, markS_len]; omega }, hm.news, hm.codes, hm.each⟩ (ob := ob ++ l) (es := es) ⟨?_, ?_, hl.inn, hl.marks⟩ ?_⟩
          · show (E.out ++ markS l en).map (·.1) = _
            rw [List.map_append, markS_fst, hl.out]
          · show endsL E.base (E.out ++ markS l en) = _
            rw [endsL_append _ _ _ ok.base, hl.ends, endsL_mark _ _ _ (plusS_lt _ _), if_neg (fun hh => by rw [h] at hh; cases hh.1), List.append_nil]
          · show Holds I w (blk e _ _ :: own _ _ 1 (ob ++ l).length (byL (ob ++ l)) :: _)
            rw [List.length_append, show byL (ob ++ l) = byL ob ++ byL l from List.map_append]
            exact H
  · unfold putS
    rw [if_pos h3]
    refine ok_stream_End_Put.rets rfl ?_
    repeat' (first
      | (show VcL _ _ _ _ _ _ _ _; first
      | refine VcL.pures tabOk rfl ?_
      | refine VcL.nil ?_
      | (show VcL _ _ _ _ (⟨_, .call ⟨.value (.func F_stream_End_asked), _, _⟩, _, _, _, _⟩ :: _) _ _ _; (refine VcL.callF ok_stream_End_asked rfl rfl rfl rfl (Rets.mono (asked_any (E := E) H Holds.toW ok) ?_); rintro _ w ⟨rfl, H⟩; rw [if_pos h3])))
      | (show Vc _ _ _ _ _ _; first
      | refine Vc.seq ?_
      | refine Vc.region ?_
      | refine Vc.condT rfl ?_
      | refine Vc.ret ?_)
      | (show KSeq _ _ _ _ _ _ _; first
      | refine KSeq.normal ?_
      | refine KSeq.ret ?_)
      | (show KEnd _ _ _ _ _ _ _; refine KEnd.fin (Or.inr rfl) ⟨_, (ResL.tmp rfl ResL.nil), ?_⟩))
    exact ⟨rfl, end_close _ hm hl H⟩
def readV (E : En) (n : Int) : By := (readS E n).2.1
theorem Read_bad {e : Nat} {E : En} (H : Holds I w (endA I e E :: L)) {n : Int} (hn : n < 1) :
    Rets Try.prog F_stream_End_Read #[ptr e, .int .i64 n] w fun u w' => u = .tuple #[.slice none 0 0, .bool false, .int .i64 2] ∧ Holds I w' (endA I e E :: L) := by
  obtain ⟨A1, c1, A2, c2, A3, c3, A4, c4, A5, c5, nv, cd, ob, es, ib, ms, hl, hm, HB⟩ := end_open H
  clear H
  have H := HB
  clear HB
  refine ok_stream_End_Read.rets rfl ?_
  repeat' (first
    | (show VcL _ _ _ _ _ _ _ _; first
      | refine VcL.pures tabOk rfl ?_
      | refine VcL.nil ?_
      | (show VcL _ _ _ _ (⟨_, .call ⟨.value (.func F_stream_End_none), _, _⟩, _, _, _, _⟩ :: _) _ _ _; (refine VcL.callF ok_stream_End_none rfl rfl rfl rfl (Rets.mono (none_any H Holds.toW hm.ok.num.1) ?_); rintro _ w ⟨rfl, H⟩)))
    | (show Vc _ _ _ _ _ _; first
      | refine Vc.seq ?_
      | refine Vc.region ?_
      | refine Vc.condF rfl ?_
      | refine Vc.ret ?_
      | refine Vc.block ?_
      | (refine Vc.cond rfl (fun h => ?_) (fun h => ?_) <;> first | (exfalso; simp only [decide_eq_true_eq, decide_eq_false_iff_not, Bool.not_eq_true', Bool.not_eq_false'] at h; omega) | (with_reducible have hp := of_decide_eq_true h)))
    | (show KSeq _ _ _ _ _ _ _; first
      | refine KSeq.normal ?_
      | refine KSeq.ret ?_)
    | (show KBlock _ _ _ _ _ _; refine KBlock.ret ?_)
    | (show KEnd _ _ _ _ _ _ _; refine KEnd.fin (Or.inr rfl) ⟨_, (ResL.tmp rfl (ResL.tmp rfl (ResL.tmp rfl ResL.nil))), ?_⟩))
  exact ⟨rfl, end_close _ hm hl H⟩
theorem ntC_at {l : List Nat} {k : Nat} (h : k < l.length) : l[k]? = some (atD l k) := atD_get h
/-- How marks grow less. -/
def lessL (r : List Nat) (n k : Nat) : List Nat := (r.take k).map (· - n) ++ r.drop k
theorem lessL_len {r : List Nat} {n k : Nat} (h : k ≤ r.length) : (lessL r n k).length = r.length := by unfold lessL; rw [List.length_append, List.length_map, List.length_take, List.length_drop]; omega
theorem lessL_at {r : List Nat} {n k : Nat} (h : k < r.length) : (lessL r n k)[k]? = some (atD r k) := by
  unfold lessL
  rw [List.getElem?_append_right (by rw [List.length_map, List.length_take]; omega), List.length_map, List.length_take, Nat.min_eq_left (by omega), Nat.sub_self, List.getElem?_drop, Nat.add_zero, atD_get h]
theorem lessL_set {r : List Nat} {n k : Nat} (h : k < r.length) : (lessL r n k).set k (atD r k - n) = lessL r n (k + 1) := by
  unfold lessL
  have hl : ((r.take k).map (· - n)).length = k := by rw [List.length_map, List.length_take]; omega
  rw [List.set_append_right _ _ (by omega), hl, Nat.sub_self, Go.Proofs.YtpfgcchammlpgaaV.drop_atD h, List.set_cons_zero, take_atD h, List.map_append, List.append_assoc]
  rfl
theorem lessL_full (r : List Nat) (n : Nat) : lessL r n r.length = r.map (· - n) := by unfold lessL; rw [List.take_length, List.drop_length, List.append_nil]
theorem lessL_zero (r : List Nat) (n : Nat) : lessL r n 0 = r := rfl
end Go.Proofs.Ytpfgcchammlpgaa.V
